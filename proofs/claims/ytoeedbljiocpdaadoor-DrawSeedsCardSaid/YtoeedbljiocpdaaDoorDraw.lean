/- POLYS OUT OF SEEDS: Lean and From, the program's and the document's. -/
import Derived.Test.YtoeedbljiocpdaaDoorBitn
import Derived.Test.YtoeedbljiocpdaaDoorErrs
import Derived.Test.YtoeedbljiocpdaaDoorHelp
namespace Go.Proofs.YtoeedbljiocpdaaDoor
open Go Go.Ev
set_option maxRecDepth 20000
set_option linter.unusedVariables false
theorem draw_fault_ok (c : Int) (hc : c ≠ 0) (w : World) : Ok Pr f_draw_fault [.int .i64 c] w fun v w' => IsErr w w' v c ∧ Mod [] w w' := by
  refine V_draw_fault_of ?_
  unfold V_draw_fault
  exact nw_blk fun b w' hb h1 h2 _ => ⟨IsErr.mk h1 (by omega) hc, h2⟩
/-! ### lean numbers -/
/-- a bit of a lean number, with its sign -/
def sb (eta : Nat) (l : List B8) (k : Nat) : Int := if k % (2 * eta) < eta then (bit l k : Int) else -(bit l k : Int)
def psum (eta : Nat) (l : List B8) (lo : Nat) : Nat → Int
  | 0 => 0
  | n + 1 => psum eta l lo n + sb eta l (lo + n)
@[irreducible] def lean (eta : Nat) (l : List B8) : List Int := (List.range 256).map fun i => psum eta l (2 * eta * i) (2 * eta) % 3329
def leanC (eta : Int) (n : Nat) : Int := if eta = 2 ∨ eta = 3 then (if (n : Int) = 64 * eta then 0 else 3) else 2
def leanL (eta : Int) (l : List B8) : List Int := if leanC eta l.length = 0 then lean eta.toNat l else []
/-- what is there behind k bits -/
@[irreducible] def leanAt (eta : Nat) (l : List B8) (k : Nat) : List Int := (List.range 256).map fun i => psum eta l (2 * eta * i) (min (k - 2 * eta * i) (2 * eta)) % 3329
theorem leanAt_zero (eta : Nat) (l : List B8) : leanAt eta l 0 = List.replicate 256 0 := by
  refine List.ext_getElem (by rw [leanAt, List.length_map, List.length_range, List.length_replicate]) fun i h1 h2 => ?_
  simp only [leanAt, List.getElem_map, List.getElem_replicate, Nat.zero_sub, Nat.zero_min, psum]
  rfl
theorem leanAt_end (eta : Nat) (he : eta = 2 ∨ eta = 3) (l : List B8) : leanAt eta l (512 * eta) = lean eta l := by
  unfold leanAt lean
  refine List.map_congr_left fun i hi => ?_
  have := List.mem_range.1 hi
  rw [Nat.min_eq_right (by rcases he with rfl | rfl <;> omega)]
theorem leanAt_get (eta : Nat) (l : List B8) (k i : Nat) (hi : i < 256) : (leanAt eta l k).getD i 0 = psum eta l (2 * eta * i) (min (k - 2 * eta * i) (2 * eta)) % 3329 := by
  simp [leanAt, hi]
theorem leanAt_step (eta : Nat) (he : eta = 2 ∨ eta = 3) (l : List B8) (k : Nat) (hk : k < 512 * eta) (q : Int) (hq : q % 3329 = sb eta l k % 3329) :
    (leanAt eta l k).set (k / (2 * eta)) (((leanAt eta l k).getD (k / (2 * eta)) 0 + q) % 3329) = leanAt eta l (k + 1) := by
  have hi : k / (2 * eta) < 256 := by rcases he with rfl | rfl <;> omega
  rw [leanAt_get eta l k _ hi]
  refine List.ext_getElem (by simp [leanAt]) fun j h1 h2 => ?_
  have hj : j < 256 := by simpa [leanAt] using h2
  rw [List.getElem_set]
  split
  · rename_i e
    subst e
    have e1 : min (k - 2 * eta * (k / (2 * eta))) (2 * eta) = k - 2 * eta * (k / (2 * eta)) := by rcases he with rfl | rfl <;> omega
    have e2 : min (k + 1 - 2 * eta * (k / (2 * eta))) (2 * eta) = k - 2 * eta * (k / (2 * eta)) + 1 := by rcases he with rfl | rfl <;> omega
    have e3 : 2 * eta * (k / (2 * eta)) + (k - 2 * eta * (k / (2 * eta))) = k := by rcases he with rfl | rfl <;> omega
    simp only [leanAt, List.getElem_map, List.getElem_range]
    rw [e1, e2, psum, e3, Int.add_emod, Int.emod_emod_of_dvd _ (Int.dvd_refl _), hq, ← Int.add_emod]
  · rename_i hne
    simp only [leanAt, List.getElem_map, List.getElem_range]
    have : min (k - 2 * eta * j) (2 * eta) = min (k + 1 - 2 * eta * j) (2 * eta) := by rcases he with rfl | rfl <;> omega
    rw [this]
theorem unpack1 (l : List B8) : unpack 1 l = (List.range (8 * l.length)).map fun i => (bit l i : Int) := by unfold unpack bit; rw [Nat.div_one]
theorem draw_Lean_ok (eta : Nat) (he : eta = 2 ∨ eta = 3) (x : SlV) (l : List B8) (hl : l.length = 64 * eta) (w : World) (hx : Bytes w x l) :
    Ok Pr f_draw_Lean [.int .i64 (eta : Int), .slice x.a x.n x.c] w fun v w' => Gave2 t_int 1 w w' v (i64s (lean eta l)) 0 := by
  refine V_draw_Lean_of ?_
  unfold V_draw_Lean
  have hxl := hx.len
  have he3 : eta ≤ 3 := by omega
  refine ite_false (by rcases he with rfl | rfl <;> rfl) ⟨⟨by omega, by omega⟩, ite_false (by simp; omega) ?_⟩
  refine (Mine.start w).mkN (n := 256) elt_i64 zc_i64 rfl rfl (by omega) fun o w1 H ho => ?_
  refine call_of (bits_Unpack_ok 1 (by omega) (by omega) x l (by omega) _ (hx.mod0 H.mod)) ?_
  rintro _ w2 ⟨y, rfl, hy, m2⟩
  have H := H.got m2 hy
  have hyl := hy.nums.len
  have hul : (unpack 1 l).length = 512 * eta := by rw [unpack1]; simp; omega
  refine asSl_s ?_
  refine loop1_up 0 (512 * eta) (fun k w' => Mine w [] w' [.row t_int 1 o (i64s (leanAt eta l k)), .row t_int 1 y (i64s (unpack 1 l))]) rfl (by omega) (by rw [leanAt_zero]; exact H) ?_ ?_
  · intro again k w3 _ hk H hag
    have hd : k / (2 * eta) < 256 := by rcases he with rfl | rfl <;> omega
    have hgk : (unpack 1 l).getD k 0 = (bit l k : Int) := by rw [unpack1]; simp [show k < 8 * l.length by omega]
    have hb1 := bit_le l k
    have hla : (leanAt eta l k).length = 256 := by simp [leanAt]
    have hge := leanAt_get eta l k (k / (2 * eta)) hd
    have hlo := Int.emod_nonneg (psum eta l (2 * eta * (k / (2 * eta))) (min (k - 2 * eta * (k / (2 * eta))) (2 * eta))) (show (3329 : Int) ≠ 0 by decide)
    have hhi := Int.emod_lt_of_pos (psum eta l (2 * eta * (k / (2 * eta))) (min (k - 2 * eta * (k / (2 * eta))) (2 * eta))) (show (0 : Int) < 3329 by decide)
    rw [← hge] at hlo hhi
    have e2 : (2 : Int) * (eta : Int) = ((2 * eta : Nat) : Int) := by omega
    have ed : (k : Int) / ((2 * eta : Nat) : Int) = ((k / (2 * eta) : Nat) : Int) := (Int.natCast_ediv k (2 * eta)).symm
    have em : (k : Int) % ((2 * eta : Nat) : Int) = ((k % (2 * eta) : Nat) : Int) := (Int.natCast_emod k (2 * eta)).symm
    rw [e2]
    refine ite_true (by rw [← hyl, hul]; exact decide_eq_true (by omega)) ((H.nums 1 rfl).ld (by omega) rfl ⟨⟨by omega, by omega⟩, pos_of (by omega) ⟨⟨by omega, by rw [show IntKind.max .i64 = 9223372036854775807 by decide]; omega⟩, join1_of fun go hgo => ?_⟩⟩)
    rw [hgk]
    have give : ∀ q : Int, -10000 ≤ q → q ≤ 10000 → 0 ≤ q → q % 3329 = sb eta l k % 3329 → go q w3 := by
      intro q hq1 hq2 hq0 hq
      refine hgo q w3 ?_
      rw [ed]
      refine (H.nums 0 rfl).ld (i := k / (2 * eta)) (by omega) rfl ⟨⟨by omega, by omega⟩, by omega, ?_⟩
      refine H.stN 0 rfl (i := k / (2 * eta)) (by omega) rfl fun w4 H => ⟨⟨by omega, by omega⟩, hag w4 ?_⟩
      rw [leanAt_step eta he l k hk q hq] at H
      exact H
    refine ⟨⟨by omega, by omega⟩, pos_of (by omega) ⟨by omega, ?_⟩⟩
    rw [em]
    refine ite_intro (fun h => ?_) (fun h => ?_)
    · have h := of_decide_eq_true h
      refine ⟨⟨by omega, by omega⟩, give _ (by omega) (by omega) (by omega) ?_⟩
      unfold sb
      rw [if_neg (by omega)]
      omega
    · have h := of_decide_eq_false h
      refine give _ (by omega) (by omega) (by omega) ?_
      unfold sb
      rw [if_pos (by omega)]
  · intro again w3 H
    refine ite_false (by rw [← hyl, hul]; simp) ?_
    rw [leanAt_end eta he] at H
    exact Gave2.yes (H.fresh0 0 rfl) H.mod
theorem draw_Lean_all (eta : Int) (x : SlV) (l : List B8) (hl : l.length ≤ 1000000) (h64 : -9223372036854775808 ≤ eta ∧ eta ≤ 9223372036854775807) (w : World) (hx : Bytes w x l) :
    Ok Pr f_draw_Lean [.int .i64 eta, .slice x.a x.n x.c] w fun v w' => Gave2 t_int 1 w w' v (i64s (leanL eta l)) (leanC eta l.length) := by
  have hxl := hx.len
  by_cases he : eta = 2 ∨ eta = 3
  · by_cases hl2 : (l.length : Int) = 64 * eta
    · have ec : leanC eta l.length = 0 := by unfold leanC; rw [if_pos he, if_pos hl2]
      obtain ⟨k, rfl⟩ : ∃ k : Nat, eta = (k : Int) := ⟨eta.toNat, by omega⟩
      unfold leanL
      rw [if_pos ec, ec]
      exact draw_Lean_ok k (by omega) x l (by omega) w hx
    · have ec : leanC eta l.length = 3 := by unfold leanC; rw [if_pos he, if_neg hl2]
      unfold leanL
      rw [ec, if_neg (by decide)]
      refine V_draw_Lean_of ?_
      unfold V_draw_Lean
      refine ite_false (by rcases he with rfl | rfl <;> rfl) ⟨⟨by omega, by omega⟩, ite_true (by simp; omega) (call_of (draw_fault_ok 3 (by decide) w) ?_)⟩
      rintro e w1 ⟨h1, m1⟩
      exact Gave2.no h1 m1
  · have ec : leanC eta l.length = 2 := by unfold leanC; rw [if_neg he]
    unfold leanL
    rw [ec, if_neg (by decide)]
    refine V_draw_Lean_of ?_
    unfold V_draw_Lean
    refine ite_true (by simp; omega) (call_of (draw_fault_ok 2 (by decide) w) ?_)
    rintro e w1 ⟨h1, m1⟩
    exact Gave2.no h1 m1
/-! ### the document's -/
theorem sb_low {eta : Nat} (he : eta = 2 ∨ eta = 3) (l : List B8) (i k : Nat) (hk : k < eta) : sb eta l (2 * eta * i + k) = (bit l (2 * eta * i + k) : Int) ∧ sb eta l (2 * eta * i + (eta + k)) = -(bit l (2 * eta * i + (eta + k)) : Int) := by
  unfold sb
  rw [Nat.mul_add_mod, Nat.mul_add_mod]
  rw [if_pos (by rw [Nat.mod_eq_of_lt (by omega)]; omega), if_neg (by rw [Nat.mod_eq_of_lt (by omega)]; omega)]
  exact ⟨rfl, rfl⟩
/-- the document's sum -/
def dsum (eta : Nat) (l : List B8) (i : Nat) : Nat → Int
  | 0 => 0
  | k + 1 => dsum eta l i k + (bit l (2 * eta * i + k) : Int) - (bit l (2 * eta * i + (eta + k)) : Int)
theorem dsum_eq {eta : Nat} (he : eta = 2 ∨ eta = 3) (l : List B8) (i : Nat) : dsum eta l i eta = psum eta l (2 * eta * i) (2 * eta) := by
  have h := fun k hk => sb_low he l i k hk
  rcases he with rfl | rfl
  · have h0 := h 0 (by omega)
    have h1 := h 1 (by omega)
    simp only [dsum, psum, Nat.add_zero, show 2 * 2 = 4 from rfl, Nat.reduceAdd] at *
    omega
  · have h0 := h 0 (by omega)
    have h1 := h 1 (by omega)
    have h2 := h 2 (by omega)
    simp only [dsum, psum, Nat.add_zero, show 2 * 3 = 6 from rfl, Nat.reduceAdd] at *
    omega
theorem dsum_le (eta : Nat) (l : List B8) (i k : Nat) : -(k : Int) ≤ dsum eta l i k ∧ dsum eta l i k ≤ (k : Int) := by
  induction k with
  | zero => simp [dsum]
  | succ k ih =>
    have := bit_le l (2 * eta * i + k)
    have := bit_le l (2 * eta * i + (eta + k))
    simp only [dsum]
    omega
theorem ref6_Lean_ok (eta : Nat) (he : eta = 2 ∨ eta = 3) (x : SlV) (l : List B8) (hl : l.length = 64 * eta) (w : World) (hx : Bytes w x l) :
    Ok Pr f_ref6_Lean [.int .i64 (eta : Int), .slice x.a x.n x.c] w fun v w' => GaveC t_int 1 w w' v (i64s (lean eta l)) 0 := by
  refine V_ref6_Lean_of ?_
  unfold V_ref6_Lean
  have hxl := hx.len
  have he3 : eta ≤ 3 := by omega
  refine ite_false (by rcases he with rfl | rfl <;> rfl) ⟨⟨by omega, by omega⟩, ite_false (by simp; omega) ?_⟩
  let f (m : Nat) : List Int := (List.range m).map fun i => psum eta l (2 * eta * i) (2 * eta) % 3329
  refine loop2_up 0 256 (fun i (out : SlV) w' => out.n = i ∧ Mine w [] w' [.row t_int 1 out (i64s (f i))]) rfl (by omega) ⟨rfl, (Mine.start w).nilrow t_int 1⟩ ?_ ?_
  · rintro again i out w1 _ hi ⟨hon, H⟩ hag
    refine ite_true (decide_eq_true (by omega)) ?_
    have ei : (2 : Int) * (i : Int) * (eta : Int) = ((2 * eta * i : Nat) : Int) := by rcases he with rfl | rfl <;> omega
    have hmi : 2 * eta * i < 1536 := by rcases he with rfl | rfl <;> omega
    rw [ei]
    refine loop2_up 0 eta (fun k (s : Int) w' => s = dsum eta l i k ∧ w' = w1) rfl (by omega) ⟨rfl, rfl⟩ ?_ ?_
    · rintro again1 k s _ _ hk ⟨rfl, rfl⟩ hag1
      have hb := dsum_le eta l i k
      have hx1 := hx.mod0 H.mod
      refine ite_true (by simp; omega) ⟨⟨by omega, by omega⟩, ⟨by omega, by omega⟩, ⟨by omega, by omega⟩, ?_⟩
      rw [show ((2 * eta * i : Nat) : Int) + (k : Int) = ((2 * eta * i + k : Nat) : Int) by omega]
      refine call_of (ref5_Bit_ok x l _ (by rcases he with rfl | rfl <;> omega) (by omega) _ hx1) ?_
      rintro _ w2 ⟨rfl, hw2⟩
      subst hw2
      have := bit_le l (2 * eta * i + k)
      refine asI_i ⟨⟨by omega, by omega⟩, ⟨by omega, by omega⟩, ⟨by omega, by omega⟩, ⟨by omega, by omega⟩, ⟨by omega, by omega⟩, ?_⟩
      rw [show ((2 * eta * i : Nat) : Int) + (eta : Int) + (k : Int) = ((2 * eta * i + (eta + k) : Nat) : Int) by omega]
      refine call_of (ref5_Bit_ok x l _ (by rcases he with rfl | rfl <;> omega) (by omega) _ hx1) ?_
      rintro _ w3 ⟨rfl, hw3⟩
      subst hw3
      have := bit_le l (2 * eta * i + (eta + k))
      exact asI_i ⟨⟨by omega, by omega⟩, ⟨by omega, by omega⟩, hag1 _ _ ⟨rfl, rfl⟩⟩
    · rintro again1 s _ ⟨rfl, rfl⟩
      have hb := dsum_le eta l i eta
      refine ite_false (by simp) ⟨⟨by omega, by omega⟩, by omega, ?_⟩
      refine H.appN1 0 elt_i64 rfl (by omega) fun out' w3 H hon' => ⟨⟨by omega, by omega⟩, hag out' w3 ⟨by omega, ?_⟩⟩
      have e : f (i + 1) = f i ++ [(dsum eta l i eta + 3329) % 3329] := by
        rw [dsum_eq he]
        simp [f, List.range_succ]
      rw [e]
      exact H
  · rintro again out w1 ⟨hon, H⟩
    have e : f 256 = lean eta l := by unfold lean; rfl
    rw [e] at H
    refine ite_false (by simp) ⟨out, rfl, H.fresh0 0 rfl, H.mod⟩
theorem ref6_Lean_all (eta : Int) (x : SlV) (l : List B8) (hl : l.length ≤ 1000000) (w : World) (hx : Bytes w x l) :
    Ok Pr f_ref6_Lean [.int .i64 eta, .slice x.a x.n x.c] w fun v w' => GaveC t_int 1 w w' v (i64s (leanL eta l)) (leanC eta l.length) := by
  have hxl := hx.len
  by_cases he : eta = 2 ∨ eta = 3
  · by_cases hl2 : (l.length : Int) = 64 * eta
    · have ec : leanC eta l.length = 0 := by unfold leanC; rw [if_pos he, if_pos hl2]
      obtain ⟨k, rfl⟩ : ∃ k : Nat, eta = (k : Int) := ⟨eta.toNat, by omega⟩
      unfold leanL
      rw [if_pos ec, ec]
      exact ref6_Lean_ok k (by omega) x l (by omega) w hx
    · have ec : leanC eta l.length = 3 := by unfold leanC; rw [if_pos he, if_neg hl2]
      unfold leanL
      rw [ec, if_neg (by decide)]
      refine V_ref6_Lean_of ?_
      unfold V_ref6_Lean
      exact ite_false (by rcases he with rfl | rfl <;> rfl) ⟨⟨by omega, by omega⟩, ite_true (by simp; omega) ⟨⟨none, 0, 0⟩, rfl, Own.nil _ _ _ _, Mod.refl _ _⟩⟩
  · have ec : leanC eta l.length = 2 := by unfold leanC; rw [if_neg he]
    unfold leanL
    rw [ec, if_neg (by decide)]
    refine V_ref6_Lean_of ?_
    unfold V_ref6_Lean
    exact ite_true (by simp; omega) ⟨⟨none, 0, 0⟩, rfl, Own.nil _ _ _ _, Mod.refl _ _⟩
end Go.Proofs.YtoeedbljiocpdaaDoor
