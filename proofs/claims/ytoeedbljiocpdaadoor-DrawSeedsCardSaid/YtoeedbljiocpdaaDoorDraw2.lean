/- POLYS OUT OF SEEDS: From and Even, the program's and the document's. -/
import Derived.Test.YtoeedbljiocpdaaDoorDraw
import Derived.Test.YtoeedbljiocpdaaDoorSpMore
namespace Go.Proofs.YtoeedbljiocpdaaDoor
open Go Go.Ev
set_option maxRecDepth 20000
set_option linter.unusedVariables false
theorem smallOf {parts : SlV} {ls : List (List B8)} (hn : parts.n < 1000000) (h : ∀ l ∈ ls, l.length ≤ 1000000) : Small parts ls := ⟨hn, fun l hl => by have := h l hl; omega⟩
theorem small2b {parts : SlV} {l m : List B8} (hn : parts.n = 2) (hl : l.length ≤ 1000000) (hm : m.length ≤ 1000000) : Small parts [l, m] := smallOf (by omega) fun k hk => by
  simp only [List.mem_cons, List.not_mem_nil, or_false] at hk
  rcases hk with rfl | rfl <;> omega
def fromC (eta : Int) (n : Nat) : Int := if eta = 2 ∨ eta = 3 then (if n = 32 then 0 else 3) else 2
@[irreducible] def fromL (eta : Int) (l : List B8) (n : B8) : List Int := if fromC eta l.length = 0 then lean eta.toNat (spOut 136 31 (l ++ [n]) (64 * eta)) else []
theorem draw_From_all (eta : Int) (x : SlV) (l : List B8) (n : B8) (hl : l.length ≤ 1000000) (w : World) (hx : Bytes w x l) :
    Ok Pr f_draw_From [.int .i64 eta, .slice x.a x.n x.c, .int .u8 (n.toNat : Int)] w fun v w' => Gave2 t_int 1 w w' v (i64s (fromL eta l n)) (fromC eta l.length) := by
  refine V_draw_From_of ?_
  unfold V_draw_From
  have hxl := hx.len
  by_cases he : eta = 2 ∨ eta = 3
  · refine ite_false (by rcases he with rfl | rfl <;> rfl) ?_
    by_cases h32 : l.length = 32
    · have ec : fromC eta l.length = 0 := by unfold fromC; rw [if_pos he, if_pos h32]
      refine ite_false (by simp; omega) ⟨⟨by omega, by omega⟩, (Mine.start w).nw fun p w1 H _ => H.nw fun p1 w2 H _ => ?_⟩
      obtain ⟨k, rfl⟩ : ∃ k : Nat, eta = (k : Int) := ⟨eta.toNat, by omega⟩
      rw [show (64 : Int) * (k : Int) = ((64 * k : Nat) : Int) by omega]
      refine call_of (sponge_Shake256_ok _ ⟨some ⟨p1, 0, none⟩, 2, 2⟩ [l, [n]] _ (Parts.of2b (H.blk 1 rfl) (by simp) (hx.mod0 H.mod) (off_nil _) (H.blkBytes 0 (l := [n]) rfl) (off_nil _)) (small2b rfl (by omega) (by simp))) ?_
      rintro _ w3 ⟨y, rfl, hy, m3⟩
      rw [show [l, [n]].flatten = l ++ [n] by simp] at hy
      have hzl := spOut_len 136 31 (l ++ [n]) (64 * k) (by omega)
      have ef : fromL (k : Int) l n = lean k (spOut 136 31 (l ++ [n]) ((64 * k : Nat) : Int)) := by
        unfold fromL
        rw [if_pos ec, Int.toNat_natCast, show (64 : Int) * (k : Int) = ((64 * k : Nat) : Int) by omega]
      rw [ef, ec]
      generalize spOut 136 31 (l ++ [n]) ((64 * k : Nat) : Int) = z at *
      have H := H.got m3 hy
      refine asSl_s (call_of (draw_Lean_ok k (by omega) y z (by omega) _ hy.bytes) ?_)
      rintro _ w4 ⟨u, er, rfl, hu, he4, hn4, m4⟩
      have H := H.got2 m4 hu he4 hn4
      refine ⟨_, rfl, u, rfl, rfl, u, er, rfl, H.fresh0 3 rfl, ?_, hn4, H.mod⟩
      exact ⟨he4.1, fun b hb => (H.own 4 _ rfl b hb).resolve_left (by simp)⟩
    · have ec : fromC eta l.length = 3 := by unfold fromC; rw [if_pos he, if_neg h32]
      have ef : fromL eta l n = [] := by unfold fromL; rw [ec, if_neg (by decide)]
      rw [ec, ef]
      refine ite_true (by simp; omega) (call_of (draw_fault_ok 3 (by decide) w) ?_)
      rintro e w1 ⟨h1, m1⟩
      exact Gave2.no h1 m1
  · have ec : fromC eta l.length = 2 := by unfold fromC; rw [if_neg he]
    have ef : fromL eta l n = [] := by unfold fromL; rw [ec, if_neg (by decide)]
    rw [ec, ef]
    refine ite_true (by simp; omega) (call_of (draw_fault_ok 2 (by decide) w) ?_)
    rintro e w1 ⟨h1, m1⟩
    exact Gave2.no h1 m1
theorem ref6_From_all (eta : Int) (x : SlV) (l : List B8) (n : B8) (hl : l.length ≤ 1000000) (w : World) (hx : Bytes w x l) :
    Ok Pr f_ref6_From [.int .i64 eta, .slice x.a x.n x.c, .int .u8 (n.toNat : Int)] w fun v w' => GaveC t_int 1 w w' v (i64s (fromL eta l n)) (fromC eta l.length) := by
  refine V_ref6_From_of ?_
  unfold V_ref6_From
  have hxl := hx.len
  by_cases he : eta = 2 ∨ eta = 3
  · refine ite_false (by rcases he with rfl | rfl <;> rfl) ?_
    by_cases h32 : l.length = 32
    · have ec : fromC eta l.length = 0 := by unfold fromC; rw [if_pos he, if_pos h32]
      refine ite_false (by simp; omega) ⟨⟨by omega, by omega⟩, ?_⟩
      refine (Mine.start w).clone8 elt_u8 hx (by omega) fun y w1 H hy => ?_
      have hyn : y.n = 32 := by rw [hy]; omega
      refine H.app8one 0 n elt_u8 rfl rfl (by omega) fun u w2 H hu => ?_
      obtain ⟨k, rfl⟩ : ∃ k : Nat, eta = (k : Int) := ⟨eta.toNat, by omega⟩
      rw [show (64 : Int) * (k : Int) = ((64 * k : Nat) : Int) by omega]
      refine call_of (ref2_Shake256_ok _ u (l ++ [n]) _ (H.bytes 0 rfl) (by simp; omega)) ?_
      rintro _ w3 ⟨z, rfl, hz, m3⟩
      have hzl := spOut_len 136 31 (l ++ [n]) (64 * k) (by omega)
      have ef : fromL (k : Int) l n = lean k (spOut 136 31 (l ++ [n]) ((64 * k : Nat) : Int)) := by
        unfold fromL
        rw [if_pos ec, Int.toNat_natCast, show (64 : Int) * (k : Int) = ((64 * k : Nat) : Int) by omega]
      rw [ef, ec]
      generalize spOut 136 31 (l ++ [n]) ((64 * k : Nat) : Int) = zs at *
      have H := H.got m3 hz
      refine asSl_s (call_of (ref6_Lean_ok k (by omega) z zs (by omega) _ hz.bytes) ?_)
      rintro _ w4 ⟨q, rfl, hq, m4⟩
      have H := H.got m4 hq
      exact ⟨_, rfl, q, rfl, 0, rfl, rfl, q, rfl, H.fresh0 2 rfl, H.mod⟩
    · have ec : fromC eta l.length = 3 := by unfold fromC; rw [if_pos he, if_neg h32]
      have ef : fromL eta l n = [] := by unfold fromL; rw [ec, if_neg (by decide)]
      rw [ec, ef]
      exact ite_true (by simp; omega) ⟨⟨none, 0, 0⟩, rfl, Own.nil _ _ _ _, Mod.refl _ _⟩
  · have ec : fromC eta l.length = 2 := by unfold fromC; rw [if_neg he]
    have ef : fromL eta l n = [] := by unfold fromL; rw [ec, if_neg (by decide)]
    rw [ec, ef]
    exact ite_true (by simp; omega) ⟨⟨none, 0, 0⟩, rfl, Own.nil _ _ _ _, Mod.refl _ _⟩
end Go.Proofs.YtoeedbljiocpdaaDoor
