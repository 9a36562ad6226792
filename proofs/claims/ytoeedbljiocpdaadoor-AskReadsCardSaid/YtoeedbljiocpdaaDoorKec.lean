/- THE PERMUTATION OF 25 WORDS, as the program and as the document make it: what each function computes. -/
import Derived.Test.YtoeedbljiocpdaaDoorVC
import Derived.Test.YtoeedbljiocpdaaDoorBits
namespace Go.Proofs.YtoeedbljiocpdaaDoor
open Go Go.Ev
abbrev g (a : List B64) (i : Nat) : B64 := a.getD i 0
def z25 : List B64 := List.replicate 25 0
def z24 : List B64 := List.replicate 24 0
def z5 : List B64 := List.replicate 5 0
theorem zc25 : zc Pr t_25_uint64 = u64s z25 := by kernel_rfl
theorem zc24 : zc Pr t_24_uint64 = u64s z24 := by kernel_rfl
theorem zc5 : zc Pr t_5_uint64 = u64s z5 := by kernel_rfl

/-! ### the small ones -/
theorem RotateLeft64_ok (x : B64) (k : Nat) (w : World) : Ok Pr f_math_bits_RotateLeft64 [.int .u64 (x.toNat : Int), .int .i64 (k : Int)] w fun v w' => v = .int .u64 ((rotl x k).toNat : Int) ∧ w' = w := by
  refine V_math_bits_RotateLeft64_of ?_
  unfold V_math_bits_RotateLeft64
  have e1 : andI .u64 (IntKind.wrap .u64 (k : Int)) (63 : Int) = ((k % 64 : Nat) : Int) := by
    rw [wrap_u64, show ((k : Int) % 18446744073709551616) = ((BitVec.ofNat 64 k).toNat : Int) by rw [BitVec.toNat_ofNat]; omega, show (63 : Int) = ((63#64).toNat : Int) from rfl, and64, BitVec.toNat_and,
      show (63#64).toNat = 2 ^ 6 - 1 from rfl, Nat.and_two_pow_sub_one_eq_mod, BitVec.toNat_ofNat]
    omega
  have e2 : IntKind.wrap .u64 ((64 : Int) - ((k % 64 : Nat) : Int)) = ((64 - k % 64 : Nat) : Int) := by
    rw [wrap_u64]; omega
  rw [e1, Go.Ev.lt, e2]
  refine ⟨?_, rfl⟩
  rw [shl64, shr64, or64]
  rfl
theorem keccak_at_ok (x y : Nat) (hx : x < 1000) (hy : y < 1000) (w : World) : Ok Pr f_keccak_at [.int .i64 (x : Int), .int .i64 (y : Int)] w fun v w' => v = .int .i64 ((x % 5 + 5 * (y % 5) : Nat) : Int) ∧ w' = w := by
  refine V_keccak_at_of ?_
  unfold V_keccak_at I64
  refine ⟨by omega, by omega, ⟨by omega, by omega⟩, ⟨by omega, by omega⟩, ?_, rfl⟩
  rfl
theorem ref1_at_ok (x y : Nat) (hx : x < 1000) (hy : y < 1000) (w : World) : Ok Pr f_ref1_at [.int .i64 (x : Int), .int .i64 (y : Int)] w fun v w' => v = .int .i64 ((x % 5 + 5 * (y % 5) : Nat) : Int) ∧ w' = w := by
  refine V_ref1_at_of ?_
  unfold V_ref1_at I64
  refine ⟨⟨by omega, by omega⟩, by omega, ⟨by omega, by omega⟩, by omega, ⟨by omega, by omega⟩, ⟨by omega, by omega⟩, ?_, rfl⟩
  congr 1
  omega

/-! ### the program's five -/
def colStep (a c : List B64) (i : Nat) : List B64 := c.set (i % 5) (g c (i % 5) ^^^ g a i)
def cols (a : List B64) (n : Nat) : List B64 := up (colStep a) z5 n
def thetaStep (c b : List B64) (i : Nat) : List B64 := b.set i (g b i ^^^ (g c ((i % 5 + 4) % 5) ^^^ rotl (g c ((i % 5 + 1) % 5)) 1))
def theta (a : List B64) (n : Nat) : List B64 := up (thetaStep (cols a 25)) a n
theorem length_up {A : Type} (f : List A → Nat → List A) (hf : ∀ l i, (f l i).length = l.length) (s : List A) (n : Nat) : (up f s n).length = s.length := by
  induction n with
  | zero => rfl
  | succ n ih => rw [up_succ, hf, ih]
theorem length_cols (a : List B64) (n : Nat) : (cols a n).length = 5 := length_up _ (fun _ _ => List.length_set) _ _
theorem length_theta (a : List B64) (n : Nat) : (theta a n).length = a.length := length_up _ (fun _ _ => List.length_set) _ _
theorem cols_succ (a : List B64) (n : Nat) : cols a (n + 1) = colStep a (cols a n) n := up_succ _ _ _
theorem theta_succ (a : List B64) (n : Nat) : theta a (n + 1) = thetaStep (cols a 25) (theta a n) n := up_succ _ _ _
theorem keccak_Theta_ok (a : List B64) (ha : a.length = 25) (w : World) : Ok Pr f_keccak_Theta [.agg ⟨u64s a⟩] w fun v w' => v = .agg ⟨u64s (theta a 25)⟩ ∧ Mod [] w w' := by
  refine V_keccak_Theta_of ?_
  unfold V_keccak_Theta
  rw [zc25, zc5]
  refine (Mine.start w).nw fun b0 w1 H _ => H.nw fun b1 w2 H _ => H.nw fun b2 w3 H _ => H.ldA64 0 rfl ha ?_
  refine loop1_up 0 25 (fun i w' => Mine w [] w' [.blk b0 (u64s a) t_25_uint64, .blk b1 (u64s z25) t_25_uint64, .blk b2 (u64s (cols a i)) t_5_uint64]) rfl (by omega) H ?_ ?_
  · intro again i w4 _ hi H hag
    refine ite_true (by simp; omega) ⟨⟨by omega, by omega⟩, _, u64s_get a i (by omega), by omega, ⟨by omega, by omega⟩, ?_⟩
    refine H.ld64 2 (i := i % 5) rfl (ad b2 (i % 5)) (by rw [length_cols]; omega) ⟨⟨by omega, by omega⟩, ?_⟩
    refine H.st64 2 (i := i % 5) (g (cols a i) (i % 5) ^^^ g a i) rfl (ad b2 (i % 5)) (by rw [length_cols]; omega) (xor64 _ _) fun w5 H => ⟨⟨by omega, by omega⟩, ?_⟩
    exact hag w5 (by rw [cols_succ]; exact H)
  · intro again w4 H
    refine ite_false (by simp) ?_
    refine loop1_up 0 25 (fun i w' => Mine w [] w' [.blk b0 (u64s (theta a i)) t_25_uint64, .blk b1 (u64s z25) t_25_uint64, .blk b2 (u64s (cols a 25)) t_5_uint64]) rfl (by omega) H ?_ ?_
    · intro again i w5 _ hi H hag
      have h5 : ∀ j, j % 5 < (cols a 25).length := fun j => by rw [length_cols]; omega
      have ht : i < (theta a i).length := by rw [length_theta]; omega
      refine ite_true (by simp; omega) ⟨by omega, ⟨by omega, by omega⟩, ?_⟩
      refine H.drew.ld64 0 (i := i) rfl (ad b0 i) ht ⟨⟨by omega, by omega⟩, by omega, ⟨by omega, by omega⟩, ?_⟩
      refine H.drew.ld64 2 (i := (i % 5 + 4) % 5) rfl (ad b2 _) (h5 _) ⟨⟨by omega, by omega⟩, by omega, ⟨by omega, by omega⟩, ?_⟩
      refine H.drew.ld64 2 (i := (i % 5 + 1) % 5) rfl (ad b2 _) (h5 _) ?_
      refine call_of (RotateLeft64_ok _ 1 _) ?_
      rintro _ _ ⟨rfl, rfl⟩
      refine asI_i ⟨H.drew.kept (Mod.refl _ _) 2 rfl (ad b2 ((i % 5 + 4) % 5)) 1, H.drew.kept (Mod.refl _ _) 0 rfl (ad b0 i) 1, ⟨by omega, by omega⟩, ?_⟩
      refine H.drew.st64 0 (i := i) (g (theta a i) i ^^^ (g (cols a 25) ((i % 5 + 4) % 5) ^^^ rotl (g (cols a 25) ((i % 5 + 1) % 5)) 1)) rfl (ad b0 i) ht (by rw [xor64, xor64]) fun w6 H => ⟨⟨by omega, by omega⟩, ?_⟩
      exact hag w6 (by rw [theta_succ]; exact H)
    · intro again w5 H
      refine ite_false (by simp) ?_
      refine H.ldA64 0 rfl (by rw [length_theta, ha]) (H.stA64 1 rfl (by rw [length_theta, ha]) rfl fun w6 H => H.ldA64 1 rfl (by rw [length_theta, ha]) ⟨rfl, H.mod⟩)

def pl (x y : Nat) : Nat := x % 5 + 5 * (y % 5)
theorem pl_lt (x y : Nat) : pl x y < 25 := by unfold pl; omega
/-- 24 lanes are turned on the way -/
def rhoStep (s : List B64 × Nat × Nat) (t : Nat) : List B64 × Nat × Nat := (s.1.set (pl s.2.1 s.2.2) (rotl (g s.1 (pl s.2.1 s.2.2)) ((t + 1) * (t + 2) / 2 % 64)), s.2.2, (2 * s.2.1 + 3 * s.2.2) % 5)
def rhos (a : List B64) (n : Nat) : List B64 × Nat × Nat := up rhoStep (a, 1, 0) n
theorem rhos_succ (a : List B64) (n : Nat) : rhos a (n + 1) = rhoStep (rhos a n) n := up_succ _ _ _
theorem rhos_lt (a : List B64) (n : Nat) : (rhos a n).1.length = a.length ∧ (rhos a n).2.1 < 5 ∧ (rhos a n).2.2 < 5 := by
  induction n with
  | zero => exact ⟨rfl, (by show 1 < 5; omega), (by show 0 < 5; omega)⟩
  | succ n ih =>
    rw [rhos_succ]
    obtain ⟨h1, h2, h3⟩ := ih
    exact ⟨by simp only [rhoStep, List.length_set, h1], h3, by simp only [rhoStep]; omega⟩
def rho (a : List B64) : List B64 := (rhos a 24).1
theorem length_rho (a : List B64) : (rho a).length = a.length := (rhos_lt a 24).1
theorem keccak_Rho_ok (a : List B64) (ha : a.length = 25) (w : World) : Ok Pr f_keccak_Rho [.agg ⟨u64s a⟩] w fun v w' => v = .agg ⟨u64s (rho a)⟩ ∧ Mod [] w w' := by
  refine V_keccak_Rho_of ?_
  unfold V_keccak_Rho
  rw [zc25]
  refine (Mine.start w).nw fun b0 w1 H _ => H.nw fun b1 w2 H _ => ?_
  refine loop3_up 1 25 (fun t x y w' => x = ((rhos a (t - 1)).2.1 : Int) ∧ y = ((rhos a (t - 1)).2.2 : Int) ∧ Mine w [] w' [.blk b0 (u64s (rhos a (t - 1)).1) t_25_uint64, .blk b1 (u64s z25) t_25_uint64]) rfl (by omega) ⟨rfl, rfl, H⟩ ?_ ?_
  · rintro again t _ _ w3 h1 hi ⟨rfl, rfl, H⟩ hag
    obtain ⟨t, rfl⟩ : ∃ k, t = k + 1 := ⟨t - 1, by omega⟩
    rw [Nat.add_sub_cancel] at H ⊢
    obtain ⟨h2, h3, h4⟩ := rhos_lt a t
    rcases hs : rhos a t with ⟨b, x, y⟩
    rw [hs] at H h2 h3 h4
    dsimp only at H h2 h3 h4 ⊢
    have hp := pl_lt x y
    refine ite_true (by simp; omega) ?_
    refine call_of (keccak_at_ok x y (by omega) (by omega) _) ?_
    rintro _ _ ⟨rfl, rfl⟩
    refine asI_i ⟨⟨by omega, by unfold pl at hp; omega⟩, ?_⟩
    refine H.ld64 0 (i := pl x y) rfl (ad b0 (pl x y)) (by omega) ?_
    have hm : ((t : Int) + 1) * ((t : Int) + 1 + 1) = (((t + 1) * (t + 2) : Nat) : Int) := by push_cast; rfl
    have hm2 : (t + 1) * (t + 2) ≤ 25 * 26 := Nat.mul_le_mul (by omega) (by omega)
    have e2 : (((t + 1 : Nat) : Int)) * (((t + 1 : Nat) : Int) + 1) = (((t + 1) * (t + 2) : Nat) : Int) := by push_cast; rfl
    rw [e2]
    refine ⟨⟨by omega, by omega⟩, ⟨by omega, by omega⟩, ⟨by omega, by simp only [IntKind.max, IntKind.signed, IntKind.bits]; omega⟩, by omega, ?_⟩
    refine call_of (RotateLeft64_ok _ ((t + 1) * (t + 2) / 2 % 64) _) ?_
    rintro _ _ ⟨rfl, rfl⟩
    refine asI_i ⟨⟨by omega, by unfold pl at hp; omega⟩, ?_⟩
    refine H.st64 0 (i := pl x y) (rotl (g b (pl x y)) ((t + 1) * (t + 2) / 2 % 64)) rfl (ad b0 (pl x y)) (by omega) rfl fun w6 H => ?_
    refine ⟨⟨by omega, by omega⟩, ⟨by omega, by omega⟩, ⟨by omega, by omega⟩, by omega, ⟨by omega, by omega⟩, ?_⟩
    exact hag _ _ w6 (by rw [Nat.add_sub_cancel, rhos_succ, hs]; exact ⟨rfl, by simp only [rhoStep]; push_cast; rfl, H⟩)
  · rintro again _ _ w3 ⟨rfl, rfl, H⟩
    have hl := length_rho a
    refine ite_false (by simp) ?_
    exact H.ldA64 0 rfl (hl.trans ha) (H.stA64 1 rfl (hl.trans ha) rfl fun w6 H => H.ldA64 1 rfl (hl.trans ha) ⟨rfl, H.mod⟩)

/-- lanes move -/
def piStep (a b : List B64) (x y : Nat) : List B64 := b.set (pl x y) (g a (pl (x + 3 * y) x))
def piRow (a : List B64) (y : Nat) (b : List B64) (n : Nat) : List B64 := up (fun b x => piStep a b x y) b n
def pi (a : List B64) (n : Nat) : List B64 := up (fun b y => piRow a y b 5) z25 n
theorem length_piRow (a : List B64) (y : Nat) (b : List B64) (n : Nat) : (piRow a y b n).length = b.length := length_up _ (fun _ _ => List.length_set) _ _
theorem length_pi (a : List B64) (n : Nat) : (pi a n).length = 25 := length_up _ (fun _ _ => length_piRow _ _ _ _) _ _
theorem keccak_Pi_ok (a : List B64) (ha : a.length = 25) (w : World) : Ok Pr f_keccak_Pi [.agg ⟨u64s a⟩] w fun v w' => v = .agg ⟨u64s (pi a 5)⟩ ∧ Mod [] w w' := by
  refine V_keccak_Pi_of ?_
  unfold V_keccak_Pi
  rw [zc25]
  refine (Mine.start w).nw fun b0 w1 H _ => H.nw fun b1 w2 H _ => H.nw fun b2 w3 H _ => ?_
  refine loop1_up 0 5 (fun y w' => Mine w [] w' [.blk b0 (u64s a) t_25_uint64, .blk b1 (u64s z25) t_25_uint64, .blk b2 (u64s (pi a y)) t_25_uint64]) rfl (by omega) H ?_ ?_
  · intro again y w4 _ hy H hag
    refine ite_true (by simp; omega) ?_
    refine loop1_up 0 5 (fun x w' => Mine w [] w' [.blk b0 (u64s a) t_25_uint64, .blk b1 (u64s z25) t_25_uint64, .blk b2 (u64s (piRow a y (pi a y) x)) t_25_uint64]) rfl (by omega) H ?_ ?_
    · intro again x w5 _ hx H hag
      have hp := pl_lt x y
      have hq := pl_lt (x + 3 * y) x
      refine ite_true (by simp; omega) ?_
      refine call_of (keccak_at_ok x y (by omega) (by omega) _) ?_
      rintro _ _ ⟨rfl, rfl⟩
      refine asI_i ⟨⟨by omega, by omega⟩, ⟨by omega, by omega⟩, ?_⟩
      refine call_of (keccak_at_ok (x + 3 * y) x (by omega) (by omega) _) ?_
      rintro _ _ ⟨rfl, rfl⟩
      refine asI_i ⟨⟨by omega, by unfold pl at hq; omega⟩, ?_⟩
      refine H.ld64 0 (i := pl (x + 3 * y) x) rfl (ad b0 _) (by omega) ⟨⟨by omega, by unfold pl at hp; omega⟩, ?_⟩
      refine H.st64 2 (i := pl x y) (g a (pl (x + 3 * y) x)) rfl (ad b2 _) (by rw [length_piRow, length_pi]; omega) rfl fun w6 H => ⟨⟨by omega, by omega⟩, ?_⟩
      exact hag w6 (by rw [show piRow a y (pi a y) (x + 1) = piStep a (piRow a y (pi a y) x) x y from up_succ _ _ _]; exact H)
    · intro again w5 H
      refine ite_false (by simp) ⟨⟨by omega, by omega⟩, ?_⟩
      exact hag w5 (by rw [show pi a (y + 1) = piRow a y (pi a y) 5 from up_succ _ _ _]; exact H)
  · intro again w4 H
    refine ite_false (by simp) ?_
    exact H.ldA64 2 rfl (length_pi _ _) (H.stA64 1 rfl (length_pi _ _) rfl fun w6 H => H.ldA64 1 rfl (length_pi _ _) ⟨rfl, H.mod⟩)

/-- rows are mixed -/
def chiStep (a b : List B64) (x y : Nat) : List B64 := b.set (pl x y) (g b (pl x y) ^^^ (~~~ g a (pl (x + 1) y) &&& g a (pl (x + 2) y)))
def chiRow (a : List B64) (y : Nat) (b : List B64) (n : Nat) : List B64 := up (fun b x => chiStep a b x y) b n
def chi (a : List B64) (n : Nat) : List B64 := up (fun b y => chiRow a y b 5) a n
theorem length_chiRow (a : List B64) (y : Nat) (b : List B64) (n : Nat) : (chiRow a y b n).length = b.length := length_up _ (fun _ _ => List.length_set) _ _
theorem length_chi (a : List B64) (n : Nat) : (chi a n).length = a.length := length_up _ (fun _ _ => length_chiRow _ _ _ _) _ _
theorem keccak_Chi_ok (a : List B64) (ha : a.length = 25) (w : World) : Ok Pr f_keccak_Chi [.agg ⟨u64s a⟩] w fun v w' => v = .agg ⟨u64s (chi a 5)⟩ ∧ Mod [] w w' := by
  refine V_keccak_Chi_of ?_
  unfold V_keccak_Chi
  rw [zc25]
  have hc : ∀ n, (chi a n).length = 25 := fun n => (length_chi a n).trans ha
  refine (Mine.start w).nw fun b0 w1 H _ => H.nw fun b1 w2 H _ => H.ldA64 0 rfl ha (H.nw fun b2 w3 H _ => H.stA64 2 rfl ha rfl fun w4 H => ?_)
  refine loop1_up 0 5 (fun y w' => Mine w [] w' [.blk b0 (u64s a) t_25_uint64, .blk b1 (u64s z25) t_25_uint64, .blk b2 (u64s (chi a y)) t_25_uint64]) rfl (by omega) H ?_ ?_
  · intro again y w4 _ hy H hag
    refine ite_true (by simp; omega) ?_
    refine loop1_up 0 5 (fun x w' => Mine w [] w' [.blk b0 (u64s a) t_25_uint64, .blk b1 (u64s z25) t_25_uint64, .blk b2 (u64s (chiRow a y (chi a y) x)) t_25_uint64]) rfl (by omega) H ?_ ?_
    · intro again x w5 _ hx H hag
      have hp := pl_lt x y
      have hq := pl_lt (x + 1) y
      have hr := pl_lt (x + 2) y
      have hl : (chiRow a y (chi a y) x).length = 25 := by rw [length_chiRow, hc]
      refine ite_true (by simp; omega) ⟨⟨by omega, by omega⟩, ⟨by omega, by omega⟩, ?_⟩
      refine call_of (keccak_at_ok x y (by omega) (by omega) _) ?_
      rintro _ _ ⟨rfl, rfl⟩
      have H := H.drew
      refine asI_i ⟨⟨by omega, by unfold pl at hp; omega⟩, H.ld64 2 (i := pl x y) rfl (ad b2 _) (by omega) ?_⟩
      refine call_of (keccak_at_ok (x + 1) y (by omega) (by omega) _) ?_
      rintro _ _ ⟨rfl, rfl⟩
      refine asI_i ⟨H.kept (Mod.refl _ _) 2 rfl (ad b2 (pl x y)) 1, ⟨by omega, by unfold pl at hq; omega⟩, H.ld64 0 (i := pl (x + 1) y) rfl (ad b0 _) (by omega) ?_⟩
      refine call_of (keccak_at_ok (x + 2) y (by omega) (by omega) _) ?_
      rintro _ _ ⟨rfl, rfl⟩
      refine asI_i ⟨H.kept (Mod.refl _ _) 0 rfl (ad b0 (pl (x + 1) y)) 1, H.kept (Mod.refl _ _) 2 rfl (ad b2 (pl x y)) 1, ⟨by omega, by unfold pl at hr; omega⟩, H.ld64 0 (i := pl (x + 2) y) rfl (ad b0 _) (by omega) ⟨⟨by omega, by unfold pl at hp; omega⟩, ?_⟩⟩
      refine H.st64 2 (i := pl x y) (g (chiRow a y (chi a y) x) (pl x y) ^^^ (~~~ g a (pl (x + 1) y) &&& g a (pl (x + 2) y))) rfl (ad b2 _) (by omega) (by rw [not64, and64, xor64]) fun w6 H => ⟨⟨by omega, by omega⟩, ?_⟩
      exact hag w6 (by rw [show chiRow a y (chi a y) (x + 1) = chiStep a (chiRow a y (chi a y) x) x y from up_succ _ _ _]; exact H)
    · intro again w5 H
      refine ite_false (by simp) ⟨⟨by omega, by omega⟩, ?_⟩
      exact hag w5 (by rw [show chi a (y + 1) = chiRow a y (chi a y) 5 from up_succ _ _ _]; exact H)
  · intro again w4 H
    refine ite_false (by simp) ?_
    exact H.ldA64 2 rfl (hc _) (H.stA64 1 rfl (hc _) rfl fun w6 H => H.ldA64 1 rfl (hc _) ⟨rfl, H.mod⟩)
end Go.Proofs.YtoeedbljiocpdaaDoor
