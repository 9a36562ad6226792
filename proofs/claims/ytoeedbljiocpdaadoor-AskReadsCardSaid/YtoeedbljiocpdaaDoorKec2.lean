/- THE PERMUTATION, as a whole, and the document's parts. -/
import Derived.Test.YtoeedbljiocpdaaDoorKec
namespace Go.Proofs.YtoeedbljiocpdaaDoor
open Go Go.Ev
def words : List B64 := [0x0000000000000001, 0x0000000000008082, 0x800000000000808A, 0x8000000080008000, 0x000000000000808B, 0x0000000080000001,
  0x8000000080008081, 0x8000000000008009, 0x000000000000008A, 0x0000000000000088, 0x0000000080008009, 0x000000008000000A,
  0x000000008000808B, 0x800000000000008B, 0x8000000000008089, 0x8000000000008003, 0x8000000000008002, 0x8000000000000080,
  0x000000000000800A, 0x800000008000000A, 0x8000000080008081, 0x8000000000008080, 0x0000000080000001, 0x8000000080008008]
def iota (a : List B64) (r : Nat) : List B64 := a.set 0 (g a 0 ^^^ g words r)
def round (a : List B64) (r : Nat) : List B64 := iota (chi (pi (rho (theta a 25)) 5) 5) r
def perms (a : List B64) (n : Nat) : List B64 := up round a n
@[irreducible] def perm (a : List B64) : List B64 := perms a 24
theorem perm_eq (a : List B64) : perms a 24 = perm a := by unfold perm; rfl
theorem length_round (a : List B64) (r : Nat) (_h : a.length = 25) : (round a r).length = 25 := by
  unfold round iota
  rw [List.length_set, length_chi, length_pi]
theorem perms_succ (a : List B64) (n : Nat) : perms a (n + 1) = round (perms a n) n := up_succ _ _ _
theorem length_perms (a : List B64) (ha : a.length = 25) (n : Nat) : (perms a n).length = 25 := by
  induction n with
  | zero => exact ha
  | succ n ih => rw [perms_succ, length_round _ _ ih]
theorem length_perm (a : List B64) (ha : a.length = 25) : (perm a).length = 25 := perm_eq a ▸ length_perms a ha 24
theorem keccak_Iota_ok (a : List B64) (ha : a.length = 25) (r : Nat) (hr : r < 24) (w : World) : Ok Pr f_keccak_Iota [.agg ⟨u64s a⟩, .int .i64 (r : Int)] w fun v w' => v = .agg ⟨u64s (iota a r)⟩ ∧ Mod [] w w' := by
  refine V_keccak_Iota_of ?_
  unfold V_keccak_Iota
  rw [zc25, zc24]
  refine (Mine.start w).nw fun b0 w1 H _ => H.nw fun b1 w2 H _ => ite_false (by simp; omega) (H.nw fun b2 w3 H _ => ?_)
  refine H.stA64 2 (l := words) rfl rfl rfl fun w4 H => ?_
  refine ⟨⟨by omega, by omega⟩, H.drew.ld64 0 (i := 0) rfl (ad b0 _) (by omega) ⟨⟨by omega, by omega⟩, H.drew.ld64 2 (i := r) rfl (ad b2 _) (by show r < 24; omega) ⟨⟨by omega, by omega⟩, ?_⟩⟩⟩
  refine H.drew.st64 0 (i := 0) (g a 0 ^^^ g words r) rfl (ad b0 _) (by omega) (xor64 _ _) fun w5 H => ?_
  have hl : (iota a r).length = 25 := by simp [iota, ha]
  exact H.ldA64 0 rfl hl (H.stA64 1 rfl hl rfl fun w6 H => H.ldA64 1 rfl hl ⟨rfl, H.mod⟩)
theorem keccak_Round_ok (a : List B64) (ha : a.length = 25) (r : Nat) (hr : r < 24) (w : World) : Ok Pr f_keccak_Round [.agg ⟨u64s a⟩, .int .i64 (r : Int)] w fun v w' => v = .agg ⟨u64s (round a r)⟩ ∧ Mod [] w w' := by
  refine V_keccak_Round_of ?_
  unfold V_keccak_Round
  rw [zc25]
  have h1 : (theta a 25).length = 25 := (length_theta _ _).trans ha
  have h2 : (rho (theta a 25)).length = 25 := (length_rho _).trans h1
  have h3 : (pi (rho (theta a 25)) 5).length = 25 := length_pi _ _
  have h4 : (chi (pi (rho (theta a 25)) 5) 5).length = 25 := (length_chi _ _).trans h3
  have h5 := length_round a r ha
  refine (Mine.start w).nw fun b0 w1 H _ => H.nw fun b1 w2 H _ => H.ldA64 0 rfl ha ?_
  refine call_of (keccak_Theta_ok a ha _) ?_
  rintro _ w3 ⟨rfl, m⟩
  have H := H.frame m
  refine asArr_u64s (call_of (keccak_Rho_ok _ h1 _) ?_)
  rintro _ w4 ⟨rfl, m⟩
  have H := H.frame m
  refine asArr_u64s (call_of (keccak_Pi_ok _ h2 _) ?_)
  rintro _ w5 ⟨rfl, m⟩
  have H := H.frame m
  refine asArr_u64s (call_of (keccak_Chi_ok _ h3 _) ?_)
  rintro _ w6 ⟨rfl, m⟩
  have H := H.frame m
  refine asArr_u64s (call_of (keccak_Iota_ok _ h4 r hr _) ?_)
  rintro _ w7 ⟨rfl, m⟩
  have H := H.frame m
  exact asArr_u64s (H.stA64 1 (l := round a r) rfl h5 rfl fun w6 H => H.ldA64 1 rfl h5 ⟨rfl, H.mod⟩)
theorem keccak_Permute_ok (a : List B64) (ha : a.length = 25) (w : World) : Ok Pr f_keccak_Permute [.agg ⟨u64s a⟩] w fun v w' => v = .agg ⟨u64s (perm a)⟩ ∧ Mod [] w w' := by
  refine V_keccak_Permute_of ?_
  unfold V_keccak_Permute
  rw [zc25]
  have hl := length_perms a ha
  refine (Mine.start w).nw fun b0 w1 H _ => H.nw fun b1 w2 H _ => ?_
  refine loop1_up 0 24 (fun i w' => Mine w [] w' [.blk b0 (u64s (perms a i)) t_25_uint64, .blk b1 (u64s z25) t_25_uint64]) rfl (by omega) H ?_ ?_
  · intro again i w3 _ hi H hag
    refine ite_true (by simp; omega) (H.ldA64 0 rfl (hl i) (call_of (keccak_Round_ok _ (hl i) i hi _) ?_))
    rintro _ w4 ⟨rfl, m⟩
    have H := H.frame m
    refine asArr_u64s (H.stA64 0 rfl (length_round _ _ (hl i)) (hl i) fun w5 H => ⟨⟨by omega, by omega⟩, ?_⟩)
    exact hag w5 (by rw [perms_succ]; exact H)
  · intro again w3 H
    have hp := hl 24
    rw [perm_eq] at H hp
    refine ite_false (by simp) ?_
    refine H.ldA64 0 rfl hp ?_
    refine H.stA64 1 rfl hp rfl fun w6 H => ?_
    refine H.ldA64 1 rfl hp ?_
    refine ⟨rfl, H.mod⟩

/-! ### the document's -/
def thetaStep' (a c b : List B64) (i : Nat) : List B64 := b.set i (g a i ^^^ g c ((i + 4) % 5) ^^^ rotl (g c ((i + 1) % 5)) 1)
def theta' (a : List B64) (n : Nat) : List B64 := up (thetaStep' a (cols a 25)) z25 n
theorem length_theta' (a : List B64) (n : Nat) : (theta' a n).length = 25 := length_up _ (fun _ _ => List.length_set) _ _
theorem ref1_Theta_ok' (a : List B64) (ha : a.length = 25) (w : World) : Ok Pr f_ref1_Theta [.agg ⟨u64s a⟩] w fun v w' => v = .agg ⟨u64s (theta' a 25)⟩ ∧ Mod [] w w' := by
  refine V_ref1_Theta_of ?_
  unfold V_ref1_Theta
  rw [zc25, zc5]
  refine (Mine.start w).nw fun b0 w1 H _ => H.nw fun b1 w2 H _ => H.nw fun b2 w3 H _ => ?_
  refine loop1_up 0 25 (fun i w' => Mine w [] w' [.blk b0 (u64s a) t_25_uint64, .blk b1 (u64s z25) t_25_uint64, .blk b2 (u64s (cols a i)) t_5_uint64]) rfl (by omega) H ?_ ?_
  · intro again i w4 _ hi H hag
    refine ite_true (by simp; omega) ⟨by omega, by omega, ⟨by omega, by omega⟩, ?_⟩
    refine H.drew.ld64 2 (i := i % 5) rfl (ad b2 (i % 5)) (by rw [length_cols]; omega) ⟨⟨by omega, by omega⟩, H.drew.ld64 0 (i := i) rfl (ad b0 _) (by omega) ⟨⟨by omega, by omega⟩, ?_⟩⟩
    refine H.drew.st64 2 (i := i % 5) (g (cols a i) (i % 5) ^^^ g a i) rfl (ad b2 (i % 5)) (by rw [length_cols]; omega) (xor64 _ _) fun w5 H => ⟨⟨by omega, by omega⟩, ?_⟩
    exact hag w5 (by rw [cols_succ]; exact H)
  · intro again w4 H
    refine ite_false (by simp) (H.nw fun b3 w5 H _ => ?_)
    refine loop1_up 0 25 (fun i w' => Mine w [] w' [.blk b0 (u64s a) t_25_uint64, .blk b1 (u64s z25) t_25_uint64, .blk b2 (u64s (cols a 25)) t_5_uint64, .blk b3 (u64s (theta' a i)) t_25_uint64]) rfl (by omega) H ?_ ?_
    · intro again i w5 _ hi H hag
      have h5 : ∀ j, j % 5 < (cols a 25).length := fun j => by rw [length_cols]; omega
      have ht : i < (theta' a i).length := by rw [length_theta']; omega
      refine ite_true (by simp; omega) ⟨⟨by omega, by omega⟩, ?_⟩
      refine H.drew.ld64 0 (i := i) rfl (ad b0 i) (by omega) ⟨⟨by omega, by omega⟩, by omega, ⟨by omega, by omega⟩, ?_⟩
      refine H.drew.ld64 2 (i := (i + 4) % 5) rfl (ad b2 _) (h5 _) ⟨⟨by omega, by omega⟩, by omega, ⟨by omega, by omega⟩, ?_⟩
      refine H.drew.ld64 2 (i := (i + 1) % 5) rfl (ad b2 _) (h5 _) ?_
      refine call_of (RotateLeft64_ok _ 1 _) ?_
      rintro _ _ ⟨rfl, rfl⟩
      refine asI_i ⟨H.drew.kept (Mod.refl _ _) 2 rfl (ad b2 ((i + 4) % 5)) 1, H.drew.kept (Mod.refl _ _) 0 rfl (ad b0 i) 1, ⟨by omega, by omega⟩, ?_⟩
      refine H.drew.st64 3 (i := i) (g a i ^^^ g (cols a 25) ((i + 4) % 5) ^^^ rotl (g (cols a 25) ((i + 1) % 5)) 1) rfl (ad b3 i) ht (by rw [xor64, xor64]) fun w6 H => ⟨⟨by omega, by omega⟩, ?_⟩
      exact hag w6 (by rw [show theta' a (i + 1) = thetaStep' a (cols a 25) (theta' a i) i from up_succ _ _ _]; exact H)
    · intro again w5 H
      refine ite_false (by simp) ?_
      exact H.ldA64 3 rfl (length_theta' _ _) (H.stA64 1 rfl (length_theta' _ _) rfl fun w6 H => H.ldA64 1 rfl (length_theta' _ _) ⟨rfl, H.mod⟩)
def rhoStep' (a : List B64) (s : List B64 × Nat × Nat) (t : Nat) : List B64 × Nat × Nat := (s.1.set (pl s.2.1 s.2.2) (rotl (g a (pl s.2.1 s.2.2)) ((t + 1) * (t + 2) / 2 % 64)), s.2.2, (2 * s.2.1 + 3 * s.2.2) % 5)
def rhos' (a : List B64) (n : Nat) : List B64 × Nat × Nat := up (rhoStep' a) (a, 1, 0) n
theorem rhos'_succ (a : List B64) (n : Nat) : rhos' a (n + 1) = rhoStep' a (rhos' a n) n := up_succ _ _ _
theorem rhos'_lt (a : List B64) (n : Nat) : (rhos' a n).1.length = a.length ∧ (rhos' a n).2.1 < 5 ∧ (rhos' a n).2.2 < 5 := by
  induction n with
  | zero => exact ⟨rfl, (by show 1 < 5; omega), (by show 0 < 5; omega)⟩
  | succ n ih =>
    rw [rhos'_succ]
    obtain ⟨h1, h2, h3⟩ := ih
    exact ⟨by simp only [rhoStep', List.length_set, h1], h3, by simp only [rhoStep']; omega⟩
def rho' (a : List B64) : List B64 := (rhos' a 24).1
theorem length_rho' (a : List B64) : (rho' a).length = a.length := (rhos'_lt a 24).1
theorem ref1_Rho_ok' (a : List B64) (ha : a.length = 25) (w : World) : Ok Pr f_ref1_Rho [.agg ⟨u64s a⟩] w fun v w' => v = .agg ⟨u64s (rho' a)⟩ ∧ Mod [] w w' := by
  refine V_ref1_Rho_of ?_
  unfold V_ref1_Rho
  rw [zc25]
  refine (Mine.start w).nw fun b0 w1 H _ => H.nw fun b1 w2 H _ => H.ldA64 0 rfl ha (H.nw fun b2 w3 H _ => H.stA64 2 rfl ha rfl fun w4 H => ?_)
  refine loop3_up 0 24 (fun t x y w' => x = ((rhos' a t).2.1 : Int) ∧ y = ((rhos' a t).2.2 : Int) ∧ Mine w [] w' [.blk b0 (u64s a) t_25_uint64, .blk b1 (u64s z25) t_25_uint64, .blk b2 (u64s (rhos' a t).1) t_25_uint64]) rfl (by omega) ⟨rfl, rfl, H⟩ ?_ ?_
  · rintro again t _ _ w3 h1 hi ⟨rfl, rfl, H⟩ hag
    obtain ⟨h2, h3, h4⟩ := rhos'_lt a t
    rcases hs : rhos' a t with ⟨b, x, y⟩
    rw [hs] at H h2 h3 h4
    dsimp only at H h2 h3 h4 ⊢
    have hp := pl_lt x y
    refine ite_true (by simp; omega) ?_
    refine call_of (ref1_at_ok x y (by omega) (by omega) _) ?_
    rintro _ _ ⟨rfl, rfl⟩
    refine asI_i (call_of (ref1_at_ok x y (by omega) (by omega) _) ?_)
    rintro _ _ ⟨rfl, rfl⟩
    refine asI_i ⟨⟨by omega, by unfold pl at hp; omega⟩, ?_⟩
    refine H.ld64 0 (i := pl x y) rfl (ad b0 (pl x y)) (by omega) ?_
    have hm2 : (t + 1) * (t + 2) ≤ 25 * 26 := Nat.mul_le_mul (by omega) (by omega)
    have e2 : ((t : Int) + 1) * ((t : Int) + 2) = (((t + 1) * (t + 2) : Nat) : Int) := by push_cast; rfl
    rw [e2]
    refine ⟨⟨by omega, by omega⟩, ⟨by omega, by omega⟩, ⟨by omega, by omega⟩, ⟨by omega, by simp only [IntKind.max, IntKind.signed, IntKind.bits]; omega⟩, by omega, ?_⟩
    refine call_of (RotateLeft64_ok _ ((t + 1) * (t + 2) / 2 % 64) _) ?_
    rintro _ _ ⟨rfl, rfl⟩
    refine asI_i ⟨⟨by omega, by unfold pl at hp; omega⟩, ?_⟩
    refine H.st64 2 (i := pl x y) (rotl (g a (pl x y)) ((t + 1) * (t + 2) / 2 % 64)) rfl (ad b2 (pl x y)) (by omega) rfl fun w6 H => ?_
    refine ⟨⟨by omega, by omega⟩, ⟨by omega, by omega⟩, ⟨by omega, by omega⟩, by omega, ⟨by omega, by omega⟩, ?_⟩
    exact hag _ _ w6 (by rw [rhos'_succ, hs]; exact ⟨rfl, by simp only [rhoStep']; push_cast; rfl, H⟩)
  · rintro again _ _ w3 ⟨rfl, rfl, H⟩
    have hl := length_rho' a
    refine ite_false (by simp) ?_
    exact H.ldA64 2 rfl (hl.trans ha) (H.stA64 1 rfl (hl.trans ha) rfl fun w6 H => H.ldA64 1 rfl (hl.trans ha) ⟨rfl, H.mod⟩)
def piRow' (a : List B64) (x : Nat) (b : List B64) (n : Nat) : List B64 := up (fun b y => piStep a b x y) b n
def pi' (a : List B64) (n : Nat) : List B64 := up (fun b x => piRow' a x b 5) z25 n
theorem length_piRow' (a : List B64) (y : Nat) (b : List B64) (n : Nat) : (piRow' a y b n).length = b.length := length_up _ (fun _ _ => List.length_set) _ _
theorem length_pi' (a : List B64) (n : Nat) : (pi' a n).length = 25 := length_up _ (fun _ _ => length_piRow' _ _ _ _) _ _
theorem ref1_Pi_ok' (a : List B64) (ha : a.length = 25) (w : World) : Ok Pr f_ref1_Pi [.agg ⟨u64s a⟩] w fun v w' => v = .agg ⟨u64s (pi' a 5)⟩ ∧ Mod [] w w' := by
  refine V_ref1_Pi_of ?_
  unfold V_ref1_Pi
  rw [zc25]
  refine (Mine.start w).nw fun b0 w1 H _ => H.nw fun b1 w2 H _ => H.nw fun b2 w3 H _ => ?_
  refine loop1_up 0 5 (fun x w' => Mine w [] w' [.blk b0 (u64s a) t_25_uint64, .blk b1 (u64s z25) t_25_uint64, .blk b2 (u64s (pi' a x)) t_25_uint64]) rfl (by omega) H ?_ ?_
  · intro again x w4 _ hx H hag
    refine ite_true (by simp; omega) ?_
    refine loop1_up 0 5 (fun y w' => Mine w [] w' [.blk b0 (u64s a) t_25_uint64, .blk b1 (u64s z25) t_25_uint64, .blk b2 (u64s (piRow' a x (pi' a x) y)) t_25_uint64]) rfl (by omega) H ?_ ?_
    · intro again y w5 _ hy H hag
      have hp := pl_lt x y
      have hq := pl_lt (x + 3 * y) x
      refine ite_true (by simp; omega) ?_
      refine call_of (ref1_at_ok x y (by omega) (by omega) _) ?_
      rintro _ _ ⟨rfl, rfl⟩
      refine asI_i ⟨⟨by omega, by omega⟩, ⟨by omega, by omega⟩, ?_⟩
      refine call_of (ref1_at_ok (x + 3 * y) x (by omega) (by omega) _) ?_
      rintro _ _ ⟨rfl, rfl⟩
      refine asI_i ⟨⟨by omega, by unfold pl at hq; omega⟩, ?_⟩
      refine H.ld64 0 (i := pl (x + 3 * y) x) rfl (ad b0 _) (by omega) ⟨⟨by omega, by unfold pl at hp; omega⟩, ?_⟩
      refine H.st64 2 (i := pl x y) (g a (pl (x + 3 * y) x)) rfl (ad b2 _) (by rw [length_piRow', length_pi']; omega) rfl fun w6 H => ⟨⟨by omega, by omega⟩, ?_⟩
      exact hag w6 (by rw [show piRow' a x (pi' a x) (y + 1) = piStep a (piRow' a x (pi' a x) y) x y from up_succ _ _ _]; exact H)
    · intro again w5 H
      refine ite_false (by simp) ⟨⟨by omega, by omega⟩, ?_⟩
      exact hag w5 (by rw [show pi' a (x + 1) = piRow' a x (pi' a x) 5 from up_succ _ _ _]; exact H)
  · intro again w4 H
    refine ite_false (by simp) ?_
    exact H.ldA64 2 rfl (length_pi' _ _) (H.stA64 1 rfl (length_pi' _ _) rfl fun w6 H => H.ldA64 1 rfl (length_pi' _ _) ⟨rfl, H.mod⟩)
def chiStep' (a b : List B64) (x y : Nat) : List B64 := b.set (pl x y) (g a (pl x y) ^^^ (~~~ g a (pl (x + 1) y) &&& g a (pl (x + 2) y)))
def chiRow' (a : List B64) (x : Nat) (b : List B64) (n : Nat) : List B64 := up (fun b y => chiStep' a b x y) b n
def chi' (a : List B64) (n : Nat) : List B64 := up (fun b x => chiRow' a x b 5) z25 n
theorem length_chiRow' (a : List B64) (y : Nat) (b : List B64) (n : Nat) : (chiRow' a y b n).length = b.length := length_up _ (fun _ _ => List.length_set) _ _
theorem length_chi' (a : List B64) (n : Nat) : (chi' a n).length = 25 := length_up _ (fun _ _ => length_chiRow' _ _ _ _) _ _
theorem ref1_Chi_ok' (a : List B64) (ha : a.length = 25) (w : World) : Ok Pr f_ref1_Chi [.agg ⟨u64s a⟩] w fun v w' => v = .agg ⟨u64s (chi' a 5)⟩ ∧ Mod [] w w' := by
  refine V_ref1_Chi_of ?_
  unfold V_ref1_Chi
  rw [zc25]
  have hc : ∀ n, (chi' a n).length = 25 := fun n => length_chi' a n
  refine (Mine.start w).nw fun b0 w1 H _ => H.nw fun b1 w2 H _ => (H.nw fun b2 w3 H _ => ?_)
  refine loop1_up 0 5 (fun x w' => Mine w [] w' [.blk b0 (u64s a) t_25_uint64, .blk b1 (u64s z25) t_25_uint64, .blk b2 (u64s (chi' a x)) t_25_uint64]) rfl (by omega) H ?_ ?_
  · intro again x w4 _ hx H hag
    refine ite_true (by simp; omega) ?_
    refine loop1_up 0 5 (fun y w' => Mine w [] w' [.blk b0 (u64s a) t_25_uint64, .blk b1 (u64s z25) t_25_uint64, .blk b2 (u64s (chiRow' a x (chi' a x) y)) t_25_uint64]) rfl (by omega) H ?_ ?_
    · intro again y w5 _ hy H hag
      have hp := pl_lt x y
      have hq := pl_lt (x + 1) y
      have hr := pl_lt (x + 2) y
      have hl : (chiRow' a x (chi' a x) y).length = 25 := by rw [length_chiRow', hc]
      refine ite_true (by simp; omega) ⟨⟨by omega, by omega⟩, ⟨by omega, by omega⟩, ?_⟩
      refine call_of (ref1_at_ok x y (by omega) (by omega) _) ?_
      rintro _ _ ⟨rfl, rfl⟩
      refine asI_i (call_of (ref1_at_ok x y (by omega) (by omega) _) ?_)
      rintro _ _ ⟨rfl, rfl⟩
      have H := H.drew
      refine asI_i ⟨⟨by omega, by unfold pl at hp; omega⟩, H.ld64 0 (i := pl x y) rfl (ad b0 _) (by omega) ?_⟩
      refine call_of (ref1_at_ok (x + 1) y (by omega) (by omega) _) ?_
      rintro _ _ ⟨rfl, rfl⟩
      refine asI_i ⟨H.kept (Mod.refl _ _) 0 rfl (ad b0 (pl x y)) 1, ⟨by omega, by unfold pl at hq; omega⟩, H.ld64 0 (i := pl (x + 1) y) rfl (ad b0 _) (by omega) ?_⟩
      refine call_of (ref1_at_ok (x + 2) y (by omega) (by omega) _) ?_
      rintro _ _ ⟨rfl, rfl⟩
      refine asI_i ⟨H.kept (Mod.refl _ _) 0 rfl (ad b0 (pl (x + 1) y)) 1, H.kept (Mod.refl _ _) 0 rfl (ad b0 (pl x y)) 1, ⟨by omega, by unfold pl at hr; omega⟩, H.ld64 0 (i := pl (x + 2) y) rfl (ad b0 _) (by omega) ⟨⟨by omega, by unfold pl at hp; omega⟩, ?_⟩⟩
      refine H.st64 2 (i := pl x y) (g a (pl x y) ^^^ (~~~ g a (pl (x + 1) y) &&& g a (pl (x + 2) y))) rfl (ad b2 _) (by omega) (by rw [not64, and64, xor64]) fun w6 H => ⟨⟨by omega, by omega⟩, ?_⟩
      exact hag w6 (by rw [show chiRow' a x (chi' a x) (y + 1) = chiStep' a (chiRow' a x (chi' a x) y) x y from up_succ _ _ _]; exact H)
    · intro again w5 H
      refine ite_false (by simp) ⟨⟨by omega, by omega⟩, ?_⟩
      exact hag w5 (by rw [show chi' a (x + 1) = chiRow' a x (chi' a x) 5 from up_succ _ _ _]; exact H)
  · intro again w4 H
    refine ite_false (by simp) ?_
    exact H.ldA64 2 rfl (hc _) (H.stA64 1 rfl (hc _) rfl fun w6 H => H.ldA64 1 rfl (hc _) ⟨rfl, H.mod⟩)
end Go.Proofs.YtoeedbljiocpdaaDoor
