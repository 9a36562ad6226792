/- THE PROGRAM'S PERMUTATION IS THE DOCUMENT'S. -/
import Derived.Test.YtoeedbljiocpdaaDoorKec2
namespace Go.Proofs.YtoeedbljiocpdaaDoor
open Go Go.Ev
set_option maxRecDepth 100000
theorem list25 {A : Type} : ∀ (a : List A), a.length = 25 → ∃ a0 a1 a2 a3 a4 a5 a6 a7 a8 a9 a10 a11 a12 a13 a14 a15 a16 a17 a18 a19 a20 a21 a22 a23 a24, a = [a0, a1, a2, a3, a4, a5, a6, a7, a8, a9, a10, a11, a12, a13, a14, a15, a16, a17, a18, a19, a20, a21, a22, a23, a24]
  | [a0, a1, a2, a3, a4, a5, a6, a7, a8, a9, a10, a11, a12, a13, a14, a15, a16, a17, a18, a19, a20, a21, a22, a23, a24], _ => ⟨a0, a1, a2, a3, a4, a5, a6, a7, a8, a9, a10, a11, a12, a13, a14, a15, a16, a17, a18, a19, a20, a21, a22, a23, a24, rfl⟩
def thetaStep2 (a c b : List B64) (i : Nat) : List B64 := b.set i (g a i ^^^ (g c ((i + 4) % 5) ^^^ rotl (g c ((i + 1) % 5)) 1))
theorem theta2_eq (a : List B64) (h : a.length = 25) : up (thetaStep2 a (cols a 25)) z25 25 = theta a 25 := by
  obtain ⟨a0, a1, a2, a3, a4, a5, a6, a7, a8, a9, a10, a11, a12, a13, a14, a15, a16, a17, a18, a19, a20, a21, a22, a23, a24, rfl⟩ := list25 a h
  kernel_rfl
theorem theta'_eq (a : List B64) (h : a.length = 25) : theta' a 25 = theta a 25 := by
  have e : thetaStep' a (cols a 25) = thetaStep2 a (cols a 25) := by
    funext b i
    unfold thetaStep' thetaStep2
    rw [BitVec.xor_assoc]
  unfold theta'
  rw [e]
  exact theta2_eq a h
theorem rho'_eq (a : List B64) (h : a.length = 25) : rho' a = rho a := by
  obtain ⟨a0, a1, a2, a3, a4, a5, a6, a7, a8, a9, a10, a11, a12, a13, a14, a15, a16, a17, a18, a19, a20, a21, a22, a23, a24, rfl⟩ := list25 a h
  kernel_rfl
theorem pi'_eq (a : List B64) (h : a.length = 25) : pi' a 5 = pi a 5 := by
  obtain ⟨a0, a1, a2, a3, a4, a5, a6, a7, a8, a9, a10, a11, a12, a13, a14, a15, a16, a17, a18, a19, a20, a21, a22, a23, a24, rfl⟩ := list25 a h
  kernel_rfl
theorem chi'_eq (a : List B64) (h : a.length = 25) : chi' a 5 = chi a 5 := by
  obtain ⟨a0, a1, a2, a3, a4, a5, a6, a7, a8, a9, a10, a11, a12, a13, a14, a15, a16, a17, a18, a19, a20, a21, a22, a23, a24, rfl⟩ := list25 a h
  kernel_rfl
theorem ref1_Theta_ok (a : List B64) (ha : a.length = 25) (w : World) : Ok Pr f_ref1_Theta [.agg ⟨u64s a⟩] w fun v w' => v = .agg ⟨u64s (theta a 25)⟩ ∧ Mod [] w w' := theta'_eq a ha ▸ ref1_Theta_ok' a ha w
theorem ref1_Rho_ok (a : List B64) (ha : a.length = 25) (w : World) : Ok Pr f_ref1_Rho [.agg ⟨u64s a⟩] w fun v w' => v = .agg ⟨u64s (rho a)⟩ ∧ Mod [] w w' := rho'_eq a ha ▸ ref1_Rho_ok' a ha w
theorem ref1_Pi_ok (a : List B64) (ha : a.length = 25) (w : World) : Ok Pr f_ref1_Pi [.agg ⟨u64s a⟩] w fun v w' => v = .agg ⟨u64s (pi a 5)⟩ ∧ Mod [] w w' := pi'_eq a ha ▸ ref1_Pi_ok' a ha w
theorem ref1_Chi_ok (a : List B64) (ha : a.length = 25) (w : World) : Ok Pr f_ref1_Chi [.agg ⟨u64s a⟩] w fun v w' => v = .agg ⟨u64s (chi a 5)⟩ ∧ Mod [] w w' := chi'_eq a ha ▸ ref1_Chi_ok' a ha w

/-! ### the words -/
def rcStep (r : B64) (_i : Nat) : B64 := if (r <<< 1) &&& 256 = 0 then r <<< 1 else (r <<< 1) ^^^ 256 ^^^ 1 ^^^ 16 ^^^ 32 ^^^ 64
def rcs (n : Nat) : B64 := up rcStep 1 n
def rc (t : Nat) : B64 := rcs (t % 255) &&& 1
theorem rcs_succ (n : Nat) : rcs (n + 1) = rcStep (rcs n) n := up_succ _ _ _
theorem ref1_rc_ok (t : Nat) (ht : t < 1000) (w : World) : Ok Pr f_ref1_rc [.int .i64 (t : Int)] w fun v w' => v = .int .u64 ((rc t).toNat : Int) ∧ w' = w := by
  refine V_ref1_rc_of ?_
  unfold V_ref1_rc
  refine loop2_up 0 (t % 255) (fun i r w' => r = ((rcs i).toNat : Int) ∧ w' = w) rfl (by omega) ⟨rfl, rfl⟩ ?_ ?_
  · rintro again i _ _ _ hi ⟨rfl, rfl⟩ hag
    refine ⟨by omega, ite_true (by simp; omega) ?_⟩
    have e1 : shl .u64 ((rcs i).toNat : Int) (1 : Int) = ((rcs i <<< 1).toNat : Int) := shl64 _ 1
    have e2 : andI .u64 ((rcs i <<< 1).toNat : Int) (256 : Int) = (((rcs i <<< 1) &&& 256).toNat : Int) := and64 _ 256
    rw [e1, e2]
    refine ite_intro (fun h => ?_) (fun h => ?_)
    · have h' : ¬ ((rcs i <<< 1) &&& 256 = 0) := by
        intro h0
        rw [h0] at h
        simp at h
      refine ⟨⟨by omega, by omega⟩, hag _ _ ⟨?_, rfl⟩⟩
      rw [rcs_succ, rcStep, if_neg h']
      rw [show (256 : Int) = ((256 : B64).toNat : Int) from rfl, xor64, show (1 : Int) = ((1 : B64).toNat : Int) from rfl, xor64, show (16 : Int) = ((16 : B64).toNat : Int) from rfl, xor64,
        show (32 : Int) = ((32 : B64).toNat : Int) from rfl, xor64, show (64 : Int) = ((64 : B64).toNat : Int) from rfl, xor64]
    · have h' : (rcs i <<< 1) &&& 256 = 0 := by
        simp only [Bool.not_eq_false', decide_eq_true_eq] at h
        exact BitVec.eq_of_toNat_eq (by simpa using h)
      refine ⟨⟨by omega, by omega⟩, hag _ _ ⟨?_, rfl⟩⟩
      rw [rcs_succ, rcStep, if_pos h']
  · rintro again _ _ ⟨rfl, rfl⟩
    refine ⟨by omega, ite_false (by simp) ⟨?_, rfl⟩⟩
    rw [show (1 : Int) = ((1 : B64).toNat : Int) from rfl, and64]
    rfl
def wordStep (i : Nat) (l : List B64) (j : Nat) : List B64 := l.set i (g l i ||| (rc (j + 7 * i) <<< (2 ^ j - 1)))
def wordRow (l : List B64) (i : Nat) (n : Nat) : List B64 := up (wordStep i) l n
def wordsUp (n : Nat) : List B64 := up (fun l i => wordRow l i 7) z24 n
theorem length_wordRow (l : List B64) (i n : Nat) : (wordRow l i n).length = l.length := length_up _ (fun _ _ => List.length_set) _ _
theorem length_wordsUp (n : Nat) : (wordsUp n).length = 24 := length_up _ (fun _ _ => length_wordRow _ _ _) _ _
theorem wordsUp_eq : wordsUp 24 = words := by kernel_rfl
theorem ref1_Words_ok (w : World) : Ok Pr f_ref1_Words [] w fun v w' => v = .agg ⟨u64s words⟩ ∧ Mod [] w w' := by
  refine V_ref1_Words_of ?_
  unfold V_ref1_Words
  rw [zc24]
  refine (Mine.start w).nw fun b0 w1 H _ => H.nw fun b1 w2 H _ => ?_
  refine loop1_up 0 24 (fun i w' => Mine w [] w' [.blk b0 (u64s z24) t_24_uint64, .blk b1 (u64s (wordsUp i)) t_24_uint64]) rfl (by omega) H ?_ ?_
  · intro again i w4 _ hi H hag
    refine ite_true (by simp; omega) ?_
    refine loop1_up 0 7 (fun j w' => Mine w [] w' [.blk b0 (u64s z24) t_24_uint64, .blk b1 (u64s (wordRow (wordsUp i) i j)) t_24_uint64]) rfl (by omega) H ?_ ?_
    · intro again j w5 _ hj H hag
      have hl : (wordRow (wordsUp i) i j).length = 24 := by rw [length_wordRow, length_wordsUp]
      refine ite_true (by simp; omega) ⟨⟨by omega, by omega⟩, H.drew.ld64 1 (i := i) rfl (ad b1 _) (by omega) ⟨⟨by omega, by omega⟩, ⟨by omega, by omega⟩, ?_⟩⟩
      show callK _ _ _ _ _
      refine call_of (ref1_rc_ok (j + 7 * i) (by omega) _) ?_
      rintro _ _ ⟨rfl, rfl⟩
      have es : shl .u64 (1 : Int) (j : Int) = ((2 ^ j : Nat) : Int) := by
        have := shl64 1 j
        rw [show ((1 : B64).toNat : Int) = 1 from rfl] at this
        rw [this]
        congr 1
        rcases j with _ | _ | _ | _ | _ | _ | _ | j <;> first | rfl | omega
      have hpow : 1 ≤ 2 ^ j ∧ 2 ^ j ≤ 64 := ⟨Nat.one_le_two_pow, (Nat.pow_le_pow_right (by omega) (show j ≤ 6 by omega) : 2 ^ j ≤ 2 ^ 6)⟩
      have e1 : IntKind.wrap .u64 (((2 ^ j : Nat) : Int) - 1) = ((2 ^ j - 1 : Nat) : Int) := by rw [wrap_u64]; omega
      rw [es, e1]
      refine asI_i ⟨H.drew.kept (Mod.refl _ _) 1 rfl (ad b1 i) 1, ?_⟩
      show idx _ _ _
      refine ⟨⟨by omega, by omega⟩, H.drew.st64 1 (i := i) (g (wordRow (wordsUp i) i j) i ||| (rc (j + 7 * i) <<< (2 ^ j - 1))) rfl (ad b1 _) (by omega) (by rw [shl64, or64]) fun w6 H => ⟨⟨by omega, by omega⟩, ?_⟩⟩
      exact hag w6 (by rw [show wordRow (wordsUp i) i (j + 1) = wordStep i (wordRow (wordsUp i) i j) j from up_succ _ _ _]; exact H)
    · intro again w5 H
      refine ite_false (by simp) ⟨⟨by omega, by omega⟩, ?_⟩
      exact hag w5 (by rw [show wordsUp (i + 1) = wordRow (wordsUp i) i 7 from up_succ _ _ _]; exact H)
  · intro again w4 H
    rw [wordsUp_eq] at H
    refine ite_false (by simp) ?_
    refine H.ldA64 1 rfl rfl ?_
    refine H.stA64 0 rfl rfl rfl fun w6 H => ?_
    exact H.ldA64 0 rfl rfl ⟨rfl, H.mod⟩
theorem ref1_With_ok (a : List B64) (ha : a.length = 25) (w : World) : Ok Pr f_ref1_With [.agg ⟨u64s a⟩, .agg ⟨u64s words⟩] w fun v w' => v = .agg ⟨u64s (perm a)⟩ ∧ Mod [] w w' := by
  refine V_ref1_With_of ?_
  unfold V_ref1_With
  rw [zc25]
  have hl := length_perms a ha
  refine (Mine.start w).nw fun b0 w1 H _ => H.nw fun b1 w2 H _ => H.nw fun b2 w3 H _ => ?_
  refine loop1_up 0 24 (fun i w' => Mine w [] w' [.blk b0 (u64s (perms a i)) t_25_uint64, .blk b1 (u64s words) t_24_uint64, .blk b2 (u64s z25) t_25_uint64]) rfl (by omega) H ?_ ?_
  · intro again i w3 _ hi H hag
    have h0 := hl i
    have h1 : (theta (perms a i) 25).length = 25 := (length_theta _ _).trans h0
    have h2 : (rho (theta (perms a i) 25)).length = 25 := (length_rho _).trans h1
    have h3 : (pi (rho (theta (perms a i) 25)) 5).length = 25 := length_pi _ _
    have h4 : (chi (pi (rho (theta (perms a i) 25)) 5) 5).length = 25 := (length_chi _ _).trans h3
    refine ite_true (by simp; omega) (H.ldA64 0 rfl h0 ?_)
    refine call_of (ref1_Theta_ok _ h0 _) ?_
    rintro _ w3 ⟨rfl, m⟩
    have H := H.frame m
    refine asArr_u64s (call_of (ref1_Rho_ok _ h1 _) ?_)
    rintro _ w4 ⟨rfl, m⟩
    have H := H.frame m
    refine asArr_u64s (call_of (ref1_Pi_ok _ h2 _) ?_)
    rintro _ w5 ⟨rfl, m⟩
    have H := H.frame m
    refine asArr_u64s (call_of (ref1_Chi_ok _ h3 _) ?_)
    rintro _ w6 ⟨rfl, m⟩
    have H := H.frame m
    refine asArr_u64s (H.stA64 0 rfl h4 h0 fun w7 H => ?_)
    refine ⟨⟨by omega, by omega⟩, H.drew.ld64 0 (i := 0) rfl (ad b0 _) (by omega) ⟨⟨by omega, by omega⟩, H.drew.ld64 1 (i := i) rfl (ad b1 _) (by show i < 24; omega) ⟨⟨by omega, by omega⟩, ?_⟩⟩⟩
    refine H.drew.st64 0 (i := 0) (g (chi (pi (rho (theta (perms a i) 25)) 5) 5) 0 ^^^ g words i) rfl (ad b0 _) (by omega) (xor64 _ _) fun w5 H => ⟨⟨by omega, by omega⟩, ?_⟩
    exact hag w5 (by rw [perms_succ]; exact H)
  · intro again w3 H
    have hp := hl 24
    rw [perm_eq] at H hp
    refine ite_false (by simp) ?_
    refine H.ldA64 0 rfl hp ?_
    refine H.stA64 2 rfl hp rfl fun w6 H => ?_
    refine H.ldA64 2 rfl hp ?_
    exact ⟨rfl, H.mod⟩
end Go.Proofs.YtoeedbljiocpdaaDoor
