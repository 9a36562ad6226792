/- THE PROGRAM'S SPONGE TELLS WHAT THE DOCUMENT'S DOES: plain lists. -/
import Derived.Test.YtoeedbljiocpdaaDoorRef2
namespace Go.Proofs.YtoeedbljiocpdaaDoor
open Go Go.Ev
theorem flip_flip (ws : List B64) (i : Nat) (x y : B8) (h : i / 8 < ws.length) : flip (flip ws i x) i y = flip ws i (x ^^^ y) := by
  unfold flip
  rw [List.set_set]
  congr 1
  have : g (ws.set (i / 8) (g ws (i / 8) ^^^ BitVec.setWidth 64 x <<< (8 * (i % 8)))) (i / 8) = g ws (i / 8) ^^^ BitVec.setWidth 64 x <<< (8 * (i % 8)) := by
    simp [g, h]
  rw [this, BitVec.xor_assoc, BitVec.setWidth_xor, BitVec.shiftLeft_xor_distrib]
theorem flip_zero (ws : List B64) (i : Nat) : flip ws i 0 = ws := by
  unfold flip
  have h0 : (BitVec.setWidth 64 (0 : B8)) <<< (8 * (i % 8)) = (0 : B64) := by
    rw [show BitVec.setWidth 64 (0 : B8) = (0 : B64) from rfl]; exact BitVec.zero_shiftLeft _
  rw [h0, show g ws (i / 8) ^^^ (0 : B64) = g ws (i / 8) from BitVec.xor_zero]
  rcases Nat.lt_or_ge (i / 8) ws.length with h | h
  · have : g ws (i / 8) = ws[i / 8] := by simp [g, h]
    rw [this, List.set_getElem_self]
  · rw [List.set_eq_of_length_le h]
/-- a block goes in, byte by byte -/
theorem absorb_block (rate : Nat) (a : List B64) (bl : List B8) (hb : bl.length = rate) (k : Nat) (hk : k < rate) : absorb rate (a, 0) (bl.take k) = (mixU bl a k, k) := by
  induction k with
  | zero => rfl
  | succ k ih =>
    rw [take_succ_getD _ _ (by omega) 0, absorb_append, ih (by omega)]
    show turn rate (flip (mixU bl a k) k (bl.getD k 0), k + 1) = _
    unfold turn
    rw [if_neg (by show ¬ k + 1 = rate; omega), show mixU bl a (k + 1) = flip (mixU bl a k) k (bl.getD k 0) from up_succ _ _ _]
theorem absorb_block' (rate : Nat) (hr : 0 < rate) (a : List B64) (bl : List B8) (hb : bl.length = rate) : absorb rate (a, 0) bl = (perm (mix a bl), 0) := by
  obtain ⟨k, rfl⟩ : ∃ k, rate = k + 1 := ⟨rate - 1, by omega⟩
  have e : bl = bl.take k ++ [bl.getD k 0] := by rw [← take_succ_getD _ _ (by omega) 0, ← hb, List.take_length]
  have h1 := absorb_block (k + 1) a bl hb k (by omega)
  have h2 : mix a bl = flip (mixU bl a k) k (bl.getD k 0) := by unfold mix; rw [hb]; exact up_succ _ _ _
  rw [h2]
  conv => lhs; rw [e]
  rw [absorb_append, h1]
  show turn (k + 1) (flip (mixU bl a k) k (bl.getD k 0), k + 1) = _
  unfold turn
  rw [if_pos rfl]
theorem absorb_blocks (rate : Nat) (hr : 0 < rate) (p : List B8) (m : Nat) (hm : rate * m ≤ p.length) : absorb rate (z25, 0) (p.take (rate * m)) = (blocks rate p z25 m, 0) := by
  induction m with
  | zero => rfl
  | succ m ih =>
    rw [Nat.mul_add, Nat.mul_one] at hm
    have e : p.take (rate * (m + 1)) = p.take (rate * m) ++ (p.drop (rate * m)).take rate := by rw [Nat.mul_add, Nat.mul_one, List.take_add]
    rw [e, absorb_append, ih (by omega), absorb_block' rate hr _ _ (by rw [List.length_take, List.length_drop]; omega)]
    rw [show blocks rate p z25 (m + 1) = perm (mix (blocks rate p z25 m) ((p.drop (rate * m)).take rate)) from up_succ _ _ _]
/-- where it stands -/
theorem absorb_at (rate : Nat) (hr : 0 < rate) (l : List B8) : ∀ (s : List B64 × Nat), s.2 < rate → (absorb rate s l).2 = (s.2 + l.length) % rate := by
  induction l with
  | nil => intro s h; exact (Nat.mod_eq_of_lt h).symm
  | cons x r ih =>
    intro s h
    show (absorb rate (inB rate s x) r).2 = _
    have h1 : (inB rate s x).2 < rate ∧ (inB rate s x).2 % rate = (s.2 + 1) % rate := by
      unfold inB turn
      split
      · rename_i e
        have e' : s.2 + 1 = rate := e
        exact ⟨hr, by rw [e', Nat.mod_self]; rfl⟩
      · rename_i e
        have e' : ¬ s.2 + 1 = rate := e
        exact ⟨by show s.2 + 1 < rate; omega, rfl⟩
    rw [ih _ h1.1, Nat.add_mod, h1.2, ← Nat.add_mod, List.length_cons]
    congr 1; omega
theorem absorb_zeros (rate : Nat) (ws : List B64) : ∀ (k at_ : Nat), at_ + k < rate → absorb rate (ws, at_) (List.replicate k 0) = (ws, at_ + k)
  | 0, at_, _ => rfl
  | k + 1, at_, h => by
    show absorb rate (inB rate (ws, at_) 0) (List.replicate k 0) = _
    have e : inB rate (ws, at_) 0 = (ws, at_ + 1) := by
      unfold inB turn
      rw [if_neg (by show ¬ at_ + 1 = rate; omega)]
      show (flip ws at_ 0, at_ + 1) = _
      rw [flip_zero]
    rw [e, absorb_zeros rate ws k (at_ + 1) (by omega)]
    congr 1; omega
theorem padded_eq (rate : Nat) (hr : 8 ≤ rate) (hr2 : rate ≤ 192) (suf : B8) (l : List B8) :
    absorb rate (z25, 0) (padded rate suf l) = (perm (close rate suf (absorb rate (z25, 0) l)).1, 0) := by
  have hat := absorb_at rate (by omega) l (z25, 0) (by show 0 < rate; omega)
  have hf : Fits rate (absorb rate (z25, 0) l) := Fits.absorb l ⟨rfl, by show 0 < rate; omega⟩
  rw [Nat.zero_add] at hat
  rcases hs : absorb rate (z25, 0) l with ⟨ws, at_⟩
  rw [hs] at hat hf
  have hat : at_ = l.length % rate := hat
  have hlt : at_ < rate := hf.2
  have hws : ws.length = 25 := hf.1
  obtain ⟨k, hk, hak⟩ : ∃ k, (rate - (l.length + 1) % rate) % rate = k ∧ at_ + 1 + k = rate := by
    refine ⟨_, rfl, ?_⟩
    have h1 : (l.length + 1) % rate = (at_ + 1) % rate := by rw [hat, Nat.add_mod, Nat.mod_eq_of_lt (by omega : 1 < rate)]
    rcases Nat.lt_or_ge (at_ + 1) rate with h | h
    · rw [h1, Nat.mod_eq_of_lt h, Nat.mod_eq_of_lt (by omega : rate - (at_ + 1) < rate)]; omega
    · rw [h1, show at_ + 1 = rate by omega, Nat.mod_self, Nat.sub_zero, Nat.mod_self]; omega
  have hz : zpad rate (l ++ [suf]) = l ++ ([suf] ++ List.replicate k 0) := by
    unfold zpad
    rw [List.length_append, List.length_cons, List.length_nil, hk, List.append_assoc]
  have hp : padded rate suf l = l ++ ([suf] ++ List.replicate k 0).set k (([suf] ++ List.replicate k 0).getD k 0 ^^^ 128) := by
    show (zpad rate (l ++ [suf])).set ((zpad rate (l ++ [suf])).length - 1) ((zpad rate (l ++ [suf])).getD ((zpad rate (l ++ [suf])).length - 1) 0 ^^^ 128) = _
    have hlen : (zpad rate (l ++ [suf])).length - 1 = l.length + k := by rw [hz]; simp
    rw [hlen, hz, List.set_append_right _ _ (by omega), Nat.add_sub_cancel_left]
    congr 3
    rw [List.getD_eq_getElem?_getD, List.getD_eq_getElem?_getD, List.getElem?_append_right (by omega), Nat.add_sub_cancel_left]
  rw [hp, absorb_append, hs]
  unfold close
  cases k with
  | zero =>
    show turn rate (flip ws at_ (suf ^^^ 128), at_ + 1) = _
    unfold turn
    rw [if_pos (by show at_ + 1 = rate; omega)]
    rw [show rate - 1 = at_ by omega, flip_flip _ _ _ _ (by rw [hws]; omega)]
  | succ k =>
    have e : ([suf] ++ List.replicate (k + 1) 0).set (k + 1) (([suf] ++ List.replicate (k + 1) 0).getD (k + 1) 0 ^^^ 128) = [suf] ++ List.replicate k 0 ++ [128] := by
      have h1 : ([suf] ++ List.replicate (k + 1) (0 : B8)).getD (k + 1) 0 = 0 := by simp
      rw [h1, List.replicate_succ', ← List.append_assoc, List.set_append_right _ _ (by simp)]
      have h2 : k + 1 - ([suf] ++ List.replicate k (0 : B8)).length = 0 := by simp
      rw [h2]
      rfl
    rw [e, absorb_append, absorb_append]
    have e1 : absorb rate (ws, at_) [suf] = (flip ws at_ suf, at_ + 1) := by
      show turn rate (flip ws at_ suf, at_ + 1) = _
      unfold turn
      rw [if_neg (by show ¬ at_ + 1 = rate; omega)]
    rw [e1, absorb_zeros rate _ k (at_ + 1) (by omega)]
    show turn rate (flip (flip ws at_ suf) (at_ + 1 + k) 128, at_ + 1 + k + 1) = _
    unfold turn
    rw [if_pos (by show at_ + 1 + k + 1 = rate; omega)]
    rw [show at_ + 1 + k = rate - 1 by omega]
theorem squeeze_outs (rate : Nat) (hr : 8 ≤ rate) (hr8 : rate % 8 = 0) (a : List B64) (n : Nat) :
    (squeeze rate (a, rate) n).1 = (outs rate (perm a) n).1 ∧ (squeeze rate (a, rate) n).2 = (if n = 0 then (a, rate) else ((outs rate (perm a) n).2, (n - 1) % rate + 1)) := by
  induction n with
  | zero => exact ⟨rfl, rfl⟩
  | succ n ih =>
    obtain ⟨h1, h2⟩ := ih
    have hturn : turn rate (squeeze rate (a, rate) n).2 = ((outs rate (perm a) (n + 1)).2, n % rate) := by
      rw [h2, outs_succ]
      simp only [outStep]
      cases n with
      | zero =>
        rw [if_pos rfl, if_neg (by omega)]
        unfold turn
        rw [if_pos rfl, Nat.zero_mod]
        rfl
      | succ n =>
        rw [if_neg (by omega)]
        unfold turn
        have hlt := Nat.mod_lt n (show 0 < rate by omega)
        have hm : (n + 1) % rate = if n % rate + 1 = rate then 0 else n % rate + 1 := by
          rw [Nat.add_mod, Nat.mod_eq_of_lt (by omega : 1 < rate)]
          split
          · rename_i h; rw [h, Nat.mod_self]
          · rw [Nat.mod_eq_of_lt (by omega)]
        simp only [Nat.add_sub_cancel]
        split
        · rename_i h
          rw [if_pos h] at hm
          rw [if_pos ⟨by omega, hm⟩, hm]
        · rename_i h
          rw [if_neg h] at hm
          rw [if_neg (by omega), hm]
    rw [squeeze_succ]
    unfold outB
    rw [hturn]
    refine ⟨?_, ?_⟩
    · show (squeeze rate (a, rate) n).1 ++ [byteAt ((outs rate (perm a) (n + 1)).2, n % rate)] = _
      rw [h1]
      conv => rhs; rw [outs_succ]
      rw [outs_succ]
      simp only [outStep, byteAt]
      rw [Nat.mod_mod_of_dvd n (Nat.dvd_of_mod_eq_zero hr8)]
    · rw [if_neg (by omega), Nat.add_sub_cancel]
theorem refOut_eq (rate : Nat) (hr : 8 ≤ rate) (hr2 : rate ≤ 192) (hr8 : rate % 8 = 0) (suf : B8) (l : List B8) (n : Nat) :
    refOut rate suf l n = (squeeze rate (close rate suf (absorb rate (z25, 0) l)) n).1 := by
  have hp := padded_eq rate hr hr2 suf l
  have hm : rate * ((padded rate suf l).length / rate) = (padded rate suf l).length := by
    have h1 := Nat.div_add_mod (padded rate suf l).length rate
    have h2 := zpad_len (show 0 < rate by omega) (l ++ [suf])
    rw [← length_padded] at h2
    omega
  have hb := absorb_blocks rate (by omega) (padded rate suf l) ((padded rate suf l).length / rate) (by omega)
  rw [hm, List.take_length, hp] at hb
  unfold refOut
  rw [← (Prod.mk.inj hb).1]
  exact (squeeze_outs rate hr hr8 _ n).1.symm
end Go.Proofs.YtoeedbljiocpdaaDoor
