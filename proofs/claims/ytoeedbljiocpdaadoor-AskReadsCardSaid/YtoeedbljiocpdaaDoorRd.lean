/- READERS OF BYTES: what is left, or that something was wrong: the program's and the document's. -/
import Derived.Test.YtoeedbljiocpdaaDoorCode
import Derived.Test.YtoeedbljiocpdaaDoorErrs
namespace Go.Proofs.YtoeedbljiocpdaaDoor
open Go Go.Ev
set_option maxRecDepth 20000
set_option linter.unusedVariables false
/-- bytes as one word -/
def wd (l : List B8) : B64 := l.foldl (fun a x => (a <<< 8) ||| x.setWidth 64) 0
theorem wd_append (l : List B8) (x : B8) : wd (l ++ [x]) = (wd l <<< 8) ||| x.setWidth 64 := by simp [wd]
def numOf (l : List B8) : Int := IntKind.wrap .i64 ((wd l).toNat : Int)
/-- the next number, and what is left; none: something was wrong -/
def rNum (lo hi : Int) : Option (List B8) → Int × Option (List B8)
  | none => (0, none)
  | some l => if l.length < 8 then (0, none) else if numOf (l.take 8) < lo ∨ hi < numOf (l.take 8) then (0, none) else (numOf (l.take 8), some (l.drop 8))
/-- the next bytes, so many -/
def rTake (n : Int) : Option (List B8) → List B8 × Option (List B8)
  | none => ([], none)
  | some l => if (l.length : Int) < n then ([], none) else (l.take n.toNat, some (l.drop n.toNat))
theorem rTake_some (n : Int) (l : List B8) : rTake n (some l) = if (l.length : Int) < n then ([], none) else (l.take n.toNat, some (l.drop n.toNat)) := rfl
theorem rNum_some (lo hi : Int) (l : List B8) : rNum lo hi (some l) = if l.length < 8 then (0, none) else if numOf (l.take 8) < lo ∨ hi < numOf (l.take 8) then (0, none) else (numOf (l.take 8), some (l.drop 8)) := rfl
def rBytes (most : Int) (s : Option (List B8)) : List B8 × Option (List B8) := rTake (rNum 0 most s).1 (rNum 0 most s).2
def rEnd : Option (List B8) → Bool
  | none => false
  | some l => decide (l = [])
theorem rNum_pos {lo hi : Int} (h : 0 ≤ lo) (s : Option (List B8)) : 0 ≤ (rNum lo hi s).1 := by
  unfold rNum
  split
  · exact Int.le_refl 0
  · split
    · exact Int.le_refl 0
    · split
      · exact Int.le_refl 0
      · rename_i h1
        have : ¬ numOf _ < lo := fun h2 => h1 (.inl h2)
        show 0 ≤ numOf _
        omega
/-- a slice of a slice, whatever the world -/
structure Tail (B : SlV) (full : List B8) (x : SlV) (l : List B8) : Prop where
  byt : ∀ w, Bytes w B full → Bytes w x l
  within : Within x B
  cap : B.n ≤ B.c → x.n ≤ x.c ∧ x.c ≤ B.c
  shape : ∀ g, B.a = some ⟨g, 0, none⟩ → B.n ≤ B.c → x.n ≤ x.c ∧ ((x.a = none ∧ x.c = 0) ∨ ∃ off, x.a = some ⟨g, off, none⟩ ∧ off + x.c ≤ B.c)
theorem Tail.self (B : SlV) (full : List B8) : Tail B full B full := ⟨fun _ h => h, ⟨Nat.le_refl _, fun a ha => ⟨a, ha, rfl⟩⟩, fun h => ⟨h, Nat.le_refl _⟩, fun g hg hn => ⟨hn, .inr ⟨0, hg, by omega⟩⟩⟩
theorem Tail.nil (B : SlV) (full : List B8) : Tail B full ⟨none, 0, 0⟩ [] := ⟨fun w _ => Bytes.nil w, ⟨Nat.zero_le _, fun a ha => by cases ha⟩, fun _ => ⟨Nat.le_refl _, Nat.zero_le _⟩, fun g hg hn => ⟨Nat.le_refl _, .inl ⟨rfl, rfl⟩⟩⟩
theorem Within.trans {x y z : SlV} (h : Within x y) (k : Within y z) : Within x z := ⟨Nat.le_trans h.1 k.1, fun a ha => by
  obtain ⟨b, hb, e1⟩ := h.2 a ha
  obtain ⟨c, hc, e2⟩ := k.2 b hb
  exact ⟨c, hc, e1.trans e2⟩⟩
/-- a reader's state -/
def RdS (B : SlV) (full : List B8) (x : SlV) (bad : Bool) : Option (List B8) → Prop
  | none => bad = true
  | some l => bad = false ∧ Tail B full x l
theorem Tail.drop {B : SlV} {full : List B8} {x : SlV} {l : List B8} (h : Tail B full x l) (k : Nat) (hk : k ≤ x.n) : Tail B full ⟨sub x.a k x.c 1, x.n - k, x.c - k⟩ (l.drop k) := by
  refine ⟨fun w hB => ?_, Within.trans (Within.part x k _ _ _ _ (by omega)) h.within, fun hn => by have := h.cap hn; exact ⟨by show x.n - k ≤ x.c - k; omega, by show x.c - k ≤ B.c; omega⟩, fun g hg hn => ?_⟩
  rotate_left
  · obtain ⟨h1, h2⟩ := h.shape g hg hn
    refine ⟨by show x.n - k ≤ x.c - k; omega, ?_⟩
    unfold sub
    rcases h2 with ⟨h2, h3⟩ | ⟨off, h2, h3⟩
    · refine .inl ⟨?_, by show x.c - k = 0; omega⟩
      show (if x.c = k then x.a else _) = none
      rw [h2]
      split <;> rfl
    · by_cases hk2 : x.c = k
      · refine .inr ⟨off, ?_, by show off + (x.c - k) ≤ B.c; omega⟩
        show (if x.c = k then x.a else _) = _
        rw [if_pos hk2, h2]
      · refine .inr ⟨off + k, ?_, by show off + k + (x.c - k) ≤ B.c; omega⟩
        show (if x.c = k then x.a else _) = _
        rw [if_neg hk2, h2]
        show some (Addr.add ⟨g, off, none⟩ (k * 1)) = _
        rw [Nat.mul_one, Addr.add_lit]
  have h1 := h.byt w hB
  have := Sl.part h1 (by omega) k x.n hk (Nat.le_refl _)
  rw [List.take_of_length_le (by rw [List.length_drop, Sl.len h1, Nat.sub_mul]; exact Nat.le_refl _)] at this
  simp only [Nat.mul_one, u8s_drop] at this
  exact this
theorem Tail.head {B : SlV} {full : List B8} {x : SlV} {l : List B8} (h : Tail B full x l) (k : Nat) (hk : k ≤ x.n) : Tail B full ⟨x.a, k, k⟩ (l.take k) := by
  refine ⟨fun w hB => ?_, Within.trans ⟨hk, fun a ha => ⟨a, ha, rfl⟩⟩ h.within, fun hn => by have := h.cap hn; exact ⟨Nat.le_refl _, by show k ≤ B.c; omega⟩, fun g hg hn => ?_⟩
  rotate_left
  · obtain ⟨h1, h2⟩ := h.shape g hg hn
    refine ⟨Nat.le_refl _, ?_⟩
    rcases h2 with ⟨h2, h3⟩ | ⟨off, h2, h3⟩
    · exact .inl ⟨h2, by show k = 0; omega⟩
    · exact .inr ⟨off, h2, by show off + k ≤ B.c; omega⟩
  have h1 := h.byt w hB
  have hl := h1.len
  refine ⟨?_, Nat.le_refl _, fun h0 => h1.pre (Nat.lt_of_lt_of_le h0 hk), fun i v hv => ?_⟩
  · simp only [length_u8s, List.length_take]
    show min k l.length = k * 1
    omega
  · rw [← u8s_take, List.getElem?_take] at hv
    split at hv
    · exact h1.cell i v hv
    · cases hv
/-- what a reading leaves -/
def RdAt (w w' : World) (b : Nat) (t : TypeId) (B : SlV) (full : List B8) (s : Option (List B8)) : Prop :=
  ∃ (x : SlV) (bad : Bool), Blk w' b [x.v, .bool bad] t ∧ RdS B full x bad s ∧ Mod [b] w w'
theorem code_Reader_take_ok (b : Nat) (B : SlV) (full : List B8) (x : SlV) (bad : Bool) (s : Option (List B8)) (n : Int) (h0 : 0 ≤ n) (w : World) (hb : Blk w b [x.v, .bool bad] t_code_Reader) (hs : RdS B full x bad s) (hB : Bytes w B full) :
    Ok Pr f_code_Reader_take [.pointer (some ⟨b, 0, none⟩), .int .i64 n] w fun v w' => ∃ y : SlV, v = .slice y.a y.n y.c ∧ Tail B full y (rTake n s).1 ∧ RdAt w w' b t_code_Reader B full (rTake n s).2 := by
  refine V_code_Reader_take_of ?_
  unfold V_code_Reader_take
  have H := Mine.start1 (r := .blk b [x.v, .bool bad] t_code_Reader) hb
  obtain ⟨m, rfl⟩ : ∃ m : Nat, n = (m : Int) := ⟨n.toNat, by omega⟩
  refine join0_of fun go hgo => join1_of fun go1 hgo1 => ite_false rfl ?_
  have no : (rTake (m : Int) s) = ([], none) → go1 true w := by
    intro e
    rw [e] at hgo
    refine hgo1 true w (ite_true rfl (ite_true rfl (H.st 0 rfl (ad1 b 1) (by simp) rfl fun w' H => ?_)))
    rw [e]
    exact ⟨⟨none, 0, 0⟩, rfl, Tail.nil _ _, x, true, H.blk 0 rfl, rfl, H.mod⟩
  refine H.ldB 0 rfl (ad1 b 1) rfl ?_
  cases s with
  | none =>
    have hs : bad = true := hs
    subst hs
    exact ite_true rfl (no rfl)
  | some l =>
    obtain ⟨rfl, ht⟩ := hs
    have hx := ht.byt w hB
    have hxl := hx.len
    have hcap := Sl.cap hx
    refine ite_false rfl (H.ldL 0 rfl (ad1 b 0) rfl ?_)
    by_cases hc : (l.length : Int) < (m : Int)
    · rw [decide_eq_true (show ((x.n : Nat) : Int) < (m : Int) by omega)]
      exact no (by rw [rTake_some, if_pos hc])
    · have e : rTake (m : Int) (some l) = (l.take m, some (l.drop m)) := by rw [rTake_some, if_neg hc]; rfl
      rw [decide_eq_false (show ¬ ((x.n : Nat) : Int) < (m : Int) by omega)]
      refine hgo1 false w (ite_false rfl (hgo w (H.ldL 0 rfl (ad1 b 0) rfl ⟨⟨by omega, by omega, by omega⟩, H.ldL 0 rfl (ad1 b 0) rfl ⟨⟨by omega, by omega⟩, ?_⟩⟩)))
      refine H.st 0 rfl (ad1 b 0) (by simp) rfl fun w' H => ?_
      rw [e]
      simp only [Int.toNat_natCast] at H ⊢
      exact ⟨_, rfl, ht.head m (by omega), _, false, H.blk 0 rfl, ⟨rfl, ht.drop m (by omega)⟩, H.mod⟩
theorem wrap_u64_8 (x : B8) : IntKind.wrap .u64 (x.toNat : Int) = ((x.setWidth 64 : B64).toNat : Int) := by
  have := x.isLt
  rw [wrap_u64, BitVec.toNat_setWidth]
  omega
theorem wd_step (l : List B8) (i : Nat) (hi : i < l.length) : orI .u64 (shl .u64 ((wd (l.take i)).toNat : Int) 8) (IntKind.wrap .u64 ((l.getD i 0).toNat : Int)) = ((wd (l.take (i + 1))).toNat : Int) := by
  rw [take_succ_getD _ _ hi 0, wd_append, wrap_u64_8, show (8 : Int) = ((8 : Nat) : Int) from rfl, shl64, or64]
theorem code_Reader_Number_ok (b : Nat) (B : SlV) (full : List B8) (x : SlV) (bad : Bool) (s : Option (List B8)) (lo hi : Int) (w : World) (hb : Blk w b [x.v, .bool bad] t_code_Reader) (hs : RdS B full x bad s) (hB : Bytes w B full) (ho : off [b] B) :
    Ok Pr f_code_Reader_Number [.pointer (some ⟨b, 0, none⟩), .int .i64 lo, .int .i64 hi] w fun v w' => v = .int .i64 (rNum lo hi s).1 ∧ RdAt w w' b t_code_Reader B full (rNum lo hi s).2 := by
  refine V_code_Reader_Number_of ?_
  unfold V_code_Reader_Number
  refine call_of (code_Reader_take_ok b B full x bad s 8 (by omega) w hb hs hB) ?_
  rintro _ w1 ⟨y, rfl, hy, x1, bad1, hb1, hs1, m1⟩
  have hB1 := hB.mod m1 ho
  have hy1 := hy.byt w1 hB1
  have hyl := hy1.len
  refine asSl_s ?_
  have stop : ∀ {X : Prop}, rTake 8 s = ([], none) → rNum lo hi s = (0, none) → iteP (decide (((y.n : Nat) : Int) = 0)) (Value.int .i64 0 = .int .i64 (rNum lo hi s).1 ∧ RdAt w w1 b t_code_Reader B full (rNum lo hi s).2) X := by
    intro X e e2
    rw [e] at hyl hs1
    have h0 : y.n = 0 := by simpa using hyl.symm
    refine ite_true (decide_eq_true (by omega)) ?_
    rw [e2]
    exact ⟨rfl, x1, bad1, hb1, hs1, m1⟩
  cases s with
  | none => exact stop rfl rfl
  | some l =>
    by_cases hc : l.length < 8
    · exact stop (by rw [rTake_some, if_pos (by omega)]) (by rw [rNum_some, if_pos hc])
    have e : rTake 8 (some l) = (l.take 8, some (l.drop 8)) := by rw [rTake_some, if_neg (by omega)]; rfl
    rw [e] at hy1 hyl hs1
    have e2 : rNum lo hi (some l) = if numOf (l.take 8) < lo ∨ hi < numOf (l.take 8) then (0, none) else (numOf (l.take 8), some (l.drop 8)) := by rw [rNum_some, if_neg hc]
    rw [e2]
    have h8 : (l.take 8).length = 8 := by rw [List.length_take]; omega
    simp only at hy1 hyl hs1
    generalize l.take 8 = a at *
    generalize l.drop 8 = r at *
    refine ite_false (decide_eq_false (by omega)) ?_
    refine loop2_up 0 8 (fun i (word : Int) w' => word = ((wd (a.take i)).toNat : Int) ∧ w' = w1) rfl (by omega) ⟨rfl, rfl⟩ ?_ ?_
    · rintro again i word _ _ hi ⟨rfl, rfl⟩ hag
      refine ite_true (decide_eq_true (by omega)) (hy1.ld (by omega) ?_)
      show again _ _ _
      rw [wd_step _ _ (by omega), wrap_i64 (by omega) (by omega)]
      exact hag _ _ ⟨rfl, rfl⟩
    · rintro again word _ ⟨rfl, rfl⟩
      rw [List.take_of_length_le (by omega)]
      refine ite_false (decide_eq_false (by omega)) (ite_intro (fun h => ?_) (fun h => ?_))
      · have h : numOf a < lo ∨ hi < numOf a := by simpa [numOf] using h
        rw [if_pos h]
        have H := Mine.start1 (r := .blk b [x1.v, .bool bad1] t_code_Reader) hb1
        exact H.st 0 rfl (ad1 b 1) (by simp) rfl fun w3 H => ⟨rfl, x1, true, H.blk 0 rfl, rfl, m1.trans H.mod⟩
      · have h : ¬ (numOf a < lo ∨ hi < numOf a) := by
          simp only [Bool.or_eq_false_iff, decide_eq_false_iff_not] at h
          exact fun h2 => h2.elim h.1 h.2
        rw [if_neg h]
        exact ⟨rfl, x1, bad1, hb1, hs1, m1⟩
theorem code_Reader_Bytes_ok (b : Nat) (B : SlV) (full : List B8) (x : SlV) (bad : Bool) (s : Option (List B8)) (most : Int) (w : World) (hb : Blk w b [x.v, .bool bad] t_code_Reader) (hs : RdS B full x bad s) (hB : Bytes w B full) (ho : off [b] B) :
    Ok Pr f_code_Reader_Bytes [.pointer (some ⟨b, 0, none⟩), .int .i64 most] w fun v w' => ∃ y : SlV, v = .slice y.a y.n y.c ∧ Tail B full y (rBytes most s).1 ∧ RdAt w w' b t_code_Reader B full (rBytes most s).2 := by
  refine V_code_Reader_Bytes_of ?_
  unfold V_code_Reader_Bytes
  refine call_of (code_Reader_Number_ok b B full x bad s 0 most w hb hs hB ho) ?_
  rintro _ w1 ⟨rfl, x1, bad1, hb1, hs1, m1⟩
  refine asI_i (call_of (code_Reader_take_ok b B full x1 bad1 _ _ (rNum_pos (by omega) s) w1 hb1 hs1 (hB.mod m1 ho)) ?_)
  rintro _ w2 ⟨y, rfl, hy, x2, bad2, hb2, hs2, m2⟩
  exact asSl_s ⟨y, rfl, hy, x2, bad2, hb2, hs2, m1.trans m2⟩
theorem code_Reader_Text_ok (b : Nat) (B : SlV) (full : List B8) (x : SlV) (bad : Bool) (s : Option (List B8)) (most : Int) (w : World) (hb : Blk w b [x.v, .bool bad] t_code_Reader) (hs : RdS B full x bad s) (hB : Bytes w B full) (ho : off [b] B) :
    Ok Pr f_code_Reader_Text [.pointer (some ⟨b, 0, none⟩), .int .i64 most] w fun v w' => v = .string (strOf (rBytes most s).1) ∧ RdAt w w' b t_code_Reader B full (rBytes most s).2 := by
  refine V_code_Reader_Text_of ?_
  unfold V_code_Reader_Text
  refine call_of (code_Reader_Bytes_ok b B full x bad s most w hb hs hB ho) ?_
  rintro _ w1 ⟨y, rfl, hy, hr⟩
  have m : Mod [b] w w1 := by obtain ⟨_, _, _, _, m⟩ := hr; exact m
  exact asSl_s (b2s_of (hy.byt w1 (hB.mod m ho)) ⟨rfl, hr⟩)
theorem code_Reader_End_ok (b : Nat) (B : SlV) (full : List B8) (x : SlV) (bad : Bool) (s : Option (List B8)) (w : World) (hb : Blk w b [x.v, .bool bad] t_code_Reader) (hs : RdS B full x bad s) (hB : Bytes w B full) :
    Ok Pr f_code_Reader_End [.pointer (some ⟨b, 0, none⟩)] w fun v w' => IsErr w w' v (if rEnd s = true then 0 else 4) ∧ Mod [] w w' := by
  refine V_code_Reader_End_of ?_
  unfold V_code_Reader_End
  have hc : ∀ (i : Nat) (v : Value), ([x.v, .bool bad] : List Value)[i]? = some v → w.cell? ⟨b, i, none⟩ = some v := fun i v hv => by rw [hb.cell i]; exact hv
  refine ite_false rfl (join1_of fun go hgo => ⟨bad, hc 1 _ rfl, ?_⟩)
  have no : rEnd s = false → go true w := fun e => by
    rw [e] at hgo
    refine hgo true w (ite_true rfl (nw_blk fun p w' hp h1 h2 _ => ⟨?_, h2⟩))
    rw [if_neg (by decide)]
    exact IsErr.mk h1 (by omega) (by decide)
  cases s with
  | none =>
    have hs : bad = true := hs
    subst hs
    exact ite_true rfl (no rfl)
  | some l =>
    obtain ⟨rfl, ht⟩ := hs
    have hxl := (ht.byt w hB).len
    refine ite_false rfl ⟨x, hc 0 _ rfl, ?_⟩
    by_cases hl : l = []
    · subst hl
      have h0 : x.n = 0 := by simpa using hxl.symm
      show go (decide ((0 : Int) < ((x.n : Nat) : Int))) w
      rw [decide_eq_false (show ¬ (0 : Int) < ((x.n : Nat) : Int) by omega)]
      exact hgo false w (ite_false rfl ⟨IsErr.zero _ _, Mod.refl _ _⟩)
    · have h0 : 0 < l.length := List.length_pos_iff.2 hl
      show go (decide ((0 : Int) < ((x.n : Nat) : Int))) w
      rw [decide_eq_true (show (0 : Int) < ((x.n : Nat) : Int) by omega)]
      exact no (decide_eq_false hl)
end Go.Proofs.YtoeedbljiocpdaaDoor
