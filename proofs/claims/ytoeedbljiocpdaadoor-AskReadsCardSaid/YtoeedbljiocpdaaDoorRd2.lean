/- READERS OF BYTES: the document's. -/
import Derived.Test.YtoeedbljiocpdaaDoorRd
namespace Go.Proofs.YtoeedbljiocpdaaDoor
open Go Go.Ev
set_option maxRecDepth 20000
set_option linter.unusedVariables false
theorem _root_.Go.Ev.Own.mono' {w : World} {a b : Nat} {e : TypeId} {sz : Nat} {s : SlV} {vs : List Value} (h : Own w a e sz s vs) (hb : b ≤ a) : Own w b e sz s vs :=
  ⟨h.1, h.2.imp id fun ⟨g, cap, cur, h1, h2, h3⟩ => ⟨g, cap, cur, h1, Nat.le_trans hb h2, h3⟩⟩
theorem ref14_Reader_Number_ok (b : Nat) (B : SlV) (full : List B8) (x : SlV) (bad : Bool) (s : Option (List B8)) (lo hi : Int) (w : World) (hb : Blk w b [x.v, .bool bad] t_ref14_Reader) (hs : RdS B full x bad s) (hB : Bytes w B full) :
    Ok Pr f_ref14_Reader_Number [.pointer (some ⟨b, 0, none⟩), .int .i64 lo, .int .i64 hi] w fun v w' => v = .int .i64 (rNum lo hi s).1 ∧ RdAt w w' b t_ref14_Reader B full (rNum lo hi s).2 := by
  refine V_ref14_Reader_Number_of ?_
  unfold V_ref14_Reader_Number
  have H := Mine.start1 (r := .blk b [x.v, .bool bad] t_ref14_Reader) hb
  refine join0_of fun go hgo => join1_of fun go1 hgo1 => ?_
  have no : rNum lo hi s = (0, none) → go1 true w := fun e => by
    rw [e] at hgo1
    exact hgo1 true w (ite_true rfl (H.st 0 rfl (ad1 b 1) (by simp) rfl fun w' H => ⟨rfl, x, true, H.blk 0 rfl, rfl, H.mod⟩))
  refine H.ldB 0 rfl (ad1 b 1) rfl ?_
  cases s with
  | none =>
    have hs : bad = true := hs
    subst hs
    exact ite_true rfl (no rfl)
  | some l =>
    obtain ⟨rfl, ht⟩ := hs
    have hx := ht.byt w hB
    have hxl := hx.len
    refine ite_false rfl (H.ldL 0 rfl (ad1 b 0) rfl ?_)
    show go1 (decide (((x.n : Nat) : Int) < 8)) w
    by_cases hc : l.length < 8
    · rw [decide_eq_true (show ((x.n : Nat) : Int) < 8 by omega)]
      exact no (by rw [rNum_some, if_pos hc])
    · rw [decide_eq_false (show ¬ ((x.n : Nat) : Int) < 8 by omega)]
      have e2 : rNum lo hi (some l) = if numOf (l.take 8) < lo ∨ hi < numOf (l.take 8) then (0, none) else (numOf (l.take 8), some (l.drop 8)) := by rw [rNum_some, if_neg hc]
      rw [e2] at hgo
      refine hgo1 false w (ite_false rfl (hgo w ?_))
      refine loop2_up 0 8 (fun i (word : Int) w' => word = ((wd (l.take i)).toNat : Int) ∧ w' = w) rfl (by omega) ⟨rfl, rfl⟩ ?_ ?_
      · rintro again i word _ _ hi ⟨rfl, rfl⟩ hag
        refine ite_true (decide_eq_true (by omega)) (H.ldL 0 rfl (ad1 b 0) rfl (hx.ld (by omega) ?_))
        show again _ _ _
        rw [wd_step _ _ (by omega), wrap_i64 (by omega) (by omega)]
        exact hag _ _ ⟨rfl, rfl⟩
      · rintro again word _ ⟨rfl, rfl⟩
        refine ite_false (decide_eq_false (by omega)) (ite_intro (fun h => ?_) (fun h => ?_))
        · have h : numOf (l.take 8) < lo ∨ hi < numOf (l.take 8) := by simpa [numOf] using h
          rw [if_pos h]
          exact H.st 0 rfl (ad1 b 1) (by simp) rfl fun w3 H => ⟨rfl, x, true, H.blk 0 rfl, rfl, H.mod⟩
        · have h : ¬ (numOf (l.take 8) < lo ∨ hi < numOf (l.take 8)) := by
            simp only [Bool.or_eq_false_iff, decide_eq_false_iff_not] at h
            exact fun h2 => h2.elim h.1 h.2
          rw [if_neg h]
          refine H.ldL 0 rfl (ad1 b 0) rfl ⟨⟨by omega, by omega⟩, H.st 0 rfl (ad1 b 0) (by simp) rfl fun w3 H => ⟨rfl, _, false, H.blk 0 rfl, ⟨rfl, ht.drop 8 (by omega)⟩, H.mod⟩⟩
theorem ref14_Reader_Bytes_ok (b : Nat) (B : SlV) (full : List B8) (x : SlV) (bad : Bool) (s : Option (List B8)) (most : Int) (hm : 0 ≤ most) (w : World) (hb : Blk w b [x.v, .bool bad] t_ref14_Reader) (hs : RdS B full x bad s) (hB : Bytes w B full) (ho : off [b] B) (hl : full.length ≤ 1000000000) :
    Ok Pr f_ref14_Reader_Bytes [.pointer (some ⟨b, 0, none⟩), .int .i64 most] w fun v w' => ∃ y : SlV, v = .slice y.a y.n y.c ∧ Own w' w.heap.size t_uint8 1 y (u8s (rBytes most s).1) ∧ RdAt w w' b t_ref14_Reader B full (rBytes most s).2 := by
  refine V_ref14_Reader_Bytes_of ?_
  unfold V_ref14_Reader_Bytes
  rw [show max most (0 : Int) = most from Int.max_eq_left hm]
  refine call_of (ref14_Reader_Number_ok b B full x bad s 0 most w hb hs hB) ?_
  rintro _ w1 ⟨rfl, x1, bad1, hb1, hs1, m1⟩
  have hB1 := hB.mod m1 ho
  have hpos := rNum_pos (lo := 0) (hi := most) (by omega) s
  unfold rBytes
  generalize (rNum 0 most s).1 = n at *
  generalize (rNum 0 most s).2 = s1 at *
  obtain ⟨m, rfl⟩ : ∃ m : Nat, n = (m : Int) := ⟨n.toNat, by omega⟩
  have H := Mine.start1 (r := .blk b [x1.v, .bool bad1] t_ref14_Reader) hb1
  refine asI_i (join0_of fun go hgo => join1_of fun go1 hgo1 => ?_)
  have no : rTake (m : Int) s1 = ([], none) → go1 true w1 := fun e => by
    rw [e] at hgo1
    exact hgo1 true w1 (ite_true rfl (H.st 0 rfl (ad1 b 1) (by simp) rfl fun w' H => ⟨⟨none, 0, 0⟩, rfl, Own.nil _ _ _ _, x1, true, H.blk 0 rfl, rfl, m1.trans H.mod⟩))
  refine H.ldB 0 rfl (ad1 b 1) rfl ?_
  cases s1 with
  | none =>
    have hs1 : bad1 = true := hs1
    subst hs1
    exact ite_true rfl (no rfl)
  | some l =>
    obtain ⟨rfl, ht⟩ := hs1
    have hx := ht.byt w1 hB1
    have hxl := hx.len
    refine ite_false (by rw [decide_eq_false (show ¬ most < 0 by omega)]; rfl) (H.ldL 0 rfl (ad1 b 0) rfl ?_)
    show go1 (decide (((x1.n : Nat) : Int) < (m : Int))) w1
    by_cases hc : (l.length : Int) < (m : Int)
    · rw [decide_eq_true (show ((x1.n : Nat) : Int) < (m : Int) by omega)]
      exact no (by rw [rTake_some, if_pos hc])
    · rw [decide_eq_false (show ¬ ((x1.n : Nat) : Int) < (m : Int) by omega)]
      rw [rTake_some, if_neg hc] at hgo
      refine hgo1 false w1 (ite_false rfl (hgo w1 (H.ldL 0 rfl (ad1 b 0) rfl (hx.h m rfl (by omega) fun z hz hzb hzw => ?_))))
      have hBn : B.n ≤ 1000000000 := by rw [← hB.len]; exact hl
      have hxB := ht.within.1
      refine H.clone8 elt_u8 hzb (by omega) fun y w2 H _ => ?_
      refine H.ldL 0 rfl (ad1 b 0) rfl ⟨⟨by omega, by omega⟩, H.st 0 rfl (ad1 b 0) (by simp) rfl fun w3 H => ?_⟩
      simp only [Int.toNat_natCast] at H ⊢
      have hy := H.fresh 1 rfl (fun c hc hcb => H.apart 1 0 _ _ (by omega) rfl rfl c hc hcb)
      exact ⟨y, rfl, hy.mono' m1.size, _, false, H.blk 0 rfl, ⟨rfl, ht.drop m (by omega)⟩, m1.trans H.mod⟩
theorem ref14_Reader_End_ok (b : Nat) (B : SlV) (full : List B8) (x : SlV) (bad : Bool) (s : Option (List B8)) (w : World) (hb : Blk w b [x.v, .bool bad] t_ref14_Reader) (hs : RdS B full x bad s) (hB : Bytes w B full) :
    Ok Pr f_ref14_Reader_End [.pointer (some ⟨b, 0, none⟩)] w fun v w' => v = .int .i64 (if rEnd s = true then 0 else 4) ∧ w' = w := by
  refine V_ref14_Reader_End_of ?_
  unfold V_ref14_Reader_End
  have hc : ∀ (i : Nat) (v : Value), ([x.v, .bool bad] : List Value)[i]? = some v → w.cell? ⟨b, i, none⟩ = some v := fun i v hv => by rw [hb.cell i]; exact hv
  refine ⟨bad, hc 1 _ rfl, ?_⟩
  cases s with
  | none =>
    have hs : bad = true := hs
    subst hs
    exact ite_true rfl ⟨rfl, rfl⟩
  | some l =>
    obtain ⟨rfl, ht⟩ := hs
    have hxl := (ht.byt w hB).len
    refine ite_false rfl ⟨x, hc 0 _ rfl, ?_⟩
    by_cases hl : l = []
    · subst hl
      have h0 : x.n = 0 := by simpa using hxl.symm
      exact ite_false (decide_eq_false (by omega)) ⟨rfl, rfl⟩
    · have h0 : 0 < l.length := List.length_pos_iff.2 hl
      refine ite_true (decide_eq_true (by omega)) ⟨?_, rfl⟩
      have : rEnd (some l) = false := decide_eq_false hl
      rw [this]; rfl
end Go.Proofs.YtoeedbljiocpdaaDoor
