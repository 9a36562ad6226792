/- ERRORS AS PARTS OF A CALL'S OWN MEMORY; answers of a list and an error: words of this claim's author. -/
import Derived.Test.YtoeedbljiocpdaaDoorNum
import Derived.Test.YtoeedbljiocpdaaDoorNums
namespace Go.Ev
open Go Go.RowKit
/-- a part that is there already -/
theorem Mine.add {w0 w : World} {S : List Nat} {L : List Res} {r : Res} (H : Mine w0 S w L) (hr : r.ok w) (ho : ∀ b ∈ r.fp, b ∈ S ∨ w0.heap.size ≤ b) (hd : ∀ (k : Nat) (s : Res), L[k]? = some s → ∀ b ∈ s.fp, b ∉ r.fp) : Mine w0 S w (L ++ [r]) := by
  have e : ∀ {k : Nat} {s : Res}, (L ++ [r])[k]? = some s → (L[k]? = some s ∧ k < L.length) ∨ (s = r ∧ k = L.length) := fun {k s} h => by
    rcases Nat.lt_or_ge k L.length with hk | hk
    · rw [List.getElem?_append_left hk] at h; exact .inl ⟨h, hk⟩
    · rw [List.getElem?_append_right hk] at h
      rcases Nat.eq_zero_or_pos (k - L.length) with e | e
      · rw [e] at h; simp at h; exact .inr ⟨h.symm, by omega⟩
      · rw [List.getElem?_eq_none (by simp; omega)] at h; cases h
  refine ⟨H.mod, fun k s hs => ?_, fun k s hs b hb => ?_, fun j k s t hjk hs ht b hb hb' => ?_⟩
  · rcases e hs with ⟨h, _⟩ | ⟨rfl, _⟩
    · exact H.ok k s h
    · exact hr
  · rcases e hs with ⟨h, _⟩ | ⟨rfl, _⟩
    · exact H.own k s h b hb
    · exact ho b hb
  · rcases e hs with ⟨h, _⟩ | ⟨rfl, hj⟩
    · rcases e ht with ⟨h', _⟩ | ⟨rfl, _⟩
      · exact H.apart j k s t hjk h h' b hb hb'
      · exact hd j s h b hb hb'
    · rcases e ht with ⟨h', _⟩ | ⟨rfl, hk⟩
      · exact hd k t h' b hb' hb
      · omega
/-- two parts that a call hands out -/
theorem Mine.push2 {w0 w w' : World} {S : List Nat} {L : List Res} {r s : Res} (H : Mine w0 S w L) (m : Mod [] w w') (hr : r.ok w') (hs : s.ok w') (hrf : ∀ b ∈ r.fp, w.heap.size ≤ b) (hsf : ∀ b ∈ s.fp, w.heap.size ≤ b) (hd : ∀ b ∈ r.fp, b ∉ s.fp) : Mine w0 S w' (L ++ [r, s]) := by
  have H1 := H.push m hr hrf
  have H2 := H1.add hs (fun b hb => .inr (Nat.le_trans H.mod.size (hsf b hb))) fun k t ht b hb hb' => by
    rcases Nat.lt_or_ge k L.length with hk | hk
    · rw [List.getElem?_append_left hk] at ht
      have := t.lt w (H.ok k t ht) b hb
      have := hsf b hb'
      omega
    · rw [List.getElem?_append_right hk] at ht
      rcases Nat.eq_zero_or_pos (k - L.length) with e | e
      · rw [e] at ht; simp at ht; subst ht; exact hd b hb hb'
      · rw [List.getElem?_eq_none (by simp; omega)] at ht; cases ht
  rw [List.append_assoc] at H2
  exact H2
/-- 'append([]T(nil), x...)' -/
theorem Mine.clone {P : Program} {w0 w : World} {S : List Nat} {L : List Res} (H : Mine w0 S w L) {t ty e : TypeId} {sz bytes : Nat} {x : SlV} {us : List Value} {K : SlV → World → Prop} (hel : Elt P t e sz bytes) (hx : Sl w x sz us) (h1 : ∀ u ∈ us, isOne u = true) (hm : x.n * bytes ≤ 140737488355328) (hm2 : x.n ≤ 9223372036854775807)
    (h : ∀ s' w', Mine w0 S w' (L ++ [.row e sz s' us]) → s'.n = x.n → K s' w') : appK P [t, t] ty [.slice none 0 0, .slice x.a x.n x.c] w K := by
  have H1 := H.nilrow e sz
  refine H1.app (s := ⟨none, 0, 0⟩) (vs := []) L.length hel (by simp) hx h1 (by rw [Nat.zero_add]; exact hm) (by rw [Nat.zero_add]; exact hm2) fun s' w' H' hn => h s' w' ?_ (by rw [hn]; exact Nat.zero_add _)
  rw [List.set_append_right _ _ (Nat.le_refl _), Nat.sub_self, List.nil_append] at H'
  exact H'
theorem Mine.clone8 {P : Program} {w0 w : World} {S : List Nat} {L : List Res} (H : Mine w0 S w L) {t ty e : TypeId} {x : SlV} {us : List B8} {K : SlV → World → Prop} (hel : Elt P t e 1 1) (hx : Bytes w x us) (hm : x.n ≤ 10000000000000)
    (h : ∀ s' w', Mine w0 S w' (L ++ [.row e 1 s' (u8s us)]) → s'.n = x.n → K s' w') : appK P [t, t] ty [.slice none 0 0, .slice x.a x.n x.c] w K :=
  H.clone hel hx (ones_u8s us) (by omega) (by omega) h
theorem Mine.cloneN {P : Program} {w0 w : World} {S : List Nat} {L : List Res} (H : Mine w0 S w L) {t ty e : TypeId} {x : SlV} {us : List Int} {K : SlV → World → Prop} (hel : Elt P t e 1 8) (hx : Nums w x us) (hm : x.n ≤ 10000000000000)
    (h : ∀ s' w', Mine w0 S w' (L ++ [.row e 1 s' (i64s us)]) → s'.n = x.n → K s' w') : appK P [t, t] ty [.slice none 0 0, .slice x.a x.n x.c] w K :=
  H.clone hel hx (ones_i64s us) (by omega) (by omega) h
end Go.Ev
namespace Go.Proofs.YtoeedbljiocpdaaDoor
open Go Go.Ev
/-- an error of this number, or none (0) -/
def ErrAt (w : World) (e : Value) (c : Int) : Prop := (e = .nilIface ∧ c = 0) ∨ ∃ b s, e = .iface t_p_api_Fault (.pointer (some ⟨b, 0, none⟩)) ∧ Blk w b [.int .i64 c, .string s] t_api_Fault ∧ c ≠ 0
def errB : Value → List Nat
  | .iface _ (.pointer (some a)) => [a.block]
  | _ => []
def Res.err (e : Value) (c : Int) : Res where
  fp := errB e
  ok w := ErrAt w e c
  stab w w' h k := by
    rcases k with k | ⟨b, s, rfl, hb, hc⟩
    · exact .inl k
    · exact .inr ⟨b, s, rfl, (h b (by simp [errB])).trans hb, hc⟩
  lt w h b hb := by
    rcases h with ⟨rfl, _⟩ | ⟨a, s, rfl, h, _⟩
    · cases hb
    · simp only [errB, List.mem_singleton] at hb; subst hb; exact h.lt
def IsErr (w w' : World) (e : Value) (c : Int) : Prop := ErrAt w' e c ∧ ∀ b ∈ errB e, w.heap.size ≤ b
theorem IsErr.zero (w w' : World) : IsErr w w' .nilIface 0 := ⟨.inl ⟨rfl, rfl⟩, fun b hb => by cases hb⟩
theorem IsErr.mk {w w' : World} {b : Nat} {c : Int} {s : ByteArray} (h : Blk w' b [.int .i64 c, .string s] t_api_Fault) (hb : w.heap.size ≤ b) (hc : c ≠ 0) : IsErr w w' (.iface t_p_api_Fault (.pointer (some ⟨b, 0, none⟩))) c :=
  ⟨.inr ⟨b, s, rfl, h, hc⟩, fun a ha => by simp only [errB, List.mem_singleton] at ha; subst ha; exact hb⟩
theorem IsErr.from {w0 w w' : World} {e : Value} {c : Int} (h : IsErr w w' e c) (hs : w0.heap.size ≤ w.heap.size) : IsErr w0 w' e c := ⟨h.1, fun b hb => Nat.le_trans hs (h.2 b hb)⟩
theorem ErrAt.mod {w w' : World} {e : Value} {c : Int} (h : ErrAt w e c) (m : Mod [] w w') : ErrAt w' e c := by
  rcases h with k | ⟨b, s, rfl, hb, hc⟩
  · exact .inl k
  · exact .inr ⟨b, s, rfl, hb.mod0 m, hc⟩
theorem IsErr.mod {w0 w w' : World} {e : Value} {c : Int} (h : IsErr w0 w e c) (m : Mod [] w w') : IsErr w0 w' e c := ⟨h.1.mod m, h.2⟩
/-- is there one? -/
theorem ErrAt.isNil {w : World} {e : Value} {c : Int} (h : ErrAt w e c) {K : Bool → Prop} (hk : K (decide (c = 0))) : ifaceNil e K := by
  rcases h with ⟨rfl, rfl⟩ | ⟨b, s, rfl, _, hc⟩
  · exact hk
  · rw [decide_eq_false hc] at hk; exact hk
theorem law0_Num_err (e : Value) (c : Int) (w : World) (hg : Laid w) (h : ErrAt w e c) : Ok Pr f_law0_Num [e] w fun v w' => v = .int .i64 c ∧ Mod [] w w' := by
  rcases h with ⟨rfl, rfl⟩ | ⟨b, s, rfl, hb, hc⟩
  · refine (law0_Num_nil w).mono ?_
    rintro _ _ ⟨rfl, rfl⟩
    exact ⟨rfl, Mod.refl _ _⟩
  · exact law0_Num_ok b c s w hg hb hc
/-- a list and an error -/
def Gave2 (e : TypeId) (sz : Nat) (w w' : World) (v : Value) (vs : List Value) (c : Int) : Prop :=
  ∃ (y : SlV) (er : Value), v = .tuple ⟨[.slice y.a y.n y.c, er]⟩ ∧ Own w' w.heap.size e sz y vs ∧ IsErr w w' er c ∧ (c ≠ 0 → y = ⟨none, 0, 0⟩) ∧ Mod [] w w'
/-- a list and a number -/
def GaveC (e : TypeId) (sz : Nat) (w w' : World) (v : Value) (vs : List Value) (c : Int) : Prop :=
  ∃ y : SlV, v = .tuple ⟨[.slice y.a y.n y.c, .int .i64 c]⟩ ∧ Own w' w.heap.size e sz y vs ∧ Mod [] w w'
theorem Gave2.no {e : TypeId} {sz : Nat} {w w' : World} {er : Value} {c : Int} (h : IsErr w w' er c) (m : Mod [] w w') : Gave2 e sz w w' (.tuple ⟨[.slice none 0 0, er]⟩) [] c :=
  ⟨⟨none, 0, 0⟩, er, rfl, Own.nil _ _ _ _, h, fun _ => rfl, m⟩
theorem Gave2.yes {e : TypeId} {sz : Nat} {w w' : World} {y : SlV} {vs : List Value} (h : Own w' w.heap.size e sz y vs) (m : Mod [] w w') : Gave2 e sz w w' (.tuple ⟨[.slice y.a y.n y.c, .nilIface]⟩) vs 0 :=
  ⟨y, .nilIface, rfl, h, IsErr.zero _ _, fun h => absurd rfl h, m⟩
theorem _root_.Go.Ev.Mine.got2 {w0 w w' : World} {S : List Nat} {L : List Res} (H : Mine w0 S w L) {e : TypeId} {sz : Nat} {y : SlV} {er : Value} {vs : List Value} {c : Int} (m : Mod [] w w') (hy : Own w' w.heap.size e sz y vs) (he : IsErr w w' er c) (hn : c ≠ 0 → y = ⟨none, 0, 0⟩) :
    Mine w0 S w' (L ++ [.row e sz y vs, Res.err er c]) :=
  Mine.push2 H m hy.lo he.1 (fun b hb => (Own.row_ge hy b hb).1) he.2 fun b hb hb' => by
    rcases he.1 with ⟨rfl, _⟩ | ⟨_, _, _, _, hc⟩
    · cases hb'
    · rw [hn hc] at hb; cases hb
theorem _root_.Go.Ev.Mine.err {w0 w : World} {S : List Nat} {L : List Res} (H : Mine w0 S w L) (k : Nat) {e : Value} {c : Int} (hk : L[k]? = some (Res.err e c)) : ErrAt w e c := H.ok k _ hk
/-- an error alone -/
theorem _root_.Go.Ev.Mine.gotE {w0 w w' : World} {S : List Nat} {L : List Res} (H : Mine w0 S w L) {er : Value} {c : Int} (m : Mod [] w w') (he : IsErr w w' er c) : Mine w0 S w' (L ++ [Res.err er c]) := H.push m he.1 he.2
theorem law0_SameInts_ok (x y : SlV) (l m : List Int) (w : World) (hx : Nums w x l) (hy : Nums w y m) (hl : l.length < 1000000000000) : Ok Pr f_law0_SameInts [.slice x.a x.n x.c, .slice y.a y.n y.c] w fun v w' => v = .bool (decide (l = m)) ∧ Mod [] w w' := by
  refine V_law0_SameInts_of ?_
  unfold V_law0_SameInts
  have hxl := hx.len
  have hyl := hy.len
  refine ite_intro (fun h => ?_) (fun h => ?_)
  · have : l ≠ m := fun e => by
      have : l.length = m.length := by rw [e]
      simp only [Bool.not_eq_true', decide_eq_false_iff_not] at h
      omega
    exact ⟨by rw [decide_eq_false this], Mod.refl _ _⟩
  · have hlen : l.length = m.length := by
      simp only [Bool.not_eq_false', decide_eq_true_eq] at h
      omega
    refine loop1_up 0 l.length (fun i w' => Mod [] w w' ∧ ∀ j, j < i → l.getD j 0 = m.getD j 0) rfl (by omega) ⟨Mod.refl _ _, fun j h => by omega⟩ ?_ ?_
    · rintro again i w1 _ hi ⟨hm, he⟩ hag
      have hm' := hm.trans (Mod.drew [] w1)
      refine ite_true (by rw [← hxl]; simpa using hi) ((hx.mod0 hm').ld hi rfl ((hy.mod0 hm').ld (by omega) rfl (ite_intro (fun h => ?_) (fun h => ?_))))
      · have : l ≠ m := fun e => by
          subst e
          simp at h
        exact ⟨by rw [decide_eq_false this], hm'⟩
      · refine ⟨⟨by omega, by omega⟩, hag _ ⟨hm', fun j hj => ?_⟩⟩
        rcases Nat.lt_or_ge j i with h1 | h1
        · exact he j h1
        · have : j = i := by omega
          subst this
          simpa using h
    · rintro again w1 ⟨hm, he⟩
      refine ite_false (by rw [← hxl]; simp) ⟨by rw [decide_eq_true (List.ext_getElem hlen fun i h1 h2 => by have := he i h1; simpa [h1, h2] using this)], hm⟩
theorem law0_SameInts_same (x y : SlV) (l : List Int) (w : World) (hx : Nums w x l) (hy : Nums w y l) (hl : l.length < 1000000000000) : Ok Pr f_law0_SameInts [.slice x.a x.n x.c, .slice y.a y.n y.c] w fun v w' => v = .bool true ∧ Mod [] w w' := by
  refine (law0_SameInts_ok x y l l w hx hy hl).mono ?_
  rintro _ w' ⟨rfl, m⟩
  exact ⟨by rw [decide_eq_true rfl], m⟩
theorem elt_i64' : Elt Pr t_s_int t_int 1 8 := Elt.of (by kernel_rfl)
theorem law0_OverInts_ok (x : SlV) (l : List Int) (w : World) (hx : Own w 0 t_int 1 x (i64s l)) (hl : l.length ≤ 100000000) : Ok Pr f_law0_OverInts [.slice x.a x.n x.c] w fun v w' => v = .tuple ⟨[]⟩ ∧ Mod x.row w w' := by
  refine V_law0_OverInts_of ?_
  unfold V_law0_OverInts
  have H := Mine.start1 (r := .row t_int 1 x (i64s l)) hx
  have hxl := hx.nums.len
  refine loop1_up 0 l.length (fun i w' => ∃ m : List Int, m.length = l.length ∧ Mine w x.row w' [.row t_int 1 x (i64s m)]) rfl (by omega) ⟨l, rfl, H⟩ ?_ ?_
  · rintro again i w1 _ hi ⟨m, hm, H⟩ hag
    refine ite_true (by rw [← hxl]; simpa using hi) ?_
    refine H.stN 0 (i := i) rfl (by omega) rfl fun w2 H => ⟨⟨by omega, by omega⟩, hag w2 ⟨m.set i (-999), by simp [hm], H⟩⟩
  · rintro again w1 ⟨m, hm, H⟩
    refine ite_false (by rw [← hxl]; simp) ?_
    refine H.appN1 0 elt_i64' rfl (by omega) fun s' w2 H _ => ?_
    exact ⟨rfl, H.mod⟩
end Go.Proofs.YtoeedbljiocpdaaDoor
