/- A CALL'S OWN MEMORY, part by part; loops and joins as they are met: words of this claim's author. -/
import Derived.Test.YtoeedbljiocpdaaDoorRep
namespace Go.Ev
open Go Go.RowKit

variable {P : Program}
/-! ### parts of memory -/
/-- a part: the blocks that it takes, what holds of it -/
structure Res where
  fp : List Nat
  ok : World → Prop
  stab : ∀ w w' : World, (∀ b ∈ fp, w'.heap[b]? = w.heap[b]?) → ok w → ok w'
  lt : ∀ w, ok w → ∀ b ∈ fp, b < w.heap.size
/-- a block as a whole -/
def Res.blk (b : Nat) (cs : List Value) (t : TypeId) : Res where
  fp := [b]
  ok w := Blk w b cs t
  stab w w' h k := (h b (by simp)).trans k
  lt w h c hc := by simp only [List.mem_singleton] at hc; subst hc; exact Blk.lt h
/-- a slice's row, the call's own -/
def Res.row (e : TypeId) (sz : Nat) (s : SlV) (vs : List Value) : Res where
  fp := s.row
  ok w := Own w 0 e sz s vs
  stab w w' h k := by
    obtain ⟨a, n, c⟩ := s
    obtain ⟨hl, h1 | ⟨g, cap, cur, h1, h2, h3, h4⟩⟩ := k
    · exact ⟨hl, .inl h1⟩
    · refine ⟨hl, .inr ⟨g, cap, cur, h1, h2, ?_, h4⟩⟩
      simp only [SlV.v, Value.slice.injEq] at h1
      rw [h g (by simp [SlV.row, h1.1])]
      exact h3
  lt w h b hb := (Own.row_ge h b hb).2
/-- what the call owns now: parts L, each apart from the others; of the blocks that were there at w0 only those of S -/
structure Mine (w0 : World) (S : List Nat) (w : World) (L : List Res) : Prop where
  mod : Mod S w0 w
  ok : ∀ (k : Nat) (r : Res), L[k]? = some r → r.ok w
  own : ∀ (k : Nat) (r : Res), L[k]? = some r → ∀ b ∈ r.fp, b ∈ S ∨ w0.heap.size ≤ b
  apart : ∀ (j k : Nat) (r s : Res), j ≠ k → L[j]? = some r → L[k]? = some s → ∀ b ∈ r.fp, b ∉ s.fp
section
variable {w0 w w' : World} {S : List Nat} {L : List Res} {r r' : Res} {k : Nat}
theorem Mine.start (w : World) : Mine w [] w [] := ⟨Mod.refl _ _, fun k r h => by simp at h, fun k r h => by simp at h, fun j k r s _ h => by simp at h⟩
theorem Mine.start1 {r : Res} {w : World} (h : r.ok w) : Mine w r.fp w [r] := by
  have e : ∀ {k : Nat} {s : Res}, [r][k]? = some s → k = 0 ∧ s = r := fun {k s} h => by
    cases k with
    | zero => simp at h; exact ⟨rfl, h.symm⟩
    | succ k => simp at h
  refine ⟨Mod.refl _ _, fun k s hs => ?_, fun k s hs b hb => ?_, fun j k s t hjk hs ht => ?_⟩
  · rw [(e hs).2]; exact h
  · rw [(e hs).2] at hb; exact .inl hb
  · exact absurd ((e hs).1.trans (e ht).1.symm) hjk
theorem Mine.get (H : Mine w0 S w L) (k : Nat) {r : Res} (hk : L[k]? = some r) : r.ok w := H.ok k r hk
/-- the world goes on, and no part is touched -/
theorem Mine.frame (H : Mine w0 S w L) (m : Mod [] w w') : Mine w0 S w' L :=
  ⟨H.mod.then m, fun k r hk => r.stab w w' (fun b hb => m.block b (r.lt w (H.ok k r hk) b hb) (by simp)) (H.ok k r hk), H.own, H.apart⟩
/-- a new part -/
theorem Mine.push (H : Mine w0 S w L) (m : Mod [] w w') (hr : r.ok w') (hf : ∀ b ∈ r.fp, w.heap.size ≤ b) : Mine w0 S w' (L ++ [r]) := by
  have H' := H.frame m
  have e : ∀ {k : Nat} {s : Res}, (L ++ [r])[k]? = some s → (L[k]? = some s ∧ k < L.length) ∨ (s = r ∧ k = L.length) := fun {k s} h => by
    rcases Nat.lt_or_ge k L.length with hk | hk
    · rw [List.getElem?_append_left hk] at h; exact .inl ⟨h, hk⟩
    · rw [List.getElem?_append_right hk] at h
      rcases Nat.eq_zero_or_pos (k - L.length) with e | e
      · rw [e] at h; simp at h; exact .inr ⟨h.symm, by omega⟩
      · rw [List.getElem?_eq_none (by simp; omega)] at h; cases h
  refine ⟨H'.mod, fun k s hs => ?_, fun k s hs b hb => ?_, fun j k s t hjk hs ht b hb hb' => ?_⟩
  · rcases e hs with ⟨h, _⟩ | ⟨rfl, _⟩
    · exact H'.ok k s h
    · exact hr
  · rcases e hs with ⟨h, _⟩ | ⟨rfl, _⟩
    · exact H.own k s h b hb
    · exact .inr (Nat.le_trans H.mod.size (hf b hb))
  · rcases e hs with ⟨h, hj⟩ | ⟨rfl, hj⟩
    · rcases e ht with ⟨h', _⟩ | ⟨rfl, _⟩
      · exact H.apart j k s t hjk h h' b hb hb'
      · have := s.lt w (H.ok j s h) b hb
        have := hf b hb'
        omega
    · rcases e ht with ⟨h', _⟩ | ⟨rfl, hk⟩
      · have := t.lt w (H.ok k t h') b hb'
        have := hf b hb
        omega
      · omega
/-- a part turns -/
theorem Mine.upd {T : List Nat} (H : Mine w0 S w L) (k : Nat) {r r' : Res} (hk : L[k]? = some r) (m : Mod T w w') (hT : ∀ b ∈ T, b ∈ r.fp ∨ w.heap.size ≤ b) (hr : r'.ok w') (hf : ∀ b ∈ r'.fp, b ∈ r.fp ∨ w.heap.size ≤ b) :
    Mine w0 S w' (L.set k r') := by
  have hkl : k < L.length := (List.getElem?_eq_some_iff.1 hk).1
  have e : ∀ {j : Nat} {s : Res}, (L.set k r')[j]? = some s → (L[j]? = some s ∧ j ≠ k) ∨ (s = r' ∧ j = k) := fun {j s} h => by
    rw [List.getElem?_set] at h
    split at h
    · rename_i e
      subst e
      exact .inr ⟨(Option.some.inj h).symm, rfl⟩
    · rename_i hn; exact .inl ⟨h, fun e => hn e.symm⟩
  refine ⟨H.mod.trans' m fun b hb => ?_, fun j s hs => ?_, fun j s hs b hb => ?_, fun i j s t hij hs ht b hb hb' => ?_⟩
  · rcases hT b hb with h | h
    · exact H.own k r hk b h
    · exact .inr (Nat.le_trans H.mod.size h)
  · rcases e hs with ⟨h, hj⟩ | ⟨rfl, _⟩
    · refine s.stab w w' (fun b hb => m.block b (s.lt w (H.ok j s h) b hb) fun hbT => ?_) (H.ok j s h)
      rcases hT b hbT with h1 | h1
      · exact H.apart j k s r hj h hk b hb h1
      · have := s.lt w (H.ok j s h) b hb; omega
    · exact hr
  · rcases e hs with ⟨h, _⟩ | ⟨rfl, _⟩
    · exact H.own j s h b hb
    · rcases hf b hb with h1 | h1
      · exact H.own k r hk b h1
      · exact .inr (Nat.le_trans H.mod.size h1)
  · have old : ∀ {j : Nat} {s : Res} {b : Nat}, L[j]? = some s → j ≠ k → b ∈ s.fp → b ∉ r'.fp := fun {j s b} h hj hb hb' => by
      rcases hf b hb' with h1 | h1
      · exact H.apart j k s r hj h hk b hb h1
      · have := s.lt w (H.ok j s h) b hb; omega
    rcases e hs with ⟨h, hi⟩ | ⟨rfl, hi⟩
    · rcases e ht with ⟨h', _⟩ | ⟨rfl, _⟩
      · exact H.apart i j s t hij h h' b hb hb'
      · exact old h hi hb hb'
    · rcases e ht with ⟨h', hj⟩ | ⟨rfl, hj⟩
      · exact old h' hj hb' hb
      · omega
/-- the last parts are let go -/
theorem Mine.take (H : Mine w0 S w L) (n : Nat) : Mine w0 S w (L.take n) := by
  have e : ∀ {k : Nat} {s : Res}, (L.take n)[k]? = some s → L[k]? = some s := fun {k s} h => by
    rw [List.getElem?_take] at h
    split at h
    · exact h
    · cases h
  exact ⟨H.mod, fun k s hs => H.ok k s (e hs), fun k s hs => H.own k s (e hs), fun j k s t hjk hs ht => H.apart j k s t hjk (e hs) (e ht)⟩
theorem Mine.drew (H : Mine w0 S w L) : Mine w0 S w.drew L := H.frame (Mod.drew _ _)
/-- what lay there before, and is none of S, lies there still -/
theorem Mine.sl (H : Mine w0 S w L) {s : SlV} {sz : Nat} {vs : List Value} (h : Sl w0 s sz vs) (hn : off S s) : Sl w s sz vs := h.mod H.mod hn
end

/-! ### whole blocks -/
section
variable {w0 w : World} {S : List Nat} {L : List Res}
theorem Mine.nw (H : Mine w0 S w L) {t : TypeId} {cs : List Value} {K : Addr → World → Prop} (h : ∀ b w', Mine w0 S w' (L ++ [.blk b cs t]) → w0.heap.size ≤ b → K ⟨b, 0, none⟩ w') : nw t cs w K :=
  nw_blk fun b w' hb h1 h2 _ => h b w' (H.push h2 h1 (by simp [Res.blk, hb])) (hb ▸ H.mod.size)
theorem Mine.blk (H : Mine w0 S w L) (k : Nat) {b : Nat} {cs : List Value} {t : TypeId} (hk : L[k]? = some (.blk b cs t)) : Blk w b cs t := H.ok k _ hk
theorem Mine.st (H : Mine w0 S w L) (k : Nat) {b i : Nat} {a : Addr} {v : Value} {cs : List Value} {t : TypeId} {K : World → Prop} (hk : L[k]? = some (.blk b cs t)) (ha : a = ⟨b, i, none⟩) (hi : i < cs.length) (h1 : isOne v = true)
    (h : ∀ w', Mine w0 S w' (L.set k (.blk b (cs.set i v) t)) → K w') : st a v w K := by
  subst ha
  exact st_blk (H.blk k hk) hi h1 fun w' h2 h3 _ => h w' (H.upd k hk h3 (fun c hc => .inl hc) h2 (fun c hc => .inl hc))
theorem Mine.stA (H : Mine w0 S w L) (k : Nat) {b n : Nat} {l cs : List Value} {t : TypeId} {K : World → Prop} (hk : L[k]? = some (.blk b cs t)) (hl : l.length = n) (hn : n = cs.length) (h1 : ∀ v ∈ l, isOne v = true)
    (h : ∀ w', Mine w0 S w' (L.set k (.blk b l t)) → K w') : stA n ⟨b, 0, none⟩ l w K :=
  stA_blk (H.blk k hk) hl (Nat.le_of_eq hn) h1 fun w' h2 h3 _ => by
    rw [hn, List.drop_length, List.append_nil] at h2
    exact h w' (H.upd k hk h3 (fun c hc => .inl hc) h2 (fun c hc => .inl hc))
theorem Mine.ldA (H : Mine w0 S w L) (k : Nat) {b n : Nat} {cs : List Value} {t : TypeId} {K : List Value → Prop} (hk : L[k]? = some (.blk b cs t)) (hn : n = cs.length) (h : K cs) : ldA n ⟨b, 0, none⟩ w K :=
  ldA_blk (H.blk k hk) (Nat.le_of_eq hn) (by rw [hn, List.take_length]; exact h)
theorem Mine.cell (H : Mine w0 S w L) (k : Nat) {b i : Nat} {a : Addr} {v : Value} {cs : List Value} {t : TypeId} (hk : L[k]? = some (.blk b cs t)) (ha : a = ⟨b, i, none⟩) (hv : cs[i]? = some v) : w.cell? a = some v := by
  subst ha; exact ((H.blk k hk).cell i).trans hv
theorem Mine.ldI (H : Mine w0 S w L) (k : Nat) {b i : Nat} {a : Addr} {q : IntKind} {n : Int} {cs : List Value} {t : TypeId} {K : Int → Prop} (hk : L[k]? = some (.blk b cs t)) (ha : a = ⟨b, i, none⟩) (hv : cs[i]? = some (.int q n)) (h : K n) : ldI q a w K :=
  ⟨n, H.cell k hk ha hv, h⟩
theorem Mine.ldB (H : Mine w0 S w L) (k : Nat) {b i : Nat} {a : Addr} {n : Bool} {cs : List Value} {t : TypeId} {K : Bool → Prop} (hk : L[k]? = some (.blk b cs t)) (ha : a = ⟨b, i, none⟩) (hv : cs[i]? = some (.bool n)) (h : K n) : ldB a w K :=
  ⟨n, H.cell k hk ha hv, h⟩
theorem Mine.ldP (H : Mine w0 S w L) (k : Nat) {b i : Nat} {a : Addr} {n : Option Addr} {cs : List Value} {t : TypeId} {K : Option Addr → Prop} (hk : L[k]? = some (.blk b cs t)) (ha : a = ⟨b, i, none⟩) (hv : cs[i]? = some (.pointer n)) (h : K n) : ldP a w K :=
  ⟨n, H.cell k hk ha hv, h⟩
theorem Mine.ldL (H : Mine w0 S w L) (k : Nat) {b i : Nat} {a : Addr} {n : SlV} {cs : List Value} {t : TypeId} {K : SlV → Prop} (hk : L[k]? = some (.blk b cs t)) (ha : a = ⟨b, i, none⟩) (hv : cs[i]? = some (.slice n.a n.n n.c)) (h : K n) : ldL a w K :=
  ⟨n, H.cell k hk ha hv, h⟩
theorem Mine.kept (H : Mine w0 S w L) {w' : World} (m : Mod [] w w') (k : Nat) {b i : Nat} {a : Addr} {cs : List Value} {t : TypeId} (hk : L[k]? = some (.blk b cs t)) (ha : a = ⟨b, i, none⟩) (n : Nat) : kept a n w w' := by
  subst ha
  exact kept_of m (H.blk k hk).lt (by simp)
end
theorem ad (b i : Nat) : Addr.add ⟨b, 0, none⟩ (i * 1) = ⟨b, i, none⟩ := by rw [add_mk, Nat.zero_add, Nat.mul_one]
theorem ad' {b i j : Nat} (h : i = j) : Addr.add ⟨b, 0, none⟩ (i * 1) = ⟨b, j, none⟩ := h ▸ ad b i
theorem ad1 (b i : Nat) : Addr.add ⟨b, 0, none⟩ i = ⟨b, i, none⟩ := by rw [add_mk, Nat.zero_add]

/-! ### own rows -/
section
variable {w0 w : World} {S : List Nat} {L : List Res}
theorem Own.lo {w : World} {lo : Nat} {e : TypeId} {sz : Nat} {s : SlV} {vs : List Value} (h : Own w lo e sz s vs) : Own w 0 e sz s vs := by
  obtain ⟨hl, h1 | ⟨g, cap, cur, h1, h2, h3⟩⟩ := h
  · exact ⟨hl, .inl h1⟩
  · exact ⟨hl, .inr ⟨g, cap, cur, h1, Nat.zero_le _, h3⟩⟩
theorem Mine.own' (H : Mine w0 S w L) (k : Nat) {e : TypeId} {sz : Nat} {s : SlV} {vs : List Value} (hk : L[k]? = some (.row e sz s vs)) : Own w 0 e sz s vs := H.ok k _ hk
theorem Mine.nilrow (H : Mine w0 S w L) (e : TypeId) (sz : Nat) : Mine w0 S w (L ++ [.row e sz ⟨none, 0, 0⟩ []]) :=
  H.push (Mod.refl _ _) (Own.nil w 0 e sz) (by simp [Res.row, SlV.row])
theorem Mine.app (H : Mine w0 S w L) (k : Nat) {t ty e : TypeId} {sz bytes : Nat} {s x : SlV} {vs us : List Value} {K : SlV → World → Prop} (hel : Elt P t e sz bytes) (hk : L[k]? = some (.row e sz s vs)) (hx : Sl w x sz us)
    (h1 : ∀ u ∈ us, isOne u = true) (hb : (s.n + x.n) * bytes ≤ 140737488355328) (hm : s.n + x.n ≤ 9223372036854775807)
    (h : ∀ s' w', Mine w0 S w' (L.set k (.row e sz s' (vs ++ us))) → s'.n = s.n + x.n → K s' w') : appK P [t, t] ty [.slice s.a s.n s.c, .slice x.a x.n x.c] w K :=
  app_own hel (H.own' k hk) hx h1 hb hm (Nat.zero_le _) fun s' w' h2 h3 h4 h5 => h s' w' (H.upd k hk h3 (fun b hb => .inl hb) h2 h5) h4
end

/-! ### loops and joins -/
theorem loop0_of {mk : Fr} {body : (World → Prop) → World → Prop} {v : World} (I : World → Prop) (μ : World → Nat) (hi : I v)
    (hb : ∀ (again : World → Prop) w, I w → (∀ w', I w' → μ w' < μ w → again w') → body again w) : loop0 mk body v := by
  intro X hX
  suffices ∀ n w, μ w < n → I w → X mk w from this _ v (Nat.lt_succ_self _) hi
  intro n
  induction n with
  | zero => intro w h; omega
  | succ n ih => intro w hn hI; exact hX w (hb _ w hI fun w' h1 h2 => ih w' (by omega) h1)
theorem loop1_of {A1 : Type} {mk : A1 → Fr} {body : (A1 → World → Prop) → A1 → World → Prop} {y1 : A1} {v : World} (I : A1 → World → Prop) (μ : A1 → World → Nat) (hi : I y1 v)
    (hb : ∀ (again : A1 → World → Prop) x1 w, I x1 w → (∀ x1' w', I x1' w' → μ x1' w' < μ x1 w → again x1' w') → body again x1 w) : loop1 mk body y1 v := by
  intro X hX
  suffices ∀ n x1 w, μ x1 w < n → I x1 w → X (mk x1) w from this _ y1 v (Nat.lt_succ_self _) hi
  intro n
  induction n with
  | zero => intro x1 w h; omega
  | succ n ih => intro x1 w hn hI; exact hX x1 w (hb _ x1 w hI fun x1' w' h1 h2 => ih x1' w' (by omega) h1)
theorem loop2_of {A1 A2 : Type} {mk : A1 → A2 → Fr} {body : (A1 → A2 → World → Prop) → A1 → A2 → World → Prop} {y1 : A1} {y2 : A2} {v : World} (I : A1 → A2 → World → Prop) (μ : A1 → A2 → World → Nat) (hi : I y1 y2 v)
    (hb : ∀ (again : A1 → A2 → World → Prop) x1 x2 w, I x1 x2 w → (∀ x1' x2' w', I x1' x2' w' → μ x1' x2' w' < μ x1 x2 w → again x1' x2' w') → body again x1 x2 w) : loop2 mk body y1 y2 v := by
  intro X hX
  suffices ∀ n x1 x2 w, μ x1 x2 w < n → I x1 x2 w → X (mk x1 x2) w from this _ y1 y2 v (Nat.lt_succ_self _) hi
  intro n
  induction n with
  | zero => intro x1 x2 w h; omega
  | succ n ih => intro x1 x2 w hn hI; exact hX x1 x2 w (hb _ x1 x2 w hI fun x1' x2' w' h1 h2 => ih x1' x2' w' (by omega) h1)
theorem loop3_of {A1 A2 A3 : Type} {mk : A1 → A2 → A3 → Fr} {body : (A1 → A2 → A3 → World → Prop) → A1 → A2 → A3 → World → Prop} {y1 : A1} {y2 : A2} {y3 : A3} {v : World} (I : A1 → A2 → A3 → World → Prop) (μ : A1 → A2 → A3 → World → Nat)
    (hi : I y1 y2 y3 v)
    (hb : ∀ (again : A1 → A2 → A3 → World → Prop) x1 x2 x3 w, I x1 x2 x3 w → (∀ x1' x2' x3' w', I x1' x2' x3' w' → μ x1' x2' x3' w' < μ x1 x2 x3 w → again x1' x2' x3' w') → body again x1 x2 x3 w) : loop3 mk body y1 y2 y3 v := by
  intro X hX
  suffices ∀ n x1 x2 x3 w, μ x1 x2 x3 w < n → I x1 x2 x3 w → X (mk x1 x2 x3) w from this _ y1 y2 y3 v (Nat.lt_succ_self _) hi
  intro n
  induction n with
  | zero => intro x1 x2 x3 w h; omega
  | succ n ih => intro x1 x2 x3 w hn hI; exact hX x1 x2 x3 w (hb _ x1 x2 x3 w hI fun x1' x2' x3' w' h1 h2 => ih x1' x2' x3' w' (by omega) h1)
/-- a loop that counts: from lo up to hi -/
theorem loop1_up {mk : Int → Fr} {body : (Int → World → Prop) → Int → World → Prop} {v : World} {y : Int} (lo hi : Nat) (I : Nat → World → Prop) (hy : y = (lo : Int)) (hle : lo ≤ hi) (h0 : I lo v)
    (step : ∀ (again : Int → World → Prop) (i : Nat) w, lo ≤ i → i < hi → I i w → (∀ w', I (i + 1) w' → again ((i : Int) + 1) w') → body again (i : Int) w)
    (done : ∀ (again : Int → World → Prop) w, I hi w → body again (hi : Int) w) : loop1 mk body y v := by
  subst hy
  refine loop1_of (fun x w => ∃ i : Nat, x = (i : Int) ∧ lo ≤ i ∧ i ≤ hi ∧ I i w) (fun x _ => hi - x.toNat) ⟨lo, rfl, Nat.le_refl _, hle, h0⟩ ?_
  rintro again x w ⟨i, rfl, h1, h2, h3⟩ hag
  rcases Nat.lt_or_ge i hi with h | h
  · exact step again i w h1 h h3 fun w' h4 => hag _ w' ⟨i + 1, by simp, by omega, by omega, h4⟩ (by omega)
  · have : i = hi := by omega
    subst this
    exact done again w h3
theorem loop2_up {A : Type} {mk : A → Int → Fr} {body : (A → Int → World → Prop) → A → Int → World → Prop} {v : World} {x : A} {y : Int} (lo hi : Nat) (I : Nat → A → World → Prop) (hy : y = (lo : Int)) (hle : lo ≤ hi) (h0 : I lo x v)
    (step : ∀ (again : A → Int → World → Prop) (i : Nat) a w, lo ≤ i → i < hi → I i a w → (∀ a' w', I (i + 1) a' w' → again a' ((i : Int) + 1) w') → body again a (i : Int) w)
    (done : ∀ (again : A → Int → World → Prop) a w, I hi a w → body again a (hi : Int) w) : loop2 mk body x y v := by
  subst hy
  refine loop2_of (fun a x w => ∃ i : Nat, x = (i : Int) ∧ lo ≤ i ∧ i ≤ hi ∧ I i a w) (fun _ x _ => hi - x.toNat) ⟨lo, rfl, Nat.le_refl _, hle, h0⟩ ?_
  rintro again a x w ⟨i, rfl, h1, h2, h3⟩ hag
  rcases Nat.lt_or_ge i hi with h | h
  · exact step again i a w h1 h h3 fun a' w' h4 => hag a' _ w' ⟨i + 1, by simp, by omega, by omega, h4⟩ (by omega)
  · have : i = hi := by omega
    subst this
    exact done again a w h3
theorem loop3_up {A B : Type} {mk : A → B → Int → Fr} {body : (A → B → Int → World → Prop) → A → B → Int → World → Prop} {v : World} {x : A} {z : B} {y : Int} (lo hi : Nat) (I : Nat → A → B → World → Prop) (hy : y = (lo : Int)) (hle : lo ≤ hi) (h0 : I lo x z v)
    (step : ∀ (again : A → B → Int → World → Prop) (i : Nat) a b w, lo ≤ i → i < hi → I i a b w → (∀ a' b' w', I (i + 1) a' b' w' → again a' b' ((i : Int) + 1) w') → body again a b (i : Int) w)
    (done : ∀ (again : A → B → Int → World → Prop) a b w, I hi a b w → body again a b (hi : Int) w) : loop3 mk body x z y v := by
  subst hy
  refine loop3_of (fun a b x w => ∃ i : Nat, x = (i : Int) ∧ lo ≤ i ∧ i ≤ hi ∧ I i a b w) (fun _ _ x _ => hi - x.toNat) ⟨lo, rfl, Nat.le_refl _, hle, h0⟩ ?_
  rintro again a b x w ⟨i, rfl, h1, h2, h3⟩ hag
  rcases Nat.lt_or_ge i hi with h | h
  · exact step again i a b w h1 h h3 fun a' b' w' h4 => hag a' b' _ w' ⟨i + 1, by simp, by omega, by omega, h4⟩ (by omega)
  · have : i = hi := by omega
    subst this
    exact done again a b w h3
theorem join0_of {mk : Fr} {rest : World → Prop} {first : (World → Prop) → Prop} (h : ∀ go : World → Prop, (∀ w, rest w → go w) → first go) : join0 mk rest first :=
  fun K hK => h _ fun w hw => hK w hw
theorem join1_of {A1 : Type} {mk : A1 → Fr} {rest : A1 → World → Prop} {first : (A1 → World → Prop) → Prop} (h : ∀ go : A1 → World → Prop, (∀ x w, rest x w → go x w) → first go) : join1 mk rest first :=
  fun K hK => h _ fun x w hw => hK x w hw
theorem join2_of {A1 A2 : Type} {mk : A1 → A2 → Fr} {rest : A1 → A2 → World → Prop} {first : (A1 → A2 → World → Prop) → Prop} (h : ∀ go : A1 → A2 → World → Prop, (∀ x y w, rest x y w → go x y w) → first go) : join2 mk rest first :=
  fun K hK => h _ fun x y w hw => hK x y w hw
/-- folds over 0 .. n-1 -/
def up {A : Type} (f : A → Nat → A) (s : A) (n : Nat) : A := (List.range n).foldl f s
theorem up_zero {A : Type} (f : A → Nat → A) (s : A) : up f s 0 = s := rfl
theorem up_succ {A : Type} (f : A → Nat → A) (s : A) (n : Nat) : up f s (n + 1) = f (up f s n) n := by simp [up, List.range_succ]
theorem asI_i {k : IntKind} {n : Int} {K : Int → Prop} (h : K n) : asI k (.int k n) K := ⟨n, rfl, h⟩
theorem asB_b {b : Bool} {K : Bool → Prop} (h : K b) : asB (.bool b) K := ⟨b, rfl, h⟩
theorem asP_p {p : Option Addr} {K : Option Addr → Prop} (h : K p) : asP (.pointer p) K := ⟨p, rfl, h⟩
theorem asSl_s {s : SlV} {K : SlV → Prop} (h : K s) : asSl (.slice s.a s.n s.c) K := ⟨s, rfl, h⟩
end Go.Ev
