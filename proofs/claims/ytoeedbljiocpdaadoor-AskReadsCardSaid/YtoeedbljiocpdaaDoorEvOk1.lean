/- THE EVALUATOR IS SOUND, part 1: what is known of a frame. -/
import Derived.Test.YtoeedbljiocpdaaDoorEv
namespace Go.Ev
open Go

theorem beq_eq {a b : Nat} : Nat.beq a b = true ↔ a = b := ⟨Nat.eq_of_beq_eq_true, fun h => h ▸ Nat.beq_refl a⟩
theorem beq_ne {a b : Nat} : Nat.beq a b = false ↔ a ≠ b := by
  rw [← Bool.not_eq_true, Ne, not_congr beq_eq]
theorem sameB_eq {a b : Bool} : sameB a b = true ↔ a = b := by cases a <;> cases b <;> simp [sameB]

abbrev slot (a : Act) (t : Nat) : Value := a.tmps.getD t undef
/-- the guards of a key say so -/
def Sat (a : Act) (K : Key) : Prop := ∀ x ∈ K, slot a x.1 = .bool x.2
theorem Sat.nil (a : Act) : Sat a [] := fun _ h => by cases h
theorem Sat.cons {a : Act} {x : Nat × Bool} {K : Key} : Sat a (x :: K) ↔ slot a x.1 = .bool x.2 ∧ Sat a K := by
  simp [Sat]

theorem keyIn_iff {x : Nat × Bool} {K : Key} : keyIn x K = true ↔ x ∈ K := by
  induction K with
  | nil => simp [keyIn]
  | cons y r ih =>
    obtain ⟨x1, x2⟩ := x; obtain ⟨y1, y2⟩ := y
    simp only [keyIn]
    cases h : (Nat.beq x1 y1 && sameB x2 y2) with
    | true =>
      simp only [Bool.and_eq_true, beq_eq, sameB_eq] at h
      simp [h.1, h.2]
    | false =>
      have hne : (x1, x2) ≠ (y1, y2) := by
        intro e; cases e
        simp [sameB_eq.2] at h
      simp [ih, hne]
theorem keyOn_iff {d : Nat} {K : Key} : keyOn d K = true ↔ ∃ x ∈ K, x.1 = d := by
  induction K with
  | nil => simp [keyOn]
  | cons y r ih =>
    simp only [keyOn]
    cases h : Nat.beq d y.1 with
    | true => simp [beq_eq.1 h]
    | false =>
      have : y.1 ≠ d := fun e => (beq_ne.1 h) e.symm
      simp [ih, this]
theorem within_sat {a : Act} {k K : Key} (h : within k K = true) (hs : Sat a K) : Sat a k := by
  induction k with
  | nil => exact Sat.nil a
  | cons x r ih =>
    simp only [within] at h
    cases hx : keyIn x K with
    | true => rw [hx] at h; exact Sat.cons.2 ⟨hs x (keyIn_iff.1 hx), ih h⟩
    | false => rw [hx] at h; cases h

/-- what is known is so -/
structure Kn (n : Nat) (ws : List Nat) (f0 : Fr) (s : St) (a : Act) : Prop where
  size : a.tmps.size = n
  defers : a.defers = []
  fr : ∀ t v, look t s.fr = some v → lookC t s.cd = none → slot a t = v
  cd : ∀ t k v, lookC t s.cd = some (k, v) → (Sat a k → slot a t = v) ∧ (¬ Sat a k → slot a t = undef)
  nd : (s.cd.map (·.1)).Nodup
  lt : ∀ g b, lookL g s.lt = some b → slot a g = .bool b
  cn : ∀ t kv, lookC t s.cd = some kv → look t s.fr = none
  pres : ∀ t, t ∉ ws → look t s.fr = look t f0
  ins : ∀ x ∈ s.cd, x.1 ∈ ws ∧ ∀ y ∈ x.2.1, y.1 ∈ ws

theorem Kn.val {n : Nat} {ws : List Nat} {f0 : Fr} {s : St} {a : Act} (h : Kn n ws f0 s a) {K : Key} (hs : Sat a K) {x : Operand} {v : Value} (hv : s.val K x = some v) : a.eval x = v := by
  cases x with
  | tmp t =>
    simp only [St.val] at hv
    cases hc : lookC t s.cd with
    | none => rw [hc] at hv; exact h.fr t v hv hc
    | some kv =>
      obtain ⟨k, u⟩ := kv
      rw [hc] at hv
      simp only at hv
      cases hw : within k K with
      | true => rw [hw] at hv; cases hv; exact (h.cd t k _ hc).1 (within_sat hw hs)
      | false => rw [hw] at hv; cases hv
  | const u => simp only [St.val] at hv; cases hv; rfl
  | global g => simp only [St.val] at hv; cases hv; rfl
  | func f => simp only [St.val] at hv; cases hv; rfl

theorem slot_put {a : Act} {d : Nat} {u : Value} (hd : d < a.tmps.size) (t : Nat) : slot (a.put (some d) u) t = if t = d then u else slot a t := by
  simp only [slot, Act.put]
  by_cases e : t = d
  · subst e; simp [hd]
  · simp [e, Array.getElem?_setIfInBounds_ne (Ne.symm e)]
theorem sat_put {a : Act} {d : Nat} {u : Value} (hd : d < a.tmps.size) {k : Key} (hk : keyOn d k = false) : Sat (a.put (some d) u) k ↔ Sat a k := by
  have hne : ∀ x ∈ k, x.1 ≠ d := fun x hx e => by
    have := keyOn_iff.2 ⟨x, hx, e⟩
    rw [hk] at this; cases this
  constructor
  · intro h x hx
    have h1 := h x hx
    rwa [slot_put hd, if_neg (hne x hx)] at h1
  · intro h x hx
    rw [slot_put hd, if_neg (hne x hx)]
    exact h x hx

theorem lookC_mem {t : Nat} {l : List (Nat × Key × Value)} {k : Key} {v : Value} (h : lookC t l = some (k, v)) : (t, k, v) ∈ l := by
  induction l with
  | nil => cases h
  | cons y r ih =>
    obtain ⟨s, e⟩ := y
    simp only [lookC] at h
    cases hb : Nat.beq s t with
    | true => rw [hb] at h; cases h; rw [beq_eq.1 hb]; exact List.mem_cons_self
    | false => rw [hb] at h; exact List.mem_cons_of_mem _ (ih h)
theorem lookC_none {t : Nat} {l : List (Nat × Key × Value)} : lookC t l = none ↔ t ∉ l.map (·.1) := by
  induction l with
  | nil => simp [lookC]
  | cons y r ih =>
    obtain ⟨s, e⟩ := y
    simp only [lookC]
    cases hb : Nat.beq s t with
    | true => simp [beq_eq.1 hb]
    | false =>
      have : t ≠ s := fun e => (beq_ne.1 hb) e.symm
      simp [ih, this]
theorem lookC_of_mem {t : Nat} {l : List (Nat × Key × Value)} {k : Key} {v : Value} (nd : (l.map (·.1)).Nodup) (h : (t, k, v) ∈ l) : lookC t l = some (k, v) := by
  induction l with
  | nil => cases h
  | cons y r ih =>
    obtain ⟨s, e⟩ := y
    simp only [List.map_cons, List.nodup_cons] at nd
    simp only [lookC]
    cases h with
    | head => simp
    | tail _ h =>
      have : s ≠ t := fun e => nd.1 (e ▸ List.mem_map.2 ⟨_, h, rfl⟩)
      rw [beq_ne.2 this]; exact ih nd.2 h

theorem dropC_sub {d : Nat} {l : List (Nat × Key × Value)} : (dropC d l).Sublist l := by
  induction l with
  | nil => exact List.Sublist.refl _
  | cons y r ih =>
    obtain ⟨s, k, v⟩ := y
    simp only [dropC]
    cases (Nat.beq s d || keyOn d k) with
    | true => exact ih.cons _
    | false => exact ih.cons_cons _
theorem mem_dropC {d t : Nat} {k : Key} {v : Value} {l : List (Nat × Key × Value)} : (t, k, v) ∈ dropC d l ↔ (t, k, v) ∈ l ∧ t ≠ d ∧ keyOn d k = false := by
  induction l with
  | nil => simp [dropC]
  | cons y r ih =>
    obtain ⟨s, k', v'⟩ := y
    simp only [dropC]
    cases hb : (Nat.beq s d || keyOn d k') with
    | true =>
      simp only [cond_true, ih, List.mem_cons, Prod.mk.injEq]
      constructor
      · rintro ⟨h1, h2⟩; exact ⟨.inr h1, h2⟩
      · rintro ⟨h1 | h1, h2, h3⟩
        · obtain ⟨rfl, rfl, rfl⟩ := h1
          simp [beq_ne.2 h2, h3] at hb
        · exact ⟨h1, h2, h3⟩
    | false =>
      simp only [Bool.or_eq_false_iff, beq_ne] at hb
      simp only [cond_false, List.mem_cons, ih, Prod.mk.injEq]
      constructor
      · rintro (⟨rfl, rfl, rfl⟩ | ⟨h1, h2⟩)
        · exact ⟨.inl ⟨rfl, rfl, rfl⟩, hb⟩
        · exact ⟨.inr h1, h2⟩
      · rintro ⟨h1 | h1, h2⟩
        · exact .inl h1
        · exact .inr ⟨h1, h2⟩
theorem look_tomb {d t : Nat} {x : Value} {fr : Fr} {l : List (Nat × Key × Value)} (h : look t (tomb d fr l) = some x) :
    look t fr = some x ∧ ∀ k v, (t, k, v) ∈ l → keyOn d k = false := by
  induction l with
  | nil => exact ⟨h, fun _ _ h => by cases h⟩
  | cons y r ih =>
    obtain ⟨s, k', v'⟩ := y
    simp only [tomb] at h
    cases hk : keyOn d k' with
    | true =>
      rw [hk] at h
      simp only [cond_true, look] at h
      cases hs : Nat.beq s t with
      | true => rw [hs] at h; cases h
      | false =>
        rw [hs] at h
        obtain ⟨h1, h2⟩ := ih h
        refine ⟨h1, fun k v hm => ?_⟩
        cases hm with
        | head => exact absurd rfl (beq_ne.1 hs)
        | tail _ hm => exact h2 k v hm
    | false =>
      rw [hk] at h
      obtain ⟨h1, h2⟩ := ih h
      refine ⟨h1, fun k v hm => ?_⟩
      cases hm with
      | head => exact hk
      | tail _ hm => exact h2 k v hm
theorem lookL_dropL {d g : Nat} {b : Bool} {l : List (Nat × Bool)} (h : lookL g (dropL d l) = some b) : g ≠ d ∧ lookL g l = some b := by
  induction l with
  | nil => cases h
  | cons y r ih =>
    obtain ⟨s, b'⟩ := y
    simp only [dropL] at h
    cases hs : Nat.beq s d with
    | true =>
      rw [hs] at h
      obtain ⟨h1, h2⟩ := ih h
      refine ⟨h1, ?_⟩
      have : s ≠ g := fun e => h1 (e ▸ beq_eq.1 hs)
      simp only [lookL, beq_ne.2 this, cond_false]; exact h2
    | false =>
      rw [hs] at h
      simp only [cond_false, lookL] at h ⊢
      cases hg : Nat.beq s g with
      | true => rw [hg] at h; exact ⟨fun e => (beq_ne.1 hs) ((beq_eq.1 hg).trans e), by simpa using h⟩
      | false => rw [hg] at h; obtain ⟨h1, h2⟩ := ih h; exact ⟨h1, h2⟩

theorem look_tomb_none {d t : Nat} {fr : Fr} (h : look t fr = none) : ∀ l : List (Nat × Key × Value), look t (tomb d fr l) = none
  | [] => h
  | (s, k, v) :: r => by
    simp only [tomb]
    cases keyOn d k with
    | true =>
      simp only [cond_true, look]
      cases Nat.beq s t with
      | true => rfl
      | false => exact look_tomb_none h r
    | false => exact look_tomb_none h r
theorem look_tomb_out {d t : Nat} {fr : Fr} {ws : List Nat} (ht : t ∉ ws) : ∀ {l : List (Nat × Key × Value)}, (∀ x ∈ l, x.1 ∈ ws) → look t (tomb d fr l) = look t fr
  | [], _ => rfl
  | (s, k, v) :: r, h => by
    simp only [tomb]
    have hr := look_tomb_out (d := d) (fr := fr) ht (l := r) (fun x hx => h x (List.mem_cons_of_mem _ hx))
    cases keyOn d k with
    | true =>
      simp only [cond_true, look]
      rw [beq_ne.2 (fun (e : s = t) => ht (by rw [← e]; exact (h _ List.mem_cons_self)))]
      exact hr
    | false => exact hr
/-- slot d is written -/
theorem Kn.put {n : Nat} {ws : List Nat} {f0 : Fr} {s : St} {a : Act} (h : Kn n ws f0 s a) {d : Option Nat} (hd : ∀ t, d = some t → t < n ∧ t ∈ ws) {v : Option Value} {u : Value} (hv : ∀ x, v = some x → u = x) :
    Kn n ws f0 (s.put d v) (a.put d u) := by
  cases d with
  | none => exact h
  | some d =>
    have hlt : d < a.tmps.size := h.size ▸ (hd d rfl).1
    have hws : d ∈ ws := (hd d rfl).2
    refine ⟨by simp [Act.put, h.size], by simp [Act.put, h.defers], ?_, ?_, ?_, ?_, ?_, ?_, ?_⟩
    · intro t x hx hc
      simp only [St.put, look] at hx hc
      rw [slot_put hlt]
      by_cases e : t = d
      · subst e
        rw [if_pos rfl]
        simp only [Nat.beq_refl, cond_true] at hx
        exact hv x hx
      · rw [if_neg e]
        rw [beq_ne.2 (Ne.symm e)] at hx
        obtain ⟨h1, h2⟩ := look_tomb hx
        refine h.fr t x h1 ?_
        cases hl : lookC t s.cd with
        | none => rfl
        | some kv =>
          obtain ⟨k, w⟩ := kv
          have hm := lookC_mem hl
          have hm2 : (t, k, w) ∈ dropC d s.cd := mem_dropC.2 ⟨hm, e, h2 k w hm⟩
          have := lookC_none.1 hc
          exact absurd (List.mem_map.2 ⟨_, hm2, rfl⟩) this
    · intro t k w hl
      have hm := lookC_mem hl
      obtain ⟨h1, h2, h3⟩ := mem_dropC.1 hm
      have h4 := h.cd t k w (lookC_of_mem h.nd h1)
      rw [slot_put hlt, if_neg h2, sat_put hlt h3]
      exact h4
    · exact h.nd.sublist (dropC_sub.map _)
    · intro g b hl
      obtain ⟨h1, h2⟩ := lookL_dropL hl
      rw [slot_put hlt, if_neg h1]
      exact h.lt g b h2
    · intro t kv hl
      obtain ⟨k, w⟩ := kv
      have hm := lookC_mem hl
      obtain ⟨h1, h2, h3⟩ := mem_dropC.1 hm
      simp only [St.put, look]
      rw [beq_ne.2 (Ne.symm h2)]
      exact look_tomb_none (h.cn t _ (lookC_of_mem h.nd h1)) _
    · intro t ht
      simp only [St.put, look]
      rw [beq_ne.2 (fun (e : d = t) => ht (by rw [← e]; exact hws))]
      exact (look_tomb_out ht (fun x hx => (h.ins x hx).1)).trans (h.pres t ht)
    · intro x hx
      obtain ⟨t, k, v⟩ := x
      exact h.ins _ (mem_dropC.1 hx).1

theorem Kn.putC {n : Nat} {ws : List Nat} {f0 : Fr} {s : St} {a : Act} (h : Kn n ws f0 s a) {d : Option Nat} (hd : ∀ t, d = some t → t < n ∧ t ∈ ws) {k : Key} {v u : Value} (hkw : ∀ y ∈ k, y.1 ∈ ws) (h1 : Sat a k → u = v) (h2 : ¬ Sat a k → u = undef) :
    Kn n ws f0 (s.putC d k v) (a.put d u) := by
  cases d with
  | none => exact h
  | some d =>
    simp only [St.putC]
    cases hk : keyOn d k with
    | true => exact h.put hd (fun x hx => by cases hx)
    | false =>
      have hlt : d < a.tmps.size := h.size ▸ (hd d rfl).1
      have hws : d ∈ ws := (hd d rfl).2
      have hp : Kn n ws f0 (s.put (some d) none) (a.put (some d) u) := h.put hd (fun x hx => by cases hx)
      have hnd : lookC d (dropC d s.cd) = none := lookC_none.2 fun hm => by
        obtain ⟨⟨t, k', v'⟩, hm, rfl⟩ := List.mem_map.1 hm
        exact (mem_dropC.1 hm).2.1 rfl
      refine ⟨hp.size, hp.defers, ?_, ?_, ?_, hp.lt, ?_, ?_, ?_⟩
      · intro t x hx hc
        simp only [cond_false, lookC] at hc hx
        cases e : Nat.beq d t with
        | true => rw [e] at hc; cases hc
        | false => rw [e] at hc; exact hp.fr t x hx hc
      · intro t k' w hl
        simp only [cond_false, lookC] at hl
        cases e : Nat.beq d t with
        | true =>
          rw [e] at hl; cases hl
          rw [← beq_eq.1 e, sat_put hlt hk, slot_put hlt, if_pos rfl]
          exact ⟨h1, h2⟩
        | false => rw [e] at hl; exact hp.cd t k' w hl
      · simp only [cond_false, List.map_cons, List.nodup_cons]
        exact ⟨lookC_none.1 hnd, hp.nd⟩
      · intro t kv hl
        simp only [cond_false, lookC, look] at hl ⊢
        cases e : Nat.beq d t with
        | true => rfl
        | false =>
          rw [e] at hl
          have := hp.cn t kv hl
          simp only [St.put, look, e, cond_false] at this
          exact this
      · intro t ht
        have := hp.pres t ht
        simp only [St.put, look, cond_false] at this ⊢
        exact this
      · intro x hx
        simp only [cond_false] at hx
        cases hx with
        | head => exact ⟨hws, hkw⟩
        | tail _ hx => exact hp.ins x hx

/-! a guard is settled -/
theorem mem_without {g : Nat} {x : Nat × Bool} {k : Key} : x ∈ without g k ↔ x ∈ k ∧ x.1 ≠ g := by
  induction k with
  | nil => simp [without]
  | cons y r ih =>
    simp only [without]
    cases h : Nat.beq g y.1 with
    | true =>
      have := beq_eq.1 h
      simp only [cond_true, ih, List.mem_cons]
      constructor
      · rintro ⟨h1, h2⟩; exact ⟨.inr h1, h2⟩
      · rintro ⟨rfl | h1, h2⟩
        · exact absurd this.symm h2
        · exact ⟨h1, h2⟩
    | false =>
      have := beq_ne.1 h
      simp only [cond_false, ih, List.mem_cons]
      constructor
      · rintro (rfl | ⟨h1, h2⟩)
        · exact ⟨.inl rfl, Ne.symm this⟩
        · exact ⟨.inr h1, h2⟩
      · rintro ⟨rfl | h1, h2⟩
        · exact .inl rfl
        · exact .inr ⟨h1, h2⟩
theorem sat_without {a : Act} {g : Nat} {b : Bool} {k : Key} (hg : slot a g = .bool b) (hno : keyIn (g, !b) k = false) : Sat a (without g k) ↔ Sat a k := by
  constructor
  · intro h x hx
    by_cases e : x.1 = g
    · have hb : x.2 = b := by
        have hn : x.2 ≠ !b := fun h1 => by
          have : keyIn (g, !b) k = true := keyIn_iff.2 (by rw [← e, ← h1]; exact hx)
          rw [hno] at this; cases this
        revert hn; cases x.2 <;> cases b <;> simp
      rw [e, hg, hb]
    · exact h x (mem_without.2 ⟨hx, e⟩)
  · intro h x hx; exact h x (mem_without.1 hx).1

theorem settle_look {a : Act} {g : Nat} {b : Bool} (hg : slot a g = .bool b) {fr : Fr} : ∀ {l : List (Nat × Key × Value)}, (l.map (·.1)).Nodup →
    (∀ t k v, (t, k, v) ∈ l → (Sat a k → slot a t = v) ∧ (¬ Sat a k → slot a t = undef)) → ∀ {t : Nat} {x : Value},
    look t (settleF g b fr l) = some x → lookC t (settleC g b l) = none → slot a t = x ∨ (look t fr = some x ∧ lookC t l = none)
  | [], _, _, _, _, h, _ => .inr ⟨h, rfl⟩
  | (s, k, v) :: r, nd, hc, t, x, h, h0 => by
    simp only [List.map_cons, List.nodup_cons] at nd
    have hr : ∀ t k v, (t, k, v) ∈ r → (Sat a k → slot a t = v) ∧ (¬ Sat a k → slot a t = undef) := fun t k v hm => hc t k v (List.mem_cons_of_mem _ hm)
    have hs := hc s k v List.mem_cons_self
    simp only [settleF, settleC] at h h0
    cases h1 : keyIn (g, !b) k with
    | true =>
      rw [h1] at h h0
      simp only [cond_true, look] at h h0
      cases e : Nat.beq s t with
      | true =>
        rw [e] at h; cases h
        have hns : ¬ Sat a k := fun hsat => by
          have := hsat _ (keyIn_iff.1 h1)
          rw [hg] at this; cases b <;> cases this
        exact .inl (beq_eq.1 e ▸ hs.2 hns)
      | false =>
        rw [e] at h
        rcases settle_look hg nd.2 hr h h0 with h2 | ⟨h2, h3⟩
        · exact .inl h2
        · exact .inr ⟨h2, by simp only [lookC, e, cond_false]; exact h3⟩
    | false =>
      rw [h1] at h h0
      simp only [cond_false] at h h0
      cases h2 : keyIn (g, b) k with
      | true =>
        rw [h2] at h h0
        simp only [cond_true] at h h0
        cases h3 : without g k with
        | nil =>
          rw [h3] at h h0
          simp only [look] at h h0
          cases e : Nat.beq s t with
          | true =>
            rw [e] at h; cases h
            have : Sat a k := (sat_without hg h1).1 (h3 ▸ Sat.nil a)
            exact .inl (beq_eq.1 e ▸ hs.1 this)
          | false =>
            rw [e] at h
            rcases settle_look hg nd.2 hr h h0 with h4 | ⟨h4, h5⟩
            · exact .inl h4
            · exact .inr ⟨h4, by simp only [lookC, e, cond_false]; exact h5⟩
        | cons y k' =>
          rw [h3] at h h0
          simp only [lookC] at h h0
          cases e : Nat.beq s t with
          | true => rw [e] at h0; cases h0
          | false =>
            rw [e] at h0
            rcases settle_look hg nd.2 hr h h0 with h4 | ⟨h4, h5⟩
            · exact .inl h4
            · exact .inr ⟨h4, by simp only [lookC, e, cond_false]; exact h5⟩
      | false =>
        rw [h2] at h h0
        simp only [cond_false, lookC] at h h0
        cases e : Nat.beq s t with
        | true => rw [e] at h0; cases h0
        | false =>
          rw [e] at h0
          rcases settle_look hg nd.2 hr h h0 with h4 | ⟨h4, h5⟩
          · exact .inl h4
          · exact .inr ⟨h4, by simp only [lookC, e, cond_false]; exact h5⟩
theorem settle_mem {g : Nat} {b : Bool} : ∀ {l : List (Nat × Key × Value)} {t : Nat} {k : Key} {v : Value}, (t, k, v) ∈ settleC g b l →
    ∃ k0, (t, k0, v) ∈ l ∧ keyIn (g, !b) k0 = false ∧ (k = k0 ∨ k = without g k0)
  | [], _, _, _, h => by cases h
  | (s, k1, v1) :: r, t, k, v, h => by
    simp only [settleC] at h
    have up : (∃ k0, (t, k0, v) ∈ r ∧ keyIn (g, !b) k0 = false ∧ (k = k0 ∨ k = without g k0)) → ∃ k0, (t, k0, v) ∈ (s, k1, v1) :: r ∧ keyIn (g, !b) k0 = false ∧ (k = k0 ∨ k = without g k0) :=
      fun ⟨k0, h1, h2⟩ => ⟨k0, List.mem_cons_of_mem _ h1, h2⟩
    cases h1 : keyIn (g, !b) k1 with
    | true => rw [h1] at h; exact up (settle_mem h)
    | false =>
      rw [h1] at h
      simp only [cond_false] at h
      cases h2 : keyIn (g, b) k1 with
      | true =>
        rw [h2] at h
        simp only [cond_true] at h
        cases h3 : without g k1 with
        | nil => rw [h3] at h; exact up (settle_mem h)
        | cons y k' =>
          rw [h3] at h
          cases h with
          | head => exact ⟨k1, List.mem_cons_self, h1, .inr h3.symm⟩
          | tail _ h => exact up (settle_mem h)
      | false =>
        rw [h2] at h
        cases h with
        | head => exact ⟨_, List.mem_cons_self, h1, .inl rfl⟩
        | tail _ h => exact up (settle_mem h)
theorem settle_sub {g : Nat} {b : Bool} : ∀ {l : List (Nat × Key × Value)}, ((settleC g b l).map (·.1)).Sublist (l.map (·.1))
  | [] => List.Sublist.refl _
  | (s, k1, v1) :: r => by
    have ih := settle_sub (g := g) (b := b) (l := r)
    simp only [settleC]
    cases keyIn (g, !b) k1 with
    | true => exact ih.cons _
    | false =>
      simp only [cond_false]
      cases keyIn (g, b) k1 with
      | true =>
        simp only [cond_true]
        cases without g k1 with
        | nil => exact ih.cons _
        | cons y k' => exact ih.cons_cons _
      | false => exact ih.cons_cons _
theorem mem_unC {g t : Nat} {k : Key} {v : Value} {l : List (Nat × Key × Value)} : (t, k, v) ∈ unC g l ↔ (t, k, v) ∈ l ∧ t ≠ g := by
  induction l with
  | nil => simp [unC]
  | cons y r ih =>
    obtain ⟨s, k', v'⟩ := y
    simp only [unC]
    cases hb : Nat.beq s g with
    | true =>
      have := beq_eq.1 hb
      simp only [cond_true, ih, List.mem_cons, Prod.mk.injEq]
      constructor
      · rintro ⟨h1, h2⟩; exact ⟨.inr h1, h2⟩
      · rintro ⟨h1 | h1, h2⟩
        · exact absurd (h1.1.trans this) h2
        · exact ⟨h1, h2⟩
    | false =>
      have := beq_ne.1 hb
      simp only [cond_false, List.mem_cons, ih, Prod.mk.injEq]
      constructor
      · rintro (⟨rfl, rfl, rfl⟩ | ⟨h1, h2⟩)
        · exact ⟨.inl ⟨rfl, rfl, rfl⟩, this⟩
        · exact ⟨.inr h1, h2⟩
      · rintro ⟨h1 | h1, h2⟩
        · exact .inl h1
        · exact .inr ⟨h1, h2⟩
theorem unC_sub {g : Nat} : ∀ {l : List (Nat × Key × Value)}, ((unC g l).map (·.1)).Sublist (l.map (·.1))
  | [] => List.Sublist.refl _
  | (s, k, v) :: r => by
    simp only [unC]
    cases Nat.beq s g with
    | true => exact unC_sub.cons _
    | false => exact unC_sub.cons_cons _
theorem lookC_unC {g t : Nat} (h : t ≠ g) : ∀ l : List (Nat × Key × Value), lookC t (unC g l) = lookC t l
  | [] => rfl
  | (s, k, v) :: r => by
    simp only [unC, lookC]
    cases hb : Nat.beq s g with
    | true =>
      have : s ≠ t := fun e => h (e ▸ beq_eq.1 hb)
      rw [beq_ne.2 this]; exact lookC_unC h r
    | false =>
      simp only [cond_false, lookC]
      rw [lookC_unC h r]
theorem look_settle_none {g t : Nat} {b : Bool} {fr : Fr} (h : look t fr = none) : ∀ {l : List (Nat × Key × Value)}, (l.map (·.1)).Nodup → ∀ {kv : Key × Value}, lookC t (settleC g b l) = some kv → look t (settleF g b fr l) = none
  | [], _, _, _ => h
  | (s, k, v) :: r, nd, kv, hl => by
    simp only [List.map_cons, List.nodup_cons] at nd
    have off : lookC t (settleC g b r) = some kv → look t (settleF g b fr r) = none := fun hl => look_settle_none h nd.2 hl
    have inr : lookC t (settleC g b r) = some kv → s ≠ t := fun hl e => by
      obtain ⟨k0, v0⟩ := kv
      obtain ⟨k1, hm, _⟩ := settle_mem (lookC_mem hl)
      exact nd.1 (e ▸ List.mem_map.2 ⟨_, hm, rfl⟩)
    have hnot : s = t → look t (settleF g b fr r) = none := fun e => by
      subst e
      have : ∀ {l : List (Nat × Key × Value)}, s ∉ l.map (·.1) → look s (settleF g b fr l) = none := by
        intro l
        induction l with
        | nil => intro _; exact h
        | cons y r ih =>
          obtain ⟨s', k', v'⟩ := y
          intro hn
          simp only [List.map_cons, List.mem_cons, not_or] at hn
          have hb : Nat.beq s' s = false := beq_ne.2 (fun e => hn.1 e.symm)
          simp only [settleF]
          cases keyIn (g, !b) k' with
          | true => simp only [cond_true, look, hb, cond_false]; exact ih hn.2
          | false =>
            simp only [cond_false]
            cases keyIn (g, b) k' with
            | true =>
              simp only [cond_true]
              cases without g k' with
              | nil => simp only [look, hb, cond_false]; exact ih hn.2
              | cons _ _ => exact ih hn.2
            | false => exact ih hn.2
      exact this nd.1
    simp only [settleF, settleC] at hl ⊢
    cases h1 : keyIn (g, !b) k with
    | true =>
      rw [h1] at hl
      simp only [cond_true, look] at hl ⊢
      rw [beq_ne.2 (inr hl)]; exact off hl
    | false =>
      rw [h1] at hl
      simp only [cond_false] at hl ⊢
      cases h2 : keyIn (g, b) k with
      | true =>
        rw [h2] at hl
        simp only [cond_true] at hl ⊢
        cases h3 : without g k with
        | nil =>
          rw [h3] at hl
          simp only [look] at hl ⊢
          rw [beq_ne.2 (inr hl)]; exact off hl
        | cons y k' =>
          rw [h3] at hl
          simp only [lookC] at hl
          by_cases e : s = t
          · exact hnot e
          · rw [beq_ne.2 e] at hl; exact off hl
      | false =>
        rw [h2] at hl
        simp only [cond_false, lookC] at hl ⊢
        by_cases e : s = t
        · exact hnot e
        · rw [beq_ne.2 e] at hl; exact off hl
theorem look_settle_out {g t : Nat} {b : Bool} {fr : Fr} {ws : List Nat} (ht : t ∉ ws) : ∀ {l : List (Nat × Key × Value)}, (∀ x ∈ l, x.1 ∈ ws) → look t (settleF g b fr l) = look t fr
  | [], _ => rfl
  | (s, k, v) :: r, h => by
    have hr := look_settle_out (g := g) (b := b) (fr := fr) ht (l := r) (fun x hx => h x (List.mem_cons_of_mem _ hx))
    have hs : Nat.beq s t = false := beq_ne.2 (fun (e : s = t) => ht (by rw [← e]; exact (h _ List.mem_cons_self)))
    simp only [settleF]
    cases keyIn (g, !b) k with
    | true => simp only [cond_true, look, hs, cond_false]; exact hr
    | false =>
      simp only [cond_false]
      cases keyIn (g, b) k with
      | true =>
        simp only [cond_true]
        cases without g k with
        | nil => simp only [look, hs, cond_false]; exact hr
        | cons _ _ => exact hr
      | false => exact hr
theorem Kn.settle {n : Nat} {ws : List Nat} {f0 : Fr} {s : St} {a : Act} (h : Kn n ws f0 s a) {g : Nat} {b : Bool} (hgw : g ∈ ws) (hg : slot a g = .bool b) : Kn n ws f0 (s.settle g b) a := by
  have hc : ∀ t k v, (t, k, v) ∈ s.cd → (Sat a k → slot a t = v) ∧ (¬ Sat a k → slot a t = undef) := fun t k v hm => h.cd t k v (lookC_of_mem h.nd hm)
  have nd' : ((s.settle g b).cd.map (·.1)).Nodup := h.nd.sublist (unC_sub.trans settle_sub)
  refine ⟨h.size, h.defers, ?_, ?_, nd', ?_, ?_, ?_, ?_⟩
  · intro t x hx h0
    simp only [St.settle, look] at hx h0
    cases e : Nat.beq g t with
    | true => rw [e] at hx; cases hx; rw [← beq_eq.1 e]; exact hg
    | false =>
      rw [e] at hx
      rw [lookC_unC (Ne.symm (beq_ne.1 e))] at h0
      rcases settle_look hg h.nd hc hx h0 with h1 | ⟨h1, h2⟩
      · exact h1
      · exact h.fr t x h1 h2
  · intro t k v hl
    obtain ⟨k0, hm, hno, hk⟩ := settle_mem (mem_unC.1 (lookC_mem hl)).1
    have := hc t k0 v hm
    rcases hk with rfl | rfl
    · exact this
    · rw [sat_without hg hno]; exact this
  · intro g' b' hl
    simp only [St.settle, lookL] at hl
    cases e : Nat.beq g g' with
    | true => rw [e] at hl; cases hl; rw [← beq_eq.1 e]; exact hg
    | false => rw [e] at hl; exact h.lt g' b' hl
  · intro t kv hl
    obtain ⟨k, v⟩ := kv
    have hne := (mem_unC.1 (lookC_mem hl)).2
    simp only [St.settle] at hl
    rw [lookC_unC hne] at hl
    simp only [St.settle, look]
    rw [beq_ne.2 (Ne.symm hne)]
    obtain ⟨k0, hm, _⟩ := settle_mem (lookC_mem hl)
    exact look_settle_none (h.cn t _ (lookC_of_mem h.nd hm)) h.nd hl
  · intro t ht
    simp only [St.settle, look]
    rw [beq_ne.2 (fun (e : g = t) => ht (by rw [← e]; exact hgw))]
    exact (look_settle_out ht (fun x hx => (h.ins x hx).1)).trans (h.pres t ht)
  · intro x hx
    obtain ⟨t, k, v⟩ := x
    obtain ⟨k0, hm, _, hk⟩ := settle_mem (mem_unC.1 hx).1
    have := h.ins _ hm
    rcases hk with rfl | rfl
    · exact this
    · exact ⟨this.1, fun y hy => this.2 y (mem_without.1 hy).1⟩
/-- behind a region -/
theorem Kn.out {n : Nat} {ws : List Nat} {f0 : Fr} {s : St} {a : Act} (h : Kn n ws f0 s a) : Kn n ws f0 ⟨s.fr, [], []⟩ a :=
  ⟨h.size, h.defers, fun t v hl _ => h.fr t v hl (by
    cases hc : lookC t s.cd with
    | none => rfl
    | some kv => have := h.cn t kv hc; rw [hl] at this; cases this), fun t k v hl => (by cases hl), List.nodup_nil, fun g b hl => (by cases hl), fun t kv hl => (by cases hl), h.pres, fun x hx => (by cases hx)⟩
theorem settleAll_ok {n : Nat} {ws : List Nat} {f0 : Fr} {a : Act} : ∀ (chain : Key) (s : St) (K : St → Bool → Prop), (∀ y ∈ chain, y.1 ∈ ws) → Kn n ws f0 s a → settleAll s chain K →
    ∃ s' on, Kn n ws f0 s' a ∧ K s' on ∧ (on = true ↔ Sat a chain)
  | [], s, K, _, h, hk => ⟨s, true, h, hk, by simp [Sat.nil]⟩
  | (g, want) :: r, s, K, hw, h, hk => by
    have hgw : g ∈ ws := hw _ List.mem_cons_self
    obtain ⟨s1, on, h1, hk1, hon⟩ := settleAll_ok r s _ (fun y hy => hw y (List.mem_cons_of_mem _ hy)) h hk
    cases on with
    | false =>
      refine ⟨s1, false, h1, hk1, ?_⟩
      simp only [Bool.false_eq_true, false_iff] at hon ⊢
      exact fun hs => hon (Sat.cons.1 hs).2
    | true =>
      have hsat : Sat a r := hon.1 rfl
      simp only [cond_true] at hk1
      cases hv : s1.val [] (.tmp g) with
      | none => rw [hv] at hk1; exact hk1.elim
      | some v =>
        rw [hv] at hk1
        cases v with
        | bool b =>
          have hg : slot a g = .bool b := h1.val (Sat.nil a) hv
          simp only [iteP] at hk1
          cases b with
          | true =>
            refine ⟨_, want, h1.settle hgw hg, hk1, ?_⟩
            rw [Sat.cons, hg]
            simp only [Value.bool.injEq]
            exact ⟨fun e => ⟨e.symm, hsat⟩, fun e => e.1.symm⟩
          | false =>
            refine ⟨_, !want, h1.settle hgw hg, hk1, ?_⟩
            rw [Sat.cons, hg]
            simp only [Value.bool.injEq, Bool.not_eq_true']
            exact ⟨fun e => ⟨e.symm, hsat⟩, fun e => e.1.symm⟩
        | _ => exact hk1.elim
end Go.Ev
