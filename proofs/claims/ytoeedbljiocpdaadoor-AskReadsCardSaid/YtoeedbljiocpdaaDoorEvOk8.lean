/- THE EVALUATOR IS SOUND, part 8: code, and a function. -/
import Derived.Test.YtoeedbljiocpdaaDoorEvOk7
namespace Go.Ev
open Go

variable {P : Program} {n : Nat} {m : Mode} {J L : Ann}
structure KF (n : Nat) (fr : Fr) (a : Act) : Prop where
  size : a.tmps.size = n
  defers : a.defers = []
  fr : ∀ t v, look t fr = some v → slot a t = v
theorem KF.kn {fr : Fr} {a : Act} (h : KF n fr a) (ws : List Nat) : Kn n ws fr ⟨fr, [], []⟩ a :=
  ⟨h.size, h.defers, fun t v hl _ => h.fr t v hl, fun t k v hl => (by cases hl), List.nodup_nil, fun g b hl => (by cases hl), fun t kv hl => (by cases hl), fun _ _ => rfl, fun x hx => (by cases hx)⟩
theorem Kn.kf {ws : List Nat} {f0 fr : Fr} {a : Act} (h : Kn n ws f0 ⟨fr, [], []⟩ a) : KF n fr a := ⟨h.size, h.defers, fun t v hl => h.fr t v hl rfl⟩
theorem mem_dsts : ∀ {l : List Oper} {d : Nat}, d ∈ dsts l ↔ ∃ o ∈ l, o.dst = some d
  | [], d => by simp [dsts]
  | o :: r, d => by
    simp only [dsts]
    cases ho : o.dst with
    | none => simp [mem_dsts (l := r), ho]
    | some x =>
      simp only [List.mem_cons, mem_dsts (l := r)]
      constructor
      · rintro (rfl | ⟨o', h1, h2⟩)
        · exact ⟨o, .inl rfl, ho⟩
        · exact ⟨o', .inr h1, h2⟩
      · rintro ⟨o', h1 | h1, h2⟩
        · subst h1; rw [ho] at h2; cases h2; exact .inl rfl
        · exact .inr ⟨o', h1, h2⟩
def Same (ws : List Nat) (f g : Fr) : Prop := ∀ t, t ∉ ws → look t g = look t f
set_option linter.unusedVariables false
theorem look_append (t : Nat) (f g : Fr) : look t (f ++ g) = if t ∈ f.map (·.1) then look t f else look t g := by
  induction f with
  | nil => simp
  | cons y r ih =>
    obtain ⟨s, v⟩ := y
    simp only [List.cons_append, look]
    cases hb : Nat.beq s t with
    | true => simp [beq_eq.1 hb]
    | false =>
      have : t ≠ s := fun e => beq_ne.1 hb e.symm
      simp only [cond_false, ih, List.map_cons, List.mem_cons, this, false_or]
theorem look_strip (ws : List Nat) (t : Nat) : ∀ (f : Fr), look t (strip ws f) = if t ∈ ws then none else look t f
  | [] => by simp [strip, look]
  | (s, v) :: r => by
    have ih := look_strip ws t r
    simp only [strip]
    cases hw : hasN s ws with
    | true =>
      simp only [cond_true, ih, look]
      cases hb : Nat.beq s t with
      | true => have := hasN_iff.1 hw; rw [beq_eq.1 hb] at this; simp [this]
      | false => rfl
    | false =>
      simp only [cond_false, look]
      cases hb : Nat.beq s t with
      | true =>
        have : t ∉ ws := fun hm => by rw [← beq_eq.1 hb] at hm; rw [hasN_iff.2 hm] at hw; cases hw
        simp [this]
      | false => simpa using ih
theorem carry_slots (fr : Fr) : ∀ ls : List (Nat × Sh), (carry fr ls).map (·.1) = ls.map (·.1)
  | [] => rfl
  | (t, s) :: r => by simp [carry, carry_slots fr r]
theorem look_carry (fr : Fr) (t : Nat) : ∀ ls : List (Nat × Sh), t ∈ ls.map (·.1) → look t (carry fr ls) = look t fr
  | [], h => by cases h
  | (s, x) :: r, h => by
    simp only [carry, look]
    cases hb : Nat.beq s t with
    | true => rw [beq_eq.1 hb]; rfl
    | false =>
      have : t ≠ s := fun e => beq_ne.1 hb e.symm
      simp [this] at h
      exact look_carry fr t r (by simpa using h)
theorem allIn_iff {ws : List Nat} : ∀ {ls : List (Nat × Sh)}, allIn ls ws = true → ∀ t ∈ ls.map (·.1), t ∈ ws
  | [], _, t, h => by cases h
  | (s, x) :: r, h, t, ht => by
    simp only [allIn] at h
    cases hw : hasN s ws with
    | true =>
      rw [hw] at h
      rcases List.mem_cons.1 ht with h1 | h1
      · rw [h1]; exact hasN_iff.1 hw
      · exact allIn_iff h t h1
    | false => rw [hw] at h; cases h
theorem allLeaf_intro {s : Sh} {F : Value → Prop} (h : ∀ v, F v) : allLeaf s F := by
  cases s <;> simp only [allLeaf] <;> intros <;> exact h _
theorem allLeaves_intro : ∀ {l : List Sh} {F : List Value → Prop}, (∀ v, F v) → allLeaves l F
  | [], F, h => h []
  | s :: r, F, h => allLeaf_intro fun v => allLeaves_intro fun vs => h (v :: vs)
theorem allSh_intro {s : Sh} {F : Value → Prop} (h : ∀ v, F v) : allSh s F := by
  cases s
  case cells l => exact allLeaves_intro fun vs => h _
  all_goals (simp only [allSh]; exact allLeaf_intro h)
theorem allFr_intro : ∀ {ls : List (Nat × Sh)} {F : Fr → Prop}, (∀ fr : Fr, fr.map (·.1) = ls.map (·.1) → F fr) → allFr ls F
  | [], F, h => h [] rfl
  | (t, s) :: r, F, h => allSh_intro fun v => allFr_intro fun fr hf => h _ (by simp [hf])
/-- where ways meet: what is carried, and what was not written -/
theorem kf_meet {ws : List Nat} {f f' : Fr} {ls : List (Nat × Sh)} {a : Act} (h : KF n f' a) (hs : ∀ t, t ∉ ws → look t f' = look t f) : KF n (carry f' ls ++ strip ws f) a := by
  refine ⟨h.size, h.defers, fun t v hl => ?_⟩
  rw [look_append, carry_slots] at hl
  split at hl
  · rename_i hm
    rw [look_carry f' t ls hm] at hl
    exact h.fr t v hl
  · rw [look_strip] at hl
    split at hl
    · cases hl
    · rename_i hw
      exact h.fr t v ((hs t hw).trans hl)
theorem look_meet {ws : List Nat} {f fr : Fr} {ls : List (Nat × Sh)} (hf : fr.map (·.1) = ls.map (·.1)) (hin : ∀ t ∈ ls.map (·.1), t ∈ ws) {t : Nat} (ht : t ∉ ws) : look t (fr ++ strip ws f) = look t f := by
  rw [look_append, hf, if_neg (fun hm => ht (hin t hm)), look_strip, if_neg ht]
/-- round a loop -/
def Again (P : Program) (c : Code) (Q : Exit → Act → World → Prop) (a : Act) (w : World) : Prop :=
  ∀ (b : Frame) (k : List Item) (cs : List Frame), ∃ e a' w', Q e a' w' ∧ Arrives P (lone (b.at a (.code c :: .inLoop c :: k)) cs w) b k cs e a' w'
theorem again_of {c : Code} {Q : Exit → Act → World → Prop} {a : Act} {w : World} (h : c.wp P (Exit.then (Again P c Q) Q) a w) : Again P c Q a w := by
  intro b k cs
  obtain ⟨e, a₁, w₁, hq, harr⟩ := h b (.inLoop c :: k) cs
  cases e with
  | normal =>
    obtain ⟨e₂, a₂, w₂, hq₂, harr₂⟩ := hq b k cs
    exact ⟨e₂, a₂, w₂, hq₂, .of_steps (Steps.trans harr (.one step_inLoop)) harr₂⟩
  | exit id => exact ⟨_, a₁, w₁, hq, .pass (x := .inLoop c) rfl (fun _ _ => .inl (by simp)) harr⟩
  | goto l => exact ⟨_, a₁, w₁, hq, .pass (x := .inLoop c) rfl (fun _ _ => .inl (by simp)) harr⟩
  | ret => exact ⟨_, a₁, w₁, hq, .pass (x := .inLoop c) rfl (fun _ _ => .inl (by simp)) harr⟩
  | panic ch => exact ⟨_, a₁, w₁, hq, .pass (x := .inLoop c) rfl (fun _ _ => .inl (by simp)) harr⟩
  | outgrown => exact ⟨_, a₁, w₁, hq, .pass (x := .inLoop c) rfl (fun _ _ => .inl (by simp)) harr⟩
theorem loop_of {c : Code} {Q : Exit → Act → World → Prop} {a : Act} {w : World} (h : Again P c Q a w) : (Code.loop c).wp P Q a w := by
  intro b k cs
  obtain ⟨e, a', w', hq, harr⟩ := h b k cs
  exact ⟨e, a', w', hq, .of_steps (.one step_loop) harr⟩
theorem evC_ok (hP : Good P) : ∀ (c : Code), (∀ d ∈ writes c, d < n) → ∀ {fr : Fr} {a : Act} {w : World} {Q' : Cont} {Q : Exit → Act → World → Prop}, KF n fr a →
    (∀ e fr' a' w', KF n fr' a' → Same (writes c) fr fr' → Q' e fr' w' → Q e a' w') → evC P m J L c fr w Q' → c.wp P Q a w
  | .skip, _, fr, a, w, Q', Q, hk, hq, h => wp_skip (hq _ _ _ _ hk (fun _ _ => rfl) h)
  | .exit id, _, fr, a, w, Q', Q, hk, hq, h => wp_exit (hq _ _ _ _ hk (fun _ _ => rfl) h)
  | .ret, _, fr, a, w, Q', Q, hk, hq, h => wp_ret (hq _ _ _ _ hk (fun _ _ => rfl) h)
  | .region id ops draw, hw, fr, a, w, Q', Q, hk, hq, h => by
    refine evR_ok (n := n) (ws := dsts ops.toList) (f0 := fr) (m := m) hP (K := fun fr' w' => Q' .normal fr' w') (fun fr' a' w' h1 h2 => hq .normal fr' a' w' h1.kf (fun t ht => h1.pres t ht) h2) (fun o ho d hd => ?_) (hk.kn _) h
    have : d ∈ dsts ops.toList := mem_dsts.2 ⟨o, ho, hd⟩
    exact ⟨hw d this, this⟩
  | .cond c x y, hw, fr, a, w, Q', Q, hk, hq, h => by
    simp only [evC] at h
    split at h
    · rename_i t ht
      have hc := (hk.kn []).val (Sat.nil a) ht
      have hx : ∀ d ∈ writes x, d < n := fun d hd => hw d (List.mem_append_left _ hd)
      have hy : ∀ d ∈ writes y, d < n := fun d hd => hw d (List.mem_append_right _ hd)
      refine wp_cond hc ?_
      cases t with
      | true =>
        exact evC_ok hP x hx hk (fun e fr' a' w' h1 h2 h3 => hq e fr' a' w' h1 (fun t ht => h2 t (fun hm => ht (List.mem_append_left _ hm))) h3) h
      | false =>
        exact evC_ok hP y hy hk (fun e fr' a' w' h1 h2 h3 => hq e fr' a' w' h1 (fun t ht => h2 t (fun hm => ht (List.mem_append_right _ hm))) h3) h
    · exact h.elim
  | .block id c, hw, fr, a, w, Q', Q, hk, hq, h => by
    refine wp_block (evC_ok hP c hw hk (fun e fr' a' w' h1 h2 h3 => ?_) h)
    cases e with
    | exit i =>
      simp only [inBlockC] at h3
      simp only [Exit.inBlock]
      cases hb : Nat.beq i id with
      | true => rw [hb] at h3; rw [if_pos (beq_eq.1 hb)]; exact hq _ _ _ _ h1 h2 h3
      | false => rw [hb] at h3; rw [if_neg (beq_ne.1 hb)]; exact hq _ _ _ _ h1 h2 h3
    | _ => exact hq _ _ _ _ h1 h2 h3
  | .seq x y, hw, fr, a, w, Q', Q, hk, hq, h => by
    have hx : ∀ d ∈ writes x, d < n := fun d hd => hw d (List.mem_append_left _ hd)
    have hy : ∀ d ∈ writes y, d < n := fun d hd => hw d (List.mem_append_right _ hd)
    simp only [evC] at h
    refine wp_seq ?_
    split at h
    · refine evC_ok hP x hx hk (fun e fr' a' w' h1 h2 h3 => ?_) h
      have off : ∀ e, Q' e fr' w' → Q e a' w' := fun e h4 => hq e fr' a' w' h1 (fun t ht => h2 t (fun hm => ht (List.mem_append_left _ hm))) h4
      cases e with
      | normal =>
        exact evC_ok hP y hy h1 (fun e fr2 a2 w2 h4 h5 h6 => hq e fr2 a2 w2 h4 (fun t ht =>
          (h5 t (fun hm => ht (List.mem_append_right _ hm))).trans (h2 t (fun hm => ht (List.mem_append_left _ hm)))) h6) h3
      | _ => exact off _ h3
    · rename_i ls hls
      obtain ⟨hin, h⟩ := cond_ok h
      have hin := allIn_iff hin
      have h' := h (fun fr1 w' => ∀ a', KF n (fr1 ++ strip (writes x) fr) a' → y.wp P Q a' w') (allFr_intro fun fr1 hf w' hy' a' hk' =>
        evC_ok hP y hy hk' (fun e fr2 a2 w2 h4 h5 h6 => hq e fr2 a2 w2 h4 (fun t ht =>
          (h5 t (fun hm => ht (List.mem_append_right _ hm))).trans (look_meet hf hin (fun hm => ht (List.mem_append_left _ hm)))) h6) hy')
      refine evC_ok hP x hx hk (fun e fr' a' w' h1 h2 h3 => ?_) h'
      have off : ∀ e, Q' e fr' w' → Q e a' w' := fun e h4 => hq e fr' a' w' h1 (fun t ht => h2 t (fun hm => ht (List.mem_append_left _ hm))) h4
      cases e with
      | normal => exact h3 a' (kf_meet h1 h2)
      | _ => exact off _ h3
  | .loop c, hw, fr, a, w, Q', Q, hk, hq, h => by
    simp only [evC] at h
    split at h
    · exact h.elim
    · rename_i ls hls
      obtain ⟨hin, h⟩ := cond_ok h
      have hin := allIn_iff hin
      have h' := h (fun fr1 w' => ∀ a', KF n (fr1 ++ strip (writes c) fr) a' → Again P c Q a' w') (allFr_intro fun fr1 hf w' hc' a' hk' => again_of (
        evC_ok hP c hw hk' (fun e fr2 a2 w2 h4 h5 h6 => by
          have same : ∀ t, t ∉ writes c → look t fr2 = look t fr := fun t ht => (h5 t ht).trans (look_meet hf hin ht)
          have off : ∀ e, Q' e fr2 w2 → Q e a2 w2 := fun e h7 => hq e fr2 a2 w2 h4 same h7
          cases e with
          | normal => exact h6 a2 (kf_meet h4 same)
          | _ => exact off _ h6) hc'))
      exact loop_of (h' a (kf_meet hk (fun _ _ => rfl)))
  | .rangeFunc .., _, _, _, _, _, _, _, _, h => (by simp only [evC] at h)
  | .scope _, _, _, _, _, _, _, _, _, h => (by simp only [evC] at h)
  | .label _, _, _, _, _, _, _, _, _, h => (by simp only [evC] at h)
  | .goto _, _, _, _, _, _, _, _, _, h => (by simp only [evC] at h)
  | .refuse _, _, _, _, _, _, _, _, _, h => (by simp only [evC] at h)

theorem resAll_ok {fr : Fr} {a : Act} (hk : KF n fr a) {w : World} : ∀ {l : List ResultVar} {K : List Value → Prop}, resAll P fr w l K →
    ∃ vs, vs.length = l.length ∧ (l.mapM fun | .tmp t => pure (a.tmps.getD t undef) | .cell x t => do loadVar t (← asAddr (a.tmps.getD x undef)) : Sem (List Value)).run P w = .ok vs w ∧ K vs
  | [], K, h => ⟨[], rfl, rfl, h⟩
  | .tmp t :: r, K, h => by
    simp only [resAll] at h
    split at h
    · rename_i v hv
      obtain ⟨vs, h1, h2, h3⟩ := resAll_ok hk h
      refine ⟨v :: vs, by simp [h1], ?_, h3⟩
      have hs : a.tmps.getD t undef = v := hk.fr t v hv
      rw [List.mapM_cons, Sem.run_bind]
      simp only [Sem.run_pure, Result.andThen_ok]
      rw [Sem.run_bind, h2, hs]; rfl
    · exact h.elim
  | .cell t ty :: r, K, h => by
    simp only [resAll] at h
    split at h
    · rename_i p hv
      obtain ⟨v, h0, h1⟩ := ldEv_ok h
      obtain ⟨vs, h2, h3, h4⟩ := resAll_ok hk h0
      refine ⟨v :: vs, by simp [h2], ?_, h4⟩
      have hs : a.tmps.getD t undef = .pointer (some p) := hk.fr t _ hv
      rw [List.mapM_cons, Sem.run_bind]
      show ((asAddr (a.tmps.getD t undef) >>= fun p => loadVar ty p).run P w).andThen _ = _
      have e1 : (asAddr (a.tmps.getD t undef) >>= fun p => loadVar ty p).run P w = .ok v w := by rw [hs]; exact h1 w (kept_refl _ _ _)
      rw [e1, Result.andThen_ok, Sem.run_bind, h3]; rfl
    · exact h.elim
theorem results_ok {fn : Func} {fr : Fr} {a : Act} (hk : KF n fr a) {w : World} {R : Value → World → Prop} (h : resAll P fr w fn.results.toList (resOne R w)) :
    ∃ v, (results fn a.tmps).run P w = .ok v w ∧ R v w := by
  obtain ⟨vs, h1, h2, h3⟩ := resAll_ok hk h
  have hm : (fn.results.mapM fun | .tmp t => pure (a.tmps.getD t undef) | .cell x t => do loadVar t (← asAddr (a.tmps.getD x undef)) : Sem (Array Value)).run P w = .ok ⟨vs⟩ w := by
    rw [Array.mapM_eq_mapM_toList, Sem.run_map, h2]; rfl
  refine ⟨if h : (Array.mk vs).size = 1 then (Array.mk vs)[0] else .tuple ⟨vs⟩, ?_, ?_⟩
  · unfold results
    rw [Sem.run_bind]
    exact (congrArg (fun r => Result.andThen r fun (vs : Array Value) w' => Sem.run P (pure (if h : vs.size = 1 then vs[0] else .tuple vs)) w') hm).trans rfl
  · match vs, h3 with
    | [], h3 => exact h3
    | [v], h3 => exact h3
    | v :: u :: r, h3 => exact h3
theorem frOf_look : ∀ {l : List Value} {i t : Nat} {v : Value}, look t (frOf i l) = some v → i ≤ t ∧ l[t - i]? = some v
  | [], _, _, _, h => by cases h
  | x :: r, i, t, v, h => by
    simp only [frOf, look] at h
    cases hb : Nat.beq i t with
    | true =>
      rw [hb] at h; cases h
      have := beq_eq.1 hb
      exact ⟨by omega, by simp [this]⟩
    | false =>
      rw [hb] at h
      have hne := beq_ne.1 hb
      obtain ⟨h1, h2⟩ := frOf_look h
      refine ⟨by omega, ?_⟩
      rw [show t - i = (t - (i + 1)) + 1 by omega]
      simpa using h2
theorem allLt_iff {n : Nat} : ∀ {l : List Nat}, allLt n l = true → ∀ d ∈ l, d < n
  | [], _, d, h => by cases h
  | x :: r, h, d, hd => by
    simp only [allLt] at h
    cases hb : Nat.blt x n with
    | true =>
      rw [hb] at h
      rcases List.mem_cons.1 hd with h1 | h1
      · rw [h1]; exact Nat.le_of_ble_eq_true hb
      · exact allLt_iff h d h1
    | false => rw [hb] at h; cases h
/-- THE EVALUATOR IS SOUND -/
theorem evF_ok (hP : Good P) {f : FuncId} {fn : Func} (hf : P.funcs[f]? = some fn) {args : List Value} (hlen' : Nat.ble args.length fn.ntmps = true) {w : World} {R : Value → World → Prop}
    (h : evF P m J L fn args w R) : Ok P f args w R := by
  have hlen : args.length ≤ fn.ntmps := Nat.le_of_ble_eq_true hlen'
  unfold evF at h
  split at h
  · rename_i c hc
    obtain ⟨hlt, h⟩ := cond_ok h
    refine calls_of_wp hf hc (evC_ok (n := fn.ntmps) (m := m) (J := J) (L := L) hP c (allLt_iff hlt) (fr := frOf 0 args) ⟨?_, rfl, fun t v hl => ?_⟩ (fun e fr' a' w' hk _ hq => ?_) h)
    · simp; omega
    · obtain ⟨_, h2⟩ := frOf_look hl
      have h3 : args[t]? = some v := by simpa using h2
      have h4 : t < args.length := (List.getElem?_eq_some_iff.1 h3).1
      show Array.getD _ t undef = v
      rw [Array.getD_eq_getD_getElem?, Array.getElem?_append_left (by simpa using h4)]
      simp [h3]
    · cases e with
      | normal =>
        obtain ⟨v, h1, h2⟩ := results_ok (fn := fn) hk hq
        exact ⟨hk.defers, v, h1, v, rfl, h2⟩
      | ret =>
        obtain ⟨v, h1, h2⟩ := results_ok (fn := fn) hk hq
        exact ⟨hk.defers, v, h1, v, rfl, h2⟩
      | _ => exact hq.elim
  · exact h.elim
#print axioms evF_ok
end Go.Ev
