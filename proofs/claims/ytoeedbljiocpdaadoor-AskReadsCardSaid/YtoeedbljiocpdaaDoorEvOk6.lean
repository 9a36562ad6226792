/- THE EVALUATOR IS SOUND, part 6: one operation, whatever its guard says. -/
import Derived.Test.YtoeedbljiocpdaaDoorEvOk5
namespace Go.Ev
open Go

variable {P : Program} {n : Nat} {ws : List Nat} {f0 : Fr} {ops : Array Oper}
theorem Kn.snd {s : St} {a : Act} (h : Kn n ws f0 s a) {k : Key} (hs : Sat a k) : Snd (s.val k) a.eval := fun _ _ hv => h.val hs hv
theorem wanted_none {o : Oper} {a : Act} (h : o.guard = none) : Region.wanted o (yielded ops a.tmps) = true := by simp [Region.wanted, h]
theorem wanted_some {o : Oper} {a : Act} {j g : Nat} {b : Bool} (h : o.guard = some (j, b)) (hg : (ops.toList[j]?).bind (·.dst) = some g) :
    Region.wanted o (yielded ops a.tmps) = true ↔ slot a g = .bool b := by
  simp only [Region.wanted, h, yielded]
  have hg' : (ops[j]?).bind (·.dst) = some g := by simpa using hg
  rw [hg']
  simp only [Option.bind_some, slot, Array.getD_eq_getD_getElem?]
  cases ht : a.tmps[g]? with
  | none => simp [undef]
  | some v => cases v <;> simp
def YR (P : Program) (ops : Array Oper) (o : Oper) (v : Value) (a : Act) (w : World) (rd : Rd) : Prop :=
  (Region.wanted o (yielded ops a.tmps) = true ∧ ∀ w', (∀ c ∈ rd, kept c.2.1 c.2.2 w w') → (execOp a.eval o).run P w' = .ok (.value v) w') ∨
  (Region.wanted o (yielded ops a.tmps) = false ∧ v = undef)

/-- a pick's value -/
theorem pick_run {a : Act} {c x y : Operand} {t : Bool} (hc : a.eval c = .bool t) (dst : Option Nat) (ty : TypeId) (ps : String) (af : Array Edge) (gd : Option (Nat × Bool)) (w : World) :
    (execOp a.eval ⟨dst, .pick c x y, ty, ps, af, gd⟩).run P w = .ok (.value (if t then a.eval x else a.eval y)) w := by
  simp only [execOp, hc]; rfl
def keyT (c : Operand) (b : Bool) : Key := match c with | .tmp t => [(t, b)] | _ => []
theorem keyT_sat {a : Act} {c : Operand} {t : Bool} (hc : a.eval c = .bool t) : Sat a (keyT c t) := by
  cases c <;> simp only [keyT] <;> first | exact Sat.nil a | (refine Sat.cons.2 ⟨?_, Sat.nil a⟩; exact hc)
theorem sat_append {a : Act} {k l : Key} (h1 : Sat a k) (h2 : Sat a l) : Sat a (k ++ l) := fun x hx => by
  rcases List.mem_append.1 hx with h | h
  · exact h1 x h
  · exact h2 x h
/-- what a wanted operation that computes, or reads, comes to -/
theorem runEv_quiet {m : Mode} {o : Oper} {s : St} {a : Act} {w : World} {K : St → World → Prop} (hk : Kn n ws f0 s a) (hd : ∀ d, o.dst = some d → d < n ∧ d ∈ ws) (hc : cls P o.op ≤ 1) (h : runEv P m o s w K) :
    ∃ v s', (∀ w', (∀ t x A, o.op = .load t x → s.val [] x = some (.pointer (some A)) → kept A (Ev.sizeOf P t) w w') → (execOp a.eval o).run P w' = .ok (.value v) w') ∧ Kn n ws f0 s' (a.put o.dst v) ∧ K s' w := by
  have hr : Snd (s.val []) a.eval := hk.snd (Sat.nil a)
  obtain ⟨dst, op, ty, ps, af, gd⟩ := o
  unfold runEv at h
  simp only at h hc hd
  split at h
  · rename_i c x y
    unfold pickEv at h
    split at h
    · rename_i t hct
      have hct' := hr _ _ hct
      have ht : ∀ {u : Value}, s.val (keyT c true) x = some u → t = true → a.eval x = u := fun hu e => hk.val (e ▸ keyT_sat hct') hu
      have hf : ∀ {u : Value}, s.val (keyT c false) y = some u → t = false → a.eval y = u := fun hu e => hk.val (e ▸ keyT_sat hct') hu
      have fin : ∀ {u : Value}, (if t then a.eval x else a.eval y) = u → K (s.put dst (some u)) w →
          ∃ v s', (∀ w', (∀ t' x' A, Op.pick c x y = .load t' x' → s.val [] x' = some (.pointer (some A)) → kept A (Ev.sizeOf P t') w w') → (execOp a.eval ⟨dst, .pick c x y, ty, ps, af, gd⟩).run P w' = .ok (.value v) w') ∧ Kn n ws f0 s' (a.put dst v) ∧ K s' w := by
        intro u hu hK
        exact ⟨u, _, fun w' _ => by rw [pick_run hct', hu], hk.put hd (fun x hx => by cases hx; rfl), hK⟩
      split at h
      · rename_i bx by' h1 h2
        refine fin ?_ h
        cases t with
        | true => simp only [if_true, cond_true]; exact ht h1 rfl
        | false => simp only [Bool.false_eq_true, if_false, cond_false]; exact hf h2 rfl
      · rename_i v h1 h2
        cases t with
        | true => exact fin (by simp only [if_true]; exact ht h1 rfl) h
        | false => exact h.elim
      · rename_i v h1 h2
        cases t with
        | true => exact h.elim
        | false => exact fin (by simp only [Bool.false_eq_true, if_false]; exact hf h2 rfl) h
      · rename_i u v _ h1 h2
        cases t with
        | true => exact fin (by simp only [if_true]; exact ht h1 rfl) h
        | false => exact fin (by simp only [Bool.false_eq_true, if_false]; exact hf h2 rfl) h
      · exact h.elim
    · exact h.elim
  · rename_i x
    exact ⟨a.eval x, _, fun w' _ => rfl, hk.put hd (fun u hu => hr _ _ hu), h⟩
  · rename_i x
    exact ⟨a.eval x, _, fun w' _ => rfl, hk.put hd (fun u hu => hr _ _ hu), h⟩
  · rename_i hn1 hn2 hn3
    by_cases h0 : cls P op = 0
    · obtain ⟨v, h1, h2⟩ := opEv0 hr (o := ⟨dst, op, ty, ps, af, gd⟩) h0 h
      exact ⟨v, _, fun w' _ => h1 w', hk.put hd (fun x hx => by cases hx; rfl), h2⟩
    · have h1 : cls P op = 1 := by omega
      have hl : ∃ t x, op = .load t x := by
        unfold cls at h1
        split at h1 <;> first | exact ⟨_, _, rfl⟩ | cases h1 | (split at h1 <;> cases h1)
      obtain ⟨t, x, rfl⟩ := hl
      unfold opEv at h
      simp only at h
      split at h
      · rename_i A hx
        obtain ⟨v, h2, h3⟩ := opEv1 hr (o := ⟨dst, .load t x, ty, ps, af, gd⟩) rfl hx h
        exact ⟨v, _, fun w' hw => h2 w' (hw t x A rfl hx), hk.put hd (fun x hx => by cases hx; rfl), h3⟩
      · exact h.elim
/-- what a wanted operation comes to -/
theorem runEv_ok (hP : Good P) {m : Mode} {o : Oper} {s : St} {a : Act} {w : World} {K : St → World → Prop} {Q : Exit → Act → World → Prop} (hk : Kn n ws f0 s a) (hd : ∀ d, o.dst = some d → d < n ∧ d ∈ ws)
    (h : runEv P m o s w K) : o.wp P a w (fun a' w' => ∃ s', Kn n ws f0 s' a' ∧ K s' w') Q := by
  by_cases hc : cls P o.op ≤ 1
  · obtain ⟨v, s', h1, h2, h3⟩ := runEv_quiet hk hd hc h
    unfold Oper.wp
    rw [h1 w (fun t x A _ _ => kept_refl _ _ _)]
    exact ⟨s', h2, h3⟩
  · have hr : Snd (s.val []) a.eval := hk.snd (Sat.nil a)
    have h' : opEv P m (s.val []) o w fun v w' => K (s.put o.dst (some v)) w' := by
      unfold runEv at h
      split at h
      · rename_i ho; rw [ho] at hc; simp [cls] at hc
      · rename_i ho; rw [ho] at hc; simp [cls] at hc
      · rename_i ho; rw [ho] at hc; simp [cls] at hc
      · exact h
    unfold Oper.wp
    rcases opEv_out hr hP h' with ⟨v, w', h1, h2⟩ | ⟨w', h1, h2⟩ | ⟨f, args, h1, h2⟩
    · rw [h1]; exact ⟨_, hk.put hd (fun x hx => by cases hx; rfl), h2⟩
    · rw [h1]; exact ⟨_, hk.put hd (fun x hx => by cases hx; rfl), h2⟩
    · rw [h1]
      refine Calls.mono h2 fun e w' ⟨v, h3, h4⟩ => ?_
      subst h3
      exact ⟨_, hk.put hd (fun x hx => by cases hx; rfl), h4⟩

/-- a chain of guards and the operation that it stands ahead of -/
theorem chain_wanted {s : St} {a : Act} (hk : Kn n ws f0 s a) {o : Oper} {j g : Nat} {want : Bool} (hg : o.guard = some (j, want)) (hd : (ops.toList[j]?).bind (·.dst) = some g) :
    Region.wanted o (yielded ops a.tmps) = true ↔ Sat a ((g, want) :: (match lookC g s.cd with | some (k, _) => k | none => [])) := by
  rw [wanted_some hg hd, Sat.cons]
  refine ⟨fun h => ⟨h, ?_⟩, fun h => h.1⟩
  cases hl : lookC g s.cd with
  | none => exact Sat.nil a
  | some kv =>
    obtain ⟨k, v⟩ := kv
    simp only
    have := hk.cd g k v hl
    by_cases hs : Sat a k
    · exact hs
    · have h2 := this.2 hs
      rw [h] at h2; cases h2
theorem pickTot_ok {s : St} {a : Act} (hk : Kn n ws f0 s a) {k : Key} (hs : Sat a k) {c x y : Operand} {v : Value} (h : pickTot (s.val k c) (s.val (keyT c true ++ k) x) (s.val (keyT c false ++ k) y) = some v)
    (dst : Option Nat) (ty : TypeId) (ps : String) (af : Array Edge) (gd : Option (Nat × Bool)) (w : World) : (execOp a.eval ⟨dst, .pick c x y, ty, ps, af, gd⟩).run P w = .ok (.value v) w := by
  unfold pickTot at h
  split at h
  · rename_i t bx by' h1 h2 h3
    have hct : a.eval c = .bool t := hk.val hs h1
    cases h
    rw [pick_run hct]
    cases t with
    | true => rw [if_pos rfl, hk.val (sat_append (keyT_sat hct) hs) h2]; rfl
    | false => rw [if_neg (by simp), hk.val (sat_append (keyT_sat hct) hs) h3]; rfl
  · cases h
theorem totOp_ok {s : St} {a : Act} (hk : Kn n ws f0 s a) {k : Key} (hs : Sat a k) {o : Oper} {v : Value} (h : totOp P s k o = some v) (w : World) : (execOp a.eval o).run P w = .ok (.value v) w := by
  obtain ⟨dst, op, ty, ps, af, gd⟩ := o
  unfold totOp at h
  simp only at h
  split at h
  · exact pickTot_ok hk hs h dst ty ps af gd w
  · exact tot_ok (hk.snd hs) ⟨dst, _, ty, ps, af, gd⟩ h w

theorem chain_in {s : St} {a : Act} (hk : Kn n ws f0 s a) (hops : ∀ o ∈ ops.toList, ∀ d, o.dst = some d → d < n ∧ d ∈ ws) {j g : Nat} {want : Bool} (hgd : (ops.toList[j]?).bind (·.dst) = some g) :
    ∀ y ∈ ((g, want) :: (match lookC g s.cd with | some (k, _) => k | none => []) : Key), y.1 ∈ ws := by
  intro y hy
  cases hy with
  | head =>
    cases hj : ops.toList[j]? with
    | none => rw [hj] at hgd; cases hgd
    | some oj => rw [hj] at hgd; exact (hops oj (List.mem_of_getElem? hj) g hgd).2
  | tail _ hy =>
    cases hl : lookC g s.cd with
    | none => rw [hl] at hy; cases hy
    | some kv =>
      obtain ⟨k, v⟩ := kv
      rw [hl] at hy
      exact (hk.ins _ (lookC_mem hl)).2 y hy
/-- an operation that computes, or reads -/
theorem step_quiet (hops : ∀ o ∈ ops.toList, ∀ d, o.dst = some d → d < n ∧ d ∈ ws) {m : Mode} {i : Nat} {o : Oper} {s : St} {a : Act} {w : World} {K : St → World → Prop} (hk : Kn n ws f0 s a) (hd : ∀ d, o.dst = some d → d < n ∧ d ∈ ws) (hc : cls P o.op ≤ 1) (h : stepEv P m ops o s w K) :
    ∃ v s', YR P ops o v a w (readsOf P ops.toList s i o) ∧ Kn n ws f0 s' (a.put o.dst v) ∧ K s' w := by
  -- what a wanted one reads
  have quiet : ∀ {s' : St}, Kn n ws f0 s' a → runEv P m o s' w K → Region.wanted o (yielded ops a.tmps) = true →
      (∀ t x A, o.op = .load t x → s'.val [] x = some (.pointer (some A)) → (i, A, Ev.sizeOf P t) ∈ readsOf P ops.toList s i o) →
      ∃ v s', YR P ops o v a w (readsOf P ops.toList s i o) ∧ Kn n ws f0 s' (a.put o.dst v) ∧ K s' w := by
    intro s' hk' hrun hw hmem
    obtain ⟨v, s2, h1, h2, h3⟩ := runEv_quiet hk' hd hc hrun
    exact ⟨v, s2, .inl ⟨hw, fun w' hkept => h1 w' fun t x A ho hv => hkept _ (hmem t x A ho hv)⟩, h2, h3⟩
  unfold stepEv at h
  split at h
  · rename_i hg
    refine quiet hk h (wanted_none hg) fun t x A ho hv => ?_
    unfold readsOf
    rw [ho, hg]
    simp only [hv]
    exact List.mem_singleton.2 rfl
  · rename_i j want hg
    split at h
    · exact h.elim
    · rename_i g hgd
      split at h
      · rename_i b hl
        have hb := hk.lt g b hl
        have hw := wanted_some (ops := ops) (a := a) hg hgd
        cases hs : sameB b want with
        | true =>
          rw [hs] at h
          have e := sameB_eq.1 hs
          subst e
          refine quiet hk h (hw.2 hb) fun t x A ho hv => ?_
          unfold readsOf
          rw [ho, hg]
          simp only [hgd, hl, hv]
          exact List.mem_singleton.2 rfl
        | false =>
          rw [hs] at h
          have hne : ¬ Region.wanted o (yielded ops a.tmps) = true := fun hh => by
            have := hw.1 hh
            rw [hb] at this
            cases this
            simp [sameB_eq.2] at hs
          exact ⟨undef, _, .inr ⟨by simpa using hne, rfl⟩, hk.put hd (fun x hx => by cases hx; rfl), h⟩
      · rename_i hl
        have hch := chain_wanted (ops := ops) hk hg hgd
        have hci := chain_in (want := want) hk hops hgd
        cases he : early o.op with
        | true =>
          rw [he] at h
          simp only [cond_true] at h
          split at h
          · rename_i v hv
            by_cases hs : Region.wanted o (yielded ops a.tmps) = true
            · exact ⟨v, _, .inl ⟨hs, fun w' _ => totOp_ok hk (hch.1 hs) hv w'⟩, hk.putC hd hci (fun _ => rfl) (fun hn => absurd (hch.1 hs) hn), h⟩
            · exact ⟨undef, _, .inr ⟨by simpa using hs, rfl⟩, hk.putC hd hci (fun hh => absurd (hch.2 hh) hs) (fun _ => rfl), h⟩
          · obtain ⟨s', on, hk', h1, h2⟩ := settleAll_ok _ s _ hci hk h
            cases on with
            | true =>
              exact quiet hk' h1 (hch.2 (h2.1 rfl)) fun t x A ho hv => by rw [ho] at he; cases he
            | false =>
              have hs : ¬ Region.wanted o (yielded ops a.tmps) = true := fun hh => by have := h2.2 (hch.1 hh); cases this
              exact ⟨undef, _, .inr ⟨by simpa using hs, rfl⟩, hk'.put hd (fun x hx => by cases hx; rfl), h1⟩
        | false =>
          rw [he] at h
          simp only [cond_false] at h
          split at h
          · rename_i t x ho
            split at h
            · rename_i A hx
              by_cases hs : Region.wanted o (yielded ops a.tmps) = true
              · obtain ⟨v, h1, h2⟩ := opEv1 (hk.snd (hch.1 hs)) (o := o) (K := fun v w => K (s.putC o.dst _ v) w) ho hx h
                refine ⟨v, _, .inl ⟨hs, fun w' hkept => h1 w' (hkept (i, A, Ev.sizeOf P t) ?_)⟩, hk.putC hd hci (fun _ => rfl) (fun hn => absurd (hch.1 hs) hn), h2⟩
                unfold readsOf
                rw [ho, hg]
                simp only [hgd, hl, hx]
                exact List.mem_singleton.2 rfl
              · obtain ⟨v, h1, h2⟩ := ldEv_ok h
                exact ⟨undef, _, .inr ⟨by simpa using hs, rfl⟩, hk.putC hd hci (fun hh => absurd (hch.2 hh) hs) (fun _ => rfl), h1⟩
            · exact h.elim
          · rename_i hnl
            obtain ⟨s', on, hk', h1, h2⟩ := settleAll_ok _ s _ hci hk h
            cases on with
            | true =>
              exact quiet hk' h1 (hch.2 (h2.1 rfl)) fun t x A ho hv => absurd ho (hnl t x)
            | false =>
              have hs : ¬ Region.wanted o (yielded ops a.tmps) = true := fun hh => by have := h2.2 (hch.1 hh); cases this
              exact ⟨undef, _, .inr ⟨by simpa using hs, rfl⟩, hk'.put hd (fun x hx => by cases hx; rfl), h1⟩
/-- any operation -/
theorem step_ok (hP : Good P) (hops : ∀ o ∈ ops.toList, ∀ d, o.dst = some d → d < n ∧ d ∈ ws) {m : Mode} {o : Oper} {s : St} {a : Act} {w : World} {K : St → World → Prop} {Q : Exit → Act → World → Prop} (hk : Kn n ws f0 s a) (hd : ∀ d, o.dst = some d → d < n ∧ d ∈ ws)
    (h : stepEv P m ops o s w K) : if Region.wanted o (yielded ops a.tmps) then o.wp P a w (fun a' w' => ∃ s', Kn n ws f0 s' a' ∧ K s' w') Q else ∃ s', Kn n ws f0 s' (a.put o.dst undef) ∧ K s' w := by
  by_cases hc : cls P o.op ≤ 1
  · obtain ⟨v, s', h1, h2, h3⟩ := step_quiet (i := 0) hops hk hd hc h
    rcases h1 with ⟨hw, h4⟩ | ⟨hw, rfl⟩
    · rw [if_pos hw]
      unfold Oper.wp
      rw [h4 w (fun c _ => kept_refl _ _ _)]
      exact ⟨s', h2, h3⟩
    · rw [if_neg (by simp [hw])]
      exact ⟨s', h2, h3⟩
  · unfold stepEv at h
    split at h
    · rename_i hg
      rw [if_pos (wanted_none hg)]
      exact runEv_ok hP hk hd h
    · rename_i j want hg
      split at h
      · exact h.elim
      · rename_i g hgd
        split at h
        · rename_i b hl
          have hb := hk.lt g b hl
          have hw := wanted_some (ops := ops) (a := a) hg hgd
          cases hs : sameB b want with
          | true =>
            rw [hs] at h
            have e := sameB_eq.1 hs
            subst e
            rw [if_pos (hw.2 hb)]
            exact runEv_ok hP hk hd h
          | false =>
            rw [hs] at h
            rw [if_neg (fun hh => by
              have := hw.1 hh
              rw [hb] at this
              cases this
              simp [sameB_eq.2] at hs)]
            exact ⟨_, hk.put hd (fun x hx => by cases hx; rfl), h⟩
        · rename_i hl
          have hch := chain_wanted (ops := ops) hk hg hgd
          have hci := chain_in (want := want) hk hops hgd
          cases he : early o.op with
          | true =>
            rw [he] at h
            simp only [cond_true] at h
            split at h
            · rename_i v hv
              by_cases hs : Region.wanted o (yielded ops a.tmps) = true
              · rw [if_pos hs]
                unfold Oper.wp
                rw [totOp_ok hk (hch.1 hs) hv w]
                exact ⟨_, hk.putC hd hci (fun _ => rfl) (fun hn => absurd (hch.1 hs) hn), h⟩
              · rw [if_neg hs]
                exact ⟨_, hk.putC hd hci (fun hh => absurd (hch.2 hh) hs) (fun _ => rfl), h⟩
            · obtain ⟨s', on, hk', h1, h2⟩ := settleAll_ok _ s _ hci hk h
              cases on with
              | true =>
                rw [if_pos (hch.2 (h2.1 rfl))]
                exact runEv_ok hP hk' hd h1
              | false =>
                rw [if_neg (fun hh => by have := h2.2 (hch.1 hh); cases this)]
                exact ⟨_, hk'.put hd (fun x hx => by cases hx; rfl), h1⟩
          | false =>
            rw [he] at h
            simp only [cond_false] at h
            split at h
            · rename_i t x ho; rw [ho] at hc; simp [cls] at hc
            · obtain ⟨s', on, hk', h1, h2⟩ := settleAll_ok _ s _ hci hk h
              cases on with
              | true =>
                rw [if_pos (hch.2 (h2.1 rfl))]
                exact runEv_ok hP hk' hd h1
              | false =>
                rw [if_neg (fun hh => by have := h2.2 (hch.1 hh); cases this)]
                exact ⟨_, hk'.put hd (fun x hx => by cases hx; rfl), h1⟩

/-! a region in the text's order -/
theorem evL_ok (hP : Good P) (hops : ∀ o ∈ ops.toList, ∀ d, o.dst = some d → d < n ∧ d ∈ ws) {m : Mode} {K : Fr → World → Prop} {Q : Exit → Act → World → Prop} (hQ : ∀ fr a w, Kn n ws f0 ⟨fr, [], []⟩ a → K fr w → Q .normal a w) :
    ∀ (l : List Oper) (s : St) (a : Act) (w : World), (∀ o ∈ l, ∀ d, o.dst = some d → d < n ∧ d ∈ ws) → Kn n ws f0 s a → evL P m ops l s w K → wpList P ops Q l a w
  | [], s, a, w, _, hk, h => wpList_nil (hQ s.fr a w hk.out h)
  | o :: r, s, a, w, hd, hk, h => by
    simp only [evL] at h
    have := step_ok (ops := ops) (Q := Q) hP hops hk (hd o List.mem_cons_self) h
    refine wpList_step fun K' hK' => ?_
    have go : ∀ a' w', (∃ s', Kn n ws f0 s' a' ∧ evL P m ops r s' w' K) → K' a' w' := fun a' w' ⟨s', h1, h2⟩ =>
      hK' a' w' (evL_ok hP hops hQ r s' a' w' (fun o ho => hd o (List.mem_cons_of_mem _ ho)) h1 h2)
    split
    · rename_i hw
      rw [if_pos hw] at this
      exact Oper.wp_mono go this
    · rename_i hw
      rw [if_neg hw] at this
      exact go _ _ this
end Go.Ev
