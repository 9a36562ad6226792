/- GRANTS: what a token tells, what a grant allows; what the statements ask of lists. -/
import Derived.Test.YtoeedbljiocpdaaDoorGr3
import Derived.Laws.StructEq
namespace Go.Proofs.YtoeedbljiocpdaaDoor
open Go Go.Ev Go.RowKit
set_option maxRecDepth 20000
set_option linter.unusedVariables false
/-! ### two grants that are one -/
theorem gr_fields : ((Pr.fieldsOf t_api_Grant).toList.map fun f => (f.type, f.offset, decide (f.name = "_"))) = [(t_int, 0, false), (t_int, 1, false), (t_int, 2, false), (t_int, 3, false), (t_int, 4, false), (t_bool, 5, false)] := by kernel_rfl
theorem gr_und : Pr.underlying t_api_Grant = some (.struct (Pr.fieldsOf t_api_Grant)) := by kernel_rfl
theorem gr_held : Pr.stoodInHeld t_api_Grant = false := by kernel_rfl
theorem gr_guard : Pr.eqGuardType Pr.depth t_api_Grant = false := by kernel_rfl
theorem und_int : Pr.underlying t_int = some (.int .i64) := by kernel_rfl
theorem und_bool : Pr.underlying t_bool = some .bool := by kernel_rfl
theorem eqFields_true {P : Program} (d : Nat) (xs ys : Array Value) (w : World) : ∀ (fs : List Field), (∀ f ∈ fs, ∃ v, f.name ≠ "_" ∧ (part f.type xs f.offset).run P w = .ok v w ∧ (part f.type ys f.offset).run P w = .ok v w ∧ (Op.equalIn d f.type v v).run P w = .ok true w) → (Op.eqFields d xs ys fs).run P w = .ok true w
  | [], _ => rfl
  | f :: fs, h => by
    obtain ⟨v, hn, h1, h2, h3⟩ := h f List.mem_cons_self
    have ih := eqFields_true d xs ys w fs fun g hg => h g (List.mem_cons_of_mem _ hg)
    unfold Op.eqFields
    rw [if_pos hn]
    simp only [Sem.run_bind, h1, h2, h3, Result.andThen]
    exact ih
theorem gr_equal (g : GrV) (w : World) : (Op.equalIn 10000 t_api_Grant (.agg ⟨g.cells⟩) (.agg ⟨g.cells⟩)).run Pr w = .ok true w := by
  rw [show 10000 = 9999 + 1 from rfl, run_equalIn_struct w 9999 t_api_Grant _ _ gr_und gr_held]
  refine eqFields_true _ _ _ _ _ fun f hf => ?_
  have hm : (f.type, f.offset, decide (f.name = "_")) ∈ ((Pr.fieldsOf t_api_Grant).toList.map fun f => (f.type, f.offset, decide (f.name = "_"))) := List.mem_map_of_mem hf
  rw [gr_fields] at hm
  have hI : ∀ z : Int, (Op.equalIn 9999 t_int (.int .i64 z) (.int .i64 z)).run Pr w = .ok true w := fun z => by
    rw [show 9999 = 9998 + 1 from rfl, run_equalIn_int w 9998 t_int .i64 .i64 z z und_int]
    simp
  have hB : ∀ z : Bool, (Op.equalIn 9999 t_bool (.bool z) (.bool z)).run Pr w = .ok true w := fun z => by
    rw [show 9999 = 9998 + 1 from rfl, run_equalIn_bool' w 9998 t_bool z z und_bool]
    simp
  obtain ⟨n0, n1, n2, n3, n4, rv⟩ := g
  have q0 : (part t_int ⟨cs_api_Grant n0 n1 n2 n3 n4 rv⟩ 0).run Pr w = .ok (.int .i64 n0) w := by kernel_rfl
  have q1 : (part t_int ⟨cs_api_Grant n0 n1 n2 n3 n4 rv⟩ 1).run Pr w = .ok (.int .i64 n1) w := by kernel_rfl
  have q2 : (part t_int ⟨cs_api_Grant n0 n1 n2 n3 n4 rv⟩ 2).run Pr w = .ok (.int .i64 n2) w := by kernel_rfl
  have q3 : (part t_int ⟨cs_api_Grant n0 n1 n2 n3 n4 rv⟩ 3).run Pr w = .ok (.int .i64 n3) w := by kernel_rfl
  have q4 : (part t_int ⟨cs_api_Grant n0 n1 n2 n3 n4 rv⟩ 4).run Pr w = .ok (.int .i64 n4) w := by kernel_rfl
  have q5 : (part t_bool ⟨cs_api_Grant n0 n1 n2 n3 n4 rv⟩ 5).run Pr w = .ok (.bool rv) w := by kernel_rfl
  simp only [List.mem_cons, List.not_mem_nil, or_false, Prod.mk.injEq, decide_eq_false_iff_not] at hm
  rcases hm with ⟨h1, h2, h3⟩ | ⟨h1, h2, h3⟩ | ⟨h1, h2, h3⟩ | ⟨h1, h2, h3⟩ | ⟨h1, h2, h3⟩ | ⟨h1, h2, h3⟩
  · rw [h1, h2]; exact ⟨_, h3, q0, q0, hI _⟩
  · rw [h1, h2]; exact ⟨_, h3, q1, q1, hI _⟩
  · rw [h1, h2]; exact ⟨_, h3, q2, q2, hI _⟩
  · rw [h1, h2]; exact ⟨_, h3, q3, q3, hI _⟩
  · rw [h1, h2]; exact ⟨_, h3, q4, q4, hI _⟩
  · rw [h1, h2]; exact ⟨_, h3, q5, q5, hB _⟩
theorem eqK_gr {g : GrV} {w : World} {K : Bool → World → Prop} (h : K true w) : eqK Pr .eql t_api_Grant g.cells g.cells w K := by
  refine ⟨.bool true, w, ?_, true, rfl, h⟩
  simp only [Sem.run_bind, run_eqGuard_agg w _ _ _ _ _ _ gr_guard, Result.andThen, run_eql_struct, gr_equal]
theorem neK_gr {g : GrV} {w : World} {K : Bool → World → Prop} (h : K false w) : eqK Pr .neq t_api_Grant g.cells g.cells w K := by
  refine ⟨.bool false, w, ?_, false, rfl, h⟩
  simp only [Sem.run_bind, run_eqGuard_agg w _ _ _ _ _ _ gr_guard, Result.andThen, run_neq_struct, gr_equal]
  rfl
theorem law0_SameGrants_same (x y : SlV) (l : List GrV) (w : World) (hx : Grs w x l) (hy : Grs w y l) (hl : l.length ≤ 1000000) : Ok Pr f_law0_SameGrants [.slice x.a x.n x.c, .slice y.a y.n y.c] w fun v w' => v = .bool true ∧ Mod [] w w' := by
  refine V_law0_SameGrants_of ?_
  unfold V_law0_SameGrants
  have hxl := hx.len
  have hyl := hy.len
  refine ite_false (by rw [← hxl, ← hyl]; simp) ?_
  refine loop1_up 0 l.length (fun i w' => Mod [] w w') rfl (by omega) (Mod.refl _ _) ?_ ?_
  · intro again i w1 _ hi m hag
    have m' := m.trans (Mod.drew [] w1)
    refine ite_true (decide_eq_true (by omega)) ((hx.mod0 m').ld hi rfl ((hy.mod0 m').ld hi rfl (neK_gr (ite_false rfl ⟨⟨by omega, by omega⟩, hag _ m'⟩))))
  · intro again w1 m
    exact ite_false (decide_eq_false (by omega)) ⟨rfl, m⟩
/-! ### what a token tells -/
theorem grants_Check_1_ok (g : GrV) (p q : Addr) (x y : SlV) (s t : List B8) (hs : s.length ≤ 1000) (w : World) (hp : w.cell? p = some x.v) (hq : w.cell? q = some y.v) (hx : Bytes w x s) (hy : Bytes w y t) :
    Ok Pr f_grants_Check_1 [.agg ⟨g.cells⟩, .pointer (some p), .pointer (some q)] w fun v w' => v = .bool (decide (tok s g = t)) ∧ Mod [] w w' := by
  refine V_grants_Check_1_of ?_
  unfold V_grants_Check_1
  refine (Mine.start w).nw fun b w1 H _ => ?_
  have H := H.drew
  refine ⟨x, H.mod.cell0 hp, H.ld_api_Grant 0 rfl ⟨y, H.mod.cell0 hq, ?_⟩⟩
  have hq1 := H.mod.cell0 hq
  refine call_of (grants_Token_ok x s g hs _ (hx.mod0 H.mod)) ?_
  rintro _ w2 ⟨z, rfl, hz, m2⟩
  have H := H.got m2 hz
  refine asSl_s ⟨kept1 hq1 (H.mod.cell0 hq), call_of (bytes_Equal_ok z y _ _ _ hz.bytes (hy.mod0 H.mod)) ?_⟩
  rintro _ w3 ⟨rfl, hw⟩
  subst hw
  exact asB_b ⟨rfl, H.mod⟩
theorem bod_Check_1 : bodied Pr f_grants_Check_1 = true := by kernel_rfl
/-- the first grant with that token, if there is one -/
def Tells (l : List GrV) (s t : List B8) (n : Int) : Prop := (n = -1 ∧ ∀ j, j < l.length → tok s (l.getD j gz) ≠ t) ∨ ∃ i : Nat, n = (i : Int) ∧ i < l.length ∧ tok s (l.getD i gz) = t ∧ ∀ j, j < i → tok s (l.getD j gz) ≠ t
theorem IndexFunc_gr_ok (l : List GrV) (xl : SlV) (p q : Addr) (x y : SlV) (s t : List B8) (hs : s.length ≤ 1000) (hl : l.length ≤ 100000) (w : World) (hg : Grs w xl l) (hp : w.cell? p = some x.v) (hq : w.cell? q = some y.v) (hx : Bytes w x s) (hy : Bytes w y t) :
    Ok Pr f_slices_IndexFunc_api_Grant_api_Grant [.slice xl.a xl.n xl.c, .func (.func f_grants_Check_1) ⟨[]⟩ ⟨[.pointer (some p), .pointer (some q)]⟩] w fun v w' => ∃ n : Int, v = .int .i64 n ∧ Tells l s t n ∧ Mod [] w w' := by
  refine V_slices_IndexFunc_api_Grant_api_Grant_of ?_
  unfold V_slices_IndexFunc_api_Grant_api_Grant
  have hxl := hg.len
  refine loop1_up 0 l.length (fun i w' => Mod [] w w' ∧ ∀ j, j < i → tok s (l.getD j gz) ≠ t) rfl (by omega) ⟨Mod.refl _ _, fun j h => by omega⟩ ?_ ?_
  · rintro again i w1 _ hi ⟨m, hno⟩ hag
    refine ite_true (decide_eq_true (by omega)) ((hg.mod0 m).ld hi rfl ?_)
    have hcase : ∀ {K : Value → World → Prop}, callK Pr f_grants_Check_1 [.agg ⟨(l.getD i gz).cells⟩, .pointer (some p), .pointer (some q)] w1 K → callV Pr (.func (.func f_grants_Check_1) ⟨[]⟩ ⟨[.pointer (some p), .pointer (some q)]⟩) [.agg ⟨(l.getD i gz).cells⟩] w1 K := by
      intro K h
      show cond (bodied Pr f_grants_Check_1) _ False
      rw [bod_Check_1]
      exact h
    refine hcase ?_
    refine call_of (grants_Check_1_ok (l.getD i gz) p q x y s t hs _ (m.cell0 hp) (m.cell0 hq) (hx.mod0 m) (hy.mod0 m)) ?_
    rintro _ w2 ⟨rfl, m2⟩
    refine asB_b (ite_intro (fun h => ?_) (fun h => ?_))
    · exact ⟨_, rfl, .inr ⟨i, rfl, hi, of_decide_eq_true h, hno⟩, m.trans m2⟩
    · have h := of_decide_eq_false h
      refine ⟨⟨by omega, by omega⟩, hag w2 ⟨m.trans m2, fun j hj => ?_⟩⟩
      rcases Nat.lt_or_ge j i with h1 | h1
      · exact hno j h1
      · have : j = i := by omega
        rw [this]; exact h
  · rintro again w1 ⟨m, hno⟩
    exact ite_false (decide_eq_false (by omega)) ⟨_, rfl, .inl ⟨rfl, hno⟩, m⟩
/-- what is told of a token -/
def Told (l : List GrV) (s t : List B8) (g : GrV) (c : Int) : Prop :=
  (mayG l = false ∧ g = gz ∧ c = 2) ∨ (mayG l = true ∧ (∀ j, j < l.length → tok s (l.getD j gz) ≠ t) ∧ g = gz ∧ c = 15) ∨ (mayG l = true ∧ (∃ i, i < l.length ∧ tok s (l.getD i gz) = t ∧ (∀ j, j < i → tok s (l.getD j gz) ≠ t) ∧ g = l.getD i gz) ∧ c = 0)
theorem Told.unique {l : List GrV} {s t : List B8} {g g' : GrV} {c c' : Int} (h : Told l s t g c) (h' : Told l s t g' c') : g = g' ∧ c = c' := by
  rcases h with ⟨h1, rfl, rfl⟩ | ⟨h1, h2, rfl, rfl⟩ | ⟨h1, ⟨i, h2, h3, h4, rfl⟩, rfl⟩ <;> rcases h' with ⟨k1, rfl, rfl⟩ | ⟨k1, k2, rfl, rfl⟩ | ⟨k1, ⟨j, k2, k3, k4, rfl⟩, rfl⟩
  · exact ⟨rfl, rfl⟩
  · rw [h1] at k1; cases k1
  · rw [h1] at k1; cases k1
  · rw [h1] at k1; cases k1
  · exact ⟨rfl, rfl⟩
  · exact absurd k3 (h2 j k2)
  · rw [h1] at k1; cases k1
  · exact absurd h3 (k2 i h2)
  · have : i = j := by
      rcases Nat.lt_trichotomy i j with h | h | h
      · exact absurd h3 (k4 i h)
      · exact h
      · exact absurd k3 (h4 j h)
    subst this
    exact ⟨rfl, rfl⟩
theorem zc_gr : zc Pr t_api_Grant = gz.cells := by kernel_rfl
theorem grants_Check_ok (l : List GrV) (xl x y : SlV) (s t : List B8) (hs : s.length ≤ 1000) (hl : l.length ≤ 100000) (w : World) (hg : Grs w xl l) (hx : Bytes w x s) (hy : Bytes w y t) :
    Ok Pr f_grants_Check [.slice xl.a xl.n xl.c, .slice x.a x.n x.c, .slice y.a y.n y.c] w fun v w' => ∃ g c er, v = .tuple ⟨[.agg ⟨g.cells⟩, er]⟩ ∧ Told l s t g c ∧ IsErr w w' er c ∧ Mod [] w w' := by
  refine V_grants_Check_of ?_
  unfold V_grants_Check
  rw [zc_gr]
  have hxl := hg.len
  refine (Mine.start w).nw fun p w1 H _ => H.nw fun p1 w2 H _ => H.nw fun p2 w3 H _ => call_of (grants_May_ok xl l (by omega) _ (hg.mod0 H.mod)) ?_
  rintro _ w4 ⟨rfl, m4⟩
  have H := H.frame m4
  refine asB_b ?_
  have no : ∀ (c : Int) (w' : World), Mod [] w4 w' → c ≠ 0 → Told l s t gz c → callK Pr f_grants_fault [.int .i64 c] w' fun v w5 => sT_api_Grant ⟨p2, 0, none⟩ 0 0 0 0 0 false w5 fun w6 => ld_api_Grant ⟨p2, 0, none⟩ w6 fun r0 r1 r2 r3 r4 r5 =>
      ∃ g c er, Value.tuple ⟨[.agg ⟨[.int .i64 r0, .int .i64 r1, .int .i64 r2, .int .i64 r3, .int .i64 r4, .bool r5]⟩, v]⟩ = .tuple ⟨[.agg ⟨g.cells⟩, er]⟩ ∧ Told l s t g c ∧ IsErr w w6 er c ∧ Mod [] w w6 := by
    intro c w' m hc ht
    have H := H.frame m
    refine call_of (grants_fault_ok c hc _) ?_
    rintro e w5 ⟨h5, m5⟩
    have H := H.gotE m5 h5
    exact H.sT_api_Grant 2 rfl rfl fun w6 H => H.ld_api_Grant 2 rfl ⟨gz, c, e, rfl, ht, ⟨H.err 3 rfl, fun b hb => (H.own 3 _ rfl b hb).resolve_left (by simp)⟩, H.mod⟩
  cases hm : mayG l with
  | false => exact ite_true rfl (no 2 w4 (Mod.refl _ _) (by decide) (.inl ⟨hm, rfl, rfl⟩))
  | true =>
    refine ite_false rfl (call_of (IndexFunc_gr_ok l xl ⟨p, 0, none⟩ ⟨p1, 0, none⟩ x y s t hs hl _ (hg.mod0 H.mod) (H.cell 0 rfl rfl rfl) (H.cell 1 rfl rfl rfl) (hx.mod0 H.mod) (hy.mod0 H.mod)) ?_)
    rintro _ w5 ⟨n, rfl, hn, m5⟩
    refine asI_i ?_
    rcases hn with ⟨rfl, hno⟩ | ⟨i, rfl, hi, hti, hno⟩
    · exact ite_true rfl (no 15 w5 m5 (by decide) (.inr (.inl ⟨hm, hno, rfl, rfl⟩)))
    · have H := H.frame m5
      refine ite_false (decide_eq_false (by omega)) ((hg.mod0 H.mod).ld hi rfl (H.sT_api_Grant 2 rfl rfl fun w6 H => H.ld_api_Grant 2 rfl ⟨l.getD i gz, 0, .nilIface, rfl, .inr (.inr ⟨hm, ⟨i, hi, hti, hno, rfl⟩, rfl⟩), IsErr.zero _ _, H.mod⟩))
theorem ref19_Check_ok (l : List GrV) (xl x y : SlV) (s t : List B8) (hf : ∀ h ∈ l, h.fit) (hs : s.length ≤ 1000) (hl : l.length ≤ 100000) (w : World) (hg : Grs w xl l) (hx : Bytes w x s) (hy : Bytes w y t) :
    Ok Pr f_ref19_Check [.slice xl.a xl.n xl.c, .slice x.a x.n x.c, .slice y.a y.n y.c] w fun v w' => ∃ g c, v = .tuple ⟨[.agg ⟨g.cells⟩, .int .i64 c]⟩ ∧ Told l s t g c ∧ Mod [] w w' := by
  refine V_ref19_Check_of ?_
  unfold V_ref19_Check
  rw [zc_gr]
  have hxl := hg.len
  refine (Mine.start w).nw fun p w1 H _ => call_of (ref19_May_ok xl l hf (by omega) _ (hg.mod0 H.mod)) ?_
  rintro _ w2 ⟨rfl, m2⟩
  have H := H.frame m2
  refine asB_b ?_
  cases hm : mayG l with
  | false => exact ite_true rfl (H.sT_api_Grant 0 rfl rfl fun w3 H => H.ld_api_Grant 0 rfl ⟨gz, 2, rfl, .inl ⟨hm, rfl, rfl⟩, H.mod⟩)
  | true =>
    refine ite_false rfl ?_
    refine loop1_up 0 l.length (fun i w' => Mine w [] w' [.blk p gz.cells t_api_Grant] ∧ ∀ j, j < i → tok s (l.getD j gz) ≠ t) rfl (by omega) ⟨H, fun j h => by omega⟩ ?_ ?_
    · rintro again i w3 _ hi ⟨H, hno⟩ hag
      refine ite_true (decide_eq_true (by omega)) (join1_of fun go hgo => ?_)
      have rest : ∀ (w' : World) (L : List Res), Mine w [] w' L → L[0]? = some (.blk p gz.cells t_api_Grant) → go (decide (tok s (l.getD i gz) = t)) w' := by
        intro w' L H h0
        have H := H.only 0 h0
        refine hgo _ w' (ite_intro (fun h => ?_) (fun h => ?_))
        · exact (hg.mod0 H.mod).ld hi rfl (H.sT_api_Grant 0 rfl rfl fun w6 H => H.ld_api_Grant 0 rfl ⟨l.getD i gz, 0, rfl, .inr (.inr ⟨hm, ⟨i, hi, of_decide_eq_true h, hno, rfl⟩, rfl⟩), H.mod⟩)
        · have h := of_decide_eq_false h
          refine ⟨⟨by omega, by omega⟩, hag w' ⟨H, fun j hj => ?_⟩⟩
          rcases Nat.lt_or_ge j i with h1 | h1
          · exact hno j h1
          · have : j = i := by omega
            rw [this]; exact h
      have eb : decide (strOf (tok s (l.getD i gz)) = strOf t) = decide (tok s (l.getD i gz) = t) := decide_eq_decide.2 strOf_inj
      have H := H.drew
      have tk : ∀ {w' : World} {L : List Res} {K : SlV → World → Prop}, Mine w [] w' L → (∀ z w'', Mine w [] w'' (L ++ [.row t_uint8 1 z (u8s (tok s (l.getD i gz)))]) → K z w'') → callK Pr f_ref19_Token [.slice x.a x.n x.c, .agg ⟨(l.getD i gz).cells⟩] w' fun v w'' => asSl v fun t => K t w'' := by
        intro w' L K H hK
        refine call_of (ref19_Token_ok x s (l.getD i gz) hs _ (hx.mod0 H.mod)) ?_
        rintro _ w'' ⟨z, rfl, hz, m⟩
        exact asSl_s (hK z w'' (H.got m hz))
      have kk : ∀ {w' w'' : World} {L L' : List Res}, Mine w [] w' L → Mine w [] w'' L' → kept (Addr.add (base xl.a) (Int.toNat ((i : Nat) : Int) * 6)) 6 w' w'' := fun H H' => hg.kept H.mod H'.mod hi rfl
      refine (hg.mod0 H.mod).ld hi rfl ⟨?_, ?_⟩
      · refine tk H fun z w4 H4 => ⟨?_, ?_⟩
        · refine b2s_of (H4.bytes 1 rfl) (b2s_of (hy.mod0 H4.mod) ⟨kk H4 H4, ?_⟩)
          rw [eb]
          exact rest w4 _ H4 rfl
        · refine b2s_of (hy.mod0 H4.mod) ⟨kk H4 H4, b2s_of (H4.bytes 1 rfl) ?_⟩
          rw [eb]
          exact rest w4 _ H4 rfl
      · refine b2s_of (hy.mod0 H.mod) ⟨kk H H, tk H fun z w4 H4 => b2s_of (H4.bytes 1 rfl) ?_⟩
        rw [eb]
        exact rest w4 _ H4 rfl
    · rintro again w3 ⟨H, hno⟩
      exact ite_false (decide_eq_false (by omega)) (H.sT_api_Grant 0 rfl rfl fun w4 H => H.ld_api_Grant 0 rfl ⟨gz, 15, rfl, .inr (.inl ⟨hm, hno, rfl, rfl⟩), H.mod⟩)
/-- what a grant allows -/
def allowC (g : GrV) (key who op clock : Int) : Int := if g.rev = true ∨ g.n1 ≠ key ∨ g.n2 ≠ who ∨ op < 1 ∨ 13 < op ∨ andI .i64 (shr .i64 g.n3 op) 1 = 0 ∨ g.n4 < clock then 10 else 0
theorem grants_Allows_ok (g : GrV) (key who op clock : Int) (w : World) : Ok Pr f_grants_Allows [.agg ⟨g.cells⟩, .int .i64 key, .int .i64 who, .int .i64 op, .int .i64 clock] w fun v w' => IsErr w w' v (allowC g key who op clock) ∧ Mod [] w w' := by
  refine V_grants_Allows_of ?_
  unfold V_grants_Allows
  refine (Mine.start w).nw fun p w1 H _ => join1_of fun go hgo => ?_
  have yes : (g.rev = true ∨ g.n1 ≠ key ∨ g.n2 ≠ who ∨ op < 1 ∨ 13 < op ∨ andI .i64 (shr .i64 g.n3 op) 1 = 0 ∨ g.n4 < clock) → go true w1 := by
    intro h
    have ec : allowC g key who op clock = 10 := by unfold allowC; rw [if_pos h]
    rw [ec] at hgo
    refine hgo true w1 (ite_true rfl (call_of (grants_fault_ok 10 (by decide) _) ?_))
    rintro e w2 ⟨h2, m2⟩
    exact ⟨h2.from H.mod.size, (H.frame m2).mod⟩
  refine H.ldB 0 rfl (ad1 p 5) rfl (H.ldI 0 rfl (ad1 p 1) rfl (H.ldI 0 rfl (ad1 p 2) rfl (ite_intro (fun h => ?_) (fun h => ?_))))
  · refine H.ldI 0 rfl (ad1 p 3) rfl (H.ldI 0 rfl (ad1 p 4) rfl (yes ?_))
    simp only [Bool.or_eq_true, Bool.not_eq_true', decide_eq_false_iff_not] at h
    rcases h with (h | h) | h
    · exact .inl h
    · exact .inr (.inl h)
    · exact .inr (.inr (.inl h))
  · simp only [Bool.or_eq_false_iff, Bool.not_eq_false', decide_eq_true_eq] at h
    refine call_of (grants_in_ok _ _ _ _) ?_
    rintro _ w2 ⟨rfl, hw⟩
    subst hw
    refine asB_b (H.ldI 0 rfl (ad1 p 3) rfl ?_)
    by_cases hop : 1 ≤ op ∧ op ≤ 13
    · have hin : within2 1 13 op = true := by unfold within2; rw [decide_eq_true hop.1, decide_eq_true hop.2]; rfl
      rw [hin]
      refine ite_false rfl (cnt_of (by omega) (H.ldI 0 rfl (ad1 p 4) rfl ?_))
      cases hb : (decide (andI .i64 (shr .i64 g.n3 op) (1:Int) = (0:Int)) || decide (g.n4 < clock)) with
      | true =>
        refine yes ?_
        simp only [Bool.or_eq_true, decide_eq_true_eq] at hb
        rcases hb with hb | hb
        · exact .inr (.inr (.inr (.inr (.inr (.inl hb)))))
        · exact .inr (.inr (.inr (.inr (.inr (.inr hb)))))
      | false =>
        simp only [Bool.or_eq_false_iff, decide_eq_false_iff_not] at hb
        have ec : allowC g key who op clock = 0 := by
          unfold allowC
          rw [if_neg]
          rintro (k | k | k | k | k | k | k)
          · rw [h.1.1] at k; cases k
          · exact k h.1.2
          · exact k h.2
          · omega
          · omega
          · exact hb.1 k
          · exact hb.2 k
        rw [ec] at hgo
        exact hgo false _ (ite_false rfl ⟨IsErr.zero _ _, H.mod⟩)
    · have hin : within2 1 13 op = false := by
        unfold within2
        rw [Bool.and_eq_false_iff, decide_eq_false_iff_not, decide_eq_false_iff_not]
        omega
      rw [hin]
      refine ite_true rfl (H.ldI 0 rfl (ad1 p 4) rfl (yes ?_))
      by_cases h1 : op < 1
      · exact .inr (.inr (.inr (.inl h1)))
      · exact .inr (.inr (.inr (.inr (.inl (by omega)))))
theorem ref19_Allows_ok (g : GrV) (key who op clock : Int) (w : World) : Ok Pr f_ref19_Allows [.agg ⟨g.cells⟩, .int .i64 key, .int .i64 who, .int .i64 op, .int .i64 clock] w fun v w' => v = .int .i64 (allowC g key who op clock) ∧ Mod [] w w' := by
  refine V_ref19_Allows_of ?_
  unfold V_ref19_Allows
  refine (Mine.start w).nw fun p w1 H _ => ?_
  refine H.ldB 0 rfl (ad1 p 5) rfl (H.ldI 0 rfl (ad1 p 1) rfl (H.ldI 0 rfl (ad1 p 2) rfl (H.ldI 0 rfl (ad1 p 3) rfl (ite_intro (fun h => ?_) (fun h => ?_)))))
  · refine H.ldI 0 rfl (ad1 p 4) rfl ⟨?_, H.mod⟩
    unfold allowC
    rw [if_pos]
    simp only [Bool.or_eq_true, Bool.not_eq_true', decide_eq_false_iff_not, decide_eq_true_eq] at h
    rcases h with (((h | h) | h) | h) | h
    · exact .inl h
    · exact .inr (.inl h)
    · exact .inr (.inr (.inl h))
    · exact .inr (.inr (.inr (.inl h)))
    · exact .inr (.inr (.inr (.inr (.inl h))))
  · simp only [Bool.or_eq_false_iff, Bool.not_eq_false', decide_eq_true_eq, decide_eq_false_iff_not] at h
    refine cnt_of (by omega) (H.ldI 0 rfl (ad1 p 4) rfl (ite_intro (fun hb => ?_) (fun hb => ?_)))
    · refine ⟨?_, H.mod⟩
      unfold allowC
      rw [if_pos]
      simp only [Bool.or_eq_true, decide_eq_true_eq] at hb
      rcases hb with hb | hb
      · exact .inr (.inr (.inr (.inr (.inr (.inl hb)))))
      · exact .inr (.inr (.inr (.inr (.inr (.inr hb)))))
    · refine ⟨?_, H.mod⟩
      simp only [Bool.or_eq_false_iff, decide_eq_false_iff_not] at hb
      unfold allowC
      rw [if_neg]
      rintro (k | k | k | k | k | k | k)
      · rw [h.1.1.1.1] at k; cases k
      · exact k h.1.1.1.2
      · exact k h.1.1.2
      · omega
      · omega
      · exact hb.1 k
      · exact hb.2 k
end Go.Proofs.YtoeedbljiocpdaaDoor
