/- THE STATEMENTS' OWN CODE answers true: chapter 19, which lists may be. -/
import Derived.Test.YtoeedbljiocpdaaDoorLaw19
namespace Go.Proofs.YtoeedbljiocpdaaDoor
open Go Go.Ev
set_option maxRecDepth 20000
set_option linter.unusedVariables false
theorem length_addL (l : List GrV) (g : GrV) : (addL l g).length ≤ l.length + 1 := by
  unfold addL
  split
  · simp
  · simp
theorem length_revL (l : List GrV) (id : Int) : (revL l id).length ≤ l.length := by
  unfold revL
  split
  · simp
  · simp
theorem GrantsTell_ok (x : SlV) (l : List GrV) (g : GrV) (id : Int) (a b : SlV) (s t : List B8) (key who op clock : Int) (hf : ∀ h ∈ l, h.fit) (hfg : g.fit) (w : World) (hg : Laid w) (hx : Grs w x l) (ha : Bytes w a s) (hb : Bytes w b t) :
    Ok Pr f_law19_GrantsTell [.slice x.a x.n x.c, .agg ⟨g.cells⟩, .int .i64 id, .slice a.a a.n a.c, .slice b.a b.n b.c, .int .i64 key, .int .i64 who, .int .i64 op, .int .i64 clock] w fun v w' => v = .bool true ∧ Mod [] w w' := by
  refine V_law19_GrantsTell_of ?_
  unfold V_law19_GrantsTell
  rw [zc_gr]
  refine (Mine.start w).nw fun p w1 H _ => ite_intro (fun hc => awake19_of hg H) (fun hc => ?_)
  have hxl := hx.len
  have hal := ha.len
  have hbl := hb.len
  simp only [Bool.or_eq_false_iff, decide_eq_false_iff_not] at hc
  obtain ⟨⟨hc1, hc2⟩, hc3⟩ := hc
  have hl : l.length ≤ 100000 := by omega
  have hs : s.length ≤ 1000 := by omega
  refine H.clone elt_gr (hx.mod0 H.mod) (ones_grC l) (by omega) (by omega) fun was w3 H hwn => H.ld_api_Grant 0 rfl ?_
  have hA := length_addL l g
  have hB := length_revL l id
  refine call_of (grants_Add_ok x l g hl _ (hx.mod0 H.mod)) ?_
  rintro _ w4 ⟨y1, er1, rfl, hy1, he1, hn1, m4⟩
  have H := H.got2 m4 hy1 he1 hn1
  refine ⟨_, rfl, y1, rfl, _, rfl, rfl, H.ld_api_Grant 0 rfl (call_of (ref19_Add_ok x l g hf hfg hl _ (hx.mod0 H.mod)) ?_)⟩
  rintro _ w5 ⟨y2, rfl, hy2, m5⟩
  have H := H.got m5 hy2
  refine ⟨_, rfl, y2, rfl, _, rfl, _, rfl, rfl, call_of (grants_Revoke_ok x l id hl _ (hx.mod0 H.mod)) ?_⟩
  rintro _ w6 ⟨y3, er2, rfl, hy3, he2, hn2, m6⟩
  have H := H.got2 m6 hy3 he2 hn2
  refine ⟨_, rfl, y3, rfl, rfl, call_of (ref19_Revoke_ok x l id hf hl _ (hx.mod0 H.mod)) ?_⟩
  rintro _ w7 ⟨y4, rfl, hy4, m7⟩
  have H := H.got m7 hy4
  refine ⟨_, rfl, y4, rfl, _, rfl, rfl, H.ld_api_Grant 0 rfl (call_of (grants_Token_ok a s g hs _ (ha.mod0 H.mod)) ?_)⟩
  rintro _ w8 ⟨tk, rfl, htk, m8⟩
  have H := H.got m8 htk
  refine asSl_s (call_of (grants_Check_ok l x a b s t hs hl _ (hx.mod0 H.mod) (ha.mod0 H.mod) (hb.mod0 H.mod)) ?_)
  rintro _ w9 ⟨gg, c3, er3, rfl, ht1, he3, m9⟩
  have H := H.gotE m9 he3
  refine ⟨_, rfl, as_gr ⟨rfl, H.nw fun p1 w10 H _ => H.sT_api_Grant 10 rfl rfl fun w11 H => ?_⟩⟩
  refine call_of (ref19_Check_ok l x a b s t hf hs hl _ (hx.mod0 H.mod) (ha.mod0 H.mod) (hb.mod0 H.mod)) ?_
  rintro _ w12 ⟨gg2, c4, rfl, ht2, m12⟩
  obtain ⟨rfl, rfl⟩ := ht1.unique ht2
  have H := H.frame m12
  refine ⟨_, rfl, as_gr ⟨_, rfl, rfl, H.nw fun p2 w13 H _ => H.sT_api_Grant 11 rfl rfl fun w14 H => ?_⟩⟩
  change Mine w [] w14 [.blk p g.cells t_api_Grant, .row t_api_Grant 6 was (grC l), .row t_api_Grant 6 y1 (grC (addL l g)), Res.err er1 (addC l g), .row t_api_Grant 6 y2 (grC (addL l g)), .row t_api_Grant 6 y3 (grC (revL l id)), Res.err er2 (revC l id), .row t_api_Grant 6 y4 (grC (revL l id)), .row t_uint8 1 tk (u8s (tok s g)), Res.err er3 c3, .blk p1 gg.cells t_api_Grant, .blk p2 gg.cells t_api_Grant] at H
  refine join1_of fun go hgo => ?_
  have rest : ∀ w', Mine w [] w' [.blk p g.cells t_api_Grant, .row t_api_Grant 6 was (grC l), .row t_api_Grant 6 y1 (grC (addL l g)), Res.err er1 (addC l g), .row t_api_Grant 6 y2 (grC (addL l g)), .row t_api_Grant 6 y3 (grC (revL l id)), Res.err er2 (revC l id), .row t_api_Grant 6 y4 (grC (revL l id)), .row t_uint8 1 tk (u8s (tok s g)), Res.err er3 c3, .blk p1 gg.cells t_api_Grant, .blk p2 gg.cells t_api_Grant] → go true w' := by
    intro w15 H
    refine hgo true w15 ?_
    refine call_of (law0_OverGrants_ok y1 (addL l g) _ (H.own' 2 rfl) (by omega)) ?_
    rintro _ w16 ⟨_, m16⟩
    have H := H.spoil 2 rfl m16 fun c hc => .inl hc
    refine call_of (law0_OverGrants_ok y3 (revL l id) _ (H.own' 5 rfl) (by omega)) ?_
    rintro _ w17 ⟨_, m17⟩
    have H := H.spoil 5 rfl m17 fun c hc => .inl hc
    refine ite_true rfl (call_of (law0_SameGrants_same x was l _ (hx.mod0 H.mod) (H.rowSl 1 rfl) (by omega)) ?_)
    rintro _ w18 ⟨rfl, m18⟩
    exact asB_b (ite_true rfl (awake19_of hg (H.frame m18)))
  have H := H.drew
  refine call_of (law0_SameGrants_same y1 y2 (addL l g) _ (H.rowSl 2 rfl) (H.rowSl 4 rfl) (by omega)) ?_
  rintro _ w20 ⟨rfl, m20⟩
  have H := H.frame m20
  refine asB_b (ite_true (by simp) (call_of (law0_Num_err er1 (addC l g) _ (hg.mine H (by simp)) (H.err 3 rfl)) ?_))
  rintro _ w21 ⟨rfl, m21⟩
  have H := H.frame m21
  refine asI_i (ite_true (by simp) (call_of (law0_SameGrants_same y3 y4 (revL l id) _ (H.rowSl 5 rfl) (H.rowSl 7 rfl) (by omega)) ?_))
  rintro _ w22 ⟨rfl, m22⟩
  have H := H.frame m22
  refine asB_b (ite_true rfl (call_of (law0_Num_err er2 (revC l id) _ (hg.mine H (by simp)) (H.err 6 rfl)) ?_))
  rintro _ w23 ⟨rfl, m23⟩
  have H := H.frame m23
  refine asI_i (H.ld_api_Grant 0 rfl (ite_true (by simp) (call_of (ref19_Token_ok a s g hs _ (ha.mod0 H.mod)) ?_)))
  rintro _ w24 ⟨tk2, rfl, htk2, m24⟩
  have H := H.frame m24
  have htl := length_tok s g
  refine asSl_s (call_of (law0_SameBytes_same tk tk2 (tok s g) _ (H.bytes 8 rfl) htk2.bytes (by omega)) ?_)
  rintro _ w25 ⟨rfl, m25⟩
  have H := H.frame m25
  refine asB_b (H.ld_api_Grant 10 rfl (H.ld_api_Grant 11 rfl (ite_true rfl (eqK_gr (g := gg) (ite_true rfl (call_of (law0_Num_err er3 c3 _ (hg.mine H (by simp)) (H.err 9 rfl)) ?_))))))
  rintro _ w27 ⟨rfl, m27⟩
  have H := H.frame m27
  refine asI_i (H.ld_api_Grant 0 rfl (H.ld_api_Grant 0 rfl (ite_true (by simp) (call_of (grants_Allows_ok g key who op clock _) ?_))))
  rintro e5 w28 ⟨h5, m28⟩
  have H2 := H.gotE m28 h5
  refine ⟨keptB (H.blk 0 rfl) (H2.blk 0 rfl) rfl, call_of (law0_Num_err e5 _ _ (hg.mine H2 (by simp)) (H2.err 12 rfl)) ?_⟩
  rintro _ w29 ⟨rfl, m29⟩
  have H3 := H2.frame m29
  refine asI_i ⟨keptB (H2.blk 0 rfl) (H3.blk 0 rfl) rfl, call_of (ref19_Allows_ok g key who op clock _) ?_⟩
  rintro _ w30 ⟨rfl, m30⟩
  have H := H3.frame m30
  refine asI_i (ite_true (by simp) (call_of (grants_May_ok x l (by omega) _ (hx.mod0 H.mod)) ?_))
  rintro _ w31 ⟨rfl, m31⟩
  have H := H.frame m31
  refine asB_b (call_of (ref19_May_ok x l hf (by omega) _ (hx.mod0 H.mod)) ?_)
  rintro _ w32 ⟨rfl, m32⟩
  refine asB_b ?_
  rw [beq_self_eq_true]
  exact rest w32 ((H.frame m32).take 12)
end Go.Proofs.YtoeedbljiocpdaaDoor
