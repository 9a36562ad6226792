/- A REQUEST IS READ: the document's. -/
import Derived.Test.YtoeedbljiocpdaaDoorAskR
namespace Go.Proofs.YtoeedbljiocpdaaDoor
open Go Go.Ev
set_option maxRecDepth 20000
set_option linter.unusedVariables false
theorem _root_.Go.Ev.Mine.fp_lt {w0 w : World} {S : List Nat} {L : List Res} (H : Mine w0 S w L) {k : Nat} {r r' : Res} (hk : L[k]? = some r) (hf : ∀ b ∈ r'.fp, b ∈ r.fp) {j : Nat} {s : Res} (hj : (L.set k r')[j]? = some s) : ∀ b ∈ s.fp, b < w.heap.size := by
  intro b hb
  rw [List.getElem?_set] at hj
  split at hj
  · split at hj
    · simp only [Option.some.injEq] at hj
      subst hj
      exact r.lt w (H.ok k r hk) b (hf b hb)
    · cases hj
  · exact s.lt w (H.ok j s hj) b hb
theorem _root_.Go.Ev.Mine.updAdd {w0 w w' : World} {S T : List Nat} {L : List Res} (H : Mine w0 S w L) (k : Nat) {r r' s : Res} (hk : L[k]? = some r) (m : Mod T w w') (hT : ∀ b ∈ T, b ∈ r.fp) (hr : r'.ok w') (hf : ∀ b ∈ r'.fp, b ∈ r.fp) (hs : s.ok w') (hsf : ∀ b ∈ s.fp, w.heap.size ≤ b) : Mine w0 S w' (L.set k r' ++ [s]) :=
  (H.upd k hk m (fun b hb => .inl (hT b hb)) hr (fun b hb => .inl (hf b hb))).add hs (fun b hb => .inr (Nat.le_trans H.mod.size (hsf b hb))) fun j t ht b hb hbs => by
    have := H.fp_lt hk hf ht b hb
    have := hsf b hbs
    omega
theorem _root_.Go.Ev.Mine.updAdd2 {w0 w w' : World} {S T : List Nat} {L : List Res} (H : Mine w0 S w L) (k : Nat) {r r' s u : Res} (hk : L[k]? = some r) (m : Mod T w w') (hT : ∀ b ∈ T, b ∈ r.fp) (hr : r'.ok w') (hf : ∀ b ∈ r'.fp, b ∈ r.fp) (hs : s.ok w') (hsf : ∀ b ∈ s.fp, w.heap.size ≤ b)
    (hu : u.ok w') (huf : ∀ b ∈ u.fp, w.heap.size ≤ b) (hd : ∀ b ∈ s.fp, b ∉ u.fp) : Mine w0 S w' (L.set k r' ++ [s] ++ [u]) :=
  (H.updAdd k hk m hT hr hf hs hsf).add hu (fun b hb => .inr (Nat.le_trans H.mod.size (huf b hb))) fun j t ht b hb hbs => by
    rcases Nat.lt_or_ge j (L.set k r').length with hj | hj
    · rw [List.getElem?_append_left hj] at ht
      have := H.fp_lt hk hf ht b hb
      have := huf b hbs
      omega
    · rw [List.getElem?_append_right hj] at ht
      rcases Nat.eq_zero_or_pos (j - (L.set k r').length) with e | e
      · rw [e] at ht
        simp only [List.getElem?_cons_zero, Option.some.injEq] at ht
        subst ht
        exact hd b hb hbs
      · rw [List.getElem?_eq_none (by simp only [List.length_cons, List.length_nil]; omega)] at ht
        cases ht
/-! ### sizes of the first set -/
theorem zc_Set11 : ∃ cs, zc Pr t_ref11_Set = cs ∧ cs.length = 9 := ⟨_, rfl, by kernel_rfl⟩
theorem ref11_Of_1 (w : World) : Ok Pr f_ref11_Of [.int .i64 1] w fun v w' => v = .tuple ⟨[.agg ⟨cs_ref11_Set 4 4 2 39 78 80 131072 95232 32⟩, .bool true]⟩ ∧ Mod [] w w' := by
  refine V_ref11_Of_of ?_
  unfold V_ref11_Of
  obtain ⟨cs, hcs, hl⟩ := zc_Set11
  rw [hcs]
  exact (Mine.start w).nw fun p w1 H _ => ite_true rfl (H.sT_ref11_Set 0 rfl hl fun w2 H => H.ld_ref11_Set 0 rfl ⟨rfl, H.mod⟩)
theorem ref11_Wide_1 (w : World) : Ok Pr f_ref11_Wide [.agg ⟨cs_ref11_Set 4 4 2 39 78 80 131072 95232 32⟩] w fun v w' => v = .tuple ⟨[.int .i64 18, .int .i64 3]⟩ ∧ Mod [] w w' := by
  refine V_ref11_Wide_of ?_
  unfold V_ref11_Wide
  refine (Mine.start w).nw fun p w1 H _ => join1_of fun go1 hgo1 => H.ldI 0 rfl (ad1 p 6) rfl (ite_true rfl (hgo1 18 w1 (join1_of fun go hgo => H.ldI 0 rfl (ad1 p 2) rfl (ite_true rfl (hgo 3 w1 ⟨rfl, H.mod⟩)))))
theorem ref11_Sizes_1 (w : World) : Ok Pr f_ref11_Sizes [.int .i64 1] w fun v w' => v = .tuple ⟨[.int .i64 1312, .int .i64 2560, .int .i64 2420]⟩ ∧ Mod [] w w' := by
  refine V_ref11_Sizes_of ?_
  unfold V_ref11_Sizes
  obtain ⟨cs, hcs, hl⟩ := zc_Set11
  rw [hcs]
  refine call_of (ref11_Of_1 w) ?_
  rintro _ w1 ⟨rfl, m1⟩
  have H := (Mine.start w).frame m1
  refine ⟨_, rfl, as_ref11_Set_of ⟨_, rfl, rfl, H.nw fun p w2 H _ => H.sT_ref11_Set 0 rfl hl fun w3 H => ite_false rfl (H.ld_ref11_Set 0 rfl (call_of (ref11_Wide_1 _) ?_))⟩⟩
  rintro _ w4 ⟨rfl, m4⟩
  have H := (H.frame m4).drew
  refine ⟨_, rfl, _, rfl, _, rfl, rfl, H.ldI 0 rfl (ad1 p 0) rfl ⟨⟨by omega, by omega⟩, ⟨by omega, by omega⟩, H.ldI 0 rfl (ad1 p 0) rfl (H.ldI 0 rfl (ad1 p 1) rfl ⟨⟨by omega, by omega⟩, ⟨by omega, by omega⟩, H.ldI 0 rfl (ad1 p 0) rfl ⟨⟨by omega, by omega⟩, ⟨by omega, by omega⟩, ⟨by omega, by omega⟩, ⟨by omega, by omega⟩, H.ldI 0 rfl (ad1 p 8) rfl (H.ldI 0 rfl (ad1 p 1) rfl ⟨⟨by omega, by omega⟩, ⟨by omega, by omega⟩, ⟨by omega, by omega⟩, H.ldI 0 rfl (ad1 p 5) rfl ⟨⟨by omega, by omega⟩, H.ldI 0 rfl (ad1 p 0) rfl ⟨⟨by omega, by omega⟩, rfl, H.mod⟩⟩⟩)⟩⟩)⟩⟩
/-! ### a body -/
theorem ref14_Reader_Text_ok (b : Nat) (B : SlV) (full : List B8) (x : SlV) (bad : Bool) (s : Option (List B8)) (most : Int) (hm : 0 ≤ most) (w : World) (hb : Blk w b [x.v, .bool bad] t_ref14_Reader) (hs : RdS B full x bad s) (hB : Bytes w B full) (ho : off [b] B) (hl : full.length ≤ 1000000000) :
    Ok Pr f_ref14_Reader_Text [.pointer (some ⟨b, 0, none⟩), .int .i64 most] w fun v w' => v = .string (strOf (rBytes most s).1) ∧ RdAt w w' b t_ref14_Reader B full (rBytes most s).2 := by
  refine V_ref14_Reader_Text_of ?_
  unfold V_ref14_Reader_Text
  refine call_of (ref14_Reader_Bytes_ok b B full x bad s most hm w hb hs hB ho hl) ?_
  rintro _ w1 ⟨y, rfl, hy, hr⟩
  exact asSl_s (b2s_of hy.bytes ⟨rfl, hr⟩)
section
variable {w w' : World} {b : Nat} {B : SlV} {full : List B8} {x : SlV} {bad : Bool} {s s' : Option (List B8)} {L : List Res}
theorem rf_num (hB : Bytes w B full) (ho : off [b] B) (H : Mine w [b] w' (.blk b [x.v, .bool bad] t_ref14_Reader :: L)) (hs : RdS B full x bad s) {lo hi n : Int} (e : rNum lo hi s = (n, s')) {K : Int → World → Prop}
    (hK : ∀ x' bad' w'', Mine w [b] w'' (.blk b [x'.v, .bool bad'] t_ref14_Reader :: L) → RdS B full x' bad' s' → K n w'') :
    callK Pr f_ref14_Reader_Number [.pointer (some ⟨b, 0, none⟩), .int .i64 lo, .int .i64 hi] w' fun v w' => asI .i64 v fun t => K t w' := by
  refine call_of (ref14_Reader_Number_ok b B full x bad s lo hi w' (H.blk 0 rfl) hs (hB.mod H.mod ho)) ?_
  rintro _ w'' ⟨rfl, x', bad', hb, hs', m⟩
  rw [e] at hs' ⊢
  exact asI_i (hK x' bad' w'' (H.upd (r' := .blk b [x'.v, .bool bad'] t_ref14_Reader) 0 rfl m (fun c hc => .inl hc) hb (fun c hc => .inl hc)) hs')
theorem rf_text (hB : Bytes w B full) (ho : off [b] B) (hl : full.length ≤ 1000000000) (H : Mine w [b] w' (.blk b [x.v, .bool bad] t_ref14_Reader :: L)) (hs : RdS B full x bad s) {most : Int} (hm : 0 ≤ most) {o : List B8} (e : rBytes most s = (o, s')) {K : ByteArray → World → Prop}
    (hK : ∀ x' bad' w'', Mine w [b] w'' (.blk b [x'.v, .bool bad'] t_ref14_Reader :: L) → RdS B full x' bad' s' → K (strOf o) w'') :
    callK Pr f_ref14_Reader_Text [.pointer (some ⟨b, 0, none⟩), .int .i64 most] w' fun v w' => asStr v fun t => K t w' := by
  refine call_of (ref14_Reader_Text_ok b B full x bad s most hm w' (H.blk 0 rfl) hs (hB.mod H.mod ho) ho hl) ?_
  rintro _ w'' ⟨rfl, x', bad', hb, hs', m⟩
  rw [e] at hs' ⊢
  exact ⟨_, rfl, hK x' bad' w'' (H.upd (r' := .blk b [x'.v, .bool bad'] t_ref14_Reader) 0 rfl m (fun c hc => .inl hc) hb (fun c hc => .inl hc)) hs'⟩
theorem rf_bytes (hB : Bytes w B full) (ho : off [b] B) (hl : full.length ≤ 1000000000) (H : Mine w [b] w' (.blk b [x.v, .bool bad] t_ref14_Reader :: L)) (hs : RdS B full x bad s) {most : Int} (hm : 0 ≤ most) {o : List B8} (e : rBytes most s = (o, s')) {K : SlV → World → Prop}
    (hK : ∀ x' bad' y w'', Mine w [b] w'' (.blk b [x'.v, .bool bad'] t_ref14_Reader :: L ++ [.row t_uint8 1 y (u8s o)]) → RdS B full x' bad' s' → K y w'') :
    callK Pr f_ref14_Reader_Bytes [.pointer (some ⟨b, 0, none⟩), .int .i64 most] w' fun v w' => asSl v fun t => K t w' := by
  refine call_of (ref14_Reader_Bytes_ok b B full x bad s most hm w' (H.blk 0 rfl) hs (hB.mod H.mod ho) ho hl) ?_
  rintro _ w'' ⟨y, rfl, hy, x', bad', hb, hs', m⟩
  rw [e] at hs' hy
  exact asSl_s (hK x' bad' y w'' (H.updAdd (r' := .blk b [x'.v, .bool bad'] t_ref14_Reader) (s := .row t_uint8 1 y (u8s o)) 0 rfl m (fun c hc => hc) hb (fun c hc => hc) (hy.mono' (Nat.zero_le _)) (fun c hc => (hy.row_ge c hc).1)) hs')
theorem rf_field {p a : Nat} {q q' : AskV} (k : Nat) (hB : Bytes w B full) (ho : off [b] B) (H : Mine w [b] w' [.blk b [x.v, .bool bad] t_ref14_Reader, .blk p askZ.cells t_api_Ask, .blk a q.cells t_api_Ask]) (hs : RdS B full x bad s) {lo hi n : Int} (e : rNum lo hi s = (n, s')) (hk : k < 14) (hq : q.cells.set k (.int .i64 n) = q'.cells) {K : World → Prop}
    (hK : ∀ x' bad' w'', Mine w [b] w'' [.blk b [x'.v, .bool bad'] t_ref14_Reader, .blk p askZ.cells t_api_Ask, .blk a q'.cells t_api_Ask] → RdS B full x' bad' s' → K w'') :
    callK Pr f_ref14_Reader_Number [.pointer (some ⟨b, 0, none⟩), .int .i64 lo, .int .i64 hi] w' fun v w' => asI .i64 v fun t => st (Addr.add ⟨a, 0, none⟩ k) (.int .i64 t) w' K := by
  refine rf_num hB ho H hs e fun x' bad' w'' H hs' => H.st 2 rfl (ad1 a k) hk rfl fun w3 H => hK x' bad' w3 ?_ hs'
  rw [hq] at H
  exact H
end
theorem ref15_Take_ok (b : Nat) (B : SlV) (full : List B8) (w : World) (hb : Blk w b [B.v, .bool false] t_ref14_Reader) (hB : Bytes w B full) (ho : off [b] B) (hl : full.length ≤ 1000000000) :
    Ok Pr f_ref15_Take [.pointer (some ⟨b, 0, none⟩), .int .i64 0, .int .i64 1099511627776] w fun v w' => ∃ (q : AskV) (lb lt : List B8) (s : Option (List B8)) (x : SlV) (bad : Bool), v = .agg ⟨q.cells⟩ ∧ Rds (0, mxC) (0, mxC) (0, mxC) (0, mxC) full q lb lt s ∧
      Mine w [b] w' [.blk b [x.v, .bool bad] t_ref14_Reader, .row t_uint8 1 q.by_ (u8s lb), .row t_uint8 1 q.tok (u8s lt)] ∧ RdS B full x bad s := by
  refine V_ref15_Take_of ?_
  unfold V_ref15_Take
  rw [zc_Ask]
  obtain ⟨v0, s1, e1⟩ : ∃ v s', rNum 0 1099511627776 (some full) = (v, s') := ⟨_, _, rfl⟩
  obtain ⟨v1, s2, e2⟩ : ∃ v s', rNum 0 1099511627776 s1 = (v, s') := ⟨_, _, rfl⟩
  obtain ⟨v2, s3, e3⟩ : ∃ v s', rNum 0 1099511627776 s2 = (v, s') := ⟨_, _, rfl⟩
  obtain ⟨v3, s4, e4⟩ : ∃ v s', rNum 0 1099511627776 s3 = (v, s') := ⟨_, _, rfl⟩
  obtain ⟨v4, s5, e5⟩ : ∃ v s', rNum 0 1099511627776 s4 = (v, s') := ⟨_, _, rfl⟩
  obtain ⟨v5, s6, e6⟩ : ∃ v s', rNum 0 1099511627776 s5 = (v, s') := ⟨_, _, rfl⟩
  obtain ⟨v6, s7, e7⟩ : ∃ v s', rNum 0 1099511627776 s6 = (v, s') := ⟨_, _, rfl⟩
  obtain ⟨v7, s8, e8⟩ : ∃ v s', rNum 0 1099511627776 s7 = (v, s') := ⟨_, _, rfl⟩
  obtain ⟨v8, s9, e9⟩ : ∃ v s', rNum 0 1099511627776 s8 = (v, s') := ⟨_, _, rfl⟩
  obtain ⟨v9, s10, e10⟩ : ∃ v s', rNum 0 1099511627776 s9 = (v, s') := ⟨_, _, rfl⟩
  obtain ⟨v10, s11, e11⟩ : ∃ v s', rNum 0 1099511627776 s10 = (v, s') := ⟨_, _, rfl⟩
  obtain ⟨nm, sa, ea⟩ : ∃ v s', rBytes 300 s11 = (v, s') := ⟨_, _, rfl⟩
  obtain ⟨lb, sb, eb⟩ : ∃ v s', rBytes 2000 sa = (v, s') := ⟨_, _, rfl⟩
  obtain ⟨lt, sc, ec⟩ : ∃ v s', rBytes 100 sb = (v, s') := ⟨_, _, rfl⟩
  have H := Mine.start1 (r := .blk b [B.v, .bool false] t_ref14_Reader) hb
  refine H.nw fun p w1 H _ => ?_
  refine rf_num hB ho H (s := some full) ⟨rfl, Tail.self B full⟩ e1 fun _ _ w2 H hs => H.nw fun a w3 H _ => H.sT_api_Ask 2 rfl rfl fun w4 H => ?_
  refine rf_field (q := ⟨v0, 0, 0, 0, 0, 0, 0, 0, 0, 0, 0, S_empty, ⟨none, 0, 0⟩, ⟨none, 0, 0⟩⟩) (q' := ⟨v0, v1, 0, 0, 0, 0, 0, 0, 0, 0, 0, S_empty, ⟨none, 0, 0⟩, ⟨none, 0, 0⟩⟩) 1 hB ho H hs e2 (by omega) rfl fun _ _ _ H hs => ?_
  refine rf_field (q := ⟨v0, v1, 0, 0, 0, 0, 0, 0, 0, 0, 0, S_empty, ⟨none, 0, 0⟩, ⟨none, 0, 0⟩⟩) (q' := ⟨v0, v1, v2, 0, 0, 0, 0, 0, 0, 0, 0, S_empty, ⟨none, 0, 0⟩, ⟨none, 0, 0⟩⟩) 2 hB ho H hs e3 (by omega) rfl fun _ _ _ H hs => ?_
  refine rf_field (q := ⟨v0, v1, v2, 0, 0, 0, 0, 0, 0, 0, 0, S_empty, ⟨none, 0, 0⟩, ⟨none, 0, 0⟩⟩) (q' := ⟨v0, v1, v2, v3, 0, 0, 0, 0, 0, 0, 0, S_empty, ⟨none, 0, 0⟩, ⟨none, 0, 0⟩⟩) 3 hB ho H hs e4 (by omega) rfl fun _ _ _ H hs => ?_
  refine rf_field (q := ⟨v0, v1, v2, v3, 0, 0, 0, 0, 0, 0, 0, S_empty, ⟨none, 0, 0⟩, ⟨none, 0, 0⟩⟩) (q' := ⟨v0, v1, v2, v3, v4, 0, 0, 0, 0, 0, 0, S_empty, ⟨none, 0, 0⟩, ⟨none, 0, 0⟩⟩) 4 hB ho H hs e5 (by omega) rfl fun _ _ _ H hs => ?_
  refine rf_field (q := ⟨v0, v1, v2, v3, v4, 0, 0, 0, 0, 0, 0, S_empty, ⟨none, 0, 0⟩, ⟨none, 0, 0⟩⟩) (q' := ⟨v0, v1, v2, v3, v4, v5, 0, 0, 0, 0, 0, S_empty, ⟨none, 0, 0⟩, ⟨none, 0, 0⟩⟩) 5 hB ho H hs e6 (by omega) rfl fun _ _ _ H hs => ?_
  refine rf_field (q := ⟨v0, v1, v2, v3, v4, v5, 0, 0, 0, 0, 0, S_empty, ⟨none, 0, 0⟩, ⟨none, 0, 0⟩⟩) (q' := ⟨v0, v1, v2, v3, v4, v5, v6, 0, 0, 0, 0, S_empty, ⟨none, 0, 0⟩, ⟨none, 0, 0⟩⟩) 6 hB ho H hs e7 (by omega) rfl fun _ _ _ H hs => ?_
  refine rf_field (q := ⟨v0, v1, v2, v3, v4, v5, v6, 0, 0, 0, 0, S_empty, ⟨none, 0, 0⟩, ⟨none, 0, 0⟩⟩) (q' := ⟨v0, v1, v2, v3, v4, v5, v6, v7, 0, 0, 0, S_empty, ⟨none, 0, 0⟩, ⟨none, 0, 0⟩⟩) 7 hB ho H hs e8 (by omega) rfl fun _ _ _ H hs => ?_
  refine rf_field (q := ⟨v0, v1, v2, v3, v4, v5, v6, v7, 0, 0, 0, S_empty, ⟨none, 0, 0⟩, ⟨none, 0, 0⟩⟩) (q' := ⟨v0, v1, v2, v3, v4, v5, v6, v7, v8, 0, 0, S_empty, ⟨none, 0, 0⟩, ⟨none, 0, 0⟩⟩) 8 hB ho H hs e9 (by omega) rfl fun _ _ _ H hs => ?_
  refine rf_field (q := ⟨v0, v1, v2, v3, v4, v5, v6, v7, v8, 0, 0, S_empty, ⟨none, 0, 0⟩, ⟨none, 0, 0⟩⟩) (q' := ⟨v0, v1, v2, v3, v4, v5, v6, v7, v8, v9, 0, S_empty, ⟨none, 0, 0⟩, ⟨none, 0, 0⟩⟩) 9 hB ho H hs e10 (by omega) rfl fun _ _ _ H hs => ?_
  refine rf_field (q := ⟨v0, v1, v2, v3, v4, v5, v6, v7, v8, v9, 0, S_empty, ⟨none, 0, 0⟩, ⟨none, 0, 0⟩⟩) (q' := ⟨v0, v1, v2, v3, v4, v5, v6, v7, v8, v9, v10, S_empty, ⟨none, 0, 0⟩, ⟨none, 0, 0⟩⟩) 10 hB ho H hs e11 (by omega) rfl fun _ _ _ H hs => ?_
  refine rf_text hB ho hl H hs (by omega) ea fun x7 bad7 _ H hs => H.st 2 rfl (ad1 a 11) (show 11 < 14 by omega) rfl fun w7 H => ?_
  have H : Mine w [b] w7 [.blk b [x7.v, .bool bad7] t_ref14_Reader, .blk p askZ.cells t_api_Ask, .blk a (⟨v0, v1, v2, v3, v4, v5, v6, v7, v8, v9, v10, strOf nm, ⟨none, 0, 0⟩, ⟨none, 0, 0⟩⟩ : AskV).cells t_api_Ask] := H
  refine rf_bytes hB ho hl H hs (by omega) eb fun x8 bad8 y2 _ H hs => H.st 2 rfl (ad1 a 12) (show 12 < 14 by omega) rfl fun w8 H => ?_
  have H : Mine w [b] w8 [.blk b [x8.v, .bool bad8] t_ref14_Reader, .blk p askZ.cells t_api_Ask, .blk a (⟨v0, v1, v2, v3, v4, v5, v6, v7, v8, v9, v10, strOf nm, y2, ⟨none, 0, 0⟩⟩ : AskV).cells t_api_Ask, .row t_uint8 1 y2 (u8s lb)] := H
  refine rf_bytes hB ho hl H hs (by omega) ec fun x9 bad9 y3 _ H hs => H.st 2 rfl (ad1 a 13) (show 13 < 14 by omega) rfl fun w9 H => ?_
  obtain ⟨q, hq⟩ : ∃ q : AskV, q = ⟨v0, v1, v2, v3, v4, v5, v6, v7, v8, v9, v10, strOf nm, y2, y3⟩ := ⟨_, rfl⟩
  have H : Mine w [b] w9 [.blk b [x9.v, .bool bad9] t_ref14_Reader, .blk p askZ.cells t_api_Ask, .blk a q.cells t_api_Ask, .row t_uint8 1 q.by_ (u8s lb), .row t_uint8 1 q.tok (u8s lt)] := by
    rw [hq]
    have H : Mine w [b] w9 [.blk b [x9.v, .bool bad9] t_ref14_Reader, .blk p askZ.cells t_api_Ask, .blk a (⟨v0, v1, v2, v3, v4, v5, v6, v7, v8, v9, v10, strOf nm, y2, y3⟩ : AskV).cells t_api_Ask, .row t_uint8 1 y2 (u8s lb), .row t_uint8 1 y3 (u8s lt)] := H
    exact H
  have hrd : Rds (0, mxC) (0, mxC) (0, mxC) (0, mxC) full q lb lt sc := by
    rw [hq]
    exact ⟨s1, s2, s3, s4, s5, s6, s7, s8, s9, s10, s11, sa, sb, nm, e1, e2, e3, e4, e5, e6, e7, e8, e9, e10, e11, ea, rfl, eb, ec⟩
  refine H.ld_api_Ask 2 rfl (H.sT_api_Ask 1 rfl rfl fun w10 H => H.ld_api_Ask 1 rfl ⟨q, lb, lt, sc, x9, bad9, rfl, hrd, ?_, hs⟩)
  exact ((H.two 0 3 rfl rfl (by omega)).add (H.ok 4 _ rfl) (H.own 4 _ rfl) fun j u hj c hc => by
    match j with
    | 0 => simp at hj; subst hj; exact H.apart 0 4 _ _ (by omega) rfl rfl c hc
    | 1 => simp at hj; subst hj; exact H.apart 3 4 _ _ (by omega) rfl rfl c hc
    | j + 2 => simp at hj)
end Go.Proofs.YtoeedbljiocpdaaDoor
