/- A REQUEST, ITS BODY AND ITS SIGNATURE ARE READ: the program's and the document's. -/
import Derived.Test.YtoeedbljiocpdaaDoorAskRef
import Derived.Test.YtoeedbljiocpdaaDoorRowZ
import Derived.Test.YtoeedbljiocpdaaDoorLaw15
namespace Go.Proofs.YtoeedbljiocpdaaDoor
open Go Go.Ev
set_option maxRecDepth 20000
set_option linter.unusedVariables false
theorem _root_.Go.Ev.Mine.pick {w0 w : World} {S : List Nat} {L L' : List Res} (H : Mine w0 S w L) (f : Nat → Nat) (h : ∀ j r, L'[j]? = some r → L[f j]? = some r) (hi : ∀ i, i < L'.length → ∀ j, j < L'.length → f i = f j → i = j) : Mine w0 S w L' :=
  ⟨H.mod, fun k r hk => H.ok _ r (h k r hk), fun k r hk => H.own _ r (h k r hk), fun j k r s hjk hj hk =>
    H.apart (f j) (f k) r s (fun e => hjk (hi j (List.getElem?_eq_some_iff.1 hj).1 k (List.getElem?_eq_some_iff.1 hk).1 e)) (h j r hj) (h k s hk)⟩
theorem lt_of {A : Type} {x : A} {K : A → Prop} (h : K x) : lt x K := h
theorem _root_.Go.Ev.Bytes.hd {w : World} {x : SlV} {l : List B8} (h : Bytes w x l) (k : Nat) (hk : k ≤ x.n) : Bytes w ⟨x.a, k, x.c⟩ (l.take k) := by
  have := (h.h k rfl hk fun z _ hb _ => hb : slH x (k : Int) fun z => Bytes w z (l.take k)).2
  simpa using this
theorem _root_.Go.Ev.Bytes.tl {w : World} {x : SlV} {l : List B8} (h : Bytes w x l) (k : Nat) (hk : k ≤ x.n) : Bytes w ⟨sub x.a k x.c 1, x.n - k, x.c - k⟩ (l.drop k) := by
  have := (h.l k rfl hk fun z _ hb _ => hb : slL 1 x (k : Int) fun z => Bytes w z (l.drop k)).2
  simpa using this
/-- what is told of bytes -/
def Out (a b c d : Int × Int) (l : List B8) (q : AskV) (lb lt o1 o2 : List B8) (e : Int) : Prop :=
  ((l.length < 2420 ∨ 6000 < l.length) ∧ q = askZ ∧ lb = [] ∧ lt = [] ∧ o1 = [] ∧ o2 = [] ∧ e = 3) ∨
  (¬ (l.length < 2420 ∨ 6000 < l.length) ∧ ∃ q' lb' lt' s, Rds a b c d (l.take (l.length - 2420)) q' lb' lt' s ∧ q'.by_.n = lb'.length ∧ q'.tok.n = lt'.length ∧
    (((rEnd s && mayAsk q') = false ∧ q = askZ ∧ lb = [] ∧ lt = [] ∧ o1 = [] ∧ o2 = [] ∧ e = 4) ∨
     ((rEnd s && mayAsk q') = true ∧ q = q' ∧ lb = lb' ∧ lt = lt' ∧ o1 = l.take (l.length - 2420) ∧ o2 = l.drop (l.length - 2420) ∧ e = 0)))
theorem Out.same {l : List B8} {q q' : AskV} {lb lt o1 o2 lb' lt' o1' o2' : List B8} {e e' : Int} (h : Out (1, 6) (1, mxC) (1, 13) (0, mxC) l q lb lt o1 o2 e) (h' : Out (0, mxC) (0, mxC) (0, mxC) (0, mxC) l q' lb' lt' o1' o2' e') :
    q'.nums = q.nums ∧ q'.name = q.name ∧ lb' = lb ∧ lt' = lt ∧ o1' = o1 ∧ o2' = o2 ∧ e' = e := by
  rcases h with ⟨hs, rfl, rfl, rfl, rfl, rfl, rfl⟩ | ⟨hs, r, mb, mt, s, hr, hb, ht, h⟩
  · rcases h' with ⟨hs', rfl, rfl, rfl, rfl, rfl, rfl⟩ | ⟨hs', -⟩
    · exact ⟨rfl, rfl, rfl, rfl, rfl, rfl, rfl⟩
    · exact absurd hs hs'
  · rcases h' with ⟨hs', -⟩ | ⟨hs', r', mb', mt', s', hr', hb', ht', h'⟩
    · exact absurd hs' hs
    · obtain ⟨g1, g2⟩ := hr.same hr' hb ht hb' ht'
      rcases h with ⟨k, rfl, rfl, rfl, rfl, rfl, rfl⟩ | ⟨k, rfl, rfl, rfl, rfl, rfl, rfl⟩
      · rcases h' with ⟨k', rfl, rfl, rfl, rfl, rfl, rfl⟩ | ⟨k', -⟩
        · exact ⟨rfl, rfl, rfl, rfl, rfl, rfl, rfl⟩
        · rw [← g1, k] at k'; cases k'
      · rcases h' with ⟨k', -⟩ | ⟨k', rfl, rfl, rfl, rfl, rfl, rfl⟩
        · rw [← g1, k] at k'; cases k'
        · obtain ⟨e1, e2, rfl, rfl⟩ := g2 k
          exact ⟨e1, e2, rfl, rfl, rfl, rfl, rfl⟩
theorem ask_Read_ok (x : SlV) (l : List B8) (w : World) (hx : Bytes w x l) : Ok Pr f_ask_Read [.slice x.a x.n x.c] w fun v w' => ∃ (q : AskV) (er : Value) (y1 y2 B B2 : SlV) (fB fB2 lb lt o1 o2 : List B8) (c : Int),
    v = .tuple ⟨[.agg ⟨q.cells⟩, .slice y1.a y1.n y1.c, .slice y2.a y2.n y2.c, er]⟩ ∧ Mine w [] w' [.row t_uint8 1 B (u8s fB), .row t_uint8 1 B2 (u8s fB2), Res.err er c] ∧ Tail B fB q.by_ lb ∧ Tail B fB q.tok lt ∧ Tail B2 fB2 y1 o1 ∧ Tail B2 fB2 y2 o2 ∧
    fB.length ≤ 6000 ∧ fB2.length ≤ 6000 ∧ Out (1, 6) (1, mxC) (1, 13) (0, mxC) l q lb lt o1 o2 c := by
  have hxl := hx.len
  by_cases hs : l.length < 2420 ∨ 6000 < l.length
  · refine Ok.mono (ask_Read_size x (by omega) w) ?_
    rintro _ w' ⟨er, rfl, he, m⟩
    have H := ((Mine.start w).got m (Own.nil w' w.heap.size t_uint8 1))
    have H := H.got (Mod.refl [] w') (Own.nil w' w'.heap.size t_uint8 1)
    have H2 := (Mine.start w).gotE m he
    have H : Mine w [] w' [.row t_uint8 1 ⟨none, 0, 0⟩ (u8s []), .row t_uint8 1 ⟨none, 0, 0⟩ (u8s []), Res.err er 3] := H.add (H2.ok 0 _ rfl) (H2.own 0 _ rfl) fun k s hk b hb => by
      match k with
      | 0 => simp at hk; subst hk; simp [Res.row, SlV.row] at hb
      | 1 => simp at hk; subst hk; simp [Res.row, SlV.row] at hb
      | k + 2 => simp at hk
    exact ⟨askZ, er, ⟨none, 0, 0⟩, ⟨none, 0, 0⟩, ⟨none, 0, 0⟩, ⟨none, 0, 0⟩, [], [], [], [], [], [], 3, rfl, H, Tail.nil _ _, Tail.nil _ _, Tail.nil _ _, Tail.nil _ _, by simp, by simp, .inl ⟨hs, rfl, rfl, rfl, rfl, rfl, rfl⟩⟩
  · refine V_ask_Read_of ?_
    unfold V_ask_Read
    rw [zc_Ask]
    refine (Mine.start w).nw fun p w1 H _ => call_of (sign_Sizes_ok 1 _) ?_
    rintro _ w2 ⟨rfl, m2⟩
    have H := H.frame m2
    have e : (sgS 1 : Int) = 2420 := rfl
    rw [e]
    refine ⟨_, rfl, _, rfl, _, rfl, _, rfl, rfl, ite_false ?_ ?_⟩
    · rw [Bool.or_eq_false_iff, decide_eq_false_iff_not, decide_eq_false_iff_not]
      omega
    refine call_of (slices_Clone_byte_ok x l (by omega) _ (hx.mod0 H.mod)) ?_
    rintro _ w5 ⟨B2, rfl, hB2, m5⟩
    have H := H.got m5 hB2
    have h2 := H.bytes (s := B2) (bs := l) 1 rfl
    have h2l := h2.len
    have h2c := Sl.cap h2
    refine asSl_s ⟨⟨by omega, by omega⟩, lt_of ?_⟩
    obtain ⟨cut, hcut⟩ : ∃ cut : Nat, cut = l.length - 2420 := ⟨_, rfl⟩
    have hci : ((B2.n : Nat) : Int) - 2420 = (cut : Int) := by omega
    rw [hci]
    refine h2.h cut rfl (by omega) fun z hz hzb hzw => ?_
    refine call_of (ask_read_ok z (l.take cut) (by rw [List.length_take]; omega) _ hzb) ?_
    rintro _ w6 ⟨q, lb, lt, s, B, rfl, hrd, hB, hty, htt, m6⟩
    have H := H.got m6 hB
    have hby := (hty.byt _ (H.bytes 2 rfl)).len
    have htk := (htt.byt _ (H.bytes 2 rfl)).len
    refine ⟨_, rfl, as_Ask (q := q) ⟨_, rfl, rfl, H.nw fun p1 w7 H _ => H.sT_api_Ask 3 rfl rfl fun w8 H => ?_⟩⟩
    have hfl : (l.take cut).length ≤ 6000 := by rw [List.length_take]; omega
    cases hok : (rEnd s && mayAsk q) with
    | false =>
      refine ite_true rfl (call_of (ask_fault_ok 4 (by decide) _) ?_)
      rintro er w9 ⟨h9, m9⟩
      have H := H.gotE m9 h9
      refine H.sT_api_Ask 0 rfl rfl fun w10 H => H.ld_api_Ask 0 rfl ?_
      refine ⟨askZ, er, ⟨none, 0, 0⟩, ⟨none, 0, 0⟩, B, B2, l.take cut, l, [], [], [], [], 4, rfl, ?_, Tail.nil _ _, Tail.nil _ _, Tail.nil _ _, Tail.nil _ _, hfl, by omega, .inr ⟨hs, q, lb, lt, s, by rw [← hcut]; exact hrd, hby.symm, htk.symm, .inl ⟨hok, rfl, rfl, rfl, rfl, rfl, rfl⟩⟩⟩
      refine H.pick (fun j => [2, 1, 4].getD j 0) (fun j r hj => ?_) (show ∀ i, i < 3 → ∀ j, j < 3 → ([2, 1, 4] : List Nat).getD i 0 = ([2, 1, 4] : List Nat).getD j 0 → i = j by decide)
      match j with
      | 0 => exact hj
      | 1 => exact hj
      | 2 => exact hj
      | j + 3 => simp at hj
    | true =>
      have H := H.drew
      refine ite_false rfl (H.ld_api_Ask 3 rfl ⟨⟨by omega, by omega, by omega⟩, ⟨⟨by omega, by omega⟩, H.sT_api_Ask 0 rfl rfl fun w10 H => H.ld_api_Ask 0 rfl ?_⟩⟩)
      have H := H.gotE (Mod.refl [] w10) (IsErr.zero w10 w10)
      simp only [Int.toNat_natCast]
      have ht1 : Tail B2 l ⟨B2.a, cut, cut⟩ (l.take cut) := (Tail.self B2 l).head cut (by omega)
      have ht2 : Tail B2 l ⟨sub B2.a cut B2.c 1, B2.n - cut, B2.c - cut⟩ (l.drop cut) := (Tail.self B2 l).drop cut (by omega)
      refine ⟨q, .nilIface, _, _, B, B2, l.take cut, l, lb, lt, l.take cut, l.drop cut, 0, rfl, ?_, hty, htt, ht1, ht2, hfl, by omega, .inr ⟨hs, q, lb, lt, s, by rw [← hcut]; exact hrd, hby.symm, htk.symm, .inr ⟨hok, rfl, rfl, rfl, by rw [hcut], by rw [hcut], rfl⟩⟩⟩
      refine H.pick (fun j => [2, 1, 4].getD j 0) (fun j r hj => ?_) (show ∀ i, i < 3 → ∀ j, j < 3 → ([2, 1, 4] : List Nat).getD i 0 = ([2, 1, 4] : List Nat).getD j 0 → i = j by decide)
      match j with
      | 0 => exact hj
      | 1 => exact hj
      | 2 => exact hj
      | j + 3 => simp at hj
theorem ref15_Read_ok (x : SlV) (l : List B8) (w : World) (hx : Bytes w x l) : Ok Pr f_ref15_Read [.slice x.a x.n x.c] w fun v w' => ∃ (q : AskV) (y1 y2 : SlV) (lb lt o1 o2 : List B8) (c : Int),
    v = .tuple ⟨[.agg ⟨q.cells⟩, .slice y1.a y1.n y1.c, .slice y2.a y2.n y2.c, .int .i64 c]⟩ ∧ Mine w [] w' [.row t_uint8 1 q.by_ (u8s lb), .row t_uint8 1 q.tok (u8s lt), .row t_uint8 1 y1 (u8s o1), .row t_uint8 1 y2 (u8s o2)] ∧
    Out (0, mxC) (0, mxC) (0, mxC) (0, mxC) l q lb lt o1 o2 c := by
  have hxl := hx.len
  refine V_ref15_Read_of ?_
  unfold V_ref15_Read
  rw [zc_Ask]
  have nils : ∀ w', Mod [] w w' → Mine w [] w' [.row t_uint8 1 askZ.by_ (u8s []), .row t_uint8 1 askZ.tok (u8s []), .row t_uint8 1 ⟨none, 0, 0⟩ (u8s []), .row t_uint8 1 ⟨none, 0, 0⟩ (u8s [])] := fun w' m =>
    ((((((Mine.start w).frame m).got (Mod.refl [] w') (Own.nil w' w'.heap.size t_uint8 1)).got (Mod.refl [] w') (Own.nil w' w'.heap.size t_uint8 1)).got (Mod.refl [] w') (Own.nil w' w'.heap.size t_uint8 1)).got (Mod.refl [] w') (Own.nil w' w'.heap.size t_uint8 1))
  refine (Mine.start w).nw fun p w1 H _ => call_of (ref11_Sizes_1 _) ?_
  rintro _ w2 ⟨rfl, m2⟩
  have H := H.frame m2
  refine ⟨_, rfl, _, rfl, _, rfl, _, rfl, rfl, ?_⟩
  by_cases hs : l.length < 2420 ∨ 6000 < l.length
  · refine ite_true ?_ (H.sT_api_Ask 0 rfl rfl fun w3 H => H.ld_api_Ask 0 rfl ?_)
    · rw [Bool.or_eq_true, decide_eq_true_eq, decide_eq_true_eq]
      omega
    exact ⟨askZ, ⟨none, 0, 0⟩, ⟨none, 0, 0⟩, [], [], [], [], 3, rfl, nils w3 H.mod, .inl ⟨hs, rfl, rfl, rfl, rfl, rfl, rfl⟩⟩
  · refine ite_false ?_ ?_
    · rw [Bool.or_eq_false_iff, decide_eq_false_iff_not, decide_eq_false_iff_not]
      omega
    obtain ⟨cut, hcut⟩ : ∃ cut : Nat, cut = l.length - 2420 := ⟨_, rfl⟩
    have hci : ((x.n : Nat) : Int) - 2420 = (cut : Int) := by omega
    rw [hci]
    have hxc := Sl.cap hx
    refine ⟨⟨by omega, by omega⟩, ⟨by omega, by omega⟩, ⟨by omega, by omega⟩, ⟨by omega, by omega⟩, ?_⟩
    simp only [Int.toNat_natCast]
    obtain ⟨z, hz⟩ : ∃ z : SlV, z = ⟨x.a, cut, x.c⟩ := ⟨_, rfl⟩
    obtain ⟨u, hu⟩ : ∃ u : SlV, u = ⟨sub x.a cut x.c 1, x.n - cut, x.c - cut⟩ := ⟨_, rfl⟩
    have hzb : ∀ {w' : World}, Mod [] w w' → Bytes w' z (l.take cut) := fun m => by rw [hz]; exact (hx.mod0 m).hd cut (by omega)
    have hub : ∀ {w' : World}, Mod [] w w' → Bytes w' u (l.drop cut) := fun m => by rw [hu]; exact (hx.mod0 m).tl cut (by omega)
    have hzn : z.n = cut := by rw [hz]
    have hun : u.n = x.n - cut := by rw [hu]
    have H := H.drew
    refine H.nw fun rb w4 H hrb => ?_
    have H : Mine w [] w4 [.blk p askZ.cells t_api_Ask, .blk rb [z.v, .bool false] t_ref14_Reader] := by rw [hz]; exact H
    have hoz : off [rb] z := Sl.off_new (hzb (Mod.refl [] w)) (by omega) (fun c hc => by rw [List.mem_singleton.1 hc]; exact hrb)
    have hfl : (l.take cut).length ≤ 6000 := by rw [List.length_take]; omega
    refine call_of (ref15_Take_ok rb z (l.take cut) _ (H.blk 1 rfl) (hzb H.mod) hoz (by omega)) ?_
    rintro _ w5 ⟨q, lb, lt, s, x9, bad9, rfl, hrd, H2, hs9⟩
    have H := H.updAdd2 (r' := .blk rb [x9.v, .bool bad9] t_ref14_Reader) (s := .row t_uint8 1 q.by_ (u8s lb)) (u := .row t_uint8 1 q.tok (u8s lt)) 1 rfl H2.mod (fun c hc => hc) (H2.ok 0 _ rfl) (fun c hc => hc)
      (H2.ok 1 _ rfl) (fun c hc => (H2.own 1 _ rfl c hc).resolve_left fun h => H2.apart 1 0 _ _ (by omega) rfl rfl c hc h)
      (H2.ok 2 _ rfl) (fun c hc => (H2.own 2 _ rfl c hc).resolve_left fun h => H2.apart 2 0 _ _ (by omega) rfl rfl c hc h) (H2.apart 1 2 _ _ (by omega) rfl rfl)
    have hby := (H.bytes (s := q.by_) (bs := lb) 2 rfl).len
    have htk := (H.bytes (s := q.tok) (bs := lt) 3 rfl).len
    refine as_Ask (q := q) (H.nw fun p2 w6 H _ => H.sT_api_Ask 4 rfl rfl fun w7 H => join0_of fun go hgo => join1_of fun go1 hgo1 => ?_)
    have H : Mine w [] w7 [.blk p askZ.cells t_api_Ask, .blk rb [x9.v, .bool bad9] t_ref14_Reader, .row t_uint8 1 q.by_ (u8s lb), .row t_uint8 1 q.tok (u8s lt), .blk p2 q.cells t_api_Ask] := H
    have bad : ∀ w', Mod [] w7 w' → (rEnd s && mayAsk q) = false → go1 true w' := by
      intro w' m hno
      have H := H.frame m
      refine hgo1 true w' (ite_true rfl (H.sT_api_Ask 0 rfl rfl fun w8 H => H.ld_api_Ask 0 rfl ?_))
      exact ⟨askZ, ⟨none, 0, 0⟩, ⟨none, 0, 0⟩, [], [], [], [], 4, rfl, nils w8 H.mod, .inr ⟨hs, q, lb, lt, s, by rw [← hcut]; exact hrd, hby.symm, htk.symm, .inl ⟨hno, rfl, rfl, rfl, rfl, rfl, rfl⟩⟩⟩
    have good : ∀ w', Mod [] w7 w' → (rEnd s && mayAsk q) = true → go1 false w' := by
      intro w' m hyes
      have H := (H.frame m)
      refine hgo1 false w' (ite_false rfl (hgo w' ?_))
      have H := H.drew
      refine H.ld_api_Ask 4 rfl ?_
      have goal : appK Pr [t_s_uint8, t_s_uint8] t_s_uint8 [.slice none 0 0, .slice z.a z.n z.c] w'.drew fun t56 w9 => (kept ⟨p2, 0, none⟩ 14 w'.drew w9 ∧ appK Pr [t_s_uint8, t_s_uint8] t_s_uint8 [.slice none 0 0, .slice u.a u.n u.c] w9 fun t58 w10 => (kept ⟨p2, 0, none⟩ 14 w9 w10 ∧
          sT_api_Ask ⟨p, 0, none⟩ q.n0 q.n1 q.n2 q.n3 q.n4 q.n5 q.n6 q.n7 q.n8 q.n9 q.n10 q.name q.by_ q.tok w10 fun w11 => ld_api_Ask ⟨p, 0, none⟩ w11 fun r0 r1 r2 r3 r4 r5 r6 r7 r8 r9 r10 r11 r12 r13 =>
          ∃ (q : AskV) (y1 y2 : SlV) (lb lt o1 o2 : List B8) (c : Int), Value.tuple ⟨[.agg ⟨cs_api_Ask r0 r1 r2 r3 r4 r5 r6 r7 r8 r9 r10 r11 r12 r13⟩, .slice t56.a t56.n t56.c, .slice t58.a t58.n t58.c, .int .i64 0]⟩ = .tuple ⟨[.agg ⟨q.cells⟩, .slice y1.a y1.n y1.c, .slice y2.a y2.n y2.c, .int .i64 c]⟩ ∧
            Mine w [] w11 [.row t_uint8 1 q.by_ (u8s lb), .row t_uint8 1 q.tok (u8s lt), .row t_uint8 1 y1 (u8s o1), .row t_uint8 1 y2 (u8s o2)] ∧ Out (0, mxC) (0, mxC) (0, mxC) (0, mxC) l q lb lt o1 o2 c)) := by
        refine H.clone8 elt_u8 (hzb H.mod) (by omega) fun y1 w9 H9 _ => ⟨keptB (H.blk 4 rfl) (H9.blk 4 rfl) rfl, H9.clone8 elt_u8 (hub H9.mod) (by omega) fun y2 w10 H10 _ => ⟨keptB (H9.blk 4 rfl) (H10.blk 4 rfl) rfl, H10.sT_api_Ask 0 rfl rfl fun w11 H => H.ld_api_Ask 0 rfl ?_⟩⟩
        refine ⟨q, y1, y2, lb, lt, l.take cut, l.drop cut, 0, rfl, ?_, .inr ⟨hs, q, lb, lt, s, by rw [← hcut]; exact hrd, hby.symm, htk.symm, .inr ⟨hyes, rfl, rfl, rfl, by rw [hcut], by rw [hcut], rfl⟩⟩⟩
        refine H.pick (fun j => [2, 3, 5, 6].getD j 0) (fun j r hj => ?_) (show ∀ i, i < 4 → ∀ j, j < 4 → ([2, 3, 5, 6] : List Nat).getD i 0 = ([2, 3, 5, 6] : List Nat).getD j 0 → i = j by decide)
        match j with
        | 0 => exact hj
        | 1 => exact hj
        | 2 => exact hj
        | 3 => exact hj
        | j + 4 => simp at hj
      rw [hz, hu] at goal
      exact goal
    refine call_of (ref14_Reader_End_ok rb z (l.take cut) x9 bad9 s _ (H.blk 1 rfl) hs9 (hzb H.mod)) ?_
    rintro _ w8 ⟨rfl, hw⟩
    subst hw
    refine asI_i (H.ld_api_Ask 4 rfl ?_)
    cases hend : rEnd s with
    | false => exact ite_true rfl (bad w8 (Mod.refl [] w8) (by rw [hend]; rfl))
    | true =>
      refine ite_false rfl (call_of (ref15_May_ok q _) ?_)
      rintro _ w9 ⟨rfl, m9⟩
      refine asB_b ?_
      cases hm : mayAsk q with
      | false => exact bad w9 m9 (by rw [hend, hm]; rfl)
      | true => exact good w9 m9 (by rw [hend, hm]; rfl)
end Go.Proofs.YtoeedbljiocpdaaDoor
