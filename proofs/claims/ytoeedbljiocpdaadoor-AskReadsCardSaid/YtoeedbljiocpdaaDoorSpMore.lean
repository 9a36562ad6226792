/- THE SPONGE, more: words that all layers above use. -/
import Derived.Test.YtoeedbljiocpdaaDoorHelp
import Derived.Test.YtoeedbljiocpdaaDoorErrs
namespace Go.Ev
open Go Go.RowKit
/-- a part turns, and a new one is handed out, by one call -/
theorem Mine.updGot {w0 w w' : World} {S T : List Nat} {L : List Res} (H : Mine w0 S w L) (k : Nat) {r r' n : Res} (hk : L[k]? = some r) (m : Mod T w w') (hT : ∀ b ∈ T, b ∈ r.fp) (hr : r'.ok w') (hf : ∀ b ∈ r'.fp, b ∈ r.fp) (hn : n.ok w') (hnf : ∀ b ∈ n.fp, w.heap.size ≤ b) :
    Mine w0 S w' (L.set k r' ++ [n]) := by
  have H' := H.upd k hk m (fun b hb => .inl (hT b hb)) hr (fun b hb => .inl (hf b hb))
  have old : ∀ (j : Nat) (s : Res), (L.set k r')[j]? = some s → ∀ b ∈ s.fp, b < w.heap.size := by
    intro j s hs b hb
    rw [List.getElem?_set] at hs
    split at hs
    · split at hs
      · obtain rfl := Option.some.inj hs
        exact r.lt w (H.ok k r hk) b (hf b hb)
      · cases hs
    · exact s.lt w (H.ok j s hs) b hb
  have e : ∀ {j : Nat} {s : Res}, (L.set k r' ++ [n])[j]? = some s → ((L.set k r')[j]? = some s ∧ j < (L.set k r').length) ∨ (s = n ∧ j = (L.set k r').length) := fun {j s} h => by
    rcases Nat.lt_or_ge j (L.set k r').length with hj | hj
    · rw [List.getElem?_append_left hj] at h; exact .inl ⟨h, hj⟩
    · rw [List.getElem?_append_right hj] at h
      rcases Nat.eq_zero_or_pos (j - (L.set k r').length) with e | e
      · rw [e] at h; simp at h; exact .inr ⟨h.symm, by omega⟩
      · rw [List.getElem?_eq_none (by simp at e ⊢; omega)] at h; cases h
  refine ⟨H'.mod, fun j s hs => ?_, fun j s hs b hb => ?_, fun i j s t hij hs ht b hb hb' => ?_⟩
  · rcases e hs with ⟨h, _⟩ | ⟨rfl, _⟩
    · exact H'.ok j s h
    · exact hn
  · rcases e hs with ⟨h, _⟩ | ⟨rfl, _⟩
    · exact H'.own j s h b hb
    · exact .inr (Nat.le_trans H.mod.size (hnf b hb))
  · rcases e hs with ⟨h, hi⟩ | ⟨rfl, hi⟩
    · rcases e ht with ⟨h', _⟩ | ⟨rfl, _⟩
      · exact H'.apart i j s t hij h h' b hb hb'
      · have := old i s h b hb; have := hnf b hb'; omega
    · rcases e ht with ⟨h', _⟩ | ⟨rfl, hj⟩
      · have := old j t h' b hb'; have := hnf b hb; omega
      · omega
/-- a slice of slices that was made for a call -/
theorem Parts.ofs {w : World} {S : List Nat} {b : Nat} {ss : List SlV} {ls : List (List B8)} {t : TypeId} (h : Blk w b (ss.map SlV.v) t) (hb : b ∉ S) (hl : ss.length = ls.length) (hx : ∀ (i : Nat) (x : SlV) (l : List B8), ss[i]? = some x → ls[i]? = some l → Bytes w x l ∧ off S x) :
    Parts w S ⟨some ⟨b, 0, none⟩, ss.length, ss.length⟩ ls :=
  ⟨ss, (by
    have := h.sl 1 ss.length ss.length (by simp) (by omega)
    rw [Nat.mul_one, List.take_of_length_le (by simp)] at this
    exact this), fun _ a ha => by simp only [Option.some.injEq] at ha; subst ha; exact hb, hl, hx⟩
theorem Parts.of2b {w : World} {S : List Nat} {b : Nat} {x y : SlV} {l m : List B8} {t : TypeId} (h : Blk w b [x.v, y.v] t) (hb : b ∉ S) (hx : Bytes w x l) (ox : off S x) (hy : Bytes w y m) (oy : off S y) : Parts w S ⟨some ⟨b, 0, none⟩, 2, 2⟩ [l, m] :=
  Parts.ofs (ss := [x, y]) h hb rfl fun i z k hz hk => by
    match i with
    | 0 =>
      simp only [List.getElem?_cons_zero, Option.some.injEq] at hz hk
      subst hz hk; exact ⟨hx, ox⟩
    | 1 =>
      simp only [List.getElem?_cons_succ, List.getElem?_cons_zero, Option.some.injEq] at hz hk
      subst hz hk; exact ⟨hy, oy⟩
    | i + 2 => simp at hz
/-- a block, some of it frozen -/
def Fz (w : World) (b : Nat) (cs : List Value) (t : TypeId) : Prop := ∃ fr, w.heap[b]? = some (.cells ⟨cs⟩ t fr)
def Res.fz (b : Nat) (cs : List Value) (t : TypeId) : Res where
  fp := [b]
  ok w := Fz w b cs t
  stab w w' h k := by obtain ⟨fr, k⟩ := k; exact ⟨fr, (h b (by simp)).trans k⟩
  lt w h c hc := by
    simp only [List.mem_singleton] at hc; subst hc
    obtain ⟨fr, h⟩ := h
    exact (Array.getElem?_eq_some_iff.1 h).1
theorem Fz.cell {w : World} {b : Nat} {cs : List Value} {t : TypeId} (h : Fz w b cs t) (i : Nat) : w.cell? ⟨b, i, none⟩ = cs[i]? := by
  obtain ⟨fr, h⟩ := h; simp [World.cell?, h]
theorem Fz.sl {w : World} {b : Nat} {cs : List Value} {t : TypeId} (h : Fz w b cs t) (sz n c : Nat) (hn : n * sz ≤ cs.length) (hc : n ≤ c) : Sl w ⟨some ⟨b, 0, none⟩, n, c⟩ sz (cs.take (n * sz)) := by
  refine ⟨by simp only [List.length_take]; omega, hc, fun _ => rfl, fun i v hv => ?_⟩
  show w.cell? (Addr.add ⟨b, 0, none⟩ i) = some v
  rw [ad1, h.cell]
  rw [List.getElem?_take] at hv
  split at hv
  · exact hv
  · cases hv
theorem Mine.strish {P : Program} {w0 w : World} {S : List Nat} {L : List Res} (H : Mine w0 S w L) (k : Nat) {b : Nat} {cs : List Value} {t : TypeId} {K : World → Prop} (hk : L[k]? = some (.blk b cs t)) (h : ∀ w', Mine w0 S w' (L.set k (.fz b cs t)) → K w') : strishK P (some ⟨b, 0, none⟩) w K := by
  have hb := H.blk k hk
  have hs : w.shape? b = some (t, cs.length) := by unfold Blk at hb; simp [World.shape?, hb]
  refine ⟨w.freeze ⟨b, cs.length, none⟩ 1, by simp [markStringish, hs], h _ ?_⟩
  refine H.upd (T := [b]) k hk ⟨rfl, rfl, rfl, by simp [World.freeze], fun j _ hj => ?_⟩ (fun c hc => .inl hc) ⟨(cs.length, cs.length + 1), ?_⟩ (fun c hc => .inl hc)
  · have hj : ¬ b = j := fun e => hj (by simp [e])
    simp [World.freeze, Array.getElem?_modify, hj]
  · unfold Blk at hb
    simp [World.freeze, Array.getElem?_modify, hb]
/-- a part is read: its bytes as they lay at first -/
theorem Parts.ld0 {w0 w : World} {S : List Nat} {s : SlV} {ls : List (List B8)} (h : Parts w0 S s ls) (m : Mod S w0 w) {i : Nat} (hi : i < ls.length) {K : SlV → Prop} (hk : ∀ x, Bytes w0 x (ls.getD i []) → off S x → K x) :
    idxS s.a (i : Int) s.n (ldL (Addr.add (base s.a) (Int.toNat (i : Int) * 1)) w K) := by
  have hn := h.len
  obtain ⟨ss, h1, h2, h3, h4⟩ := h.ex
  have h1' := h1.mod m h2
  refine ⟨⟨h1.pre (by omega), by omega, by omega⟩, ss[i]'(by omega), ?_, ?_⟩
  · rw [Int.toNat_natCast, Nat.mul_one]
    exact h1'.cell i _ (by simp [show i < ss.length by omega, SlV.v])
  · have := h4 i (ss[i]'(by omega)) (ls.getD i []) (by simp [show i < ss.length by omega]) (by simp [hi])
    exact hk _ this.1 this.2
theorem Parts.at {w0 : World} {s : SlV} {ls : List (List B8)} (h : Parts w0 [] s ls) {i : Nat} (hi : i < ls.length) : ∃ u : SlV, Bytes w0 u (ls.getD i []) ∧ s.a.isSome = true ∧ ∀ w, Mod [] w0 w → w.cell? (Addr.add (base s.a) (Int.toNat (i : Int) * 1)) = some (.slice u.a u.n u.c) := by
  have hn := h.len
  obtain ⟨ss, h1, h2, h3, h4⟩ := h.ex
  refine ⟨ss[i]'(by omega), (h4 i (ss[i]'(by omega)) (ls.getD i []) (by simp [show i < ss.length by omega]) (by simp [hi])).1, h1.pre (by omega), fun w m => ?_⟩
  rw [Int.toNat_natCast, Nat.mul_one]
  exact (h1.mod0 m).cell i _ (by simp [show i < ss.length by omega, SlV.v])
theorem kept1 {w w' : World} {a : Addr} {v : Value} (h : w.cell? a = some v) (h' : w'.cell? a = some v) : kept a 1 w w' := fun j hj => by
  have : j = 0 := by omega
  subst this
  have e : a.add 0 = a := by unfold Addr.add; split <;> simp_all
  rw [e, h, h']
/-- one part alone -/
theorem Mine.only {w0 w : World} {S : List Nat} {L : List Res} (H : Mine w0 S w L) (k : Nat) {r : Res} (hk : L[k]? = some r) : Mine w0 S w [r] :=
  ⟨H.mod, fun j s hs => by
    match j with
    | 0 => simp at hs; subst hs; exact H.ok k _ hk
    | j + 1 => simp at hs, fun j s hs => by
    match j with
    | 0 => simp at hs; subst hs; exact H.own k _ hk
    | j + 1 => simp at hs, fun i j s t hij hs ht => by
    match i, j with
    | 0, 0 => exact absurd rfl hij
    | 0, j + 1 => simp at ht
    | i + 1, _ => simp at hs⟩
/-- two parts alone -/
theorem Mine.two {w0 w : World} {S : List Nat} {L : List Res} (H : Mine w0 S w L) (k l : Nat) {r s : Res} (hk : L[k]? = some r) (hl : L[l]? = some s) (hkl : k ≠ l) : Mine w0 S w [r, s] :=
  (H.only k hk).add (H.ok l _ hl) (H.own l _ hl) fun j u hj b hb => by
    match j with
    | 0 =>
      simp at hj; subst hj
      exact H.apart k l _ _ hkl hk hl b hb
    | j + 1 => simp at hj
/-- bytes of a block that a call made -/
theorem Mine.blkBytes {w0 w : World} {S : List Nat} {L : List Res} (H : Mine w0 S w L) (k : Nat) {b : Nat} {l : List B8} {t : TypeId} (hk : L[k]? = some (.blk b (u8s l) t)) : Bytes w ⟨some ⟨b, 0, none⟩, l.length, l.length⟩ l := by
  have := (H.blk k hk).sl 1 l.length l.length (by simp) (Nat.le_refl _)
  rw [Nat.mul_one, List.take_of_length_le (by simp)] at this
  exact this
/-- 'append(s, make([]T, m)...)' where there is room -/
theorem run_append_zeros {P : Program} (w : World) (t ti ty e : TypeId) (i : TypeInfo) (z : Value) {k : IntKind} (ht : P.underlying t = some (.slice e)) (hti : P.underlying ti = some (.int k)) (hi : P.info? e = some i) (hz : i.zero = some z)
    (g sLen sCap m : Nat) (cur : Array Value) (hg : w.heap[g]? = some (.cells cur e (0, 0))) (hs : i.size = 1) (v : Value) (hzc : z.cells = #[v]) (hv : v.oneCell' = true) (hm : m * i.bytes ≤ 281474976710656) (hm2 : m < 9223372036854775808)
    (hroom : sLen + m ≤ sCap) (hfit : sLen + m ≤ cur.size) :
    (Builtin.append_ #[t, ti] ty #[.slice (some ⟨g, 0, none⟩) sLen sCap, .int .i64 (m : Int)]).run P w =
      .ok (.slice (some ⟨g, 0, none⟩) (sLen + m) sCap) (w.setRow g (cur.toList.take sLen ++ List.replicate m v ++ cur.toList.drop (sLen + m)).toArray) := by
  have hwr : IntKind.wrap .i64 (m : Int) = (m : Int) := wrap_i64 (by omega) (by omega)
  have hle : ¬ ((m : Int) * (i.bytes : Int) > 2 ^ 48) := by
    have e1 : ((m : Int) * (i.bytes : Int)) = ((m * i.bytes : Nat) : Int) := by rw [Int.natCast_mul]
    rw [e1, show (2 : Int) ^ 48 = 281474976710656 by decide]
    omega
  have hle' : ¬ (281474976710656 < (m : Int) * (i.bytes : Int)) := fun h => hle (by rw [show (2 : Int) ^ 48 = 281474976710656 by decide]; exact h)
  have hzs : (Builtin.zeroCells z.cells m).toList = List.replicate m v := by
    unfold Builtin.zeroCells
    rw [hzc]
    refine List.ext_getElem (by simp) fun j h1 h2 => ?_
    simp [Nat.mod_one]
  have hst := run_storeCells_at (P := P) g (sLen * i.size) e (List.replicate m v) 0 cur w hg (by rw [hs, List.length_replicate]; omega) fun u hu => by rw [List.eq_of_mem_replicate hu]; exact hv
  simp only [Nat.add_zero, hs, Nat.mul_one, List.length_replicate] at hst
  rcases Nat.eq_zero_or_pos m with rfl | h0
  · have hset : (w.setRow g (cur.toList.take sLen ++ List.replicate 0 v ++ cur.toList.drop (sLen + 0)).toArray) = w := by
      have := setRow_self w g cur e (0, 0) hg
      simpa using this
    rw [hset]
    simp [Builtin.append_, run_underlying ht, run_underlying hti, Go.sizeOf, Go.typeInfo, hi, asInt, asIntOf, show sLen ≤ sCap by omega, storeCells, show IntKind.wrap .i64 0 = 0 by decide]
  · have hne : ¬ m * i.size = 0 := by rw [hs]; omega
    simp [Builtin.append_, run_underlying ht, run_underlying hti, Go.sizeOf, Go.typeInfo, hi, asInt, asIntOf, hwr, show ¬ ((m : Int) < 0) by omega, hle', hroom, hs, zeroValue, hz, hzs, Addr.add_lit, hst, show ¬ m = 0 by omega]
theorem Mine.appZ {P : Program} {w0 w : World} {S : List Nat} {L : List Res} (H : Mine w0 S w L) (k : Nat) {t ti ty e : TypeId} {q : IntKind} {bytes b n c m : Nat} {x : Int} {v : Value} {cs : List Value} {K : SlV → World → Prop} (hel : Elt P t e 1 bytes) (hti : P.underlying ti = some (.int q)) (hz : zc P e = [v]) (hv : isOne v = true)
    (hk : L[k]? = some (.blk b cs e)) (hx : x = (m : Int)) (hcs : cs.length = c) (hroom : n + m ≤ c) (hm : m * bytes ≤ 281474976710656) (hm2 : m < 9223372036854775808)
    (h : ∀ w', Mine w0 S w' (L.set k (.blk b (cs.take n ++ List.replicate m v ++ cs.drop (n + m)) e)) → K ⟨some ⟨b, 0, none⟩, n + m, c⟩ w') : appK P [t, ti] ty [.slice (some ⟨b, 0, none⟩) n c, .int .i64 x] w K := by
  subst hx
  obtain ⟨i, z, hi, hzz, hsz, hby, hzs⟩ := hel.info
  have hzc : z.cells = #[v] := by
    have : z.cells.toList = [v] := by
      have h2 : zc P e = z.cells.toList := by unfold zc; rw [hi]; simp only [hzz]
      rw [← h2]; exact hz
    rw [← Array.toArray_toList (xs := z.cells), this]
  have hv' : v.oneCell' = true := by cases v <;> first | rfl | cases hv
  have hr := run_append_zeros (P := P) w t ti ty e i z hel.und hti hi hzz b n c m ⟨cs⟩ (H.blk k hk) hsz v hzc hv' (by rw [hby]; exact hm) hm2 hroom (by show n + m ≤ cs.length; omega)
  refine ⟨_, _, hr, ⟨some ⟨b, 0, none⟩, n + m, c⟩, rfl, h _ ?_⟩
  exact H.upd (T := [b]) k hk ⟨rfl, rfl, rfl, by simp, fun j _ hj => setRow_other w b j _ (fun e => hj (by simp [e]))⟩ (fun c hc => .inl hc) (setRow_heap w b _ _ e _ (H.blk k hk)) (fun c hc => .inl hc)
end Go.Ev
namespace Go.Proofs.YtoeedbljiocpdaaDoor
open Go Go.Ev
set_option linter.unusedVariables false
theorem gives_ready {rate : Nat} {suf : B8} {gives : Bool} {s : List B64 × Nat} (h : if gives then Gives rate s else Fits rate s) : Gives rate (ready rate suf gives s) := by
  cases gives with
  | true => exact h
  | false => exact ⟨(length_flip _ _ _).trans ((length_flip _ _ _).trans h.1), Nat.le_refl _⟩
theorem small1 {parts : SlV} {l : List B8} (hn : parts.n = 1) (hl : l.length ≤ 1000000) : Small parts [l] := ⟨by omega, fun m hm => by rw [List.mem_singleton.1 hm]; omega⟩
theorem spOut_len (rate : Nat) (suf : B8) (l : List B8) (n : Nat) (h : n ≤ 1048576) : (spOut rate suf l (n : Int)).length = n := by
  unfold spOut
  split
  · rw [Int.toNat_natCast, length_refOut]
  · simp only [List.length_nil]; omega
theorem outs_take (rate : Nat) (a : List B64) (ha : a.length = 25) (n k : Nat) : (outs rate a (n + k)).1.take n = (outs rate a n).1 := by
  induction k with
  | zero => rw [Nat.add_zero, List.take_of_length_le (Nat.le_of_eq (length_outs rate a ha n).1)]
  | succ k ih =>
    rw [← Nat.add_assoc, outs_succ]
    simp only [outStep]
    rw [List.take_append_of_le_length (by rw [(length_outs rate a ha (n + k)).1]; omega)]
    exact ih
theorem spOut_take (rate : Nat) (suf : B8) (l : List B8) (lo hi : Nat) (h : lo ≤ hi) (h2 : hi ≤ 1048576) : (spOut rate suf l (hi : Int)).take lo = spOut rate suf l (lo : Int) := by
  rcases Nat.eq_zero_or_pos lo with rfl | h0
  · rw [List.take_zero]
    unfold spOut
    rw [if_neg (by omega)]
  · rw [spOut_nat _ _ _ _ (by omega) (by omega), spOut_nat _ _ _ _ (by omega) (by omega)]
    obtain ⟨k, rfl⟩ : ∃ k, hi = lo + k := ⟨hi - lo, by omega⟩
    exact outs_take rate _ (length_blocks _ _ _) lo k
theorem squeeze_add (rate : Nat) (s : List B64 × Nat) (m n : Nat) : squeeze rate s (m + n) = ((squeeze rate s m).1 ++ (squeeze rate (squeeze rate s m).2 n).1, (squeeze rate (squeeze rate s m).2 n).2) := by
  induction n with
  | zero => simp [squeeze, up_zero]
  | succ n ih =>
    rw [← Nat.add_assoc, squeeze_succ, ih, squeeze_succ]
    simp [outB, List.append_assoc]
theorem mayBe_of {rate : Int} {suf : B8} (h : mayBe rate suf = true) : ∃ k : Nat, rate = (k : Int) ∧ 8 ≤ k ∧ k ≤ 192 ∧ k % 8 = 0 := by
  unfold mayBe at h
  simp only [Bool.and_eq_true, decide_eq_true_eq] at h
  exact ⟨rate.toNat, by omega, by omega, by omega, by omega⟩

/-- bytes go into a sponge that is a part of the call's own memory -/
theorem _root_.Go.Ev.Mine.swrite {w0 w : World} {S : List Nat} {L : List Res} (H : Mine w0 S w L) (k : Nat) {b rate : Nat} {s : List B64 × Nat} {suf : B8} (hk : L[k]? = some (spr b s.1 rate s.2 suf false)) (hr : rate ≤ 192) (hs : Fits rate s) {parts : SlV} {ls : List (List B8)}
    (hp : Parts w [b] parts ls) (hsmall : Small parts ls) {K : Value → World → Prop} (h : ∀ w', Mod [b] w w' → Mine w0 S w' (L.set k (spr b (absorb rate s ls.flatten).1 rate (absorb rate s ls.flatten).2 suf false)) → K .nilIface w') :
    callK Pr f_sponge_Sponge_Write [.pointer (some ⟨b, 0, none⟩), .slice parts.a parts.n parts.c] w K := by
  refine call_of (sponge_Write_ok hr hs b parts ls _ (H.blk k hk) hp hsmall) ?_
  rintro _ w1 ⟨rfl, h1, m1⟩
  exact h w1 m1 (H.upd k hk m1 (fun c hc => .inl hc) h1 (fun c hc => .inl hc))
theorem small2 {parts : SlV} {l : List B8} (hn : parts.n = 2) (hl : l.length ≤ 1000000) : Small parts [l, []] := ⟨by omega, fun m hm => by
  simp only [List.mem_cons, List.not_mem_nil, or_false] at hm
  rcases hm with rfl | rfl
  · omega
  · simp⟩
theorem fits0 {rate : Nat} (h : 8 ≤ rate) : Fits rate ((z25, 0) : List B64 × Nat) := ⟨rfl, by show 0 < rate; omega⟩
/-- the sponge's state behind m bytes that came out -/
def gst (rate : Nat) (suf : B8) (s : List B64 × Nat) (m : Nat) : List B64 × Nat := if m = 0 then s else (squeeze rate (close rate suf s) m).2
def ggv (m : Nat) : Bool := decide (0 < m)
theorem ready_gst (rate : Nat) (suf : B8) (s : List B64 × Nat) (m : Nat) : ready rate suf (ggv m) (gst rate suf s m) = (squeeze rate (close rate suf s) m).2 := by
  unfold gst ggv ready
  rcases Nat.eq_zero_or_pos m with rfl | h
  · rfl
  · rw [if_pos (by simp; omega), if_neg (by omega)]
theorem gst_ok {rate : Nat} {suf : B8} {s : List B64 × Nat} (hr : 8 ≤ rate) (hs : Fits rate s) (m : Nat) : if ggv m = true then Gives rate (gst rate suf s m) else Fits rate (gst rate suf s m) := by
  unfold gst ggv
  rcases Nat.eq_zero_or_pos m with rfl | h
  · simpa using hs
  · rw [if_neg (show ¬ m = 0 by omega), if_pos (by simp [h])]
    exact (gives_ready (gives := false) hs).squeeze (by omega) m
theorem smallOf {parts : SlV} {ls : List (List B8)} (hn : parts.n < 1000000) (h : ∀ l ∈ ls, l.length ≤ 1000000) : Small parts ls := ⟨hn, fun l hl => by have := h l hl; omega⟩
theorem small2b {parts : SlV} {l m : List B8} (hn : parts.n = 2) (hl : l.length ≤ 1000000) (hm : m.length ≤ 1000000) : Small parts [l, m] := smallOf (by omega) fun k hk => by
  simp only [List.mem_cons, List.not_mem_nil, or_false] at hk
  rcases hk with rfl | rfl <;> omega
/-- what was lent -/
theorem lent_bytes {w : World} {q : Nat} {l : List B8} (h : Blk w q (u8s (l ++ mark3)) t_uint8) : Bytes w ⟨some ⟨q, 0, none⟩, l.length, l.length + 3⟩ l := by
  have := h.sl 1 l.length (l.length + 3) (by simp) (by omega)
  rw [Nat.mul_one, u8s_append, List.take_append_of_le_length (by simp), List.take_of_length_le (by simp)] at this
  exact this
theorem lent_own {w : World} {q : Nat} {l : List B8} (h : Blk w q (u8s (l ++ mark3)) t_uint8) (hl : l.length ≤ 1000000000) : Own w 0 t_uint8 1 ⟨some ⟨q, 0, none⟩, l.length, l.length + 3⟩ (u8s l) := by
  have := h.own 1 l.length (l.length + 3) (by simp [mark3]) (by omega) (by simp only [maxLen]; omega)
  rw [Nat.mul_one, u8s_append, List.take_append_of_le_length (by simp), List.take_of_length_le (by simp)] at this
  exact this
theorem wrap_u8_any (n : Int) : IntKind.wrap .u8 n = ((BitVec.ofInt 8 n).toNat : Int) := by
  rw [wrap_u8, BitVec.toNat_ofInt]
  omega
theorem not8 (x : B8) : notI .u8 (x.toNat : Int) = ((~~~ x).toNat : Int) := by
  unfold notI
  rw [show (if IntKind.signed .u8 = true then (-1 : Int) else IntKind.max .u8) = (((BitVec.allOnes 8).toNat : Nat) : Int) from rfl, xor8, BitVec.allOnes_xor]
end Go.Proofs.YtoeedbljiocpdaaDoor
