/- ROWS: made, lengthened, written, read: words of this claim's author. -/
import Derived.Test.YtoeedbljiocpdaaDoorBits
namespace Go.Ev
open Go Go.RowKit

variable {P : Program}
theorem nc {a : Addr} {K : Addr → Prop} (h : K a) : nilchk (some a) K := h
theorem ifn_iface {t : TypeId} {v : Value} {K : Bool → Prop} (h : K false) : ifaceNil (.iface t v) K := h
theorem ifn_nil {K : Bool → Prop} (h : K true) : ifaceNil .nilIface K := h
theorem cnt_of {y : Int} {A : Prop} (h : 0 ≤ y) (hA : A) : cnt y A := by
  unfold cnt; split
  · exact hA
  · exact ⟨h, hA⟩
theorem pos_of {y : Int} {A : Prop} (h : 0 < y) (hA : A) : pos y A := by
  unfold pos; split
  · exact hA
  · exact ⟨h, hA⟩
/-- a part that is let go -/
def Res.no : Res where
  fp := []
  ok _ := True
  stab _ _ _ _ := trivial
  lt _ _ b hb := by cases hb
section
variable {w0 w : World} {S : List Nat} {L : List Res}
theorem Mine.let_go (H : Mine w0 S w L) (k : Nat) {r : Res} (hk : L[k]? = some r) : Mine w0 S w (L.set k .no) :=
  H.upd (T := []) k hk (Mod.refl _ _) (fun b hb => by cases hb) trivial fun b hb => by cases hb
/-- a part is spoilt by a call that may write it -/
theorem Mine.spoil {T : List Nat} {w' : World} (H : Mine w0 S w L) (k : Nat) {r : Res} (hk : L[k]? = some r) (m : Mod T w w') (hT : ∀ b ∈ T, b ∈ r.fp ∨ w.heap.size ≤ b) : Mine w0 S w' (L.set k .no) :=
  H.upd k hk m hT trivial fun b hb => by cases hb
/-- what is handed out was not there before -/
theorem Mine.fresh (H : Mine w0 S w L) (k : Nat) {e : TypeId} {sz : Nat} {s : SlV} {vs : List Value} (hk : L[k]? = some (.row e sz s vs)) (hS : ∀ b ∈ s.row, b ∉ S) : Own w w0.heap.size e sz s vs := by
  obtain ⟨hl, h1 | ⟨g, cap, cur, h1, h2, h3⟩⟩ := H.own' k hk
  · exact ⟨hl, .inl h1⟩
  · refine ⟨hl, .inr ⟨g, cap, cur, h1, ?_, h3⟩⟩
    have hg : g ∈ s.row := by
      obtain ⟨a, n, c⟩ := s
      simp only [SlV.v, Value.slice.injEq] at h1
      obtain ⟨rfl, -⟩ := h1
      simp [SlV.row]
    exact (H.own k _ hk g hg).resolve_left (hS g hg)
theorem Mine.fresh0 (H : Mine w0 [] w L) (k : Nat) {e : TypeId} {sz : Nat} {s : SlV} {vs : List Value} (hk : L[k]? = some (.row e sz s vs)) : Own w w0.heap.size e sz s vs := H.fresh k hk (fun b _ => by simp)
/-- what a call handed out -/
theorem Mine.got {w' : World} (H : Mine w0 S w L) (m : Mod [] w w') {e : TypeId} {sz : Nat} {s : SlV} {vs : List Value} (h : Own w' w.heap.size e sz s vs) : Mine w0 S w' (L ++ [.row e sz s vs]) :=
  H.push m h.lo fun b hb => (Own.row_ge h b hb).1
theorem Mine.gotblk {w' : World} (H : Mine w0 S w L) (m : Mod [] w w') {b : Nat} {cs : List Value} {t : TypeId} (h : Blk w' b cs t) (hb : w.heap.size ≤ b) : Mine w0 S w' (L ++ [.blk b cs t]) :=
  H.push m h (by simp [Res.blk, hb])
theorem Mine.rowSl (H : Mine w0 S w L) (k : Nat) {e : TypeId} {sz : Nat} {s : SlV} {vs : List Value} (hk : L[k]? = some (.row e sz s vs)) : Sl w s sz vs := (H.own' k hk).sl
theorem Blk.sl {b : Nat} {cs : List Value} {t : TypeId} (h : Blk w b cs t) (sz n c : Nat) (hn : n * sz ≤ cs.length) (hc : n ≤ c) : Sl w ⟨some ⟨b, 0, none⟩, n, c⟩ sz (cs.take (n * sz)) := by
  refine ⟨by simp only [List.length_take]; omega, hc, fun _ => rfl, fun i v hv => ?_⟩
  show w.cell? (Addr.add ⟨b, 0, none⟩ i) = some v
  rw [ad1, h.cell]
  rw [List.getElem?_take] at hv
  split at hv
  · exact hv
  · cases hv
theorem Blk.own {b : Nat} {cs : List Value} {t : TypeId} (h : Blk w b cs t) (sz n c : Nat) (hl : cs.length = c * sz) (hc : n ≤ c) (hm : c ≤ maxLen) : Own w 0 t sz ⟨some ⟨b, 0, none⟩, n, c⟩ (cs.take (n * sz)) := by
  have := Nat.mul_le_mul_right sz hc
  exact ⟨by simp only [List.length_take]; omega, .inr ⟨b, c, ⟨cs⟩, rfl, Nat.zero_le _, h, hc, hm, hl, rfl⟩⟩
/-- a block as a row -/
theorem Mine.asRow (H : Mine w0 S w L) (k : Nat) {b : Nat} {cs : List Value} {t : TypeId} (sz n c : Nat) (hk : L[k]? = some (.blk b cs t)) (hl : cs.length = c * sz) (hc : n ≤ c) (hm : c ≤ maxLen) :
    Mine w0 S w (L.set k (.row t sz ⟨some ⟨b, 0, none⟩, n, c⟩ (cs.take (n * sz)))) :=
  H.upd (T := []) k hk (Mod.refl _ _) (fun b hb => by cases hb) ((H.blk k hk).own sz n c hl hc hm) fun b hb => .inl hb
/-- an element is appended -/
theorem Mine.app1 (H : Mine w0 S w L) (k : Nat) {t ty e t1 : TypeId} {sz bytes : Nat} {s : SlV} {vs us : List Value} {K : SlV → World → Prop} (hel : Elt P t e sz bytes) (hk : L[k]? = some (.row e sz s vs)) (hl : us.length = sz)
    (h1 : ∀ u ∈ us, isOne u = true) (hb : (s.n + 1) * bytes ≤ 140737488355328) (hm : s.n + 1 ≤ 9223372036854775807)
    (h : ∀ s' w', Mine w0 S w' (L.set k (.row e sz s' (vs ++ us))) → s'.n = s.n + 1 → K s' w') : Ev.nw t1 us w fun p w5 => appK P [t, t] ty [.slice s.a s.n s.c, .slice (some p) 1 1] w5 K := by
  refine H.nw fun b w5 H5 _ => ?_
  have hkl : k < L.length := (List.getElem?_eq_some_iff.1 hk).1
  have hk5 : (L ++ [Res.blk b us t1])[k]? = some (.row e sz s vs) := by rw [List.getElem?_append_left hkl]; exact hk
  have hb5 := H5.blk (cs := us) (b := b) (t := t1) L.length (by simp)
  have hsl := hb5.sl sz 1 1 (by omega) (Nat.le_refl _)
  rw [Nat.one_mul, ← hl, List.take_length] at hsl
  subst hl
  refine H5.app (x := ⟨some ⟨b, 0, none⟩, 1, 1⟩) k hel hk5 hsl h1 hb hm fun s' w' H' hn => h s' w' ?_ hn
  have := H'.take L.length
  rw [List.set_append_left _ _ hkl, List.take_append_of_le_length (by simp), List.take_of_length_le (by simp)] at this
  exact this
/-- an element of an own row is written -/
theorem run_setRow (w : World) (g : Nat) (cur : List Value) (e : TypeId) (i : Nat) (v : Value) (h : Blk w g cur e) : Blk (w.setCell ⟨g, i, none⟩ v) g (cur.set i v) e := h.set i v
theorem Mine.stRow (H : Mine w0 S w L) (k : Nat) {e : TypeId} {sz : Nat} {s : SlV} {vs : List Value} {i : Nat} {a : Addr} {v : Value} {K : World → Prop} (hk : L[k]? = some (.row e sz s vs)) (ha : a = Addr.add (base s.a) i) (hi : i < vs.length) (h1 : isOne v = true)
    (h : ∀ w', Mine w0 S w' (L.set k (.row e sz s (vs.set i v))) → K w') : Ev.st a v w K := by
  subst ha
  have ho := H.own' k hk
  obtain ⟨sa, sn, sc⟩ := s
  obtain ⟨hl, hv | ⟨g, cap, cur, hv, h2, hg, hnc, hcm, hcs, htake⟩⟩ := ho
  · rw [hv.2] at hl; omega
  · simp only [SlV.v, Value.slice.injEq] at hv
    obtain ⟨rfl, -, rfl⟩ := hv
    have hblk : Blk w g cur.toList e := hg
    have hic : i < cur.toList.length := by
      have : vs.length ≤ cur.toList.length := by rw [← htake, List.length_take]; exact Nat.min_le_right _ _
      omega
    show Ev.st (Addr.add ⟨g, 0, none⟩ i) v w K
    rw [ad1]
    refine st_blk hblk hic h1 fun w' h3 h4 _ => h w' (H.upd k hk h4 (fun b hb => .inl (by simpa [Res.row, SlV.row] using hb)) ?_ fun b hb => .inl hb)
    refine ⟨by simpa using hl, .inr ⟨g, sc, ⟨cur.toList.set i v⟩, rfl, h2, h3, hnc, hcm, by simpa using hcs, ?_⟩⟩
    show (cur.toList.set i v).take (sn * sz) = vs.set i v
    rw [← htake, List.take_set]
/-- the first cells of a block -/
theorem Mine.ldAp (H : Mine w0 S w L) (k : Nat) {b n : Nat} {a : Addr} {cs : List Value} {t : TypeId} {K : List Value → Prop} (hk : L[k]? = some (.blk b cs t)) (ha : a = ⟨b, 0, none⟩) (hn : n ≤ cs.length) (h : K (cs.take n)) : Ev.ldA n a w K := by
  subst ha; exact ldA_blk (H.blk k hk) hn h
theorem Mine.stAp (H : Mine w0 S w L) (k : Nat) {b n : Nat} {a : Addr} {l cs : List Value} {t : TypeId} {K : World → Prop} (hk : L[k]? = some (.blk b cs t)) (ha : a = ⟨b, 0, none⟩) (hl : l.length = n) (hn : n ≤ cs.length) (h1 : ∀ v ∈ l, isOne v = true)
    (h : ∀ w', Mine w0 S w' (L.set k (.blk b (l ++ cs.drop n) t)) → K w') : Ev.stA n a l w K := by
  subst ha
  exact stA_blk (H.blk k hk) hl hn h1 fun w' h2 h3 _ => h w' (H.upd k hk h3 (fun c hc => .inl hc) h2 (fun c hc => .inl hc))
/-- 'make' -/
theorem Mine.mkS (H : Mine w0 S w L) {t e : TypeId} {sz bytes : Nat} {l c : Nat} {x y : Int} {K : SlV → World → Prop} (hel : Elt P t e sz bytes) (hx : x = (l : Int)) (hy : y = (c : Int)) (hlc : l ≤ c) (hc : c ≤ 9223372036854775807) (hb : bytes * c ≤ 281474976710656)
    (h : ∀ b w', Mine w0 S w' (L ++ [.row e sz ⟨some ⟨b, 0, none⟩, l, c⟩ ((zeroRow c (zc P e)).take (l * sz))]) → w0.heap.size ≤ b → K ⟨some ⟨b, 0, none⟩, l, c⟩ w') : mkSl P e x y w K := by
  subst hx hy
  obtain ⟨i, z, hi, hz, hsz, hby, hzs⟩ := hel.info
  have hbytes : bytesOf P e = bytes := by unfold bytesOf; rw [hi]; exact hby
  have hzc : zc P e = z.cells.toList := by unfold zc; rw [hi]; simp only [hz]
  have hzl : (zc P e).length = sz := by rw [hzc]; simpa using hzs
  have hrow : (zeroRow c (zc P e)).length = c * sz := by
    unfold zeroRow
    rw [List.length_flatten, List.map_replicate, List.sum_replicate_nat, hzl]
  refine ⟨⟨by omega, by omega, by omega, ?_⟩, ?_⟩
  · rw [hbytes]
    have h1 : ((bytes : Int) * (c : Int)) = ((bytes * c : Nat) : Int) := by rw [Int.natCast_mul]
    have h2 : (2 ^ 48 : Int) = 281474976710656 := by decide
    rw [h1, h2]
    omega
  · simp only [Int.toNat_natCast]
    have hm : Mod [] w (w.alloc (.cells ⟨zeroRow c (zc P e)⟩ e)) := Mod.alloc _ _ _
    refine h w.heap.size _ (H.push hm ?_ (by simp [Res.row, SlV.row])) H.mod.size
    exact (Blk.new w (zeroRow c (zc P e)) e).own sz l c hrow hlc (by simp only [maxLen]; omega)
end

/-! ### what is read alone -/
theorem Bytes.mod {w w' : World} {s : SlV} {l : List B8} (h : Bytes w s l) {S : List Nat} (m : Mod S w w') (ho : off S s) : Bytes w' s l := Sl.mod h m ho
theorem Bytes.mod0 {w w' : World} {s : SlV} {l : List B8} (h : Bytes w s l) (m : Mod [] w w') : Bytes w' s l := Sl.mod0 h m
/-- lists of bytes in a slice -/
structure Parts (w : World) (S : List Nat) (s : SlV) (ls : List (List B8)) : Prop where
  ex : ∃ ss : List SlV, Sl w s 1 (ss.map SlV.v) ∧ off S s ∧ ss.length = ls.length ∧ ∀ (i : Nat) (x : SlV) (l : List B8), ss[i]? = some x → ls[i]? = some l → Bytes w x l ∧ off S x
theorem Parts.mod {w w' : World} {S : List Nat} {s : SlV} {ls : List (List B8)} (h : Parts w S s ls) (m : Mod S w w') : Parts w' S s ls := by
  obtain ⟨ss, h1, h2, h3, h4⟩ := h.ex
  exact ⟨ss, h1.mod m h2, h2, h3, fun i x l hx hl => ⟨(h4 i x l hx hl).1.mod m (h4 i x l hx hl).2, (h4 i x l hx hl).2⟩⟩
theorem Parts.mono {w : World} {S T : List Nat} {s : SlV} {ls : List (List B8)} (h : Parts w S s ls) (hs : ∀ b ∈ T, b ∈ S) : Parts w T s ls := by
  obtain ⟨ss, h1, h2, h3, h4⟩ := h.ex
  exact ⟨ss, h1, h2.mono hs, h3, fun i x l hx hl => ⟨(h4 i x l hx hl).1, (h4 i x l hx hl).2.mono hs⟩⟩
/-- new blocks lie apart -/
theorem Parts.new {w : World} {S T : List Nat} {s : SlV} {ls : List (List B8)} (h : Parts w S s ls) (hT : ∀ b ∈ T, b ∈ S ∨ w.heap.size ≤ b) : Parts w T s ls := by
  obtain ⟨ss, h1, h2, h3, h4⟩ := h.ex
  have key : ∀ {x : SlV} {vs : List Value}, Sl w x 1 vs → off S x → off T x := fun {x vs} k1 k2 h0 a ha hb => by
    rcases hT _ hb with h | h
    · exact k2 h0 a ha h
    · have := k1.block (by omega) h0 ha; omega
  exact ⟨ss, h1, key h1 h2, h3, fun i x l hx hl => ⟨(h4 i x l hx hl).1, key (h4 i x l hx hl).1 (h4 i x l hx hl).2⟩⟩
theorem Parts.len {w : World} {S : List Nat} {s : SlV} {ls : List (List B8)} (h : Parts w S s ls) : s.n = ls.length := by
  obtain ⟨ss, h1, h2, h3, h4⟩ := h.ex
  have := h1.len
  simp only [List.length_map] at this
  omega
theorem Parts.nil (w : World) (S : List Nat) : Parts w S ⟨none, 0, 0⟩ [] := ⟨[], Sl.nil w 1, fun _ a h => by simp at h, rfl, fun i x l h => by simp at h⟩
/-- a part is read -/
theorem Parts.ld {w : World} {S : List Nat} {s : SlV} {ls : List (List B8)} (h : Parts w S s ls) {i : Nat} (hi : i < ls.length) {K : SlV → Prop} (hk : ∀ x, Bytes w x (ls.getD i []) → off S x → K x) :
    idxS s.a (i : Int) s.n (ldL (Addr.add (base s.a) (Int.toNat (i : Int) * 1)) w K) := by
  have hn := h.len
  obtain ⟨ss, h1, h2, h3, h4⟩ := h.ex
  refine ⟨⟨h1.pre (by omega), by omega, by omega⟩, ss[i]'(by omega), ?_, ?_⟩
  · rw [Int.toNat_natCast, Nat.mul_one]
    exact h1.cell i _ (by simp [show i < ss.length by omega, SlV.v])
  · have := h4 i (ss[i]'(by omega)) (ls.getD i []) (by simp [show i < ss.length by omega]) (by simp [hi])
    exact hk _ this.1 this.2
/-- a slice of one, or two, slices that was made for a call -/
theorem Parts.of1 {w : World} {S : List Nat} {b : Nat} {x : SlV} {l : List B8} {t : TypeId} (h : Blk w b [x.v] t) (hb : b ∉ S) (hx : Bytes w x l) (ho : off S x) : Parts w S ⟨some ⟨b, 0, none⟩, 1, 1⟩ [l] :=
  ⟨[x], by simpa using h.sl 1 1 1 (by simp) (by omega), fun _ a ha => by simp only [Option.some.injEq] at ha; subst ha; exact hb, rfl, fun i y m hy hm => by
    cases i with
    | zero =>
      simp only [List.getElem?_cons_zero, Option.some.injEq] at hy hm
      subst hy hm; exact ⟨hx, ho⟩
    | succ i => simp at hy⟩
theorem Bytes.nil (w : World) : Bytes w ⟨none, 0, 0⟩ [] := Sl.nil w 1
theorem Parts.of2 {w : World} {S : List Nat} {b : Nat} {x : SlV} {l : List B8} {t : TypeId} (h : Blk w b [x.v, .slice none 0 0] t) (hb : b ∉ S) (hx : Bytes w x l) (ho : off S x) : Parts w S ⟨some ⟨b, 0, none⟩, 2, 2⟩ [l, []] :=
  ⟨[x, ⟨none, 0, 0⟩], by simpa using h.sl 1 2 2 (by simp) (by omega), fun _ a ha => by simp only [Option.some.injEq] at ha; subst ha; exact hb, rfl, fun i y m hy hm => by
    cases i with
    | zero =>
      simp only [List.getElem?_cons_zero, Option.some.injEq] at hy hm
      subst hy hm; exact ⟨hx, ho⟩
    | succ i =>
      cases i with
      | zero =>
        simp only [List.getElem?_cons_succ, List.getElem?_cons_zero, Option.some.injEq] at hy hm
        subst hy hm; exact ⟨Bytes.nil w, fun _ a h => by simp at h⟩
      | succ i => simp at hy⟩
theorem Own.bytes {w : World} {lo : Nat} {e : TypeId} {s : SlV} {l : List B8} (h : Own w lo e 1 s (u8s l)) : Bytes w s l := h.sl
theorem Own.off {w : World} {lo : Nat} {e : TypeId} {sz : Nat} {s : SlV} {vs : List Value} (h : Own w lo e sz s vs) {S : List Nat} (hS : ∀ b ∈ S, b < lo) : off S s := fun _ a ha hb => by
  have := (Own.row_ge h a.block (by simp [SlV.row, ha])).1
  have := hS _ hb
  omega

/-! ### slices of slices -/
/-- x lies within s -/
def Within (x s : SlV) : Prop := x.n ≤ s.n ∧ ∀ a, x.a = some a → ∃ a0, s.a = some a0 ∧ a.block = a0.block
theorem Within.off {x s : SlV} {S : List Nat} (h : Within x s) (ho : off S s) : off S x := fun h0 a ha => by
  obtain ⟨a0, h1, h2⟩ := h.2 a ha
  rw [h2]; exact ho (Nat.lt_of_lt_of_le h0 h.1) a0 h1
theorem Sl.part {w : World} {s : SlV} {sz : Nat} {vs : List Value} (h : Sl w s sz vs) (hsz : 0 < sz) (l k : Nat) (hlk : l ≤ k) (hk : k ≤ s.n) : Sl w ⟨sub s.a l s.c sz, k - l, s.c - l⟩ sz ((vs.drop (l * sz)).take ((k - l) * sz)) := by
  have hl := h.len
  have hc := h.cap
  have e1 : k * sz ≤ s.n * sz := Nat.mul_le_mul_right _ hk
  have e2 : (k - l) * sz = k * sz - l * sz := Nat.sub_mul _ _ _
  have e3 : l * sz ≤ k * sz := Nat.mul_le_mul_right _ hlk
  refine ⟨by simp only [List.length_take, List.length_drop]; omega, by show k - l ≤ s.c - l; omega, fun h0 => ?_, fun i v hv => ?_⟩
  · have h0 : 0 < k - l := h0
    have := h.pre (by omega)
    unfold sub; split
    · exact this
    · simpa using this
  · rw [List.getElem?_take] at hv
    split at hv
    · rename_i hi
      rw [List.getElem?_drop] at hv
      have h1 := h.cell _ v hv
      have hkl : l < k := by
        rcases Nat.lt_or_ge l k with h | h
        · exact h
        · rw [show k - l = 0 by omega, Nat.zero_mul] at hi; omega
      obtain ⟨a, ha⟩ := Option.isSome_iff_exists.1 (h.pre (by omega))
      have hne : ¬ s.c = l := by omega
      have hb : base s.a = a := by rw [ha]; rfl
      unfold sub
      rw [if_neg hne, ha]
      show w.cell? ((a.add (l * sz)).add i) = some v
      rw [add_add, ← hb]
      exact h1
    · cases hv
theorem Within.part (s : SlV) (l m sz n c : Nat) (hn : n ≤ s.n) : Within ⟨sub s.a l m sz, n, c⟩ s := by
  refine ⟨hn, fun a ha => ?_⟩
  unfold sub at ha
  simp only at ha
  split at ha
  · exact ⟨a, ha, rfl⟩
  · cases hs : s.a with
    | none => rw [hs] at ha; cases ha
    | some a0 =>
      rw [hs] at ha
      simp only [Option.map_some, Option.some.injEq] at ha
      subst ha
      exact ⟨a0, rfl, add_block _ _⟩
theorem Sl.lh {w : World} {s : SlV} {sz : Nat} {vs : List Value} {K : SlV → Prop} (h : Sl w s sz vs) (hsz : 0 < sz) (l k : Nat) {x y : Int} (hx : x = (l : Int)) (hy : y = (k : Int)) (hlk : l ≤ k) (hk : k ≤ s.n)
    (hK : ∀ z : SlV, z.n = k - l → Sl w z sz ((vs.drop (l * sz)).take ((k - l) * sz)) → Within z s → K z) : slLH sz s x y K := by
  subst hx hy
  have hc := h.cap
  refine ⟨⟨by omega, by omega, by omega⟩, ?_⟩
  simp only [Int.toNat_natCast]
  exact hK _ rfl (h.part hsz l k hlk hk) (Within.part _ _ _ _ _ _ (by omega))
theorem Sl.l {w : World} {s : SlV} {sz : Nat} {vs : List Value} {K : SlV → Prop} (h : Sl w s sz vs) (hsz : 0 < sz) (l : Nat) {x : Int} (hx : x = (l : Int)) (hl : l ≤ s.n)
    (hK : ∀ z : SlV, z.n = s.n - l → Sl w z sz (vs.drop (l * sz)) → Within z s → K z) : slL sz s x K := by
  subst hx
  refine ⟨⟨by omega, by omega⟩, ?_⟩
  simp only [Int.toNat_natCast]
  have := h.part hsz l s.n hl (Nat.le_refl _)
  rw [List.take_of_length_le (by rw [List.length_drop, h.len, Nat.sub_mul]; exact Nat.le_refl _)] at this
  exact hK _ rfl this (Within.part _ _ _ _ _ _ (by omega))
theorem Sl.h {w : World} {s : SlV} {sz : Nat} {vs : List Value} {K : SlV → Prop} (h : Sl w s sz vs) (k : Nat) {y : Int} (hy : y = (k : Int)) (hk : k ≤ s.n)
    (hK : ∀ z : SlV, z.n = k → Sl w z sz (vs.take (k * sz)) → Within z s → K z) : slH s y K := by
  subst hy
  have hc := h.cap
  refine ⟨⟨by omega, by omega⟩, ?_⟩
  simp only [Int.toNat_natCast]
  have e1 : k * sz ≤ s.n * sz := Nat.mul_le_mul_right _ hk
  refine hK ⟨s.a, k, s.c⟩ rfl ⟨by rw [List.length_take, h.len]; show min (k * sz) (s.n * sz) = k * sz; omega, by show k ≤ s.c; omega, fun h0 => h.pre (Nat.lt_of_lt_of_le h0 hk), fun i v hv => ?_⟩ ⟨hk, fun a ha => ⟨a, ha, rfl⟩⟩
  rw [List.getElem?_take] at hv
  split at hv
  · exact h.cell i v hv
  · cases hv
theorem u8s_take (l : List B8) (n : Nat) : (u8s l).take n = u8s (l.take n) := by simp [u8s, List.map_take]
theorem u8s_drop (l : List B8) (n : Nat) : (u8s l).drop n = u8s (l.drop n) := by simp [u8s, List.map_drop]
theorem u8s_set (l : List B8) (i : Nat) (b : B8) : (u8s l).set i (.int .u8 (b.toNat : Int)) = u8s (l.set i b) := by simp [u8s, u8, List.map_set]
theorem Bytes.lh {w : World} {s : SlV} {bs : List B8} {K : SlV → Prop} (h : Bytes w s bs) (l k : Nat) {x y : Int} (hx : x = (l : Int)) (hy : y = (k : Int)) (hlk : l ≤ k) (hk : k ≤ s.n)
    (hK : ∀ z : SlV, z.n = k - l → Bytes w z ((bs.drop l).take (k - l)) → Within z s → K z) : slLH 1 s x y K :=
  Sl.lh h (by omega) l k hx hy hlk hk fun z h1 h2 h3 => hK z h1 (by simp only [Nat.mul_one, u8s_drop, u8s_take] at h2; exact h2) h3
theorem Bytes.l {w : World} {s : SlV} {bs : List B8} {K : SlV → Prop} (h : Bytes w s bs) (l : Nat) {x : Int} (hx : x = (l : Int)) (hl : l ≤ s.n)
    (hK : ∀ z : SlV, z.n = s.n - l → Bytes w z (bs.drop l) → Within z s → K z) : slL 1 s x K :=
  Sl.l h (by omega) l hx hl fun z h1 h2 h3 => hK z h1 (by simp only [Nat.mul_one, u8s_drop] at h2; exact h2) h3
theorem Bytes.h {w : World} {s : SlV} {bs : List B8} {K : SlV → Prop} (h : Bytes w s bs) (k : Nat) {y : Int} (hy : y = (k : Int)) (hk : k ≤ s.n)
    (hK : ∀ z : SlV, z.n = k → Bytes w z (bs.take k) → Within z s → K z) : slH s y K :=
  Sl.h h k hy hk fun z h1 h2 h3 => hK z h1 (by simp only [Nat.mul_one, u8s_take] at h2; exact h2) h3
/-- an own row of bytes -/
theorem Mine.st8 {w0 w : World} {S : List Nat} {L : List Res} (H : Mine w0 S w L) (k : Nat) {e : TypeId} {s : SlV} {bs : List B8} {i : Nat} {a : Addr} {n : Int} {K : World → Prop} (x : B8) (hk : L[k]? = some (.row e 1 s (u8s bs))) (ha : a = Addr.add (base s.a) i) (hi : i < bs.length) (hn : n = (x.toNat : Int))
    (h : ∀ w', Mine w0 S w' (L.set k (.row e 1 s (u8s (bs.set i x)))) → K w') : Ev.st a (.int .u8 n) w K := by
  subst hn
  refine H.stRow k hk ha (by simpa using hi) rfl fun w' H' => h w' ?_
  rw [← u8s_set]; exact H'
theorem Mine.bytes {w0 w : World} {S : List Nat} {L : List Res} (H : Mine w0 S w L) (k : Nat) {e : TypeId} {s : SlV} {bs : List B8} (hk : L[k]? = some (.row e 1 s (u8s bs))) : Bytes w s bs := H.rowSl k hk
theorem Bytes.some {w : World} {s : SlV} {bs : List B8} (h : Bytes w s bs) (h0 : 0 < s.n) : s.a.isSome = true := h.pre h0
/-- bytes are appended -/
theorem Mine.app8 {P : Program} {w0 w : World} {S : List Nat} {L : List Res} (H : Mine w0 S w L) (k : Nat) {t ty e : TypeId} {s x : SlV} {vs us : List B8} {K : SlV → World → Prop} (hel : Elt P t e 1 1) (hk : L[k]? = some (.row e 1 s (u8s vs))) (hx : Bytes w x us)
    (hm : s.n + x.n ≤ 100000000000000) (h : ∀ s' w', Mine w0 S w' (L.set k (.row e 1 s' (u8s (vs ++ us)))) → s'.n = s.n + x.n → K s' w') : appK P [t, t] ty [.slice s.a s.n s.c, .slice x.a x.n x.c] w K :=
  H.app k hel hk hx (ones_u8s us) (by omega) (by omega) fun s' w' H' hn => h s' w' (by rw [u8s_append]; exact H') hn
theorem Mine.app8one {P : Program} {w0 w : World} {S : List Nat} {L : List Res} (H : Mine w0 S w L) (k : Nat) {t ty e t1 : TypeId} {s : SlV} {vs : List B8} {n : Int} {K : SlV → World → Prop} (x : B8) (hel : Elt P t e 1 1) (hk : L[k]? = some (.row e 1 s (u8s vs))) (hn : n = (x.toNat : Int))
    (hm : s.n ≤ 100000000000000) (h : ∀ s' w', Mine w0 S w' (L.set k (.row e 1 s' (u8s (vs ++ [x])))) → s'.n = s.n + 1 → K s' w') : Ev.nw t1 [.int .u8 n] w fun p w5 => appK P [t, t] ty [.slice s.a s.n s.c, .slice (some p) 1 1] w5 K := by
  subst hn
  exact H.app1 k hel hk rfl (by simp [isOne]) (by omega) (by omega) fun s' w' H' hn => h s' w' (by rw [u8s_append]; exact H') hn

/-! ### a block that is filled by hand -/
theorem Mine.mkB {P : Program} {w0 w : World} {S : List Nat} {L : List Res} (H : Mine w0 S w L) {t e : TypeId} {sz bytes : Nat} {l c : Nat} {x y : Int} {K : SlV → World → Prop} (hel : Elt P t e sz bytes) (hx : x = (l : Int)) (hy : y = (c : Int)) (hlc : l ≤ c) (hc : c ≤ 9223372036854775807) (hb : bytes * c ≤ 281474976710656)
    (h : ∀ b w', Mine w0 S w' (L ++ [.blk b (zeroRow c (zc P e)) e]) → w0.heap.size ≤ b → (zeroRow c (zc P e)).length = c * sz → K ⟨some ⟨b, 0, none⟩, l, c⟩ w') : mkSl P e x y w K := by
  subst hx hy
  obtain ⟨i, z, hi, hz, hsz, hby, hzs⟩ := hel.info
  have hbytes : bytesOf P e = bytes := by unfold bytesOf; rw [hi]; exact hby
  have hzc : zc P e = z.cells.toList := by unfold zc; rw [hi]; simp only [hz]
  have hzl : (zc P e).length = sz := by rw [hzc]; simpa using hzs
  have hrow : (zeroRow c (zc P e)).length = c * sz := by
    unfold zeroRow
    rw [List.length_flatten, List.map_replicate, List.sum_replicate_nat, hzl]
  refine ⟨⟨by omega, by omega, by omega, ?_⟩, ?_⟩
  · rw [hbytes]
    have h1 : ((bytes : Int) * (c : Int)) = ((bytes * c : Nat) : Int) := by rw [Int.natCast_mul]
    have h2 : (2 ^ 48 : Int) = 281474976710656 := by decide
    rw [h1, h2]
    omega
  · simp only [Int.toNat_natCast]
    exact h w.heap.size _ (H.push (Mod.alloc _ _ _) (Blk.new w (zeroRow c (zc P e)) e) (by simp [Res.blk])) H.mod.size hrow
theorem Mine.appB {P : Program} {w0 w : World} {S : List Nat} {L : List Res} (H : Mine w0 S w L) (k : Nat) {t ty e : TypeId} {sz bytes b n c : Nat} {x : SlV} {cs us : List Value} {K : SlV → World → Prop} (hel : Elt P t e sz bytes) (hk : L[k]? = some (.blk b cs e))
    (hcs : cs.length = c * sz) (hroom : n + x.n ≤ c) (hx : Sl w x sz us) (h1 : ∀ u ∈ us, isOne u = true)
    (h : ∀ w', Mine w0 S w' (L.set k (.blk b (cs.take (n * sz) ++ us ++ cs.drop (n * sz + us.length)) e)) → K ⟨some ⟨b, 0, none⟩, n + x.n, c⟩ w') : appK P [t, t] ty [.slice (some ⟨b, 0, none⟩) n c, .slice x.a x.n x.c] w K := by
  obtain ⟨i, z, hi, hz, hsz, hby, hzs⟩ := hel.info
  have h1' : ∀ u ∈ us, u.oneCell' = true := fun u hu => by
    have := h1 u hu
    cases u <;> first | rfl | cases this
  have hul := hx.len
  have hmul : n * sz + x.n * sz ≤ c * sz := by rw [← Nat.add_mul]; exact Nat.mul_le_mul_right _ hroom
  have hb := H.blk k hk
  obtain ⟨xa, xn, xc⟩ := x
  cases xa with
  | none =>
    have h0 : xn = 0 := by
      rcases Nat.eq_zero_or_pos xn with e | e
      · exact e
      · cases hx.pre e
    subst h0
    have hu : us = [] := List.eq_nil_of_length_eq_zero (by simpa using hul)
    subst hu
    have hn : n ≤ c := by simpa using hroom
    have hr : (Builtin.append_ #[t, t] ty #[.slice (some ⟨b, 0, none⟩) n c, .slice none 0 xc]).run P w = .ok (.slice (some ⟨b, 0, none⟩) n c) w := by
      simp [Builtin.append_, run_underlying hel.und, Go.sizeOf, Go.typeInfo, hi, Builtin.lenOf, Builtin.firstCells, hn, storeCells]
    refine ⟨_, w, hr, ⟨some ⟨b, 0, none⟩, n, c⟩, rfl, h w ?_⟩
    have := H.upd (T := []) (r' := .blk b cs e) k hk (Mod.refl _ _) (fun b hb => by cases hb) hb (fun c hc => .inl hc)
    simpa using this
  | some xa =>
    subst hsz
    have hr := run_append_room (P := P) w t ty e i hel.und hi b n c ⟨cs⟩ hb xa xn xc us hul hx.cell h1' hroom (by show n * i.size + us.length ≤ cs.length; rw [hcs, hul]; exact hmul)
    refine ⟨_, _, hr, ⟨some ⟨b, 0, none⟩, n + xn, c⟩, rfl, h _ ?_⟩
    exact H.upd (T := [b]) k hk ⟨rfl, rfl, rfl, by simp, fun j _ hj => setRow_other w b j _ (fun e => hj (by simp [e]))⟩ (fun c hc => .inl hc) (setRow_heap w b _ _ e _ hb) (fun c hc => .inl hc)
end Go.Ev
