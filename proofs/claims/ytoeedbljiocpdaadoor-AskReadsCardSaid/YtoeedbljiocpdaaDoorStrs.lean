/- TEXTS AND BYTES: words of this claim's author. -/
import Derived.Test.YtoeedbljiocpdaaDoorSpMore
import Derived.Laws.IdiomStrings
import Derived.Laws.BytesString
namespace Go.Ev
open Go Go.RowKit
variable {P : Program}
def strOf (l : List B8) : ByteArray := ⟨(l.map UInt8.ofBitVec).toArray⟩
def bOf (s : ByteArray) : List B8 := s.data.toList.map UInt8.toBitVec
theorem bOf_strOf (l : List B8) : bOf (strOf l) = l := by
  unfold bOf strOf
  simp only [List.map_map]
  exact List.map_id' l
theorem strOf_bOf (s : ByteArray) : strOf (bOf s) = s := by
  unfold bOf strOf
  rw [List.map_map, show (UInt8.ofBitVec ∘ UInt8.toBitVec) = id from rfl, List.map_id]
theorem strOf_inj {l m : List B8} : strOf l = strOf m ↔ l = m := ⟨fun h => by rw [← bOf_strOf l, h, bOf_strOf], fun h => by rw [h]⟩
theorem bOf_inj {s t : ByteArray} : bOf s = bOf t ↔ s = t := ⟨fun h => by rw [← strOf_bOf s, h, strOf_bOf], fun h => by rw [h]⟩
theorem length_bOf (s : ByteArray) : (bOf s).length = s.size := by unfold bOf; rw [List.length_map]; rfl
theorem size_strOf (l : List B8) : (strOf l).size = l.length := by rw [← length_bOf, bOf_strOf]
/-- 'string(b)' -/
theorem b2s_of {w : World} {x : SlV} {l : List B8} {K : ByteArray → World → Prop} (hx : Bytes w x l) (h : K (strOf l) w) : b2sK P x w K := by
  obtain ⟨xa, xn, xc⟩ := x
  have hl := hx.len
  dsimp only at hl
  cases xa with
  | none =>
    have h0 : xn = 0 := by
      rcases Nat.eq_zero_or_pos xn with e | e
      · exact e
      · cases Sl.pre hx e
    have hu : l = [] := List.eq_nil_of_length_eq_zero (by omega)
    subst hu
    exact ⟨_, w, rfl, _, rfl, h⟩
  | some a =>
    have hc := run_loadCells_list (P := P) w a ((l.map fun b => (b.toNat : Int)).map (Value.int .u8)) (fun j v hj => by
      refine Sl.cell hx j v ?_
      rw [← hj]
      congr 1
      simp [u8s, u8])
    simp only [List.length_map] at hc
    have hr := run_bytesToString (P := P) w a l.length xc _ hc
    rw [hl] at hr
    refine ⟨_, w, hr, _, rfl, ?_⟩
    have e : (l.map fun b => (b.toNat : Int)) = (l.map UInt8.ofBitVec).map (fun b => (b.toNat : Int)) := by
      rw [List.map_map]
      rfl
    rw [e, foldl_push_byteCells]
    have : (⟨ByteArray.empty.data ++ (l.map UInt8.ofBitVec).toArray⟩ : ByteArray) = strOf l := by
      unfold strOf
      congr 1
      exact Array.empty_append
    rw [this]
    exact h
theorem bytesRow_eq (s : ByteArray) (c : Nat) : (bytesRow s c).toList = u8s (bOf s ++ List.replicate (c - s.size) 0) := by
  unfold bytesRow bOf u8s
  simp only [Array.toList_append, Array.toList_map, Array.toList_replicate, List.map_append, List.map_map, List.map_replicate]
  rfl
end Go.Ev
namespace Go.Ev
open Go Go.RowKit
variable {P : Program}
/-- '[]byte(s)' -/
theorem Mine.s2b {w0 w : World} {S : List Nat} {L : List Res} (H : Mine w0 S w L) {tS tD e : TypeId} {s : ByteArray} {K : SlV → World → Prop} (hS : P.underlying tS = some .string) (hD : P.underlying tD = some (.slice e)) (he : P.underlying e = some (.int .u8))
    (h : ∀ b c zs w', Mine w0 S w' (L ++ [.fz b (u8s (bOf s ++ zs)) e]) → s.size ≤ c → c = s.size + zs.length → K ⟨some ⟨b, 0, none⟩, s.size, c⟩ w') : s2bK P e s w K := by
  have hr := run_bytes_of_string (P := P) w tS tD e s hS hD he
  have hr2 : (Conv.stringToBytes e s).run P w = .ok (.slice (some ⟨w.heap.size, 0, none⟩) s.size (grownCap w s.size 0 e)) (w.drew.alloc (.cells (bytesRow s (grownCap w s.size 0 e)) e ((bytesRow s (grownCap w s.size 0 e)).size, (bytesRow s (grownCap w s.size 0 e)).size + 1))) := by
    rw [← hr]
    simp [convert, run_underlying hS, run_underlying hD, run_underlying he]
  have hge := grownCap_ge w s.size 0 e
  refine ⟨_, _, hr2, ⟨some ⟨w.heap.size, 0, none⟩, s.size, grownCap w s.size 0 e⟩, rfl, h w.heap.size _ (List.replicate (grownCap w s.size 0 e - s.size) 0) _ ?_ hge (by rw [List.length_replicate]; omega)⟩
  refine H.push ((Mod.drew _ w).trans (Mod.alloc _ w.drew _)) ?_ (by simp [Res.fz])
  refine ⟨((bytesRow s (grownCap w s.size 0 e)).size, (bytesRow s (grownCap w s.size 0 e)).size + 1), ?_⟩
  have : (w.drew.alloc (.cells (bytesRow s (grownCap w s.size 0 e)) e ((bytesRow s (grownCap w s.size 0 e)).size, (bytesRow s (grownCap w s.size 0 e)).size + 1))).heap[w.heap.size]? = some (.cells (bytesRow s (grownCap w s.size 0 e)) e ((bytesRow s (grownCap w s.size 0 e)).size, (bytesRow s (grownCap w s.size 0 e)).size + 1)) := by
    show (w.heap.push _)[w.heap.size]? = _
    simp
  rw [this]
  congr 2
  rw [← bytesRow_eq]
theorem Fz.bytes {w : World} {b c : Nat} {s : ByteArray} {zs : List B8} {e : TypeId} (h : Fz w b (u8s (bOf s ++ zs)) e) (hc : s.size ≤ c) : Bytes w ⟨some ⟨b, 0, none⟩, s.size, c⟩ (bOf s) := by
  have := h.sl 1 s.size c (by simp [length_bOf]) hc
  rw [Nat.mul_one, u8s_append, List.take_append_of_le_length (by simp [length_bOf]), List.take_of_length_le (by simp [length_bOf])] at this
  exact this
theorem u8s_bOf (s : ByteArray) : u8s (bOf s) = (s.data.map fun b => Value.int .u8 (b.toNat : Int)).toList := by
  unfold u8s bOf
  simp only [List.map_map, Array.toList_map]
  rfl
/-- 'append(b, s...)', b the call's own -/
theorem run_app_str {t u ty e : TypeId} {lo : Nat} {s : SlV} {vs : List Value} {str : ByteArray} {w : World} (hel : Elt P t e 1 1) (hu : P.underlying u = some .string) (hs : Own w lo e 1 s vs)
    (hb : s.n + str.size ≤ 140737488355328) (hlo : lo ≤ w.heap.size) :
    ∃ s' : SlV, ∃ w', (Builtin.append_ #[t, u] ty #[s.v, .string str]).run P w = .ok s'.v w' ∧ Own w' lo e 1 s' (vs ++ u8s (bOf str)) ∧ Mod s.row w w' ∧ s'.n = s.n + str.size ∧ (∀ b ∈ s'.row, b ∈ s.row ∨ w.heap.size ≤ b) := by
  obtain ⟨i, z, hi, hz, hsz, hby, hzs⟩ := hel.info
  have hfc : ∀ w : World, (Builtin.firstCells 1 str.size (.string str)).run P w = .ok (u8s (bOf str)).toArray w := by
    intro w
    have e1 : (str.extract 0 str.size) = str := ByteArray.extract_zero_size
    simp only [Builtin.firstCells, e1, Sem.run_pure]
    rw [u8s_bOf]
  have hlen : (u8s (bOf str)).length = str.size := by rw [length_u8s, length_bOf]
  obtain ⟨sa, sn, sc⟩ := s
  dsimp only at hb
  rcases hs.2 with ⟨hv, hn⟩ | ⟨g, cap, cur, hv, hlg, hg, hnc, hcm, hcs, htake⟩
  · simp only [SlV.v, Value.slice.injEq] at hv
    obtain ⟨rfl, rfl, rfl⟩ := hv
    have hvs : vs = [] := List.eq_nil_of_length_eq_zero (by simpa using hs.1)
    subst hvs
    rcases Nat.eq_zero_or_pos str.size with h0 | h0
    · have hr : (Builtin.append_ #[t, u] ty #[(⟨none, 0, 0⟩ : SlV).v, .string str]).run P w = .ok (⟨none, 0, 0⟩ : SlV).v w := by
        have hf := hfc w
        rw [h0] at hf
        simp [SlV.v, Builtin.append_, run_underlying hel.und, run_underlying hu, Go.sizeOf, Go.typeInfo, hi, Builtin.lenOf, h0, hsz, hf]
      have hnil : u8s (bOf str) = [] := List.eq_nil_of_length_eq_zero (by omega)
      exact ⟨⟨none, 0, 0⟩, w, hr, by rw [hnil]; exact hs, Mod.refl _ _, by simp [h0], fun b hb => by cases hb⟩
    · have hge := grownCap_ge w str.size 0 e
      have hr := run_append_nil_string (P := P) w t u ty e i z hel.und hu hi hz str h0 (by omega) (by rw [hby]; omega)
      refine ⟨⟨some ⟨w.heap.size, 0, none⟩, str.size, grownCap w str.size 0 e⟩, _, hr, ⟨by simpa using hlen, .inr ⟨w.heap.size, _, _, rfl, hlo, heap_alloc_new w.drew _, hge, grownCap_le_maxLen w str.size 0 e (by simp only [maxLen]; omega), ?_, ?_⟩⟩, ((Mod.drew _ w).trans (Mod.alloc _ w.drew _)), (by simp), fun b hb => ?_⟩
      · simp only [Array.size_append, Array.size_map, size_zeroCells, hzs]
        have : str.data.size = str.size := rfl
        omega
      · simp only [Array.toList_append, List.nil_append]
        rw [← u8s_bOf, Nat.mul_one, ← hlen]
        exact List.take_left
      · simp only [SlV.row, List.mem_singleton] at hb
        exact .inr (by omega)
  · simp only [SlV.v, Value.slice.injEq] at hv
    obtain ⟨rfl, -, rfl⟩ := hv
    have hvl : vs.length = sn := by simpa using hs.1
    by_cases hroom : sn + str.size ≤ sc
    · have hcl : cur.size = sc := by simpa using hcs
      have hst := run_storeCells_at (P := P) g (sn * i.size) e (u8s (bOf str)) 0 cur w hg (by rw [hsz, hlen]; omega) fun v hv => by
        obtain ⟨b, -, rfl⟩ := List.mem_map.1 hv
        rfl
      simp only [Nat.add_zero, hsz, Nat.mul_one, hlen] at hst
      have hr : (Builtin.append_ #[t, u] ty #[.slice (some ⟨g, 0, none⟩) sn sc, .string str]).run P w = .ok (.slice (some ⟨g, 0, none⟩) (sn + str.size) sc) (w.setRow g (cur.toList.take sn ++ u8s (bOf str) ++ cur.toList.drop (sn + str.size)).toArray) := by
        simp [Builtin.append_, run_underlying hel.und, run_underlying hu, Go.sizeOf, Go.typeInfo, hi, Builtin.lenOf, hroom, hsz, hfc, Addr.add_lit, hst]
      refine ⟨⟨some ⟨g, 0, none⟩, sn + str.size, sc⟩, _, hr, ⟨by rw [List.length_append, hvl, hlen, Nat.mul_one], .inr ⟨g, sc, _, rfl, hlg, setRow_heap w g _ _ e _ hg, hroom, hcm, ?_, ?_⟩⟩, ⟨rfl, rfl, rfl, by simp, fun j _ hj => setRow_other w g j _ (fun e => hj (by simp [SlV.row, e]))⟩, rfl, fun b hb => .inl hb⟩
      · simp only [List.size_toArray, List.length_append, List.length_take, List.length_drop, hlen, Array.length_toList]
        omega
      · simp only
        rw [Nat.mul_one] at htake ⊢
        rw [htake, List.take_append_of_le_length (by rw [List.length_append, hvl, hlen]; omega), List.take_of_length_le (by rw [List.length_append, hvl, hlen]; omega)]
    · have holds : ∀ j u, vs[j]? = some u → w.cell? ((⟨g, 0, none⟩ : Addr).add j) = some u := World.ownsRow.cells (g := g) hs rfl
      have hfo := run_firstCells_some (P := P) w.drew i.size sn ⟨g, 0, none⟩ sn sc vs (by rw [hsz, hvl, Nat.mul_one]) (by simpa using holds)
      have hge := grownCap_ge w (sn + str.size) sc e
      have h63' : ¬ (9223372036854775807 < ((sn : Int) + (str.size : Int))) := by omega
      have h48' : ¬ (281474976710656 < Builtin.nextslicecap (sn + str.size) sc * i.bytes) := by
        have := growslice_fits (need := sn + str.size) (old := sc) (bytes := i.bytes) (by omega) (by rw [hby]; omega)
        omega
      have hfcd := hfc w.drew
      rw [← hsz] at hfcd
      have hr : (Builtin.append_ #[t, u] ty #[.slice (some ⟨g, 0, none⟩) sn sc, .string str]).run P w = .ok (.slice (some ⟨w.heap.size, 0, none⟩) (sn + str.size) (grownCap w (sn + str.size) sc e))
          (w.drew.alloc (.cells (vs.toArray ++ (u8s (bOf str)).toArray ++ Builtin.zeroCells z.cells (grownCap w (sn + str.size) sc e - (sn + str.size))) e)) := by
        simp [Builtin.append_, run_underlying hel.und, run_underlying hu, Go.sizeOf, Go.typeInfo, zeroValue, hi, hz, Builtin.lenOf, hroom, h63', h48', Question.forced, hfcd, hfo, newRow, grownCap]
        congr 2
        apply Array.ext'
        simp [List.append_assoc]
      refine ⟨⟨some ⟨w.heap.size, 0, none⟩, sn + str.size, grownCap w (sn + str.size) sc e⟩, _, hr, ⟨by rw [List.length_append, hvl, hlen, Nat.mul_one], .inr ⟨w.heap.size, _, _, rfl, hlo, heap_alloc_new w.drew _, hge, grownCap_le_maxLen w (sn + str.size) sc e (by simp only [maxLen]; omega), ?_, ?_⟩⟩, (Mod.drew _ w).trans (Mod.alloc _ w.drew _), rfl, fun b hb => ?_⟩
      · simp only [Array.size_append, List.size_toArray, size_zeroCells, hzs, hvl, hlen]
        omega
      · simp only [Array.toList_append]
        rw [Nat.mul_one, List.take_append_of_le_length (by rw [List.length_append, hvl, hlen]; omega), List.take_of_length_le (by rw [List.length_append, hvl, hlen]; omega)]
      · simp only [SlV.row, List.mem_singleton] at hb
        exact .inr (by omega)
theorem Mine.appStr {w0 w : World} {S : List Nat} {L : List Res} (H : Mine w0 S w L) (k : Nat) {t u ty e : TypeId} {s : SlV} {vs : List B8} {str : ByteArray} {K : SlV → World → Prop} (hel : Elt P t e 1 1) (hu : P.underlying u = some .string) (hk : L[k]? = some (.row e 1 s (u8s vs)))
    (hb : s.n + str.size ≤ 140737488355328) (h : ∀ s' w', Mine w0 S w' (L.set k (.row e 1 s' (u8s (vs ++ bOf str)))) → s'.n = s.n + str.size → K s' w') : appK P [t, u] ty [.slice s.a s.n s.c, .string str] w K := by
  obtain ⟨s', w', hr, h2, h3, h4, h5⟩ := run_app_str (ty := ty) hel hu (H.own' k hk) hb (Nat.zero_le _)
  refine ⟨_, w', hr, s', rfl, h s' w' (H.upd k hk h3 (fun b hb => .inl hb) ?_ h5) h4⟩
  rw [u8s_append]
  exact h2
end Go.Ev
