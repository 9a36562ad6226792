/- ROWS: zeros behind, parts of a block overwritten, two walks' memory joined. -/
import Derived.Test.YtoeedbljiocpdaaDoorRd
import Derived.Lib.AppendZerosOnto
namespace Go.Ev
open Go
set_option maxRecDepth 20000
set_option linter.unusedVariables false
/-- the memory of a call's own walk, behind the caller's -/
theorem Mine.join {w0 w w' : World} {S : List Nat} {L L2 : List Res} (H : Mine w0 S w L) (H2 : Mine w [] w' L2) : Mine w0 S w' (L ++ L2) := by
  have HF := H.frame H2.mod
  have own2 : ∀ (k : Nat) (r : Res), L2[k]? = some r → ∀ b ∈ r.fp, w.heap.size ≤ b := fun k r hk b hb => (H2.own k r hk b hb).resolve_left (by simp)
  have lt1 : ∀ (k : Nat) (r : Res), L[k]? = some r → ∀ b ∈ r.fp, b < w.heap.size := fun k r hk b hb => r.lt w (H.ok k r hk) b hb
  have split : ∀ (k : Nat) (r : Res), (L ++ L2)[k]? = some r → (k < L.length ∧ L[k]? = some r) ∨ (L.length ≤ k ∧ L2[k - L.length]? = some r) := fun k r hk => by
    rcases Nat.lt_or_ge k L.length with h | h
    · rw [List.getElem?_append_left h] at hk; exact .inl ⟨h, hk⟩
    · rw [List.getElem?_append_right h] at hk; exact .inr ⟨h, hk⟩
  refine ⟨HF.mod, fun k r hk => ?_, fun k r hk b hb => ?_, fun j k r s hjk hj hk b hb hbs => ?_⟩
  · rcases split k r hk with ⟨_, h⟩ | ⟨_, h⟩
    · exact HF.ok k r h
    · exact H2.ok _ r h
  · rcases split k r hk with ⟨_, h⟩ | ⟨_, h⟩
    · exact HF.own k r h b hb
    · exact .inr (Nat.le_trans H.mod.size (own2 _ r h b hb))
  · rcases split j r hj with ⟨h0, h⟩ | ⟨h0, h⟩ <;> rcases split k s hk with ⟨h1, h'⟩ | ⟨h1, h'⟩
    · exact HF.apart j k r s hjk h h' b hb hbs
    · have := lt1 j r h b hb
      have := own2 _ s h' b hbs
      omega
    · have := lt1 k s h' b hbs
      have := own2 _ r h b hb
      omega
    · exact H2.apart _ _ r s (by omega) h h' b hb hbs
theorem zeroCells_one {z : Value} {v : Value} (hz : z.cells = #[v]) (m : Nat) : (Builtin.zeroCells z.cells m).toList = List.replicate m v := by
  unfold Builtin.zeroCells
  rw [hz]
  refine List.ext_getElem (by simp) fun j h1 h2 => ?_
  simp [Nat.mod_one]
section
variable {P : Program}
theorem run_appZ {t ti ty e : TypeId} {q : IntKind} {bytes lo m : Nat} {s : SlV} {v : Value} {vs : List Value} {w : World} (hel : Elt P t e 1 bytes) (hti : P.underlying ti = some (.int q)) (hz : zc P e = [v]) (hv : isOne v = true) (hs : Own w lo e 1 s vs)
    (hb : (s.n + m) * bytes ≤ 140737488355328) (hm : s.n + m ≤ 1000000000) (hlo : lo ≤ w.heap.size) :
    ∃ s' : SlV, ∃ w', (Builtin.append_ #[t, ti] ty #[s.v, .int .i64 (m : Int)]).run P w = .ok s'.v w' ∧ Own w' lo e 1 s' (vs ++ List.replicate m v) ∧ Mod s.row w w' ∧ s'.n = s.n + m ∧ (∀ b ∈ s'.row, b ∈ s.row ∨ w.heap.size ≤ b) := by
  obtain ⟨i, z, hi, hzz, hsz, hby, hzs⟩ := hel.info
  have hzc : z.cells = #[v] := by
    have : z.cells.toList = [v] := by
      have h2 : zc P e = z.cells.toList := by unfold zc; rw [hi]; simp only [hzz]
      rw [← h2]; exact hz
    rw [← Array.toArray_toList (xs := z.cells), this]
  have hv' : v.oneCell' = true := by cases v <;> first | rfl | cases hv
  have hmb : m * i.bytes ≤ 281474976710656 := by
    rw [hby]
    have : m * bytes ≤ (s.n + m) * bytes := Nat.mul_le_mul_right _ (by omega)
    omega
  obtain ⟨sa, sn, sc⟩ := s
  dsimp only at hb hm
  -- a new row
  have grow : ∀ (ba : Option Addr), sc < sn + m → 0 < m → vs.length = sn → (Builtin.firstCells i.size sn (.slice ba sn sc)).run P w.drew = .ok vs.toArray w.drew → ∃ s' : SlV, ∃ w', (Builtin.append_ #[t, ti] ty #[.slice ba sn sc, .int .i64 (m : Int)]).run P w = .ok s'.v w' ∧ Own w' lo e 1 s' (vs ++ List.replicate m v) ∧ Mod (SlV.row ⟨sa, sn, sc⟩) w w' ∧ s'.n = sn + m ∧ (∀ b ∈ s'.row, b ∈ SlV.row ⟨sa, sn, sc⟩ ∨ w.heap.size ≤ b) := by
    intro ba hg h0 hvs hold
    have hr := Go.Lib.run_append_grow_zeros (P := P) w t ti ty e i z .i64 q hel.und hti hi hzz ba sn sc vs hold m h0 (by omega) hg (by omega) hmb (growslice_fits hg (by rw [hby]; exact hb))
    have hge := grownCap_ge w (sn + m) sc e
    have hcm : grownCap w (sn + m) sc e ≤ maxLen := grownCap_le_maxLen w (sn + m) sc e (by simp only [maxLen]; omega)
    refine ⟨⟨some ⟨w.heap.size, 0, none⟩, sn + m, grownCap w (sn + m) sc e⟩, _, hr, ⟨?_, .inr ⟨w.heap.size, _, _, rfl, hlo, heap_alloc_new w.drew _, hge, hcm, ?_, ?_⟩⟩, (Mod.drew _ w).trans (Mod.alloc _ w.drew _), rfl, ?_⟩
    · rw [List.length_append, List.length_replicate]; show vs.length + m = (sn + m) * 1; omega
    · simp only [Array.size_append, List.size_toArray, size_zeroCells, hzs, hvs]
      omega
    · simp only [Array.toList_append, zeroCells_one hzc]
      rw [List.take_left' (by rw [List.length_append, List.length_replicate]; omega)]
    · intro b hb
      simp only [SlV.row, List.mem_singleton] at hb
      exact .inr (by omega)
  have hvl : vs.length = sn := by have := hs.1; simpa using this
  rcases hs.2 with ⟨hv, hn⟩ | ⟨g, cap, cur, hv, hlg, hg, hnc, hcm, hcs, htake⟩
  · simp only [SlV.v, Value.slice.injEq] at hv
    obtain ⟨rfl, rfl, rfl⟩ := hv
    rcases Nat.eq_zero_or_pos m with rfl | h0
    · refine ⟨⟨none, 0, 0⟩, w, ?_, by simpa using hs, Mod.refl _ _, rfl, fun b hb => .inl hb⟩
      simp [SlV.v, Builtin.append_, run_underlying hel.und, run_underlying hti, Go.sizeOf, Go.typeInfo, hi, asInt, asIntOf, show IntKind.wrap .i64 0 = 0 by decide]
    · have hvs : vs = [] := List.eq_nil_of_length_eq_zero hvl
      subst hvs
      exact grow none (by omega) h0 rfl (run_firstCells_none w.drew i.size 0 0 0)
  · simp only [SlV.v, Value.slice.injEq] at hv
    obtain ⟨rfl, -, rfl⟩ := hv
    by_cases hroom : sn + m ≤ sc
    · have hr := run_append_zeros (P := P) w t ti ty e i z hel.und hti hi hzz g sn sc m cur hg hsz v hzc hv' hmb (by omega) hroom (by omega)
      refine ⟨⟨some ⟨g, 0, none⟩, sn + m, sc⟩, _, hr, ⟨by rw [List.length_append, List.length_replicate]; show vs.length + m = (sn + m) * 1; omega, .inr ⟨g, sc, _, rfl, hlg, setRow_heap w g cur _ e (0, 0) hg, hroom, hcm, ?_, ?_⟩⟩, ⟨rfl, rfl, rfl, by simp, fun j _ hj => setRow_other w g j _ (fun e => hj (by simp [SlV.row, e]))⟩, rfl, fun b hb => .inl hb⟩
      · simp only [List.size_toArray, List.length_append, List.length_take, List.length_replicate, List.length_drop, Array.length_toList]
        omega
      · rw [Nat.mul_one] at htake
        show ((cur.toList.take sn ++ List.replicate m v ++ cur.toList.drop (sn + m)).toArray.toList.take ((sn + m) * 1)) = _
        rw [List.toList_toArray, htake, Nat.mul_one, List.take_left' (by rw [List.length_append, List.length_replicate]; omega)]
    · have holds : ∀ j u, vs[j]? = some u → w.cell? ((⟨g, 0, none⟩ : Addr).add j) = some u := World.ownsRow.cells (g := g) hs rfl
      have hnc' : sn ≤ sc := hnc
      have hm0 : 0 < m := by omega
      exact grow (some ⟨g, 0, none⟩) (by omega) hm0 hvl (run_firstCells_some (P := P) w.drew i.size sn ⟨g, 0, none⟩ sn sc vs (by rw [hsz, Nat.mul_one]; exact hvl) (by simpa using holds))
theorem Mine.appZr {w0 w : World} {S : List Nat} {L : List Res} (H : Mine w0 S w L) (k : Nat) {t ti ty e : TypeId} {q : IntKind} {bytes m : Nat} {s : SlV} {x : Int} {v : Value} {vs : List Value} {K : SlV → World → Prop} (hel : Elt P t e 1 bytes) (hti : P.underlying ti = some (.int q)) (hz : zc P e = [v]) (hv : isOne v = true)
    (hk : L[k]? = some (.row e 1 s vs)) (hx : x = (m : Int)) (hb : (s.n + m) * bytes ≤ 140737488355328) (hm : s.n + m ≤ 1000000000)
    (h : ∀ s' w', Mine w0 S w' (L.set k (.row e 1 s' (vs ++ List.replicate m v))) → s'.n = s.n + m → K s' w') : appK P [t, ti] ty [.slice s.a s.n s.c, .int .i64 x] w K := by
  subst hx
  obtain ⟨s', w', hr, h2, h3, h4, h5⟩ := run_appZ (ty := ty) hel hti hz hv (H.own' k hk) hb hm (Nat.zero_le _)
  exact ⟨_, w', hr, s', rfl, h s' w' (H.upd k hk h3 (fun b hb => .inl hb) h2 h5) h4⟩
/-- one more behind a part of a block: whatever comes of it, nothing else changes -/
theorem app_part {t ty e : TypeId} {bytes g : Nat} {cs : List Value} {z : SlV} {p : Nat} {v : Value} {w : World} {K : SlV → World → Prop} (hel : Elt P t e 1 bytes) (hb : Blk w g cs e) (hp : Blk w p [v] e) (hv : isOne v = true)
    (hn : z.n ≤ z.c) (hz : (z.a = none ∧ z.c = 0) ∨ ∃ off, z.a = some ⟨g, off, none⟩ ∧ off + z.c ≤ cs.length) (hl : (z.n + 1) * bytes ≤ 140737488355328) (hl2 : z.n ≤ 1000000000)
    (h : ∀ s' w' cs', Mod [g] w w' → cs'.length = cs.length → Blk w' g cs' e → K s' w') : appK P [t, t] ty [.slice z.a z.n z.c, .slice (some ⟨p, 0, none⟩) 1 1] w K := by
  obtain ⟨i, zz, hi, hzz, hsz, hby, hzs⟩ := hel.info
  have hv' : v.oneCell' = true := by cases v <;> first | rfl | cases hv
  have hnews : ∀ j u, [v][j]? = some u → w.cell? ((⟨p, 0, none⟩ : Addr).add j) = some u := fun j u hu => by
    rw [Addr.add_lit, Nat.zero_add, hp.cell]; exact hu
  have hsrc : Src P i.size t (.slice (some ⟨p, 0, none⟩) 1 1) 1 [v] w := Src.ofSlice w hel.und ⟨p, 0, none⟩ 1 1 [v] (by simp [hsz]) hnews (by simpa using hv')
  have grow : ∀ olds : List Value, z.c < z.n + 1 → (Builtin.firstCells i.size z.n (.slice z.a z.n z.c)).run P w.drew = .ok olds.toArray w.drew → appK P [t, t] ty [.slice z.a z.n z.c, .slice (some ⟨p, 0, none⟩) 1 1] w K := by
    intro olds hg hold
    have hr := run_append_grow_src (P := P) w t t ty e i zz hel.und hi hzz z.a z.n z.c olds hold (.slice (some ⟨p, 0, none⟩) 1 1) 1 [v] hsrc hg (by omega) (growslice_fits hg (by rw [hby]; exact hl))
    exact ⟨_, _, hr, ⟨_, _, _⟩, rfl, h _ _ cs ((Mod.drew [g] w).trans (Mod.alloc [g] w.drew _)) rfl (hb.mod0 ((Mod.drew [] w).trans (Mod.alloc [] w.drew _)))⟩
  rcases hz with ⟨ha, hc⟩ | ⟨off, ha, ho⟩
  · refine grow [] (by omega) ?_
    rw [ha, show z.n = 0 by omega, hc]
    exact run_firstCells_none w.drew i.size 0 0 0
  · by_cases hroom : z.n + 1 ≤ z.c
    · have hi2 : off + z.n < cs.length := by omega
      have hcell : (w.cell? ⟨g, off + z.n * i.size + 0, none⟩).isSome = true := by
        rw [hb.cell, hsz]
        simp only [Nat.mul_one, Nat.add_zero]
        rw [List.getElem?_eq_getElem hi2]; rfl
      have hr := run_append_room_src (P := P) w t t ty e i hel.und hi g off z.n z.c (.slice (some ⟨p, 0, none⟩) 1 1) 1 [v] hsrc hroom
        (fun j hj => by obtain rfl : j = 0 := by simpa using hj
                        exact hcell) (fun j hj => hb.frozen _)
      rw [ha]
      refine ⟨_, _, hr, ⟨_, _, _⟩, rfl, h _ _ (cs.set (off + z.n * i.size) v) ?_ (by simp) ?_⟩
      · exact Mod.setCell w ⟨g, off + z.n * i.size, none⟩ v
      · exact hb.set _ v
    · have hcells : ∀ j u, ((cs.drop off).take z.n)[j]? = some u → w.drew.cell? ((⟨g, off, none⟩ : Addr).add j) = some u := fun j u hu => by
        rw [List.getElem?_take] at hu
        split at hu
        · rw [List.getElem?_drop] at hu
          rw [Addr.add_lit]
          have := hb.cell (off + j)
          rw [hu] at this
          exact this
        · cases hu
      refine grow ((cs.drop off).take z.n) (by omega) ?_
      rw [ha]
      exact run_firstCells_some (P := P) w.drew i.size z.n ⟨g, off, none⟩ z.n z.c _ (by rw [hsz, List.length_take, List.length_drop]; omega) hcells
end
end Go.Ev
namespace Go.Proofs.YtoeedbljiocpdaaDoor
open Go Go.Ev
set_option linter.unusedVariables false
theorem law0_OverBytes_in (g : Nat) (cs : List Value) (z : SlV) (w : World) (hb : Blk w g cs t_uint8) (hn : z.n ≤ z.c) (hz : (z.a = none ∧ z.c = 0) ∨ ∃ off, z.a = some ⟨g, off, none⟩ ∧ off + z.c ≤ cs.length) (hl : z.n ≤ 1000000) :
    Ok Pr f_law0_OverBytes [.slice z.a z.n z.c] w fun v w' => v = .tuple ⟨[]⟩ ∧ Mod [g] w w' ∧ ∃ cs', cs'.length = cs.length ∧ Blk w' g cs' t_uint8 := by
  refine V_law0_OverBytes_of ?_
  unfold V_law0_OverBytes
  have H := Mine.start1 (r := .blk g cs t_uint8) hb
  refine loop1_up 0 z.n (fun i w' => ∃ m : List Value, m.length = cs.length ∧ Mine w [g] w' [.blk g m t_uint8]) rfl (by omega) ⟨cs, rfl, H⟩ ?_ ?_
  · rintro again i w1 _ hi ⟨m, hm, H⟩ hag
    rcases hz with ⟨ha, hc⟩ | ⟨off, ha, ho⟩
    · omega
    · refine ite_true (by simpa using hi) ⟨⟨by rw [ha]; rfl, by omega, by omega⟩, ?_⟩
      refine H.st 0 (i := off + i) rfl ?_ (by omega) rfl fun w2 H => ⟨⟨by omega, by omega⟩, hag w2 ⟨_, by simp only [List.length_set]; exact hm, H⟩⟩
      rw [ha, Int.toNat_natCast, Nat.mul_one]
      exact Addr.add_lit _ _ _
  · rintro again w1 ⟨m, hm, H⟩
    refine ite_false (by simp) (H.nw fun p w2 H _ => app_part elt_u8 (H.blk 0 rfl) (H.blk 1 rfl) rfl hn (by rw [hm]; exact hz) (by omega) (by omega) fun s' w3 cs' m3 hc hB => ?_)
    exact ⟨rfl, H.mod.trans m3, cs', hc.trans hm, hB⟩
end Go.Proofs.YtoeedbljiocpdaaDoor
