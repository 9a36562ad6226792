/- Texts of this claim, packed: what the last one leans on. -/
import Derived.Test.YtdnhoebcomffoaaGreatDoorQ5
import Derived.Test.YtdnhoebcomffoaaGreatDoorQ3
import Derived.Test.YtdnhoebcomffoaaGreatDoorQ1
import Derived.Test.YtdnhoebcomffoaaGreatDoorQ2
import Derived.Test.YtdnhoebcomffoaaGreatDoorQ4
section
set_option linter.unusedVariables false
set_option linter.unusedSimpArgs false
/- WHY WHAT WAS SIGNED IS TAKEN: the verifying key's part, and all together. -/
namespace Go.Proofs.YtdnhoebcomffoaaGreatDoor
open Go Go.Ev
set_option maxRecDepth 20000
set_option linter.unusedVariables false
/-- the verifying key's polys, as they are verified -/
def eightL (fs : List (List Int)) : List (List Int) := mappedL (fun x => x * 8192) fs
theorem getD_mapI (f : Int → Int) (l : List Int) {i : Nat} (h : i < l.length) : (l.map f).getD i 0 = f (l.getD i 0) := by
  rw [List.getD_eq_getElem?_getD, List.getElem?_map, List.getD_eq_getElem?_getD, List.getElem?_eq_getElem h]; rfl
theorem split_sum {t : List Int} (ht : Po t) : addP ((t.map splH).map fun x => x * 8192) (t.map fun x => splL x % 8380417) = t := by
  have hl := ht.len
  refine ext256 (addP_po _ _).len hl fun i hi => ?_
  have e : (addP ((t.map splH).map fun x => x * 8192) (t.map fun x => splL x % 8380417)).getD i 0 = (((t.map splH).map fun x => x * 8192).getD i 0 + (t.map fun x => splL x % 8380417).getD i 0) % 8380417 := getD_tab _ hi
  rw [e, getD_mapI _ _ (by rw [List.length_map, hl]; exact hi), getD_mapI _ _ (by rw [hl]; exact hi), getD_mapI _ _ (by rw [hl]; exact hi), (spl_sum _).1]
  have := ht.get hi
  omega
theorem split_rows (ts : List (List Int)) (hp : Pos ts) (r : Nat) (hr : r < ts.length) : ts.getD r [] = addP ((eightL (highsL ts)).getD r []) ((lowsL ts).getD r []) := by
  have h1 : (eightL (highsL ts)).getD r [] = ((ts.getD r []).map splH).map fun x => x * 8192 := by
    have e1 : (eightL (highsL ts)).getD r [] = ((highsL ts).getD r []).map fun x => x * 8192 := getD_eachL _ _ (by rw [show (highsL ts).length = ts.length from length_eachL _ _]; exact hr)
    have e2 : (highsL ts).getD r [] = (ts.getD r []).map splH := getD_eachL _ _ hr
    rw [e1, e2]
  have h2 : (lowsL ts).getD r [] = (ts.getD r []).map fun x => splL x % 8380417 := getD_eachL _ _ hr
  rw [h1, h2, split_sum (hp.get hr)]
theorem beta_eq {set : Int} (h : isSet set = true) : (layS set).eta * (layS set).tau = (layS set).beta ∧ (layS set).tau ≤ 64 ∧ (layS set).eta ≤ 4 := by
  unfold isSet at h
  simp only [Bool.or_eq_true, decide_eq_true_eq] at h
  rcases h with rfl | rfl | rfl <;> decide
/-- what Verify makes of a signature is what was signed -/
theorem taken_made {set : Int} {F note m rnd : List B8} {N : Nat} (h : keyC set F.length = 0) (hok : (tnOf set (skL set F) note m rnd).ok N = true) :
    useL (layS set).g2 ((tnOf set (skL set F) note m rnd).H N) (lessL (applyL (tnOf set (skL set F) note m rnd).A ((tnOf set (skL set F) note m rnd).Z N)) (scaledL ((tnOf set (skL set F) note m rnd).B N) (eightL (highsL (tOf (layS set) ((seedAll (layS set) F).take 32) (s1Of (layS set) (seedAll (layS set) F)) (s2Of (layS set) (seedAll (layS set) F)))))))
      = mappedL (prtH (layS set).g2) ((tnOf set (skL set F) note m rnd).W N) := by
  obtain ⟨his, -⟩ := keyC_zero h
  have hG := goodS his
  have hX := goodX his
  have hg := seedAll_len (layS set) F
  have eK : skL set F = skG (layS set) (seedAll (layS set) F) := by unfold skL; rw [if_pos h]
  have hk8 := hG.k
  have hl7 := hG.l
  obtain ⟨be, bt, bet⟩ := beta_eq his
  obtain ⟨r1, r2, r3, r4, -, -, -⟩ := read_made hG (seedAll (layS set) F) hg
  have hl2 : (((seedAll (layS set) F).drop 32).take 64).length = 64 := by rw [List.length_take, List.length_drop]; omega
  have q2 := smalls_pos hG.eta hl2 (from_ := (layS set).l) (many := (layS set).k) (by omega)
  have l32 : ((seedAll (layS set) F).take 32).length = 32 := by rw [List.length_take]; omega
  have hcb : ∀ n, ballC set ((tnOf set (skL set F) note m rnd).CH n).length = 0 := fun n => by rw [Tn.CH_len _ _ hG.c]; exact ballC_of his
  have es : (tnOf set (skL set F) note m rnd).s = layS set := rfl
  have eset : (tnOf set (skL set F) note m rnd).set = set := rfl
  have eA : (tnOf set (skL set F) note m rnd).A = matL (layS set).k (layS set).l ((seedAll (layS set) F).take 32) := by
    show matL _ _ ((skL set F).take 32) = _
    rw [eK, r1]
  have e1 : (tnOf set (skL set F) note m rnd).s1 = s1Of (layS set) (seedAll (layS set) F) := by
    show s1R _ (skL set F) = _
    rw [eK, r2]
  have e2 : (tnOf set (skL set F) note m rnd).s2 = s2Of (layS set) (seedAll (layS set) F) := by
    show s2R _ (skL set F) = _
    rw [eK, r3]
  have e0 : (tnOf set (skL set F) note m rnd).t0 = lowsL (tOf (layS set) ((seedAll (layS set) F).take 32) (s1Of (layS set) (seedAll (layS set) F)) (s2Of (layS set) (seedAll (layS set) F))) := by
    show t0R _ (skL set F) = _
    rw [eK, r4]
  have hok2 := okT_hint hok
  rw [es] at hok2
  have hg0 : 0 < ((layS set).g2 : Int) ∧ ((layS set).g2 : Int) ≤ 261888 ∧ 95232 ≤ ((layS set).g2 : Int) := by rcases hX.g2 with h | h <;> omega
  have hbe := hX.beta
  have n1 : (s1Of (layS set) (seedAll (layS set) F)).length = (layS set).l := by unfold s1Of; simp [smallsL]
  have n2 : (s2Of (layS set) (seedAll (layS set) F)).length = (layS set).k := by unfold s2Of; simp [smallsL]
  have et : tOf (layS set) ((seedAll (layS set) F).take 32) (s1Of (layS set) (seedAll (layS set) F)) (s2Of (layS set) (seedAll (layS set) F)) = plusL (applyL (matL (layS set).k (layS set).l ((seedAll (layS set) F).take 32)) (s1Of (layS set) (seedAll (layS set) F))) (s2Of (layS set) (seedAll (layS set) F)) := rfl
  change ∀ l ∈ s2Of (layS set) (seedAll (layS set) F), Po l ∧ ∀ x ∈ l, Nr _ x at q2
  generalize tnOf set (skL set F) note m rnd = t at *
  have hrows := matL_rows (k := (layS set).k) (l := (layS set).l) l32
  have hAl : (matL (layS set).k (layS set).l ((seedAll (layS set) F).take 32)).length = (layS set).k := length_matL _ _ _
  have pt : Pos (tOf (layS set) ((seedAll (layS set) F).take 32) (s1Of (layS set) (seedAll (layS set) F)) (s2Of (layS set) (seedAll (layS set) F))) := plusL_pos _ _
  have nt : (tOf (layS set) ((seedAll (layS set) F).take 32) (s1Of (layS set) (seedAll (layS set) F)) (s2Of (layS set) (seedAll (layS set) F))).length = (layS set).k := by rw [et]; unfold plusL; rw [length_eachL]; unfold applyL; rw [List.length_map, hAl]
  generalize tOf (layS set) ((seedAll (layS set) F).take 32) (s1Of (layS set) (seedAll (layS set) F)) (s2Of (layS set) (seedAll (layS set) F)) = T at *
  generalize s1Of (layS set) (seedAll (layS set) F) = S1 at *
  generalize s2Of (layS set) (seedAll (layS set) F) = S2 at *
  generalize matL (layS set).k (layS set).l ((seedAll (layS set) F).take 32) = A at *
  have nY : (t.Y N).length = (layS set).l := by unfold Tn.Y yL; rw [List.length_map, List.length_range, es]
  obtain ⟨ok1, ok2, ok3, -⟩ := hok2
  change lowN _ (lessL (applyL t.A (t.Y N)) (scaledL (t.B N) t.s2)) < _ at ok2
  change normL (scaledL (t.B N) t.t0) < _ at ok3
  have hball := ballL_okay (hcb N)
  have hB : t.B N = ballL set (t.CH N) := by rw [← eset]; rfl
  rw [← hB] at hball
  show useL (layS set).g2 (hntsL t.s.g2 (lessL (applyL t.A (t.Y N)) (scaledL (t.B N) t.s2)) (scaledL (t.B N) t.t0)) (lessL (applyL t.A (plusL (t.Y N) (scaledL (t.B N) t.s1))) (scaledL (t.B N) (eightL (highsL T)))) = mappedL (prtH (layS set).g2) (applyL t.A (t.Y N))
  rw [es, eA, e1, e2, e0]
  rw [eA, e2] at ok2
  rw [e0] at ok3
  have lh : (eightL (highsL T)).length = T.length := (length_eachL _ _).trans (length_eachL _ _)
  have ll : (lowsL T).length = T.length := length_eachL _ _
  refine taken_rows hX.g2 (beta := ((layS set).beta : Int)) ⟨by omega, by omega⟩ A (t.Y N) S1 S2 (eightL (highsL T)) (lowsL T) (t.B N) (fun r hr => by rw [nY]; exact (hrows r hr).1) (by omega) (by omega) (by omega) (by omega) (fun r hr => ?_) (fun r hr x hx => ?_) ok2 ok3
  · rw [← et]
    exact split_rows T pt r (by omega)
  · rw [getD_scaledL _ _ (by omega)] at hx
    obtain ⟨p2, p3⟩ := q2 _ (mem_getD (i := r) (by omega) [])
    have := (ball_times hball.1 hball.2.1 hball.2.2 p2 p3 bet bt x hx).nrm (by omega)
    rw [be] at this
    exact this
end Go.Proofs.YtdnhoebcomffoaaGreatDoor
end
section
set_option linter.unusedVariables false
set_option linter.unusedSimpArgs false
/- THE STATEMENT ON PARTS: what stands where in keys and signatures. -/
namespace Go.Proofs.YtdnhoebcomffoaaGreatDoor
open Go Go.Ev
set_option maxRecDepth 20000
set_option linter.unusedVariables false
/-- keys that were made, part by part -/
theorem parts_made {set : Int} {F : List B8} (h : keyC set F.length = 0) : (vkL set F).length = 32 + 320 * (layS set).k ∧ (skL set F).length = skN (layS set) ∧ (skL set F).take 32 = (vkL set F).take 32 ∧ ((skL set F).drop 64).take 64 = spOut 136 31 (vkL set F) 64 ∧
    leanB (layS set) (s1R (layS set) (skL set F)) (s2R (layS set) (skL set F)) = true := by
  obtain ⟨his, -⟩ := keyC_zero h
  have hG := goodS his
  have hg := seedAll_len (layS set) F
  have eK : skL set F = skG (layS set) (seedAll (layS set) F) := by unfold skL; rw [if_pos h]
  have eV : vkL set F = vkG (layS set) (seedAll (layS set) F) := by unfold vkL; rw [if_pos h]
  rw [eK, eV]
  generalize seedAll (layS set) F = g at *
  generalize layS set = s at *
  obtain ⟨r1, r2, r3, -, r5, -, r7⟩ := read_made hG g hg
  have hlean := made_lean hG g hg
  have pt : Pos (tOf s (g.take 32) (s1Of s g) (s2Of s g)) := plusL_pos _ _
  have nt : (tOf s (g.take 32) (s1Of s g) (s2Of s g)).length = s.k := by unfold tOf plusL; rw [length_eachL]; unfold applyL; rw [List.length_map, length_matL]
  have h1 := length_flatMap_pack (highsL (tOf s (g.take 32) (s1Of s g) (s2Of s g))) (highs_ten pt).len
  have nh : (highsL (tOf s (g.take 32) (s1Of s g) (s2Of s g))).length = s.k := (length_eachL _ _).trans nt
  have l32 : (g.take 32).length = 32 := by rw [List.length_take]; omega
  have eW : vkG s g = g.take 32 ++ (highsL (tOf s (g.take 32) (s1Of s g) (s2Of s g))).flatMap (packL 10) := by unfold vkG vkOf pubL; rfl
  refine ⟨by rw [eW, List.length_append, h1, nh, l32], r5, ?_, r7, by rw [r2, r3]; exact hlean⟩
  rw [r1, eW]
  exact (List.take_left' l32).symm
end Go.Proofs.YtdnhoebcomffoaaGreatDoor
end
section
set_option linter.unusedVariables false
set_option linter.unusedSimpArgs false
/- WHAT Verify ANSWERS, as a function; what was signed it takes. -/
namespace Go.Proofs.YtdnhoebcomffoaaGreatDoor
open Go Go.Ev
set_option maxRecDepth 20000
set_option linter.unusedVariables false
def vZ (s : LayS) (sig : List B8) : List (List Int) := polysL (maskD s) s.g1 (sig.drop s.c) s.l
def vB (s : LayS) (sig : List B8) : List B8 := (sig.drop s.c).drop (32 * maskD s * s.l)
def vT1 (s : LayS) (vk : List B8) : List (List Int) := (List.range s.k).map fun r => (unpack 10 (((vk.drop 32).drop (320 * r)).take 320)).map fun x => x * 8192
def vW (set : Int) (s : LayS) (vk sig : List B8) : List (List Int) := lessL (applyL (matL s.k s.l (vk.take 32)) (vZ s sig)) (scaledL (ballL set (sig.take s.c)) (vT1 s vk))
@[irreducible] def vCH (set : Int) (s : LayS) (vk note m sig : List B8) : List B8 := spOut 136 31 (muL (spOut 136 31 vk 64) note m ++ highB s.g2 (useL s.g2 (unL (vB s sig) s.omega s.k) (vW set s vk sig))) (s.c : Int)
open Classical in
noncomputable def verC (set : Int) (vk note m sig : List B8) : Int :=
  if isSet set = true then
    (if vk.length = vkS set ∧ sig.length = sgS set ∧ note.length ≤ 255 then
      (if uAll (vB (layS set) sig) (layS set).omega (layS set).k then
        (if normL (vZ (layS set) sig) < ((layS set).g1 : Int) - (layS set).beta ∧ vCH set (layS set) vk note m sig = sig.take (layS set).c then 0 else 7)
      else 4)
    else 3)
  else 2
theorem sig_back {set : Int} (his : isSet set = true) (t : Tn) (es : t.s = layS set) (hA : t.A.length = (layS set).k) {N : Nat} (hok : t.ok N = true) :
    (t.sig N).length = sgS set ∧ (t.sig N).take (layS set).c = t.CH N ∧ vZ (layS set) (t.sig N) = t.Z N ∧ vB (layS set) (t.sig N) = hintB (layS set) (t.H N) := by
  obtain ⟨-, -, z3⟩ := sizes_eq his
  have hG := goodS his
  have hX := goodX his
  have hg1 := goodG1 his
  have hbl := blen_g hg1
  have hg : (layS set).g1 ≤ 524288 ∧ 1 ≤ (layS set).g1 := by rcases hX.g1 with h | h <;> omega
  have hc : t.s.c ≤ 64 := by rw [es]; exact hG.c
  have hlen := Tn.sig_len t N hc hok
  have hZ := Tn.Z_len t N
  have hCH := Tn.CH_len t N hc
  have hok2 := okT_hint hok
  have pZ : Pos (t.Z N) := plusL_pos _ _
  rw [es] at hlen hZ hCH hok2
  rw [hbl, hA] at hlen
  have hsig : t.sig N = t.CH N ++ ((t.Z N).flatMap (nearP ((layS set).g1 - 1) (layS set).g1) ++ hintB (layS set) (t.H N)) := by
    rw [← es, ← List.append_assoc]; rfl
  have hLy := lays_of_norm hg.1 pZ (by have := hok2.1; omega)
  have hfl := near_flat_len ((layS set).g1 - 1) (layS set).g1 (t.Z N) pZ
  rw [hbl, hZ] at hfl
  have hd : (t.sig N).drop (layS set).c = (t.Z N).flatMap (nearP ((layS set).g1 - 1) (layS set).g1) ++ hintB (layS set) (t.H N) := by
    rw [hsig]; exact List.drop_left' hCH
  have hcm : 32 * (layS set).l * maskD (layS set) = 32 * maskD (layS set) * (layS set).l := Nat.mul_right_comm _ _ _
  refine ⟨by rw [hlen, ← z3, hcm]; omega, by rw [hsig]; exact List.take_left' hCH, ?_, ?_⟩
  · unfold vZ
    rw [hd, ← hbl, ← hZ]
    exact polysL_near _ _ (by omega) _ hLy _
  · unfold vB
    rw [hd]
    exact List.drop_left' hfl
theorem chunks_back (fs : List (List Int)) (ht : Ten fs) {r : Nat} (hr : r < fs.length) : unpack 10 (((fs.flatMap (packL 10)).drop (320 * r)).take 320) = fs.getD r [] := by
  have hg : fs.getD r [] = fs[r] := by rw [List.getD_eq_getElem?_getD, List.getElem?_eq_getElem hr]; rfl
  have hm : fs[r] ∈ fs := List.getElem_mem hr
  have e : fs.flatMap (packL 10) = (fs.take r).flatMap (packL 10) ++ (packL 10 fs[r] ++ (fs.drop (r + 1)).flatMap (packL 10)) := by
    conv => lhs; rw [← List.take_append_drop r fs, List.drop_eq_getElem_cons hr, List.flatMap_append, List.flatMap_cons]
  have hl := length_flatMap_pack (fs.take r) fun l hl => ht.len l (List.mem_of_mem_take hl)
  rw [List.length_take, Nat.min_eq_left (by omega)] at hl
  have hp : (packL 10 fs[r]).length = 320 := by rw [length_packL, ht.len _ hm]
  rw [e, List.drop_left' hl, List.take_left' hp, hg]
  exact unpack_pack 10 320 (by omega) _ (ht.dig _ hm) (by rw [ht.len _ hm])
theorem key_back {set : Int} {F : List B8} (h : keyC set F.length = 0) : vT1 (layS set) (vkL set F) = eightL (highsL (tOf (layS set) ((seedAll (layS set) F).take 32) (s1Of (layS set) (seedAll (layS set) F)) (s2Of (layS set) (seedAll (layS set) F)))) := by
  have hg := seedAll_len (layS set) F
  have eV : vkL set F = vkG (layS set) (seedAll (layS set) F) := by unfold vkL; rw [if_pos h]
  have l32 : ((seedAll (layS set) F).take 32).length = 32 := by rw [List.length_take]; omega
  have eW : vkG (layS set) (seedAll (layS set) F) = (seedAll (layS set) F).take 32 ++ (highsL (tOf (layS set) ((seedAll (layS set) F).take 32) (s1Of (layS set) (seedAll (layS set) F)) (s2Of (layS set) (seedAll (layS set) F)))).flatMap (packL 10) := by unfold vkG vkOf pubL; rfl
  have pt : Pos (tOf (layS set) ((seedAll (layS set) F).take 32) (s1Of (layS set) (seedAll (layS set) F)) (s2Of (layS set) (seedAll (layS set) F))) := plusL_pos _ _
  have nt : (tOf (layS set) ((seedAll (layS set) F).take 32) (s1Of (layS set) (seedAll (layS set) F)) (s2Of (layS set) (seedAll (layS set) F))).length = (layS set).k := by unfold tOf plusL; rw [length_eachL]; unfold applyL; rw [List.length_map, length_matL]
  have ht := highs_ten pt
  have nh : (highsL (tOf (layS set) ((seedAll (layS set) F).take 32) (s1Of (layS set) (seedAll (layS set) F)) (s2Of (layS set) (seedAll (layS set) F)))).length = (layS set).k := (length_eachL _ _).trans nt
  rw [eV, eW]
  generalize tOf (layS set) ((seedAll (layS set) F).take 32) (s1Of (layS set) (seedAll (layS set) F)) (s2Of (layS set) (seedAll (layS set) F)) = T at *
  unfold vT1
  rw [List.drop_left' l32]
  have e1 : eightL (highsL T) = (List.range (layS set).k).map fun r => ((highsL T).getD r []).map fun x => x * 8192 := by
    rw [← nh]; rfl
  rw [e1]
  refine List.map_congr_left fun r hr => ?_
  have hr := List.mem_range.1 hr
  rw [chunks_back _ ht (by omega)]
/-- WHAT WAS SIGNED IS TAKEN -/
theorem signed_taken {set : Int} {F note m rnd : List B8} (h : keyC set F.length = 0) (hs : sgC set (skL set F) note m rnd = 0) : verC set (vkL set F) note m (sgL set (skL set F) note m rnd) = 0 := by
  obtain ⟨h1, ⟨-, hn⟩, -, i, hi⟩ := sgC_zero hs
  obtain ⟨his, -⟩ := opened_of h1
  have hG := goodS his
  have hX := goodX his
  obtain ⟨q1, -, q3, q4, -⟩ := parts_made h
  have hok := (Tn.find_ok hi).2
  have hSL : sgL set (skL set F) note m rnd = (tnOf set (skL set F) note m rnd).sig (i * (layS set).l) := by unfold sgL; rw [if_pos hs, hi, Option.getD_some]
  rw [hSL]
  change (tnOf set (skL set F) note m rnd).ok (i * (layS set).l) = true at hok
  generalize i * (layS set).l = N at *
  have eA : (tnOf set (skL set F) note m rnd).A.length = (layS set).k := length_matL _ _ _
  obtain ⟨b1, b2, b3, b4⟩ := sig_back his (tnOf set (skL set F) note m rnd) rfl eA hok
  have hk := key_back h
  have htk := taken_made (note := note) (m := m) (rnd := rnd) h hok
  have hok2 := okT_hint hok
  have hHl : ((tnOf set (skL set F) note m rnd).H N).length = (layS set).k := (Tn.H_len _ _).trans eA
  have hall := hint_good (s := layS set) (fs := (tnOf set (skL set F) note m rnd).H N) hX.omega hok2.2.2.2
  have hback := hint_back (s := layS set) (fs := (tnOf set (skL set F) note m rnd).H N) hX.omega hok2.2.2.2 (hnts_below (lessL_pos _ _))
  rw [hHl] at hall hback
  have hvk : (vkL set F).length = vkS set := by rw [q1]; exact (sizes_eq his).1
  unfold verC
  rw [if_pos his, if_pos ⟨hvk, b1, hn⟩, if_pos (by rw [b4]; exact hall)]
  refine if_pos ⟨by rw [b3]; exact hok2.1, ?_⟩
  have eW : vW set (layS set) (vkL set F) ((tnOf set (skL set F) note m rnd).sig N) = lessL (applyL (tnOf set (skL set F) note m rnd).A ((tnOf set (skL set F) note m rnd).Z N)) (scaledL ((tnOf set (skL set F) note m rnd).B N) (eightL (highsL (tOf (layS set) ((seedAll (layS set) F).take 32) (s1Of (layS set) (seedAll (layS set) F)) (s2Of (layS set) (seedAll (layS set) F)))))) := by
    unfold vW
    rw [b2, b3, hk, ← q3]
    rfl
  unfold vCH
  rw [b2, b4, hback, eW, htk, ← q4]
  unfold Tn.CH
  have em : (tnOf set (skL set F) note m rnd).mu = muL (((skL set F).drop 64).take 64) note m := by
    show mu3 _ _ _ = _
    unfold mu3; rfl
  rw [em]
  rfl
end Go.Proofs.YtdnhoebcomffoaaGreatDoor
end
section
set_option linter.unusedVariables false
set_option linter.unusedSimpArgs false
/- A LOOP OVER A FUNCTION, as it is met by a call that owns parts of memory. -/
namespace Go.Ev
open Go Go.RowKit
set_option linter.unusedVariables false
/-- what is owned within a loop over a function: M and N, and the loop's two blocks -/
def RL (D : Nat) (o : Option Obj) (M N : List Res) : List Res :=
  M ++ (.box [D] (fun V => V.heap[D]? = some (.deferred (some []))) :: .box [D + 1] (fun V => V.heap[D + 1]? = o) :: N)
theorem RL_D (D : Nat) (o : Option Obj) (M N : List Res) : (RL D o M N)[M.length]? = some (.box [D] (fun V => V.heap[D]? = some (.deferred (some [])))) := by
  unfold RL; rw [List.getElem?_append_right (Nat.le_refl _), Nat.sub_self]; rfl
theorem RL_l (D : Nat) (o : Option Obj) (M N : List Res) : (RL D o M N)[M.length + 1]? = some (.box [D + 1] (fun V => V.heap[D + 1]? = o)) := by
  unfold RL; rw [List.getElem?_append_right (by omega), Nat.add_sub_cancel_left]; rfl
theorem RL_set (D : Nat) (o o' : Option Obj) (M N : List Res) : (RL D o M N).set (M.length + 1) (.box [D + 1] (fun V => V.heap[D + 1]? = o')) = RL D o' M N := by
  unfold RL; rw [List.set_append_right _ _ (by omega), Nat.add_sub_cancel_left]; rfl
theorem RL_app (D : Nat) (o : Option Obj) (M N N2 : List Res) : RL D o M N ++ N2 = RL D o M (N ++ N2) := by unfold RL; simp
theorem box_ok {D : Nat} {w : World} {o : Obj} (h : w.heap[D]? = some o) : (Res.box [D] (fun V => V.heap[D]? = some o)).ok w :=
  ⟨fun b hb => by simp only [List.mem_singleton] at hb; subst hb; exact (Array.getElem?_eq_some_iff.1 h).1, fun w' hw => (hw D (by simp)).trans h⟩
theorem Mine.retD {w0 w : World} {S : List Nat} {L : List Res} {D : Nat} (H : Mine w0 S w L) (k : Nat) (hk : L[k]? = some (.box [D] (fun V => V.heap[D]? = some (.deferred (some []))))) {K : World → Prop}
    (h : ∀ w', Mod [D] w w' → Mine w0 S w' (L.set k .no) → K w') : retD D w K := by
  have hD := H.box k hk
  refine ⟨hD, h _ ?_ (H.upd k hk (T := [D]) ?_ (fun b hb => .inl hb) trivial (fun b hb => by cases hb))⟩
  · exact Mod.grown (grown_put w D _)
  · exact Mod.grown (grown_put w D _)
theorem range_of {P : Program} {g : Value} {w w0 : World} {S : List Nat} {L : List Res} {gf : FuncId} {lb : List Value} {A : Type} {enc : A → Value} {S' Sp : List A → Prop} {N : Nat} {round : Value → World → (World → Prop) → (World → Prop) → Prop} {done stop : World → Prop}
    (hg : g = .func (.func gf) #[] ⟨lb⟩) (hb : bodied P gf = true) (caps : List Nat) (hcaps : ∀ b ∈ caps, b < w.heap.size)
    (hseq : ∀ w1, Mod [] w w1 → SeqK P gf lb enc (fun W W' => ∀ b ∈ caps, W'.heap[b]? = W.heap[b]?) (fun _ _ => False) S' Sp N w1)
    (H : Mine w0 S w L) (LI LR : List A → List Res → List Res → Prop) (h0 : ∀ W o, Mine w0 S W (RL w.heap.size o L []) → ∃ M N', LI [] M N' ∧ Mine w0 S W (RL w.heap.size o M N'))
    (hround : ∀ pre x W o M N' K Kr, LI pre M N' → pre.length < N → Mine w0 S W (RL w.heap.size o M N') →
      (∀ W' M' N2, (∀ b ∈ caps, W'.heap[b]? = W.heap[b]?) → LI (pre ++ [x]) M' N2 → Mine w0 S W' (RL w.heap.size o M' N2) → K W') →
      (∀ W' M' N2, LR (pre ++ [x]) M' N2 → Mine w0 S W' (RL w.heap.size o M' N2) → Kr W') → round (enc x) W K Kr)
    (hdone : ∀ xs W o M N', S' xs → LI xs M N' → Mine w0 S W (RL w.heap.size o M N') → done W)
    (hstop : ∀ pre W o M N', Sp pre → LR pre M N' → Mine w0 S W (RL w.heap.size o M N') → stop W) : rangeK P g w round done stop := by
  refine ⟨gf, lb, hg, hb, fun w1 rec hw1 => ?_⟩
  have hm1 : Mod [] w w1 := by rw [hw1]; exact (Mod.alloc [] w _).trans (Mod.alloc [] _ _)
  have hD1 : w1.heap[w.heap.size]? = some (.deferred (some [])) := by
    rw [hw1]; exact (Below.heap_alloc _ _ _ (by simp)).trans (World.alloc_heap_new w _)
  have hl1 : w1.heap[w.heap.size + 1]? = some rec := by
    rw [hw1]; have := World.alloc_heap_new (w.alloc (.deferred (some []))) rec; rwa [World.size_alloc] at this
  have H1 : Mine w0 S w1 (RL w.heap.size (some rec) L []) := by
    have ha := H.push (r := .box [w.heap.size] (fun V => V.heap[w.heap.size]? = some (.deferred (some [])))) (Mod.alloc [] w (.deferred (some []))) (box_ok (World.alloc_heap_new w _)) (fun b hb => by simp only [Res.box, List.mem_singleton] at hb; omega)
    have hb := ha.push (r := .box [w.heap.size + 1] (fun V => V.heap[w.heap.size + 1]? = some rec)) (Mod.alloc [] _ rec) (by rw [← hw1]; exact box_ok hl1) (fun b hb => by simp only [Res.box, List.mem_singleton] at hb; rw [World.size_alloc]; omega)
    rw [← hw1, List.append_assoc] at hb
    exact hb
  have stab : ∀ {LI : List A → List Res → List Res → Prop} pre W W' row, (∃ o M N', LI pre M N' ∧ Mine w0 S W (RL w.heap.size o M N')) → W.grownBy W' row → (∀ r, row = some r → r = w.heap.size + 1 ∨ False) → ∃ o M N', LI pre M N' ∧ Mine w0 S W' (RL w.heap.size o M N') := by
    rintro LI pre W W' row ⟨o, M, N', hL, HM⟩ hg' hr
    have hlt : w.heap.size + 1 < W'.heap.size := Nat.lt_of_lt_of_le ((Res.box [w.heap.size + 1] _).lt W (HM.get (M.length + 1) (RL_l _ _ _ _)) _ (by simp [Res.box])) hg'.size
    refine ⟨W'.heap[w.heap.size + 1]?, M, N', hL, ?_⟩
    have := HM.upd (M.length + 1) (RL_l _ _ _ _) (T := row.toList) (r' := .box [w.heap.size + 1] (fun V => V.heap[w.heap.size + 1]? = W'.heap[w.heap.size + 1]?)) (Mod.grown hg') (fun b hb => ?_) ?_ (fun b hb => .inl hb)
    · rwa [RL_set] at this
    · cases row with
      | none => cases hb
      | some r =>
        simp only [Option.toList_some, List.mem_singleton] at hb
        subst hb
        rcases hr _ rfl with h | h
        · exact .inl (by simp [Res.box, h])
        · exact h.elim
    · exact ⟨fun b hb => by simp only [List.mem_singleton] at hb; subst hb; exact hlt, fun w' hw => hw _ (by simp)⟩
  refine ⟨A, enc, _, _, S', Sp, N, fun pre W => ∃ o M N', LI pre M N' ∧ Mine w0 S W (RL w.heap.size o M N'), fun pre W => ∃ o M N', LR pre M N' ∧ Mine w0 S W (RL w.heap.size o M N'), hseq w1 hm1, (let ⟨M, N', h1, h2⟩ := h0 w1 _ H1; ⟨_, M, N', h1, h2⟩), fun W r h => h.elim, ?_, fun pre W W' row => stab pre W W' row, fun pre W W' row => stab pre W W' row, ?_, ?_, ?_⟩
  · intro W W' o o' h b hb
    have h1 := hcaps b hb
    rw [World.putObj_heap_other (by omega)]
    have h2 := h b hb
    rwa [World.putObj_heap_other (by omega)] at h2
  · rintro pre x W ⟨o, M, N', hL, HM⟩ hlen
    have ho : W.heap[w.heap.size + 1]? = o := HM.box _ (RL_l _ _ _ _)
    have hD : W.heap[w.heap.size]? = some (.deferred (some [])) := HM.box _ (RL_D _ _ _ _)
    refine hround pre x W o M N' _ _ hL hlen HM (fun W' M' N2 h1 h2 h3 => ?_) (fun W' M' N2 h2 h3 => ?_)
    · exact ⟨(h3.box _ (RL_D _ _ _ _)).trans hD.symm, (h3.box _ (RL_l _ _ _ _)).trans ho.symm, h1, o, M', N2, h2, h3⟩
    · exact ⟨(h3.box _ (RL_D _ _ _ _)).trans hD.symm, (h3.box _ (RL_l _ _ _ _)).trans ho.symm, o, M', N2, h2, h3⟩
  · rintro xs W hS ⟨o, M, N', hL, HM⟩ hD
    exact hdone xs W o M N' hS hL HM
  · rintro xs W hS ⟨o, M, N', hL, HM⟩ hD
    exact hstop xs W o M N' hS hL HM
end Go.Ev
end
section
set_option linter.unusedVariables false
set_option linter.unusedSimpArgs false
/- slices.Chunk: what the iterator that it hands back promises. -/
namespace Go.Proofs.YtdnhoebcomffoaaGreatDoor
open Go Go.Ev
set_option maxRecDepth 20000
set_option linter.unusedVariables false
theorem slices_Chunk_ok (x : SlV) (k : Nat) (hk : 1 ≤ k) (w : World) : Ok Pr f_slices_Chunk_byte_byte [.slice x.a x.n x.c, .int .i64 (k : Int)] w fun v w' =>
    ∃ b c, v = .func (.func f_slices_Chunk_byte_byte_1) #[] ⟨[.pointer (some ⟨b, 0, none⟩), .pointer (some ⟨c, 0, none⟩)]⟩ ∧ Mine w [] w' [.blk b [.slice x.a x.n x.c] t_s_uint8, .blk c [.int .i64 (k : Int)] t_int] := by
  refine V_slices_Chunk_byte_byte_of ?_
  unfold V_slices_Chunk_byte_byte
  refine (Mine.start w).nw fun p w1 H _ => H.nw fun q w2 H _ => H.ldI 1 rfl rfl rfl (ite_false (decide_eq_false (by omega)) ?_)
  exact ⟨p, q, rfl, H⟩
/-- part i of so many bytes each -/
def chunkAt (x : SlV) (k i : Nat) : SlV := ⟨sub x.a (i * k) (i * k + k) 1, k, k⟩
theorem World.grown_drew (w : World) (row : Option Nat) : w.grownBy w.drew row := ⟨rfl, rfl, rfl, Nat.le_refl _, fun _ _ _ => rfl⟩
theorem chunk_lt {A : Type} {x : A} {K : A → Prop} (h : K x) : lt x K := h
theorem chunk_yield {F : Fence} {m : Nat} {P : Program} {l : Nat} {args : Array Value} {W : World} {R R' : Ending → World → Prop} (h : YieldAt F m P l args W R) (hr : ∀ e w, R e w → R' e w) : YieldAt F m P l args W R' := by
  obtain ⟨fn, tmps, asg, bd, hy, hR⟩ := h
  exact ⟨fn, tmps, asg, bd, hy, hR.mono hr⟩
theorem chunk_seq {x : SlV} {k N b c : Nat} (hk : 1 ≤ k) (hn : x.n = N * k) (hc : x.n ≤ x.c) (hb : N * k + k < 4611686018427387904) {w1 : World} {t u : TypeId} (h1 : Blk w1 b [.slice x.a x.n x.c] t) (h2 : Blk w1 c [.int .i64 (k : Int)] u) :
    SeqK Pr f_slices_Chunk_byte_byte_1 [.pointer (some ⟨b, 0, none⟩), .pointer (some ⟨c, 0, none⟩)] (fun i : Fin N => (chunkAt x k i.val).v) (fun W W' => ∀ d ∈ [b, c], W'.heap[d]? = W.heap[d]?) (fun _ _ => False)
      (fun xs => xs.map (·.val) = List.range N) (fun pre => ∃ j, j ≤ N ∧ pre.map (·.val) = List.range j) N w1 := by
  intro l J Jx hJ hJx hY h0
  have dr : ∀ {s W}, J s W → J s W.drew := fun {s W} h => hJ s W _ none h (World.grown_drew W none) fun r e => by cases e
  refine CallsIn.mono (V_slices_Chunk_byte_byte_1_of (yield := l) (free := ⟨b, 0, none⟩) (free_1 := ⟨c, 0, none⟩) (R := fun v W' => (∃ xs : List (Fin N), xs.map (·.val) = List.range N ∧ J xs W') ∨ (∃ pre : List (Fin N), (∃ j, j ≤ N ∧ pre.map (·.val) = List.range j) ∧ Jx pre W')) ?_) fun e w' ⟨v, he, h⟩ => ⟨⟨v, he⟩, h⟩
  unfold V_slices_Chunk_byte_byte_1
  refine loop1_of (fun i W => ∃ (j : Nat) (pre : List (Fin N)), j ≤ N ∧ i = ((j * k : Nat) : Int) ∧ pre.map (·.val) = List.range j ∧ J pre W ∧ Blk W b [.slice x.a x.n x.c] t ∧ Blk W c [.int .i64 (k : Int)] u) (fun i _ => N * k - i.toNat) ⟨0, [], by omega, by simp, rfl, h0, h1, h2⟩ ?_
  rintro again i W ⟨j, pre, hj, rfl, hpre, hJp, hB, hC⟩ hag
  refine hB.ldL (i := 0) rfl rfl (ite_intro (fun hlt => ?_) (fun hge => ?_))
  · have hlt : j * k < N * k := by rw [← hn]; exact_mod_cast of_decide_eq_true hlt
    have hjN : j < N := Nat.lt_of_mul_lt_mul_right hlt
    have hjk : j * k + k ≤ N * k := by have := Nat.mul_le_mul_right k hjN; rw [Nat.succ_mul] at this; exact this
    have hB' : Blk W.drew b [.slice x.a x.n x.c] t := hB
    have hC' : Blk W.drew c [.int .i64 (k : Int)] u := hC
    refine hC'.ldI (i := 0) rfl rfl (hB'.ldL (i := 0) rfl rfl ⟨⟨by omega, by omega⟩, ?_⟩)
    have e0 : min (k : Int) ((x.n - ((j * k : Nat) : Int).toNat : Nat) : Int) = (k : Int) := by
      have : (((j * k : Nat) : Int).toNat) = j * k := rfl
      omega
    refine chunk_lt ?_
    rw [e0]
    refine hB'.ldL (i := 0) rfl rfl ⟨⟨by omega, by omega⟩, ⟨by omega, by omega⟩, ⟨by omega, by omega, by omega, by omega⟩, ?_⟩
    have e1 : (((j * k : Nat) : Int)).toNat = j * k := rfl
    have e2 : (((j * k : Nat) : Int) + (k : Int)).toNat = j * k + k := by omega
    rw [e1, e2]
    have hlen : pre.length = j := by have := congrArg List.length hpre; simpa using this
    have hsl : (⟨sub x.a (j * k) (j * k + k) 1, j * k + k - j * k, j * k + k - j * k⟩ : SlV) = chunkAt x k j := by unfold chunkAt; rw [Nat.add_sub_cancel_left]
    rw [hsl]
    have hy := hY pre ⟨j, hjN⟩ W.drew (dr hJp) (by omega)
    refine chunk_yield hy ?_
    rintro e W2 (⟨rfl, hJ2, hkk⟩ | ⟨rfl, hJx2⟩)
    · refine ⟨_, rfl, true, rfl, ite_false rfl ?_⟩
      have hB2 : Blk W2 b [.slice x.a x.n x.c] t := (hkk b (by simp)).trans hB
      have hC2 : Blk W2 c [.int .i64 (k : Int)] u := (hkk c (by simp)).trans hC
      refine hC2.ldI (i := 0) rfl rfl ⟨⟨by omega, by omega⟩, hag _ _ ⟨j + 1, pre ++ [⟨j, hjN⟩], hjN, ?_, ?_, hJ2, hB2, hC2⟩ ?_⟩
      · rw [Nat.succ_mul]; omega
      · rw [List.map_append, hpre, List.range_succ]; rfl
      · omega
    · exact ⟨_, rfl, false, rfl, ite_true rfl (.inr ⟨_, ⟨j + 1, hjN, by rw [List.map_append, hpre, List.range_succ]; rfl⟩, hJx2⟩)⟩
  · have hge : N * k ≤ j * k := by have := of_decide_eq_false hge; rw [hn] at this; omega
    have : j = N := Nat.le_antisymm hj (Nat.le_of_mul_le_mul_right hge hk)
    subst this
    exact .inl ⟨pre, hpre, hJp⟩
theorem chunk_bytes {w : World} {x : SlV} {l : List B8} {k i : Nat} (h : Bytes w x l) (hk : 1 ≤ k) (hi : i * k + k ≤ x.n) : Bytes w (chunkAt x k i) ((l.drop (i * k)).take k) := by
  have hc := h.cap
  have hp := Sl.part h (by omega : 0 < 1) (i * k) (i * k + k) (by omega) hi
  have e : sub x.a (i * k) x.c 1 = sub x.a (i * k) (i * k + k) 1 := by
    unfold sub
    rw [if_neg (by omega), if_neg (by omega)]
  rw [e, Nat.add_sub_cancel_left, Nat.mul_one, Nat.mul_one, u8s_drop, u8s_take] at hp
  refine ⟨?_, Nat.le_refl k, hp.pre, hp.cell⟩
  exact hp.len
end Go.Proofs.YtdnhoebcomffoaaGreatDoor
end
section
set_option linter.unusedVariables false
set_option linter.unusedSimpArgs false
/- NUMBERS AND BYTES, ONE WAY: what code's and the document's Number, Bytes, Text compute. -/
namespace Go.Proofs.YtdnhoebcomffoaaGreatDoor
open Go Go.Ev
set_option linter.unusedVariables false
/-- a number's eight bytes, the highest first -/
def be (n : Int) : List B8 := (List.range 8).map fun k => ((BitVec.ofInt 64 n : B64) >>> (56 - 8 * k)).setWidth 8
/-! ### the document's -/
end Go.Proofs.YtdnhoebcomffoaaGreatDoor
end
section
set_option linter.unusedVariables false
set_option linter.unusedSimpArgs false
/- REQUESTS: which may be, their bodies, which are the same: the program's and the document's. -/
namespace Go.Proofs.YtdnhoebcomffoaaGreatDoor
open Go Go.Ev
set_option maxRecDepth 20000
set_option linter.unusedVariables false
/-- a request's cells -/
structure AskV where
  (n0 n1 n2 n3 n4 n5 n6 n7 n8 n9 n10 : Int)
  name : ByteArray
  (by_ tok : SlV)
def AskV.rest (q : AskV) : List Int := [q.n3, q.n4, q.n5, q.n6, q.n7, q.n8, q.n9, q.n10]
def within2 (lo hi n : Int) : Bool := decide (lo ≤ n) && decide (n ≤ hi)
def mayAsk (q : AskV) : Bool := within2 1 6 q.n0 && (within2 1 1099511627776 q.n1 && (within2 1 13 q.n2 && (q.rest.all (within2 0 1099511627776) && (decide (q.name.size ≤ 300) && (decide (q.by_.n ≤ 2000) && decide (q.tok.n ≤ 100))))))
def bodyC (q : AskV) : Int := if mayAsk q = true then 0 else 2
end Go.Proofs.YtdnhoebcomffoaaGreatDoor
end
section
set_option linter.unusedVariables false
set_option linter.unusedSimpArgs false
/- REQUESTS: which are the same; the document's; a reading that is refused by its size. -/
namespace Go.Proofs.YtdnhoebcomffoaaGreatDoor
open Go Go.Ev
set_option maxRecDepth 20000
set_option linter.unusedVariables false
theorem bytes_Equal_ok (x y : SlV) (l m : List B8) (w : World) (hx : Bytes w x l) (hy : Bytes w y m) : Ok Pr f_bytes_Equal [.slice x.a x.n x.c, .slice y.a y.n y.c] w fun v w' => v = .bool (decide (l = m)) ∧ w' = w := by
  refine V_bytes_Equal_of ?_
  unfold V_bytes_Equal
  refine b2s_of hx (b2s_of hy ⟨?_, rfl⟩)
  congr 1
  exact decide_eq_decide.2 strOf_inj
/-! ### the document's -/
/-! ### what a reading refuses by its size -/
end Go.Proofs.YtdnhoebcomffoaaGreatDoor
end
section
set_option linter.unusedVariables false
set_option linter.unusedSimpArgs false
/- VERIFYING: the program's. -/
namespace Go.Proofs.YtdnhoebcomffoaaGreatDoor
open Go Go.Ev
set_option maxRecDepth 20000
set_option linter.unusedVariables false
theorem zc_vec1 : zc Pr t_s_s_int = [.slice none 0 0] := by kernel_rfl
theorem bod_ver_1 : bodied Pr f_sign_Verify_1 = true := by kernel_rfl
theorem bod_chunk_1 : bodied Pr f_slices_Chunk_byte_byte_1 = true := by kernel_rfl
def useF (g : Int) (h f : List Int) : List Int := (List.range f.length).map fun i => use g (h.getD i 0) (f.getD i 0)
theorem use_below {g : Int} (hg : GG g) (h f : List Int) (hl : f.length = 256) : (useF g h f).length = 256 ∧ ∀ x ∈ useF g h f, 0 ≤ x ∧ x < mOf g := by
  unfold useF
  refine ⟨by rw [List.length_map, List.length_range, hl], fun x hx => ?_⟩
  obtain ⟨i, _, rfl⟩ := List.mem_map.1 hx
  have hr := prt_rng (x := f.getD i 0) hg
  have hm := mOf_rng hg
  generalize f.getD i 0 = y at *
  generalize h.getD i 0 = z at *
  unfold use
  split
  · split
    · exact ⟨Int.emod_nonneg _ (by omega), Int.emod_lt_of_pos _ (by omega)⟩
    · exact ⟨Int.emod_nonneg _ (by omega), Int.emod_lt_of_pos _ (by omega)⟩
  · omega
theorem ver_1_tells {w : World} {a b : Addr} {g : Int} (hg : GG g) (h7 : w.cell? (Addr.add a 7) = some (.int .i64 g)) {t : SlV} {HH X : List (List Int)} (hb : w.cell? b = some (.slice t.a t.n t.c)) (ht : Pols w t HH) (hT : ∀ f ∈ HH, f.length = 256) (hX : Pos X) (hTX : HH.length = X.length)
    (i : Nat) (y : SlV) (w' : World) (hi : i < X.length) (m : Mod [] w w') (hy : Nums w' y (X.getD i [])) :
    callV Pr (.func (.func f_sign_Verify_1) ⟨[]⟩ ⟨[.pointer (some a), .pointer (some b)]⟩) [.int .i64 (i : Int), .slice y.a y.n y.c] w' fun v w'' => ∃ z : SlV, v = .slice z.a z.n z.c ∧ Boxed w' w'' fun w => Nums w z (useF g (HH.getD i []) (X.getD i [])) := by
  refine callV_of bod_ver_1 (V_sign_Verify_1_of ?_)
  unfold V_sign_Verify_1
  have hyl := hy.len
  have px := hX.get hi
  have hlt := hT _ (mem_getD (i := i) (by omega) [])
  have hl := px.len
  unfold useF
  refine (Mine.start w').mkN elt_i64' zc_i64 (n := (X.getD i []).length) (by omega) (by omega) (by omega) fun z w2 H2 hzn => ?_
  obtain ⟨G, hG⟩ : ∃ G : Nat → Int, G = fun k => use g ((HH.getD i []).getD k 0) ((X.getD i []).getD k 0) := ⟨_, rfl⟩
  rw [← hG]
  rw [List.nil_append, ← part_zero G] at H2
  refine loop1_up 0 (X.getD i []).length (fun k w'' => Mine w' [] w'' [.row t_int 1 z (i64s (part G (X.getD i []).length k))]) rfl (by omega) H2 ?_ ?_
  · intro again k w3 _ hk H3 hag
    have H4 := H3.drew
    have mm := m.trans H4.mod
    refine ite_true (decide_eq_true (by omega)) ((hy.mod0 H3.mod).ld (i := k) hk rfl ⟨_, mm.cell0 h7, _, mm.cell0 hb, (ht.mod0 mm).ld (i := i) (by omega) rfl fun u hu => hu.ld (i := k) (by omega) rfl (call_of (round_Use_ok g _ _ hg _) ?_)⟩)
    rintro _ w5 ⟨rfl, hw⟩
    subst hw
    refine asI_i (H4.stN 0 (i := k) rfl (by rw [part_len _ (by omega)]; omega) rfl fun w6 H6 => ⟨⟨by omega, by omega⟩, hag w6 ?_⟩)
    rw [← part_set G hk (by rw [hG])]
    exact H6
  · intro again w3 H3
    rw [part_all] at H3
    exact ite_false (decide_eq_false (by omega)) ⟨z, rfl, Boxed.of_own (H3.fresh0 0 rfl) H3.mod fun w2 h => h.nums⟩
/-- what is multiplied one by one -/
def mulPart (U : List Int) (i : Nat) : List Int := (U.take i).map (fun x => x * 8192) ++ U.drop i
theorem mulPart_len (U : List Int) (i : Nat) : (mulPart U i).length = U.length := by unfold mulPart; simp only [List.length_append, List.length_map, List.length_take, List.length_drop]; omega
theorem mulPart_get (U : List Int) {i : Nat} (h : i < U.length) : (mulPart U i).getD i 0 = U.getD i 0 := by
  unfold mulPart
  rw [List.getD_eq_getElem?_getD, List.getElem?_append_right (by simp; omega)]
  simp only [List.length_map, List.length_take, Nat.min_eq_left (Nat.le_of_lt h), Nat.sub_self, List.getElem?_drop, Nat.add_zero]
  rw [List.getD_eq_getElem?_getD]
theorem mulPart_set (U : List Int) {i : Nat} (h : i < U.length) : (mulPart U i).set i (U.getD i 0 * 8192) = mulPart U (i + 1) := by
  unfold mulPart
  have hl : ((U.take i).map fun x => x * 8192).length = i := by simp; omega
  rw [List.set_append_right _ _ (by omega), hl, Nat.sub_self, List.drop_eq_getElem_cons h, List.set_cons_zero, take_succ_getD _ _ h 0, List.map_append, List.append_assoc]
  rfl
def t1At (vk : List B8) (r : Nat) : List Int := (unpack 10 (((vk.drop 32).drop (320 * r)).take 320)).map fun x => x * 8192
open Classical in
theorem sign_Verify_ok (set : Int) (xv xn xm xs : SlV) (vk note m sig : List B8) (h1 : vk.length ≤ 100000) (h2 : note.length ≤ 100000) (h3 : m.length ≤ 100000) (h4 : sig.length ≤ 100000) (w : World) (hv : Bytes w xv vk) (hn : Bytes w xn note) (hm : Bytes w xm m) (hs : Bytes w xs sig) :
    Ok Pr f_sign_Verify [.int .i64 set, .slice xv.a xv.n xv.c, .slice xn.a xn.n xn.c, .slice xm.a xm.n xm.c, .slice xs.a xs.n xs.c] w fun v w' => IsErr w w' v (verC set vk note m sig) ∧ Mod [] w w' := by
  by_cases his : isSet set = true
  case neg =>
    have hf : isSet set = false := by simpa using his
    have e : verC set vk note m sig = 2 := by unfold verC; rw [if_neg his]
    rw [e]
    exact sign_Verify_noset set hf xv xn xm xs w
  obtain ⟨z1, -, z3⟩ := sizes_eq his
  have hvl := hv.len
  have hsl := hs.len
  have hG := goodS his
  have hX := goodX his
  have hbl := blen_g (goodG1 his)
  have bC := ballC_of his
  obtain ⟨vkn, hvkn⟩ : ∃ n : Nat, n = vkS set := ⟨_, rfl⟩
  obtain ⟨sgn, hsgn⟩ : ∃ n : Nat, n = sgS set := ⟨_, rfl⟩
  have hver : verC set vk note m sig = if vk.length = vkn ∧ sig.length = sgn ∧ note.length ≤ 255 then
      (if uAll (vB (layS set) sig) (layS set).omega (layS set).k then
        (if normL (vZ (layS set) sig) < ((layS set).g1 : Int) - (layS set).beta ∧ vCH set (layS set) vk note m sig = sig.take (layS set).c then 0 else 7)
      else 4) else 3 := by unfold verC; rw [if_pos his, hvkn, hsgn]
  rw [← hvkn] at z1
  rw [← hsgn] at z3
  have hvch : vCH set (layS set) vk note m sig = spOut 136 31 (muL (spOut 136 31 vk 64) note m ++ highB (layS set).g2 (useL (layS set).g2 (unL (vB (layS set) sig) (layS set).omega (layS set).k) (vW set (layS set) vk sig))) ((layS set).c : Int) := by unfold vCH; rfl
  rw [hver]
  generalize vCH set (layS set) vk note m sig = VCH at *
  refine V_sign_Verify_of ?_
  unfold V_sign_Verify
  rw [zc_lSet, zc_vec1]
  refine call_of (lay_Of_ok set w) ?_
  rintro _ w1 ⟨rfl, m1⟩
  rw [his]
  obtain ⟨s, hS⟩ : ∃ s, layS set = s := ⟨_, rfl⟩
  simp only [hS] at hG hX hbl bC hver hvch z1 z3 ⊢
  refine ⟨_, rfl, as_lSet ⟨_, rfl, rfl, ((Mine.start w).frame m1).nw fun p w2 H _ => H.sT_lay_Set 0 rfl rfl fun w3 H => ite_false rfl (call_of (sign_Digest_ok xv xn xm vk note m (by omega) (by omega) (by omega) _ (hv.mod0 H.mod) (hn.mod0 H.mod) (hm.mod0 H.mod)) ?_)⟩⟩
  rintro _ w4 ⟨u, er, rfl, hu, he, hno, m4⟩
  have H := H.got2 m4 hu he hno
  obtain ⟨mu, hmu⟩ : ∃ mu, mu = muL (spOut 136 31 vk 64) note m := ⟨_, rfl⟩
  rw [← hmu] at H hvch
  have fin : ∀ {w' w2 : World} {L : List Res} {e : Value} {c : Int}, Mine w [] w' L → IsErr w' w2 e c → Mod [] w' w2 → IsErr w w2 e c ∧ Mod [] w w2 := fun H h m => ⟨h.from H.mod.size, (H.frame m).mod⟩
  refine ⟨_, rfl, u, rfl, rfl, join0_of fun go hgo => call_of (lay_Sizes_ok set w4) ?_⟩
  rintro _ w5 ⟨rfl, m5⟩
  rw [← hvkn, ← hsgn]
  have H := H.frame m5
  refine ⟨_, rfl, _, rfl, _, rfl, _, rfl, rfl, join1_of fun go1 hgo1 => ?_⟩
  have bad : (¬ (vk.length = vkn ∧ sig.length = sgn ∧ note.length ≤ 255)) → go1 true w5 := fun hb => by
    rw [if_neg hb] at hgo1
    refine hgo1 _ _ (ite_true rfl (call_of (sign_fault_ok 3 (by decide) w5) ?_))
    rintro e w6 ⟨h6, m6⟩
    exact fin H h6 m6
  by_cases hb1 : vk.length = vkn ∧ sig.length = sgn
  case neg =>
    refine ite_true ?_ (bad fun h => hb1 ⟨h.1, h.2.1⟩)
    have hh : ¬ (xv.n = vkn ∧ xs.n = sgn) := by rw [← hvl, ← hsl]; exact hb1
    by_cases hc : xv.n = vkn
    · have : ¬ xs.n = sgn := fun h => hh ⟨hc, h⟩
      simp; omega
    · simp; omega
  refine ite_false (by rw [← hvl, ← hsl, hb1.1, hb1.2]; simp) ((H.err 2 rfl).isNil ?_)
  by_cases hb2 : note.length ≤ 255
  case neg =>
    have : digC note.length = 3 := by unfold digC; rw [if_neg hb2]
    rw [this]
    exact bad fun h => hb2 h.2.2
  have hd0 : digC note.length = 0 := by unfold digC; rw [if_pos hb2]
  rw [if_pos hb2, hd0] at H
  rw [hd0]
  rw [if_pos ⟨hb1.1, hb1.2, hb2⟩] at hgo hgo1
  refine hgo1 _ _ (ite_false rfl (hgo _ ?_))
  have hk0 := hG.k0
  have hk8 := hG.k
  have hl0 := hG.l0
  have hl7 := hG.l
  have hc64 := hG.c
  have hg1 : s.g1 ≤ 524288 ∧ 131072 ≤ s.g1 := by rcases hX.g1 with h | h <;> omega
  have hmd : maskD s = 18 ∨ maskD s = 20 := by unfold maskD; split <;> simp
  have e32 : 32 * s.l * maskD s = 32 * maskD s * s.l := Nat.mul_right_comm _ _ _
  refine H.ldI 0 rfl (ad1 p 8) rfl (hs.h s.c rfl (by omega) fun xc hxc kc _ => ?_)
  have H := H.drew
  refine H.ldI 0 rfl (ad1 p 6) rfl ⟨⟨by omega, by omega⟩, H.ldI 0 rfl (ad1 p 6) rfl (H.ldI 0 rfl (ad1 p 1) rfl (H.ldI 0 rfl (ad1 p 8) rfl (hs.l s.c rfl (by omega) fun xz hxz kz _ => ?_)))⟩
  rw [show (s.g1 : Int) - 1 = ((s.g1 - 1 : Nat) : Int) by omega]
  refine call_of (sign_polys_ok (s.g1 - 1) s.g1 s.l (by omega) (by omega) (by omega) (by omega) xz (sig.drop s.c) (by rw [hbl, List.length_drop]; omega) _ (kz.mod0 H.mod)) ?_
  rintro _ w6 ⟨yz, xh, rfl, hyz, hxh⟩
  rw [hbl] at hyz hxh
  obtain ⟨fz, H⟩ := H.gotBox hyz
  have kh : Bytes w xh (vB s sig) := hxh _ kz
  have nB : (vB s sig).length = s.omega + s.k := by unfold vB; rw [List.length_drop, List.length_drop]; omega
  have pZ : Pos (vZ s sig) := polysL_pos (by omega) (by rw [List.length_drop]; omega)
  have nZ : (vZ s sig).length = s.l := by unfold vZ polysL; rw [List.length_map, List.length_range]
  refine ⟨_, rfl, yz, rfl, xh, rfl, rfl, call_of (lay_Unhint_ok set his s hS.symm xh (vB s sig) nB _ (kh.mod0 H.mod)) ?_⟩
  rintro _ w7 ⟨yh, e7, rfl, he7, m7, hyh⟩
  by_cases hu : uAll (vB s sig) s.omega s.k
  case neg =>
    have e : unC (vB s sig) s.omega s.k = 4 := by unfold unC; rw [if_neg hu]
    rw [e] at he7
    rw [if_neg hu]
    refine ⟨_, rfl, yh, rfl, rfl, (H.frame m7).nw fun p1 w8 H hp1 => H.st 4 (i := 0) rfl rfl (Nat.lt_succ_self 0) rfl fun w9 H => he7.1.isNil (ite_true rfl (call_of (sign_fault_ok 4 (by decide) w9) ?_))⟩
    rintro e w10 ⟨h, m⟩
    exact fin H h m
  have e : unC (vB s sig) s.omega s.k = 0 := by unfold unC; rw [if_pos hu]
  rw [e] at he7
  rw [if_pos hu] at *
  obtain ⟨fh, H⟩ := H.gotBox (hyh e)
  obtain ⟨HH, hHH⟩ : ∃ HH, HH = unL (vB s sig) s.omega s.k := ⟨_, rfl⟩
  rw [← hHH] at H hvch
  have nHH : HH.length = s.k := by rw [hHH]; unfold unL; simp
  have lHH : ∀ f ∈ HH, f.length = 256 := by
    rw [hHH]; unfold unL
    intro f hf
    obtain ⟨r, _, rfl⟩ := List.mem_map.1 hf
    exact length_unF _ _ _
  refine ⟨_, rfl, yh, rfl, rfl, H.nw fun p1 w8 H hp1 => H.st 5 (i := 0) rfl rfl (Nat.lt_succ_self 0) rfl fun w9 H => he7.1.isNil (ite_false rfl ?_)⟩
  have H : Mine w [] w9 [.blk p s.cells t_lay_Set, .row t_uint8 1 u (u8s mu), Res.err er 0, .box fz fun w => Pols w yz (vZ s sig), .box fh fun w => Pols w yh HH, .blk p1 [.slice yh.a yh.n yh.c] t_s_s_int] := H
  have H := H.drew
  have hbe := hX.beta
  refine H.ldI 0 rfl (ad1 p 6) rfl (H.ldI 0 rfl (ad1 p 4) rfl ⟨⟨by omega, by omega⟩, call_of (wave_Norm_ok yz (vZ s sig) (by omega) pZ _ (H.box 3 rfl)) ?_⟩)
  rintro _ w10 ⟨rfl, m10⟩
  have k1 : ∀ j, kept (Addr.add ⟨p, 0, none⟩ j) 1 w9.drew w10 := fun j => kept_of m10 (by rw [add_block]; exact (H.blk 0 rfl).lt) (by simp)
  have H := H.frame m10
  refine asI_i ⟨k1 4, k1 6, ?_⟩
  by_cases hnm : normL (vZ s sig) < (s.g1 : Int) - s.beta
  case neg =>
    rw [if_neg fun h => hnm h.1]
    refine ite_true (decide_eq_true (by omega)) (call_of (sign_fault_ok 7 (by decide) w10) ?_)
    rintro e w11 ⟨h, m⟩
    exact fin H h m
  have nC : (sig.take s.c).length = s.c := by rw [List.length_take]; omega
  refine ite_false (decide_eq_false (by omega)) (call_of (sift_Ball_all set xc (sig.take s.c) _ (kc.mod0 H.mod)) ?_)
  rw [nC, bC]
  rintro _ w11 ⟨yB, eB, rfl, hyB, -, -, m11⟩
  have H := H.got m11 hyB
  have pB : Po (ballL set (sig.take s.c)) := (ballL_okay (by rw [nC]; exact bC)).1
  generalize hB : ballL set (sig.take s.c) = B at *
  refine ⟨_, rfl, yB, rfl, rfl, H.nw fun p2 w12 H hp2 => hv.l 32 rfl (by omega) fun xt hxt kt _ => call_of (slices_Chunk_ok xt 320 (by omega) w12) ?_⟩
  rintro _ w13 ⟨b, c, rfl, Hc⟩
  have H := H.join Hc
  have H : Mine w [] w13 [.blk p s.cells t_lay_Set, .row t_uint8 1 u (u8s mu), Res.err er 0, .box fz fun w => Pols w yz (vZ s sig), .box fh fun w => Pols w yh HH, .blk p1 [.slice yh.a yh.n yh.c] t_s_s_int, .row t_int 1 yB (i64s B), .blk p2 [.slice none 0 0] t_s_s_int, .blk b [.slice xt.a xt.n xt.c] t_s_uint8, .blk c [.int .i64 ((320 : Nat) : Int)] t_int] := H
  have hkn : s.k * 320 = 320 * s.k := Nat.mul_comm _ _
  refine range_of (A := Fin s.k) rfl bod_chunk_1 [b, c] ?_ (fun w1 m => chunk_seq (x := xt) (k := 320) (N := s.k) (by omega) (by omega) kt.cap (by omega) ((H.blk 8 rfl).mod0 m) ((H.blk 9 rfl).mod0 m)) H
    (fun pre M N' => ∃ out xs fp, M = [.blk p s.cells t_lay_Set, .row t_uint8 1 u (u8s mu), Res.err er 0, .box fz fun w => Pols w yz (vZ s sig), .box fh fun w => Pols w yh HH, .blk p1 [.slice yh.a yh.n yh.c] t_s_s_int, .row t_int 1 yB (i64s B), .blk p2 [.slice out.a out.n out.c] t_s_s_int, .blk b [.slice xt.a xt.n xt.c] t_s_uint8, .blk c [.int .i64 ((320 : Nat) : Int)] t_int] ∧
      N' = [.row t_s_int 1 out (xs.map SlV.v), .box fp fun w => Elems Nums w xs (pre.map fun i => t1At vk i.val)])
    (fun _ _ _ => False) ?_ ?_ ?_ (fun _ _ _ _ _ _ h _ => h.elim)
  · intro d hd
    rcases List.mem_cons.1 hd with rfl | hd
    · exact (H.blk 8 rfl).lt
    · rw [List.mem_singleton.1 hd]; exact (H.blk 9 rfl).lt
  · intro W o HW
    obtain ⟨xs, fp, HW⟩ : Col Nums t_s_int w [] _ W ⟨none, 0, 0⟩ [] := Col.start HW
    rw [RL_app] at HW
    exact ⟨_, _, ⟨⟨none, 0, 0⟩, xs, fp, rfl, rfl⟩, HW⟩
  · rintro pre i W o M N' K Kr ⟨out, xs, fp, rfl, rfl⟩ hlen HW hK hKr
    have hik : i.val * 320 + 320 ≤ xt.n := by have := i.isLt; omega
    have kp := chunk_bytes (kt.mod0 HW.mod) (k := 320) (i := i.val) (by omega) hik
    rw [Nat.mul_comm i.val 320] at kp
    have e1 : t1At vk i.val = (unpack 10 (((vk.drop 32).drop (320 * i.val)).take 320)).map fun x => x * 8192 := rfl
    have hpl : (((vk.drop 32).drop (320 * i.val)).take 320).length = 320 := by rw [List.length_take, List.length_drop, List.length_drop]; omega
    have hT : (pre ++ [i]).map (fun j : Fin s.k => t1At vk j.val) = pre.map (fun j : Fin s.k => t1At vk j.val) ++ [t1At vk i.val] := by rw [List.map_append]; rfl
    rw [hT] at hK
    have hTl : (pre.map (fun j : Fin s.k => t1At vk j.val)).length ≤ 8 := by rw [List.length_map]; omega
    generalize pre.map (fun j : Fin s.k => t1At vk j.val) = T at *
    generalize t1At vk i.val = A at *
    generalize ((vk.drop 32).drop (320 * i.val)).take 320 = part at *
    refine call_of (bits_Unpack_ok 10 (by omega) (by omega) (chunkAt xt 320 i.val) part (by omega) W kp) ?_
    rintro _ w18 ⟨y, rfl, hy, m18⟩
    have D := (Mine.start W).got m18 hy
    have hU : (unpack 10 part).length = 256 ∧ ∀ x ∈ unpack 10 part, 0 ≤ x ∧ x < 1024 := ⟨by rw [length_unpack]; omega, fun x hx => unpack_lt 10 part x hx⟩
    generalize unpack 10 part = U at *
    have hyn := (D.nums 0 rfl).len
    refine asSl_s (loop1_up 0 256 (fun j w' => Mine W [] w' [.row t_int 1 y (i64s (mulPart U j))]) rfl (by omega) (by unfold mulPart; simpa using D) ?_ ?_)
    · intro again j w19 _ hj D hag
      have hg := hU.2 _ (mem_getD (l := U) (i := j) (by omega) 0)
      refine ite_true (decide_eq_true (by omega)) ((D.nums 0 rfl).ld (i := j) (by rw [mulPart_len]; omega) rfl ?_)
      rw [mulPart_get U (by omega)]
      refine ⟨⟨by omega, by omega⟩, D.stN 0 (i := j) rfl (by rw [mulPart_len]; omega) rfl fun w20 D => ⟨⟨by omega, by omega⟩, hag w20 ?_⟩⟩
      rw [← mulPart_set U (by omega)]
      exact D
    · intro again w19 D
      have hM : mulPart U 256 = A := by unfold mulPart; rw [e1, ← hU.1, List.take_length, List.drop_length, List.append_nil]
      rw [hM] at D
      have HW' := HW.frame D.mod
      refine ite_false (decide_eq_false (by omega)) (HW'.ldL 7 rfl rfl rfl ?_)
      have C : Col Nums t_s_int w [] (RL w13.heap.size o [.blk p s.cells t_lay_Set, .row t_uint8 1 u (u8s mu), Res.err er 0, .box fz fun w => Pols w yz (vZ s sig), .box fh fun w => Pols w yh HH, .blk p1 [.slice yh.a yh.n yh.c] t_s_s_int, .row t_int 1 yB (i64s B), .blk p2 [.slice out.a out.n out.c] t_s_s_int, .blk b [.slice xt.a xt.n xt.c] t_s_uint8, .blk c [.int .i64 ((320 : Nat) : Int)] t_int] []) W out T := ⟨xs, fp, by rw [RL_app]; exact HW⟩
      refine C.add (l := A) (D.boxed fun w2 h => Own.nums (h 0 _ rfl)) elt_vec ?_ fun out' w22 C' => ?_
      · omega
      obtain ⟨xs', fp', C'⟩ := C'
      rw [RL_app] at C'
      refine C'.st 7 (i := 0) rfl rfl (Nat.lt_succ_self 0) rfl fun w23 C2 => hK w23 _ _ ?_ ⟨out', xs', fp', rfl, rfl⟩ C2
      intro d hd
      rcases List.mem_cons.1 hd with rfl | hd
      · exact (C2.blk 8 rfl).trans (HW.blk 8 rfl).symm
      · rw [List.mem_singleton.1 hd]; exact (C2.blk 9 rfl).trans (HW.blk 9 rfl).symm
  · rintro pre W o M N' hpre ⟨out, xs, fp, rfl, rfl⟩ HW
    have eT : pre.map (fun i : Fin s.k => t1At vk i.val) = vT1 s vk := by
      have : pre.map (fun i : Fin s.k => t1At vk i.val) = (pre.map (·.val)).map (t1At vk) := by rw [List.map_map]; rfl
      rw [this, hpre]; rfl
    rw [eT] at HW
    have nT : (vT1 s vk).length = s.k := by unfold vT1; simp
    have pT : Pos (vT1 s vk) := by
      intro f hf
      unfold vT1 at hf
      obtain ⟨r, hr, rfl⟩ := List.mem_map.1 hf
      have hr := List.mem_range.1 hr
      have hl : (((vk.drop 32).drop (320 * r)).take 320).length = 320 := by rw [List.length_take, List.length_drop, List.length_drop]; omega
      refine ⟨by rw [List.length_map, length_unpack, hl], fun x hx => ?_⟩
      obtain ⟨z, hz, rfl⟩ := List.mem_map.1 hx
      have := unpack_lt 10 _ z hz
      omega
    have H := HW.drew
    have H : Mine w [] W.drew [.blk p s.cells t_lay_Set, .row t_uint8 1 u (u8s mu), Res.err er 0, .box fz fun w => Pols w yz (vZ s sig), .box fh fun w => Pols w yh HH, .blk p1 [.slice yh.a yh.n yh.c] t_s_s_int, .row t_int 1 yB (i64s B), .blk p2 [.slice out.a out.n out.c] t_s_s_int, .blk b [.slice xt.a xt.n xt.c] t_s_uint8, .blk c [.int .i64 ((320 : Nat) : Int)] t_int,
      .box [w13.heap.size] (fun V => V.heap[w13.heap.size]? = some (.deferred (some []))), .box [w13.heap.size + 1] (fun V => V.heap[w13.heap.size + 1]? = o), .row t_s_int 1 out (xs.map SlV.v), .box fp fun w => Elems Nums w xs (vT1 s vk)] := H
    have hout : Pols W.drew out (vT1 s vk) := vec_pols ⟨xs, H.rowSl 12 rfl, H.box 13 rfl⟩
    have hvr : (vk.take 32).length = 32 := by rw [List.length_take]; omega
    refine H.ld_lay_Set 0 rfl (hv.h 32 rfl (by omega) fun xr hxr kr _ => H.ldL 7 rfl rfl rfl (call_of (sign_matrix_ok s (by omega) (by omega) xr (vk.take 32) _ (kr.mod0 H.mod)) ?_))
    rintro _ w20 ⟨yA, rfl, hyA⟩
    have kp : ∀ {L : List Res} {w1 w2 : World}, Mine w [] w1 L → L[7]? = some (.blk p2 [.slice out.a out.n out.c] t_s_s_int) → Mod [] w1 w2 → kept ⟨p2, 0, none⟩ 1 w1 w2 := fun H h m => kept_of m (H.blk 7 h).lt (by simp)
    obtain ⟨fA, H2⟩ := H.gotBox hyA
    have lA : (matL s.k s.l (vk.take 32)).length = s.k := length_matL _ _ _
    have hrows := matL_rows (k := s.k) (l := s.l) hvr
    refine asSl_s ⟨kp H rfl hyA.mod, call_of (sign_apply_ok yA yz (matL s.k s.l (vk.take 32)) (vZ s sig) (by omega) (by omega) (by omega) (fun r h => by rw [nZ]; exact hrows r h) pZ _ (H2.box 14 rfl) (H2.box 3 rfl)) ?_⟩
    rintro _ w21 ⟨yW, rfl, hyW⟩
    obtain ⟨fW, H3⟩ := H2.gotBox hyW
    have pW : Pos (applyL (matL s.k s.l (vk.take 32)) (vZ s sig)) := applyL_pos _ _
    have nW : (applyL (matL s.k s.l (vk.take 32)) (vZ s sig)).length = s.k := by unfold applyL; rw [List.length_map, lA]
    refine asSl_s ⟨kp H2 rfl hyW.mod, call_of (sign_scaled_ok yB out B (vT1 s vk) (by omega) pB pT _ (H3.nums 6 rfl) (hout.mod0 (hyA.mod.trans hyW.mod))) ?_⟩
    rintro _ w22 ⟨yS, rfl, hyS⟩
    obtain ⟨fS, H4⟩ := H3.gotBox hyS
    have pS : Pos (scaledL B (vT1 s vk)) := scaledL_pos _ _
    have nS : (scaledL B (vT1 s vk)).length = s.k := (length_eachL _ _).trans nT
    refine asSl_s (call_of (sign_less_ok yW yS _ _ (by omega) (by omega) pW pS _ (H4.box 15 rfl) (H4.box 16 rfl)) ?_)
    rintro _ w23 ⟨yL, rfl, hyL⟩
    have eW : vW set s vk sig = lessL (applyL (matL s.k s.l (vk.take 32)) (vZ s sig)) (scaledL B (vT1 s vk)) := by unfold vW; rw [hB]
    rw [← eW] at hyL
    have pX : Pos (vW set s vk sig) := by rw [eW]; exact lessL_pos _ _
    have nX : (vW set s vk sig).length = s.k := by rw [eW]; exact (length_eachL _ _).trans nW
    generalize vW set s vk sig = X at *
    obtain ⟨fL, H5⟩ := H4.gotBox hyL
    have h7 : w23.cell? (Addr.add ⟨p, 0, none⟩ 7) = some (.int .i64 s.g2) := by rw [ad1, (H5.blk 0 rfl).cell]; rfl
    have hh1 : w23.cell? ⟨p1, 0, none⟩ = some (.slice yh.a yh.n yh.c) := H5.cell 5 rfl rfl rfl
    refine asSl_s (call_of (sign_each_ok _ (fun r f => useF s.g2 (HH.getD r []) f) yL X (by omega) w23 (H5.box 17 rfl) fun i y w' hi m hy => ver_1_tells hX.g2 h7 hh1 (H5.box 4 rfl) lHH pX (by omega) i y w' hi m hy) ?_)
    rintro _ w24 ⟨yU, rfl, hyU⟩
    change Boxed _ _ (fun w => Pols w yU (useL s.g2 HH X)) at hyU
    obtain ⟨fU, H6⟩ := H5.gotBox hyU
    have nU : (useL s.g2 HH X).length = s.k := (length_eachL _ _).trans nX
    have bU : Below (mOf s.g2) (useL s.g2 HH X) := eachL_all (p := fun f => f.length = 256 ∧ ∀ x ∈ f, 0 ≤ x ∧ x < mOf s.g2) fun i hi => use_below hX.g2 _ _ (pX.get hi).len
    have hbl2 : (highB s.g2 (useL s.g2 HH X)).length ≤ 1000000 := by
      obtain ⟨_, _, _, _, _, hw⟩ := hiW_blen hX.g2
      rw [high_len _ fun f hf => (bU f hf).1, nU]
      have : 32 * hiW s.g2 * s.k ≤ 32 * hiW s.g2 * 8 := Nat.mul_le_mul_left _ hk8
      omega
    generalize useL s.g2 HH X = UU at *
    refine asSl_s (call_of (lay_High_ok set his yU UU (by rw [hS]; exact nU) (by rw [hS]; exact bU) _ (H6.box 18 rfl)) ?_)
    rintro _ w25 ⟨yb, rfl, hyb, m25⟩
    rw [hS] at hyb
    have H7 := H6.got m25 hyb
    generalize highB s.g2 UU = HB at *
    have hml : mu.length ≤ 1000000 := by
      rw [hmu]; unfold muL
      have := spOut_len 136 31 (spOut 136 31 vk 64 ++ ([0, BitVec.ofNat 8 note.length] ++ (note ++ m))) 64 (by omega)
      rw [show ((64 : Nat) : Int) = 64 from rfl] at this
      omega
    refine ⟨_, rfl, yb, rfl, rfl, H7.ldI 0 rfl (ad1 p 8) rfl (H7.nw fun p4 w26 H8 _ => ?_)⟩
    refine call_of (sponge_Shake256_ok _ ⟨some ⟨p4, 0, none⟩, 2, 2⟩ [mu, HB] _ (Parts.of2b (H8.blk 20 rfl) (by simp) (H8.bytes 1 rfl) (off_nil _) (H8.bytes 19 rfl) (off_nil _)) (small2b rfl hml hbl2)) ?_
    rintro _ w27 ⟨yc, rfl, hyc, m27⟩
    rw [show [mu, HB].flatten = mu ++ HB by simp, ← hvch] at hyc
    have H9 := H8.got m27 hyc
    refine asSl_s (call_of (bytes_Equal_ok yc xc VCH (sig.take s.c) w27 (H9.bytes 21 rfl) (kc.mod0 H9.mod)) ?_)
    rintro _ w28 ⟨rfl, hw28⟩
    subst hw28
    refine asB_b (ite_intro (fun hne => ?_) (fun heq => ?_))
    · have hne : ¬ VCH = sig.take s.c := by simpa using hne
      rw [if_neg fun h => hne h.2]
      refine call_of (sign_fault_ok 7 (by decide) w28) ?_
      rintro e w29 ⟨h29, m29⟩
      have H10 := H9.gotE m29 h29
      refine Mine.retD H10 10 rfl fun w30 m30 H11 => ?_
      exact ⟨H11.isErr 22 rfl, H11.mod⟩
    · have heq : VCH = sig.take s.c := by simpa using heq
      rw [if_pos ⟨hnm, heq⟩]
      refine Mine.retD H9 10 rfl fun w30 m30 H11 => ?_
      exact ⟨IsErr.zero _ _, H11.mod⟩
end Go.Proofs.YtdnhoebcomffoaaGreatDoor
end
section
set_option linter.unusedVariables false
set_option linter.unusedSimpArgs false
/- THE STATEMENTS ON SIGNING: what is signed is taken. -/
namespace Go.Proofs.YtdnhoebcomffoaaGreatDoor
open Go Go.Ev
set_option maxRecDepth 20000
set_option linter.unusedVariables false
theorem signed_len {set : Int} {F note m rnd : List B8} (h : keyC set F.length = 0) (hs : sgC set (skL set F) note m rnd = 0) : (sgL set (skL set F) note m rnd).length = sgS set := by
  have h1 := signed_taken h hs
  unfold verC at h1
  split at h1
  · split at h1
    · rename_i h2; exact h2.2.1
    · exact absurd h1 (by decide)
  · exact absurd h1 (by decide)
theorem SignSigns_ok (x xn xm xr : SlV) (l note m rnd : List B8) (w : World) (hg : Laid w) (hx : Bytes w x l) (hn : Bytes w xn note) (hm : Bytes w xm m) (hr : Bytes w xr rnd) :
    Ok Pr f_law13_SignSigns [.slice x.a x.n x.c, .slice xn.a xn.n xn.c, .slice xm.a xm.n xm.c, .slice xr.a xr.n xr.c] w fun v w' => v = .bool true ∧ Mod [] w w' := by
  refine V_law13_SignSigns_of ?_
  unfold V_law13_SignSigns
  have hxl := hx.len
  have hnl := hn.len
  have hml := hm.len
  have hrl := hr.len
  refine ite_intro (fun hc => awake13_of hg (Mine.start w)) (fun hc => ?_)
  simp only [Bool.or_eq_false_iff, decide_eq_false_iff_not] at hc
  refine call_of (law13_full_ok x l 1 (by omega) 32 (by omega) w hx) ?_
  rintro _ w1 ⟨a, rfl, ha, m1⟩
  have H := (Mine.start w).got m1 ha
  have hfl := length_fullL l 1 32
  generalize fullL l 1 32 = F at *
  refine asSl_s (call_of (sign_Keys_ok 1 a F _ (H.bytes 0 rfl)) ?_)
  rintro _ w2 ⟨y, z, er, rfl, H2⟩
  have H := H.join H2
  have hC : keyC 1 F.length = 0 := by rw [hfl]; rfl
  have hvl : (vkL 1 F).length = 1312 := by rw [(parts_made hC).1]; decide
  rw [hC] at H
  have H : Mine w [] w2 [.row t_uint8 1 a (u8s F), .row t_uint8 1 y (u8s (vkL 1 F)), .row t_uint8 1 z (u8s (skL 1 F)), Res.err er 0] := H
  refine ⟨_, rfl, y, rfl, z, rfl, rfl, (H.err 3 rfl).isNil (ite_false rfl ?_)⟩
  refine call_of (sign_Sign_ok 1 z xn xm xr _ note m rnd (by omega) (by omega) (by omega) _ (H.bytes 2 rfl) (hn.mod0 H.mod) (hm.mod0 H.mod) (hr.mod0 H.mod)) ?_
  rintro _ w3 ⟨u, ef, rfl, hu, he, hno, m3⟩
  have H := H.got2 m3 hu he hno
  refine ⟨_, rfl, u, rfl, rfl, call_of (ref13_Sign_ok 1 z xn xm xr _ note m rnd (by omega) (by omega) (by omega) _ (H.bytes 2 rfl) (hn.mod0 H.mod) (hm.mod0 H.mod) (hr.mod0 H.mod)) ?_⟩
  rintro _ w4 ⟨t, rfl, ht, m4⟩
  have H := H.got m4 ht
  have htk := fun h => signed_taken (note := note) (m := m) (rnd := rnd) hC h
  have hln := fun h => signed_len (note := note) (m := m) (rnd := rnd) hC h
  have hnil : sgC 1 (skL 1 F) note m rnd ≠ 0 → sgL 1 (skL 1 F) note m rnd = [] := fun h => by unfold sgL; rw [if_neg h]
  have e1 : sgS 1 = 2420 := rfl
  rw [e1] at hln
  generalize skL 1 F = K at *
  generalize vkL 1 F = V at *
  generalize sgC 1 K note m rnd = C at *
  generalize sgL 1 K note m rnd = S at *
  have hS : S.length ≤ 2420 := by
    by_cases h : C = 0
    · rw [hln h]; omega
    · rw [hnil h]; exact Nat.zero_le _
  refine ⟨_, rfl, t, rfl, _, rfl, rfl, join0_of fun go hgo => ?_⟩
  refine call_of (law0_SameBytes_same u t S _ (H.bytes 4 rfl) (H.bytes 6 rfl) (by omega)) ?_
  rintro _ w5 ⟨rfl, m5⟩
  have H := H.frame m5
  refine asB_b (ite_false rfl (call_of (law0_Num_err ef C _ (hg.mine H (by simp)) (H.err 5 rfl)) ?_))
  rintro _ w6 ⟨rfl, m6⟩
  have H := H.frame m6
  refine asI_i (ite_false (by simp) (hgo _ ?_))
  by_cases h0 : C = 0
  · refine ite_false (by simp [h0]) (call_of (sign_Verify_ok 1 y xn xm u V note m S (by omega) (by omega) (by omega) (by omega) _ (H.bytes 1 rfl) (hn.mod0 H.mod) (hm.mod0 H.mod) (H.bytes 4 rfl)) ?_)
    rintro e w7 ⟨h7, m7⟩
    rw [htk h0] at h7
    exact h7.1.isNil (ite_true rfl (awake13_of hg (H.frame m7)))
  · exact ite_true (by simp [h0]) (awake13_of hg H)
end Go.Proofs.YtdnhoebcomffoaaGreatDoor
end
