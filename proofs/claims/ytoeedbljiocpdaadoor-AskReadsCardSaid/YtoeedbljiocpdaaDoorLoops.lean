/- LOOPS of more slots, as they are met: words of this claim's author (printed by a small program). -/
import Derived.Test.YtoeedbljiocpdaaDoorRow
namespace Go.Ev
open Go Go.RowKit
theorem loop4_of {A1 A2 A3 A4 : Type} {mk : A1 → A2 → A3 → A4 → Fr} {body : (A1 → A2 → A3 → A4 → World → Prop) → A1 → A2 → A3 → A4 → World → Prop} {y1 : A1} {y2 : A2} {y3 : A3} {y4 : A4} {v : World} (I : A1 → A2 → A3 → A4 → World → Prop) (μ : A1 → A2 → A3 → A4 → World → Nat) (hi : I y1 y2 y3 y4 v)
    (hb : ∀ (again : A1 → A2 → A3 → A4 → World → Prop) x1 x2 x3 x4 w, I x1 x2 x3 x4 w → (∀ x1' x2' x3' x4' w', I x1' x2' x3' x4' w' → μ x1' x2' x3' x4' w' < μ x1 x2 x3 x4 w → again x1' x2' x3' x4' w') → body again x1 x2 x3 x4 w) : loop4 mk body y1 y2 y3 y4 v := by
  intro X hX
  suffices ∀ n x1 x2 x3 x4 w, μ x1 x2 x3 x4 w < n → I x1 x2 x3 x4 w → X (mk x1 x2 x3 x4) w from this _ y1 y2 y3 y4 v (Nat.lt_succ_self _) hi
  intro n
  induction n with
  | zero => intro x1 x2 x3 x4 w h; omega
  | succ n ih => intro x1 x2 x3 x4 w hn hI; exact hX x1 x2 x3 x4 w (hb _ x1 x2 x3 x4 w hI fun x1' x2' x3' x4' w' h1 h2 => ih x1' x2' x3' x4' w' (by omega) h1)
theorem loop5_of {A1 A2 A3 A4 A5 : Type} {mk : A1 → A2 → A3 → A4 → A5 → Fr} {body : (A1 → A2 → A3 → A4 → A5 → World → Prop) → A1 → A2 → A3 → A4 → A5 → World → Prop} {y1 : A1} {y2 : A2} {y3 : A3} {y4 : A4} {y5 : A5} {v : World} (I : A1 → A2 → A3 → A4 → A5 → World → Prop) (μ : A1 → A2 → A3 → A4 → A5 → World → Nat) (hi : I y1 y2 y3 y4 y5 v)
    (hb : ∀ (again : A1 → A2 → A3 → A4 → A5 → World → Prop) x1 x2 x3 x4 x5 w, I x1 x2 x3 x4 x5 w → (∀ x1' x2' x3' x4' x5' w', I x1' x2' x3' x4' x5' w' → μ x1' x2' x3' x4' x5' w' < μ x1 x2 x3 x4 x5 w → again x1' x2' x3' x4' x5' w') → body again x1 x2 x3 x4 x5 w) : loop5 mk body y1 y2 y3 y4 y5 v := by
  intro X hX
  suffices ∀ n x1 x2 x3 x4 x5 w, μ x1 x2 x3 x4 x5 w < n → I x1 x2 x3 x4 x5 w → X (mk x1 x2 x3 x4 x5) w from this _ y1 y2 y3 y4 y5 v (Nat.lt_succ_self _) hi
  intro n
  induction n with
  | zero => intro x1 x2 x3 x4 x5 w h; omega
  | succ n ih => intro x1 x2 x3 x4 x5 w hn hI; exact hX x1 x2 x3 x4 x5 w (hb _ x1 x2 x3 x4 x5 w hI fun x1' x2' x3' x4' x5' w' h1 h2 => ih x1' x2' x3' x4' x5' w' (by omega) h1)
theorem loop6_of {A1 A2 A3 A4 A5 A6 : Type} {mk : A1 → A2 → A3 → A4 → A5 → A6 → Fr} {body : (A1 → A2 → A3 → A4 → A5 → A6 → World → Prop) → A1 → A2 → A3 → A4 → A5 → A6 → World → Prop} {y1 : A1} {y2 : A2} {y3 : A3} {y4 : A4} {y5 : A5} {y6 : A6} {v : World} (I : A1 → A2 → A3 → A4 → A5 → A6 → World → Prop) (μ : A1 → A2 → A3 → A4 → A5 → A6 → World → Nat) (hi : I y1 y2 y3 y4 y5 y6 v)
    (hb : ∀ (again : A1 → A2 → A3 → A4 → A5 → A6 → World → Prop) x1 x2 x3 x4 x5 x6 w, I x1 x2 x3 x4 x5 x6 w → (∀ x1' x2' x3' x4' x5' x6' w', I x1' x2' x3' x4' x5' x6' w' → μ x1' x2' x3' x4' x5' x6' w' < μ x1 x2 x3 x4 x5 x6 w → again x1' x2' x3' x4' x5' x6' w') → body again x1 x2 x3 x4 x5 x6 w) : loop6 mk body y1 y2 y3 y4 y5 y6 v := by
  intro X hX
  suffices ∀ n x1 x2 x3 x4 x5 x6 w, μ x1 x2 x3 x4 x5 x6 w < n → I x1 x2 x3 x4 x5 x6 w → X (mk x1 x2 x3 x4 x5 x6) w from this _ y1 y2 y3 y4 y5 y6 v (Nat.lt_succ_self _) hi
  intro n
  induction n with
  | zero => intro x1 x2 x3 x4 x5 x6 w h; omega
  | succ n ih => intro x1 x2 x3 x4 x5 x6 w hn hI; exact hX x1 x2 x3 x4 x5 x6 w (hb _ x1 x2 x3 x4 x5 x6 w hI fun x1' x2' x3' x4' x5' x6' w' h1 h2 => ih x1' x2' x3' x4' x5' x6' w' (by omega) h1)
theorem loop7_of {A1 A2 A3 A4 A5 A6 A7 : Type} {mk : A1 → A2 → A3 → A4 → A5 → A6 → A7 → Fr} {body : (A1 → A2 → A3 → A4 → A5 → A6 → A7 → World → Prop) → A1 → A2 → A3 → A4 → A5 → A6 → A7 → World → Prop} {y1 : A1} {y2 : A2} {y3 : A3} {y4 : A4} {y5 : A5} {y6 : A6} {y7 : A7} {v : World} (I : A1 → A2 → A3 → A4 → A5 → A6 → A7 → World → Prop) (μ : A1 → A2 → A3 → A4 → A5 → A6 → A7 → World → Nat) (hi : I y1 y2 y3 y4 y5 y6 y7 v)
    (hb : ∀ (again : A1 → A2 → A3 → A4 → A5 → A6 → A7 → World → Prop) x1 x2 x3 x4 x5 x6 x7 w, I x1 x2 x3 x4 x5 x6 x7 w → (∀ x1' x2' x3' x4' x5' x6' x7' w', I x1' x2' x3' x4' x5' x6' x7' w' → μ x1' x2' x3' x4' x5' x6' x7' w' < μ x1 x2 x3 x4 x5 x6 x7 w → again x1' x2' x3' x4' x5' x6' x7' w') → body again x1 x2 x3 x4 x5 x6 x7 w) : loop7 mk body y1 y2 y3 y4 y5 y6 y7 v := by
  intro X hX
  suffices ∀ n x1 x2 x3 x4 x5 x6 x7 w, μ x1 x2 x3 x4 x5 x6 x7 w < n → I x1 x2 x3 x4 x5 x6 x7 w → X (mk x1 x2 x3 x4 x5 x6 x7) w from this _ y1 y2 y3 y4 y5 y6 y7 v (Nat.lt_succ_self _) hi
  intro n
  induction n with
  | zero => intro x1 x2 x3 x4 x5 x6 x7 w h; omega
  | succ n ih => intro x1 x2 x3 x4 x5 x6 x7 w hn hI; exact hX x1 x2 x3 x4 x5 x6 x7 w (hb _ x1 x2 x3 x4 x5 x6 x7 w hI fun x1' x2' x3' x4' x5' x6' x7' w' h1 h2 => ih x1' x2' x3' x4' x5' x6' x7' w' (by omega) h1)
theorem loop8_of {A1 A2 A3 A4 A5 A6 A7 A8 : Type} {mk : A1 → A2 → A3 → A4 → A5 → A6 → A7 → A8 → Fr} {body : (A1 → A2 → A3 → A4 → A5 → A6 → A7 → A8 → World → Prop) → A1 → A2 → A3 → A4 → A5 → A6 → A7 → A8 → World → Prop} {y1 : A1} {y2 : A2} {y3 : A3} {y4 : A4} {y5 : A5} {y6 : A6} {y7 : A7} {y8 : A8} {v : World} (I : A1 → A2 → A3 → A4 → A5 → A6 → A7 → A8 → World → Prop) (μ : A1 → A2 → A3 → A4 → A5 → A6 → A7 → A8 → World → Nat) (hi : I y1 y2 y3 y4 y5 y6 y7 y8 v)
    (hb : ∀ (again : A1 → A2 → A3 → A4 → A5 → A6 → A7 → A8 → World → Prop) x1 x2 x3 x4 x5 x6 x7 x8 w, I x1 x2 x3 x4 x5 x6 x7 x8 w → (∀ x1' x2' x3' x4' x5' x6' x7' x8' w', I x1' x2' x3' x4' x5' x6' x7' x8' w' → μ x1' x2' x3' x4' x5' x6' x7' x8' w' < μ x1 x2 x3 x4 x5 x6 x7 x8 w → again x1' x2' x3' x4' x5' x6' x7' x8' w') → body again x1 x2 x3 x4 x5 x6 x7 x8 w) : loop8 mk body y1 y2 y3 y4 y5 y6 y7 y8 v := by
  intro X hX
  suffices ∀ n x1 x2 x3 x4 x5 x6 x7 x8 w, μ x1 x2 x3 x4 x5 x6 x7 x8 w < n → I x1 x2 x3 x4 x5 x6 x7 x8 w → X (mk x1 x2 x3 x4 x5 x6 x7 x8) w from this _ y1 y2 y3 y4 y5 y6 y7 y8 v (Nat.lt_succ_self _) hi
  intro n
  induction n with
  | zero => intro x1 x2 x3 x4 x5 x6 x7 x8 w h; omega
  | succ n ih => intro x1 x2 x3 x4 x5 x6 x7 x8 w hn hI; exact hX x1 x2 x3 x4 x5 x6 x7 x8 w (hb _ x1 x2 x3 x4 x5 x6 x7 x8 w hI fun x1' x2' x3' x4' x5' x6' x7' x8' w' h1 h2 => ih x1' x2' x3' x4' x5' x6' x7' x8' w' (by omega) h1)
theorem loop9_of {A1 A2 A3 A4 A5 A6 A7 A8 A9 : Type} {mk : A1 → A2 → A3 → A4 → A5 → A6 → A7 → A8 → A9 → Fr} {body : (A1 → A2 → A3 → A4 → A5 → A6 → A7 → A8 → A9 → World → Prop) → A1 → A2 → A3 → A4 → A5 → A6 → A7 → A8 → A9 → World → Prop} {y1 : A1} {y2 : A2} {y3 : A3} {y4 : A4} {y5 : A5} {y6 : A6} {y7 : A7} {y8 : A8} {y9 : A9} {v : World} (I : A1 → A2 → A3 → A4 → A5 → A6 → A7 → A8 → A9 → World → Prop) (μ : A1 → A2 → A3 → A4 → A5 → A6 → A7 → A8 → A9 → World → Nat) (hi : I y1 y2 y3 y4 y5 y6 y7 y8 y9 v)
    (hb : ∀ (again : A1 → A2 → A3 → A4 → A5 → A6 → A7 → A8 → A9 → World → Prop) x1 x2 x3 x4 x5 x6 x7 x8 x9 w, I x1 x2 x3 x4 x5 x6 x7 x8 x9 w → (∀ x1' x2' x3' x4' x5' x6' x7' x8' x9' w', I x1' x2' x3' x4' x5' x6' x7' x8' x9' w' → μ x1' x2' x3' x4' x5' x6' x7' x8' x9' w' < μ x1 x2 x3 x4 x5 x6 x7 x8 x9 w → again x1' x2' x3' x4' x5' x6' x7' x8' x9' w') → body again x1 x2 x3 x4 x5 x6 x7 x8 x9 w) : loop9 mk body y1 y2 y3 y4 y5 y6 y7 y8 y9 v := by
  intro X hX
  suffices ∀ n x1 x2 x3 x4 x5 x6 x7 x8 x9 w, μ x1 x2 x3 x4 x5 x6 x7 x8 x9 w < n → I x1 x2 x3 x4 x5 x6 x7 x8 x9 w → X (mk x1 x2 x3 x4 x5 x6 x7 x8 x9) w from this _ y1 y2 y3 y4 y5 y6 y7 y8 y9 v (Nat.lt_succ_self _) hi
  intro n
  induction n with
  | zero => intro x1 x2 x3 x4 x5 x6 x7 x8 x9 w h; omega
  | succ n ih => intro x1 x2 x3 x4 x5 x6 x7 x8 x9 w hn hI; exact hX x1 x2 x3 x4 x5 x6 x7 x8 x9 w (hb _ x1 x2 x3 x4 x5 x6 x7 x8 x9 w hI fun x1' x2' x3' x4' x5' x6' x7' x8' x9' w' h1 h2 => ih x1' x2' x3' x4' x5' x6' x7' x8' x9' w' (by omega) h1)
theorem loop10_of {A1 A2 A3 A4 A5 A6 A7 A8 A9 A10 : Type} {mk : A1 → A2 → A3 → A4 → A5 → A6 → A7 → A8 → A9 → A10 → Fr} {body : (A1 → A2 → A3 → A4 → A5 → A6 → A7 → A8 → A9 → A10 → World → Prop) → A1 → A2 → A3 → A4 → A5 → A6 → A7 → A8 → A9 → A10 → World → Prop} {y1 : A1} {y2 : A2} {y3 : A3} {y4 : A4} {y5 : A5} {y6 : A6} {y7 : A7} {y8 : A8} {y9 : A9} {y10 : A10} {v : World} (I : A1 → A2 → A3 → A4 → A5 → A6 → A7 → A8 → A9 → A10 → World → Prop) (μ : A1 → A2 → A3 → A4 → A5 → A6 → A7 → A8 → A9 → A10 → World → Nat) (hi : I y1 y2 y3 y4 y5 y6 y7 y8 y9 y10 v)
    (hb : ∀ (again : A1 → A2 → A3 → A4 → A5 → A6 → A7 → A8 → A9 → A10 → World → Prop) x1 x2 x3 x4 x5 x6 x7 x8 x9 x10 w, I x1 x2 x3 x4 x5 x6 x7 x8 x9 x10 w → (∀ x1' x2' x3' x4' x5' x6' x7' x8' x9' x10' w', I x1' x2' x3' x4' x5' x6' x7' x8' x9' x10' w' → μ x1' x2' x3' x4' x5' x6' x7' x8' x9' x10' w' < μ x1 x2 x3 x4 x5 x6 x7 x8 x9 x10 w → again x1' x2' x3' x4' x5' x6' x7' x8' x9' x10' w') → body again x1 x2 x3 x4 x5 x6 x7 x8 x9 x10 w) : loop10 mk body y1 y2 y3 y4 y5 y6 y7 y8 y9 y10 v := by
  intro X hX
  suffices ∀ n x1 x2 x3 x4 x5 x6 x7 x8 x9 x10 w, μ x1 x2 x3 x4 x5 x6 x7 x8 x9 x10 w < n → I x1 x2 x3 x4 x5 x6 x7 x8 x9 x10 w → X (mk x1 x2 x3 x4 x5 x6 x7 x8 x9 x10) w from this _ y1 y2 y3 y4 y5 y6 y7 y8 y9 y10 v (Nat.lt_succ_self _) hi
  intro n
  induction n with
  | zero => intro x1 x2 x3 x4 x5 x6 x7 x8 x9 x10 w h; omega
  | succ n ih => intro x1 x2 x3 x4 x5 x6 x7 x8 x9 x10 w hn hI; exact hX x1 x2 x3 x4 x5 x6 x7 x8 x9 x10 w (hb _ x1 x2 x3 x4 x5 x6 x7 x8 x9 x10 w hI fun x1' x2' x3' x4' x5' x6' x7' x8' x9' x10' w' h1 h2 => ih x1' x2' x3' x4' x5' x6' x7' x8' x9' x10' w' (by omega) h1)
theorem loop11_of {A1 A2 A3 A4 A5 A6 A7 A8 A9 A10 A11 : Type} {mk : A1 → A2 → A3 → A4 → A5 → A6 → A7 → A8 → A9 → A10 → A11 → Fr} {body : (A1 → A2 → A3 → A4 → A5 → A6 → A7 → A8 → A9 → A10 → A11 → World → Prop) → A1 → A2 → A3 → A4 → A5 → A6 → A7 → A8 → A9 → A10 → A11 → World → Prop} {y1 : A1} {y2 : A2} {y3 : A3} {y4 : A4} {y5 : A5} {y6 : A6} {y7 : A7} {y8 : A8} {y9 : A9} {y10 : A10} {y11 : A11} {v : World} (I : A1 → A2 → A3 → A4 → A5 → A6 → A7 → A8 → A9 → A10 → A11 → World → Prop) (μ : A1 → A2 → A3 → A4 → A5 → A6 → A7 → A8 → A9 → A10 → A11 → World → Nat) (hi : I y1 y2 y3 y4 y5 y6 y7 y8 y9 y10 y11 v)
    (hb : ∀ (again : A1 → A2 → A3 → A4 → A5 → A6 → A7 → A8 → A9 → A10 → A11 → World → Prop) x1 x2 x3 x4 x5 x6 x7 x8 x9 x10 x11 w, I x1 x2 x3 x4 x5 x6 x7 x8 x9 x10 x11 w → (∀ x1' x2' x3' x4' x5' x6' x7' x8' x9' x10' x11' w', I x1' x2' x3' x4' x5' x6' x7' x8' x9' x10' x11' w' → μ x1' x2' x3' x4' x5' x6' x7' x8' x9' x10' x11' w' < μ x1 x2 x3 x4 x5 x6 x7 x8 x9 x10 x11 w → again x1' x2' x3' x4' x5' x6' x7' x8' x9' x10' x11' w') → body again x1 x2 x3 x4 x5 x6 x7 x8 x9 x10 x11 w) : loop11 mk body y1 y2 y3 y4 y5 y6 y7 y8 y9 y10 y11 v := by
  intro X hX
  suffices ∀ n x1 x2 x3 x4 x5 x6 x7 x8 x9 x10 x11 w, μ x1 x2 x3 x4 x5 x6 x7 x8 x9 x10 x11 w < n → I x1 x2 x3 x4 x5 x6 x7 x8 x9 x10 x11 w → X (mk x1 x2 x3 x4 x5 x6 x7 x8 x9 x10 x11) w from this _ y1 y2 y3 y4 y5 y6 y7 y8 y9 y10 y11 v (Nat.lt_succ_self _) hi
  intro n
  induction n with
  | zero => intro x1 x2 x3 x4 x5 x6 x7 x8 x9 x10 x11 w h; omega
  | succ n ih => intro x1 x2 x3 x4 x5 x6 x7 x8 x9 x10 x11 w hn hI; exact hX x1 x2 x3 x4 x5 x6 x7 x8 x9 x10 x11 w (hb _ x1 x2 x3 x4 x5 x6 x7 x8 x9 x10 x11 w hI fun x1' x2' x3' x4' x5' x6' x7' x8' x9' x10' x11' w' h1 h2 => ih x1' x2' x3' x4' x5' x6' x7' x8' x9' x10' x11' w' (by omega) h1)
theorem loop12_of {A1 A2 A3 A4 A5 A6 A7 A8 A9 A10 A11 A12 : Type} {mk : A1 → A2 → A3 → A4 → A5 → A6 → A7 → A8 → A9 → A10 → A11 → A12 → Fr} {body : (A1 → A2 → A3 → A4 → A5 → A6 → A7 → A8 → A9 → A10 → A11 → A12 → World → Prop) → A1 → A2 → A3 → A4 → A5 → A6 → A7 → A8 → A9 → A10 → A11 → A12 → World → Prop} {y1 : A1} {y2 : A2} {y3 : A3} {y4 : A4} {y5 : A5} {y6 : A6} {y7 : A7} {y8 : A8} {y9 : A9} {y10 : A10} {y11 : A11} {y12 : A12} {v : World} (I : A1 → A2 → A3 → A4 → A5 → A6 → A7 → A8 → A9 → A10 → A11 → A12 → World → Prop) (μ : A1 → A2 → A3 → A4 → A5 → A6 → A7 → A8 → A9 → A10 → A11 → A12 → World → Nat) (hi : I y1 y2 y3 y4 y5 y6 y7 y8 y9 y10 y11 y12 v)
    (hb : ∀ (again : A1 → A2 → A3 → A4 → A5 → A6 → A7 → A8 → A9 → A10 → A11 → A12 → World → Prop) x1 x2 x3 x4 x5 x6 x7 x8 x9 x10 x11 x12 w, I x1 x2 x3 x4 x5 x6 x7 x8 x9 x10 x11 x12 w → (∀ x1' x2' x3' x4' x5' x6' x7' x8' x9' x10' x11' x12' w', I x1' x2' x3' x4' x5' x6' x7' x8' x9' x10' x11' x12' w' → μ x1' x2' x3' x4' x5' x6' x7' x8' x9' x10' x11' x12' w' < μ x1 x2 x3 x4 x5 x6 x7 x8 x9 x10 x11 x12 w → again x1' x2' x3' x4' x5' x6' x7' x8' x9' x10' x11' x12' w') → body again x1 x2 x3 x4 x5 x6 x7 x8 x9 x10 x11 x12 w) : loop12 mk body y1 y2 y3 y4 y5 y6 y7 y8 y9 y10 y11 y12 v := by
  intro X hX
  suffices ∀ n x1 x2 x3 x4 x5 x6 x7 x8 x9 x10 x11 x12 w, μ x1 x2 x3 x4 x5 x6 x7 x8 x9 x10 x11 x12 w < n → I x1 x2 x3 x4 x5 x6 x7 x8 x9 x10 x11 x12 w → X (mk x1 x2 x3 x4 x5 x6 x7 x8 x9 x10 x11 x12) w from this _ y1 y2 y3 y4 y5 y6 y7 y8 y9 y10 y11 y12 v (Nat.lt_succ_self _) hi
  intro n
  induction n with
  | zero => intro x1 x2 x3 x4 x5 x6 x7 x8 x9 x10 x11 x12 w h; omega
  | succ n ih => intro x1 x2 x3 x4 x5 x6 x7 x8 x9 x10 x11 x12 w hn hI; exact hX x1 x2 x3 x4 x5 x6 x7 x8 x9 x10 x11 x12 w (hb _ x1 x2 x3 x4 x5 x6 x7 x8 x9 x10 x11 x12 w hI fun x1' x2' x3' x4' x5' x6' x7' x8' x9' x10' x11' x12' w' h1 h2 => ih x1' x2' x3' x4' x5' x6' x7' x8' x9' x10' x11' x12' w' (by omega) h1)
/-- a loop that counts: from lo up to hi -/
theorem loop4_up {A1 A2 A3 : Type} {mk : A1 → A2 → A3 → Int → Fr} {body : (A1 → A2 → A3 → Int → World → Prop) → A1 → A2 → A3 → Int → World → Prop} {v : World} {z1 : A1} {z2 : A2} {z3 : A3} {y : Int} (lo hi : Nat) (I : Nat → A1 → A2 → A3 → World → Prop) (hy : y = (lo : Int)) (hle : lo ≤ hi) (h0 : I lo z1 z2 z3 v)
    (step : ∀ (again : A1 → A2 → A3 → Int → World → Prop) (i : Nat) x1 x2 x3 w, lo ≤ i → i < hi → I i x1 x2 x3 w → (∀ x1' x2' x3' w', I (i + 1) x1' x2' x3' w' → again x1' x2' x3' ((i : Int) + 1) w') → body again x1 x2 x3 (i : Int) w)
    (done : ∀ (again : A1 → A2 → A3 → Int → World → Prop) x1 x2 x3 w, I hi x1 x2 x3 w → body again x1 x2 x3 (hi : Int) w) : loop4 mk body z1 z2 z3 y v := by
  subst hy
  refine loop4_of (fun x1 x2 x3 x w => ∃ i : Nat, x = (i : Int) ∧ lo ≤ i ∧ i ≤ hi ∧ I i x1 x2 x3 w) (fun _ _ _ x _ => hi - x.toNat) ⟨lo, rfl, Nat.le_refl _, hle, h0⟩ ?_
  rintro again x1 x2 x3 x w ⟨i, rfl, h1, h2, h3⟩ hag
  rcases Nat.lt_or_ge i hi with h | h
  · exact step again i x1 x2 x3 w h1 h h3 fun x1' x2' x3' w' h4 => hag x1' x2' x3' _ w' ⟨i + 1, by simp, by omega, by omega, h4⟩ (by omega)
  · have : i = hi := by omega
    subst this
    exact done again x1 x2 x3 w h3
/-- a loop that counts: from lo up to hi -/
theorem loop5_up {A1 A2 A3 A4 : Type} {mk : A1 → A2 → A3 → A4 → Int → Fr} {body : (A1 → A2 → A3 → A4 → Int → World → Prop) → A1 → A2 → A3 → A4 → Int → World → Prop} {v : World} {z1 : A1} {z2 : A2} {z3 : A3} {z4 : A4} {y : Int} (lo hi : Nat) (I : Nat → A1 → A2 → A3 → A4 → World → Prop) (hy : y = (lo : Int)) (hle : lo ≤ hi) (h0 : I lo z1 z2 z3 z4 v)
    (step : ∀ (again : A1 → A2 → A3 → A4 → Int → World → Prop) (i : Nat) x1 x2 x3 x4 w, lo ≤ i → i < hi → I i x1 x2 x3 x4 w → (∀ x1' x2' x3' x4' w', I (i + 1) x1' x2' x3' x4' w' → again x1' x2' x3' x4' ((i : Int) + 1) w') → body again x1 x2 x3 x4 (i : Int) w)
    (done : ∀ (again : A1 → A2 → A3 → A4 → Int → World → Prop) x1 x2 x3 x4 w, I hi x1 x2 x3 x4 w → body again x1 x2 x3 x4 (hi : Int) w) : loop5 mk body z1 z2 z3 z4 y v := by
  subst hy
  refine loop5_of (fun x1 x2 x3 x4 x w => ∃ i : Nat, x = (i : Int) ∧ lo ≤ i ∧ i ≤ hi ∧ I i x1 x2 x3 x4 w) (fun _ _ _ _ x _ => hi - x.toNat) ⟨lo, rfl, Nat.le_refl _, hle, h0⟩ ?_
  rintro again x1 x2 x3 x4 x w ⟨i, rfl, h1, h2, h3⟩ hag
  rcases Nat.lt_or_ge i hi with h | h
  · exact step again i x1 x2 x3 x4 w h1 h h3 fun x1' x2' x3' x4' w' h4 => hag x1' x2' x3' x4' _ w' ⟨i + 1, by simp, by omega, by omega, h4⟩ (by omega)
  · have : i = hi := by omega
    subst this
    exact done again x1 x2 x3 x4 w h3
/-- a loop that counts: from lo up to hi -/
theorem loop6_up {A1 A2 A3 A4 A5 : Type} {mk : A1 → A2 → A3 → A4 → A5 → Int → Fr} {body : (A1 → A2 → A3 → A4 → A5 → Int → World → Prop) → A1 → A2 → A3 → A4 → A5 → Int → World → Prop} {v : World} {z1 : A1} {z2 : A2} {z3 : A3} {z4 : A4} {z5 : A5} {y : Int} (lo hi : Nat) (I : Nat → A1 → A2 → A3 → A4 → A5 → World → Prop) (hy : y = (lo : Int)) (hle : lo ≤ hi) (h0 : I lo z1 z2 z3 z4 z5 v)
    (step : ∀ (again : A1 → A2 → A3 → A4 → A5 → Int → World → Prop) (i : Nat) x1 x2 x3 x4 x5 w, lo ≤ i → i < hi → I i x1 x2 x3 x4 x5 w → (∀ x1' x2' x3' x4' x5' w', I (i + 1) x1' x2' x3' x4' x5' w' → again x1' x2' x3' x4' x5' ((i : Int) + 1) w') → body again x1 x2 x3 x4 x5 (i : Int) w)
    (done : ∀ (again : A1 → A2 → A3 → A4 → A5 → Int → World → Prop) x1 x2 x3 x4 x5 w, I hi x1 x2 x3 x4 x5 w → body again x1 x2 x3 x4 x5 (hi : Int) w) : loop6 mk body z1 z2 z3 z4 z5 y v := by
  subst hy
  refine loop6_of (fun x1 x2 x3 x4 x5 x w => ∃ i : Nat, x = (i : Int) ∧ lo ≤ i ∧ i ≤ hi ∧ I i x1 x2 x3 x4 x5 w) (fun _ _ _ _ _ x _ => hi - x.toNat) ⟨lo, rfl, Nat.le_refl _, hle, h0⟩ ?_
  rintro again x1 x2 x3 x4 x5 x w ⟨i, rfl, h1, h2, h3⟩ hag
  rcases Nat.lt_or_ge i hi with h | h
  · exact step again i x1 x2 x3 x4 x5 w h1 h h3 fun x1' x2' x3' x4' x5' w' h4 => hag x1' x2' x3' x4' x5' _ w' ⟨i + 1, by simp, by omega, by omega, h4⟩ (by omega)
  · have : i = hi := by omega
    subst this
    exact done again x1 x2 x3 x4 x5 w h3
/-- a loop that counts: from lo up to hi -/
theorem loop7_up {A1 A2 A3 A4 A5 A6 : Type} {mk : A1 → A2 → A3 → A4 → A5 → A6 → Int → Fr} {body : (A1 → A2 → A3 → A4 → A5 → A6 → Int → World → Prop) → A1 → A2 → A3 → A4 → A5 → A6 → Int → World → Prop} {v : World} {z1 : A1} {z2 : A2} {z3 : A3} {z4 : A4} {z5 : A5} {z6 : A6} {y : Int} (lo hi : Nat) (I : Nat → A1 → A2 → A3 → A4 → A5 → A6 → World → Prop) (hy : y = (lo : Int)) (hle : lo ≤ hi) (h0 : I lo z1 z2 z3 z4 z5 z6 v)
    (step : ∀ (again : A1 → A2 → A3 → A4 → A5 → A6 → Int → World → Prop) (i : Nat) x1 x2 x3 x4 x5 x6 w, lo ≤ i → i < hi → I i x1 x2 x3 x4 x5 x6 w → (∀ x1' x2' x3' x4' x5' x6' w', I (i + 1) x1' x2' x3' x4' x5' x6' w' → again x1' x2' x3' x4' x5' x6' ((i : Int) + 1) w') → body again x1 x2 x3 x4 x5 x6 (i : Int) w)
    (done : ∀ (again : A1 → A2 → A3 → A4 → A5 → A6 → Int → World → Prop) x1 x2 x3 x4 x5 x6 w, I hi x1 x2 x3 x4 x5 x6 w → body again x1 x2 x3 x4 x5 x6 (hi : Int) w) : loop7 mk body z1 z2 z3 z4 z5 z6 y v := by
  subst hy
  refine loop7_of (fun x1 x2 x3 x4 x5 x6 x w => ∃ i : Nat, x = (i : Int) ∧ lo ≤ i ∧ i ≤ hi ∧ I i x1 x2 x3 x4 x5 x6 w) (fun _ _ _ _ _ _ x _ => hi - x.toNat) ⟨lo, rfl, Nat.le_refl _, hle, h0⟩ ?_
  rintro again x1 x2 x3 x4 x5 x6 x w ⟨i, rfl, h1, h2, h3⟩ hag
  rcases Nat.lt_or_ge i hi with h | h
  · exact step again i x1 x2 x3 x4 x5 x6 w h1 h h3 fun x1' x2' x3' x4' x5' x6' w' h4 => hag x1' x2' x3' x4' x5' x6' _ w' ⟨i + 1, by simp, by omega, by omega, h4⟩ (by omega)
  · have : i = hi := by omega
    subst this
    exact done again x1 x2 x3 x4 x5 x6 w h3
/-- a loop that counts: from lo up to hi -/
theorem loop8_up {A1 A2 A3 A4 A5 A6 A7 : Type} {mk : A1 → A2 → A3 → A4 → A5 → A6 → A7 → Int → Fr} {body : (A1 → A2 → A3 → A4 → A5 → A6 → A7 → Int → World → Prop) → A1 → A2 → A3 → A4 → A5 → A6 → A7 → Int → World → Prop} {v : World} {z1 : A1} {z2 : A2} {z3 : A3} {z4 : A4} {z5 : A5} {z6 : A6} {z7 : A7} {y : Int} (lo hi : Nat) (I : Nat → A1 → A2 → A3 → A4 → A5 → A6 → A7 → World → Prop) (hy : y = (lo : Int)) (hle : lo ≤ hi) (h0 : I lo z1 z2 z3 z4 z5 z6 z7 v)
    (step : ∀ (again : A1 → A2 → A3 → A4 → A5 → A6 → A7 → Int → World → Prop) (i : Nat) x1 x2 x3 x4 x5 x6 x7 w, lo ≤ i → i < hi → I i x1 x2 x3 x4 x5 x6 x7 w → (∀ x1' x2' x3' x4' x5' x6' x7' w', I (i + 1) x1' x2' x3' x4' x5' x6' x7' w' → again x1' x2' x3' x4' x5' x6' x7' ((i : Int) + 1) w') → body again x1 x2 x3 x4 x5 x6 x7 (i : Int) w)
    (done : ∀ (again : A1 → A2 → A3 → A4 → A5 → A6 → A7 → Int → World → Prop) x1 x2 x3 x4 x5 x6 x7 w, I hi x1 x2 x3 x4 x5 x6 x7 w → body again x1 x2 x3 x4 x5 x6 x7 (hi : Int) w) : loop8 mk body z1 z2 z3 z4 z5 z6 z7 y v := by
  subst hy
  refine loop8_of (fun x1 x2 x3 x4 x5 x6 x7 x w => ∃ i : Nat, x = (i : Int) ∧ lo ≤ i ∧ i ≤ hi ∧ I i x1 x2 x3 x4 x5 x6 x7 w) (fun _ _ _ _ _ _ _ x _ => hi - x.toNat) ⟨lo, rfl, Nat.le_refl _, hle, h0⟩ ?_
  rintro again x1 x2 x3 x4 x5 x6 x7 x w ⟨i, rfl, h1, h2, h3⟩ hag
  rcases Nat.lt_or_ge i hi with h | h
  · exact step again i x1 x2 x3 x4 x5 x6 x7 w h1 h h3 fun x1' x2' x3' x4' x5' x6' x7' w' h4 => hag x1' x2' x3' x4' x5' x6' x7' _ w' ⟨i + 1, by simp, by omega, by omega, h4⟩ (by omega)
  · have : i = hi := by omega
    subst this
    exact done again x1 x2 x3 x4 x5 x6 x7 w h3
/-- a loop that counts: from lo up to hi -/
theorem loop9_up {A1 A2 A3 A4 A5 A6 A7 A8 : Type} {mk : A1 → A2 → A3 → A4 → A5 → A6 → A7 → A8 → Int → Fr} {body : (A1 → A2 → A3 → A4 → A5 → A6 → A7 → A8 → Int → World → Prop) → A1 → A2 → A3 → A4 → A5 → A6 → A7 → A8 → Int → World → Prop} {v : World} {z1 : A1} {z2 : A2} {z3 : A3} {z4 : A4} {z5 : A5} {z6 : A6} {z7 : A7} {z8 : A8} {y : Int} (lo hi : Nat) (I : Nat → A1 → A2 → A3 → A4 → A5 → A6 → A7 → A8 → World → Prop) (hy : y = (lo : Int)) (hle : lo ≤ hi) (h0 : I lo z1 z2 z3 z4 z5 z6 z7 z8 v)
    (step : ∀ (again : A1 → A2 → A3 → A4 → A5 → A6 → A7 → A8 → Int → World → Prop) (i : Nat) x1 x2 x3 x4 x5 x6 x7 x8 w, lo ≤ i → i < hi → I i x1 x2 x3 x4 x5 x6 x7 x8 w → (∀ x1' x2' x3' x4' x5' x6' x7' x8' w', I (i + 1) x1' x2' x3' x4' x5' x6' x7' x8' w' → again x1' x2' x3' x4' x5' x6' x7' x8' ((i : Int) + 1) w') → body again x1 x2 x3 x4 x5 x6 x7 x8 (i : Int) w)
    (done : ∀ (again : A1 → A2 → A3 → A4 → A5 → A6 → A7 → A8 → Int → World → Prop) x1 x2 x3 x4 x5 x6 x7 x8 w, I hi x1 x2 x3 x4 x5 x6 x7 x8 w → body again x1 x2 x3 x4 x5 x6 x7 x8 (hi : Int) w) : loop9 mk body z1 z2 z3 z4 z5 z6 z7 z8 y v := by
  subst hy
  refine loop9_of (fun x1 x2 x3 x4 x5 x6 x7 x8 x w => ∃ i : Nat, x = (i : Int) ∧ lo ≤ i ∧ i ≤ hi ∧ I i x1 x2 x3 x4 x5 x6 x7 x8 w) (fun _ _ _ _ _ _ _ _ x _ => hi - x.toNat) ⟨lo, rfl, Nat.le_refl _, hle, h0⟩ ?_
  rintro again x1 x2 x3 x4 x5 x6 x7 x8 x w ⟨i, rfl, h1, h2, h3⟩ hag
  rcases Nat.lt_or_ge i hi with h | h
  · exact step again i x1 x2 x3 x4 x5 x6 x7 x8 w h1 h h3 fun x1' x2' x3' x4' x5' x6' x7' x8' w' h4 => hag x1' x2' x3' x4' x5' x6' x7' x8' _ w' ⟨i + 1, by simp, by omega, by omega, h4⟩ (by omega)
  · have : i = hi := by omega
    subst this
    exact done again x1 x2 x3 x4 x5 x6 x7 x8 w h3
theorem join3_of {A1 A2 A3 : Type} {mk : A1 → A2 → A3 → Fr} {rest : A1 → A2 → A3 → World → Prop} {first : (A1 → A2 → A3 → World → Prop) → Prop} (h : ∀ go : A1 → A2 → A3 → World → Prop, (∀ x1 x2 x3 w, rest x1 x2 x3 w → go x1 x2 x3 w) → first go) : join3 mk rest first :=
  fun _ hK => h _ fun x1 x2 x3 w hw => hK x1 x2 x3 w hw
theorem join4_of {A1 A2 A3 A4 : Type} {mk : A1 → A2 → A3 → A4 → Fr} {rest : A1 → A2 → A3 → A4 → World → Prop} {first : (A1 → A2 → A3 → A4 → World → Prop) → Prop} (h : ∀ go : A1 → A2 → A3 → A4 → World → Prop, (∀ x1 x2 x3 x4 w, rest x1 x2 x3 x4 w → go x1 x2 x3 x4 w) → first go) : join4 mk rest first :=
  fun _ hK => h _ fun x1 x2 x3 x4 w hw => hK x1 x2 x3 x4 w hw
theorem join5_of {A1 A2 A3 A4 A5 : Type} {mk : A1 → A2 → A3 → A4 → A5 → Fr} {rest : A1 → A2 → A3 → A4 → A5 → World → Prop} {first : (A1 → A2 → A3 → A4 → A5 → World → Prop) → Prop} (h : ∀ go : A1 → A2 → A3 → A4 → A5 → World → Prop, (∀ x1 x2 x3 x4 x5 w, rest x1 x2 x3 x4 x5 w → go x1 x2 x3 x4 x5 w) → first go) : join5 mk rest first :=
  fun _ hK => h _ fun x1 x2 x3 x4 x5 w hw => hK x1 x2 x3 x4 x5 w hw
theorem join6_of {A1 A2 A3 A4 A5 A6 : Type} {mk : A1 → A2 → A3 → A4 → A5 → A6 → Fr} {rest : A1 → A2 → A3 → A4 → A5 → A6 → World → Prop} {first : (A1 → A2 → A3 → A4 → A5 → A6 → World → Prop) → Prop} (h : ∀ go : A1 → A2 → A3 → A4 → A5 → A6 → World → Prop, (∀ x1 x2 x3 x4 x5 x6 w, rest x1 x2 x3 x4 x5 x6 w → go x1 x2 x3 x4 x5 x6 w) → first go) : join6 mk rest first :=
  fun _ hK => h _ fun x1 x2 x3 x4 x5 x6 w hw => hK x1 x2 x3 x4 x5 x6 w hw
theorem join7_of {A1 A2 A3 A4 A5 A6 A7 : Type} {mk : A1 → A2 → A3 → A4 → A5 → A6 → A7 → Fr} {rest : A1 → A2 → A3 → A4 → A5 → A6 → A7 → World → Prop} {first : (A1 → A2 → A3 → A4 → A5 → A6 → A7 → World → Prop) → Prop} (h : ∀ go : A1 → A2 → A3 → A4 → A5 → A6 → A7 → World → Prop, (∀ x1 x2 x3 x4 x5 x6 x7 w, rest x1 x2 x3 x4 x5 x6 x7 w → go x1 x2 x3 x4 x5 x6 x7 w) → first go) : join7 mk rest first :=
  fun _ hK => h _ fun x1 x2 x3 x4 x5 x6 x7 w hw => hK x1 x2 x3 x4 x5 x6 x7 w hw
theorem join8_of {A1 A2 A3 A4 A5 A6 A7 A8 : Type} {mk : A1 → A2 → A3 → A4 → A5 → A6 → A7 → A8 → Fr} {rest : A1 → A2 → A3 → A4 → A5 → A6 → A7 → A8 → World → Prop} {first : (A1 → A2 → A3 → A4 → A5 → A6 → A7 → A8 → World → Prop) → Prop} (h : ∀ go : A1 → A2 → A3 → A4 → A5 → A6 → A7 → A8 → World → Prop, (∀ x1 x2 x3 x4 x5 x6 x7 x8 w, rest x1 x2 x3 x4 x5 x6 x7 x8 w → go x1 x2 x3 x4 x5 x6 x7 x8 w) → first go) : join8 mk rest first :=
  fun _ hK => h _ fun x1 x2 x3 x4 x5 x6 x7 x8 w hw => hK x1 x2 x3 x4 x5 x6 x7 x8 w hw
theorem join9_of {A1 A2 A3 A4 A5 A6 A7 A8 A9 : Type} {mk : A1 → A2 → A3 → A4 → A5 → A6 → A7 → A8 → A9 → Fr} {rest : A1 → A2 → A3 → A4 → A5 → A6 → A7 → A8 → A9 → World → Prop} {first : (A1 → A2 → A3 → A4 → A5 → A6 → A7 → A8 → A9 → World → Prop) → Prop} (h : ∀ go : A1 → A2 → A3 → A4 → A5 → A6 → A7 → A8 → A9 → World → Prop, (∀ x1 x2 x3 x4 x5 x6 x7 x8 x9 w, rest x1 x2 x3 x4 x5 x6 x7 x8 x9 w → go x1 x2 x3 x4 x5 x6 x7 x8 x9 w) → first go) : join9 mk rest first :=
  fun _ hK => h _ fun x1 x2 x3 x4 x5 x6 x7 x8 x9 w hw => hK x1 x2 x3 x4 x5 x6 x7 x8 x9 w hw
end Go.Ev
