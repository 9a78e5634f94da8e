/- Plain lists for the sort of a window [lo, ..). No Go here. -/
import Derived.Test.YtencnfgmgcdiiaaAvT
namespace Go.Proofs.Ytencnfgmgcdiiaa
open Go.RowKit Go.PM

/-- The window [lo, k) rises. -/
def SrtW (lo k : Nat) (S : List UInt8) : Prop := ∀ a b, lo ≤ a → a < b → b < k → vsOf S a ≤ vsOf S b
def SrtBW (lo k j : Nat) (S : List UInt8) : Prop := (∀ a b, lo ≤ a → a < b → b ≤ k → a ≠ j → b ≠ j → vsOf S a ≤ vsOf S b) ∧ ∀ b, j < b → b ≤ k → vsOf S j ≤ vsOf S b
/-- Outside [lo, hi) nothing has changed. -/
def Out (lo hi : Nat) (l S : List UInt8) : Prop := ∀ a, a < lo ∨ hi ≤ a → vsOf S a = vsOf l a
theorem Out.refl (lo hi : Nat) (l : List UInt8) : Out lo hi l l := fun _ _ => rfl
theorem Out.trans {lo hi : Nat} {l S R : List UInt8} (h : Out lo hi l S) (k : Out lo hi S R) : Out lo hi l R := fun a ha => (k a ha).trans (h a ha)
theorem Out.swp {lo hi j : Nat} {S : List UInt8} (h0 : lo < j) (hj : j < hi) (hl : j < S.length) : Out lo hi S (swp S j) := fun a ha => by
  rw [vs_swp _ _ _ (by omega) hl, if_neg (by omega), if_neg (by omega)]
theorem SrtBW.start {lo k : Nat} {S : List UInt8} (h : SrtW lo k S) : SrtBW lo k k S :=
  ⟨fun a b h0 h1 h2 _ h4 => h a b h0 h1 (by omega), fun b h1 h2 => by omega⟩
theorem SrtBW.stop {lo k j : Nat} {S : List UInt8} (h : SrtBW lo k j S) (_hj : j ≤ k) (hs : j = lo ∨ vsOf S (j - 1) ≤ vsOf S j) : SrtW lo (k + 1) S := by
  intro a b h0 h1 h2
  by_cases ha : a = j
  · subst ha; exact h.2 b h1 (by omega)
  · by_cases hb : b = j
    · subst hb
      rcases hs with hs | hs
      · omega
      · by_cases hc : a = b - 1
        · subst hc; exact hs
        · exact Nat.le_trans (h.1 a (b - 1) h0 (by omega) (by omega) ha (by omega)) hs
    · exact h.1 a b h0 h1 (by omega) ha hb
theorem SrtBW.step {lo k j : Nat} {S : List UInt8} (h : SrtBW lo k j S) (hj : j ≤ k) (h0 : lo < j) (hl : j < S.length) (hs : vsOf S j < vsOf S (j - 1)) : SrtBW lo k (j - 1) (swp S j) := by
  constructor
  · intro a b hlo h1 h2 h3 h4
    rw [vs_swp _ _ _ (by omega) hl, vs_swp _ _ _ (by omega) hl, if_neg h3, if_neg h4]
    by_cases ha : a = j
    · rw [if_pos ha, if_neg (by omega)]; exact h.1 _ _ (by omega) (by omega) h2 (by omega) (by omega)
    · rw [if_neg ha]
      by_cases hb : b = j
      · rw [if_pos hb]; exact h.1 _ _ hlo (by omega) (by omega) (by omega) (by omega)
      · rw [if_neg hb]; exact h.1 _ _ hlo h1 h2 ha hb
  · intro b h1 h2
    rw [vs_swp _ _ _ (by omega) hl, vs_swp _ _ _ (by omega) hl, if_pos rfl, if_neg (by omega)]
    by_cases hb : b = j
    · rw [if_pos hb]; omega
    · rw [if_neg hb]; exact h.2 b (by omega) h2
end Go.Proofs.Ytencnfgmgcdiiaa
