/- Plain lists for the sort of eight bytes. No Go here. -/
import Derived.Test.YtencnfgmgcdiiaaVs
namespace Go.Proofs.Ytencnfgmgcdiiaa
open Go.RowKit Go.PM

/-- Two neighbours exchanged. -/
def swp (l : List UInt8) (j : Nat) : List UInt8 := (l.set j (l.getD (j - 1) 0)).set (j - 1) (l.getD j 0)
@[simp] theorem swp_length (l : List UInt8) (j : Nat) : (swp l j).length = l.length := by simp [swp]
theorem vs_set (l : List UInt8) (i j : Nat) (x : UInt8) (hi : i < l.length) : vsOf (l.set i x) j = if i = j then x.toNat else vsOf l j := by
  unfold vsOf
  simp only [List.getD_eq_getElem?_getD, List.getElem?_set]
  split
  · subst_vars; simp
  · rfl
theorem vs_swp (l : List UInt8) (j a : Nat) (h0 : 0 < j) (hj : j < l.length) : vsOf (swp l j) a = if a = j - 1 then vsOf l j else if a = j then vsOf l (j - 1) else vsOf l a := by
  unfold swp
  rw [vs_set _ _ _ _ (by simp; omega), vs_set _ _ _ _ hj]
  by_cases h1 : a = j - 1
  · rw [if_pos h1.symm, if_pos h1]; rfl
  · rw [if_neg (fun h => h1 h.symm), if_neg h1]
    by_cases h2 : a = j
    · rw [if_pos h2.symm, if_pos h2]; rfl
    · rw [if_neg (fun h => h2 h.symm), if_neg h2]
theorem swp_perm (l : List UInt8) (j : Nat) (h0 : 0 < j) (hj : j < l.length) : (swp l j).Perm l := by
  have e1 : l = l.take (j - 1) ++ (l[j - 1] :: l[j] :: l.drop (j + 1)) := by
    have a := List.drop_eq_getElem_cons (l := l) (i := j - 1) (by omega)
    have b := List.drop_eq_getElem_cons (l := l) (i := j) hj
    rw [show j - 1 + 1 = j by omega] at a
    rw [← b, ← a, List.take_append_drop]
  have e2 : swp l j = l.take (j - 1) ++ (l[j] :: l[j - 1] :: l.drop (j + 1)) := by
    apply List.ext_getElem
    · simp; omega
    · intro a h1 h2
      simp only [swp, List.getElem_set]
      by_cases ha : j - 1 = a
      · subst ha
        rw [if_pos rfl, List.getElem_append_right (by simp; omega)]
        simp [List.getD_eq_getElem?_getD, hj, Nat.min_eq_left (show j - 1 ≤ l.length by omega)]
      · rw [if_neg ha]
        by_cases hb : j = a
        · subst hb
          rw [if_pos rfl, List.getElem_append_right (by simp; omega)]
          have : j - min (j - 1) l.length = 1 := by omega
          simp [List.getD_eq_getElem?_getD, List.length_take, this, show j - 1 < l.length by omega]
        · rw [if_neg hb]
          rcases Nat.lt_or_ge a (j - 1) with hc | hc
          · rw [List.getElem_append_left (by simp; omega)]; simp
          · rw [List.getElem_append_right (by simp; omega)]
            have h3 : a - (l.take (j - 1)).length = (a - (j + 1)) + 1 + 1 := by simp; omega
            simp only [h3, List.getElem_cons_succ, List.getElem_drop]
            congr 1; omega
  rw [e2]
  conv => rhs; rw [e1]
  exact (List.Perm.swap _ _ _).append_left _

/-- The first k rise. -/
def Srt (k : Nat) (S : List UInt8) : Prop := ∀ a b, a < b → b < k → vsOf S a ≤ vsOf S b
/-- The first k + 1 rise, but that at j, which is no more than those behind it. -/
def SrtBut (k j : Nat) (S : List UInt8) : Prop := (∀ a b, a < b → b ≤ k → a ≠ j → b ≠ j → vsOf S a ≤ vsOf S b) ∧ ∀ b, j < b → b ≤ k → vsOf S j ≤ vsOf S b
theorem SrtBut.start {k : Nat} {S : List UInt8} (h : Srt k S) : SrtBut k k S :=
  ⟨fun a b h1 h2 _ h4 => h a b h1 (by omega), fun b h1 h2 => by omega⟩
theorem SrtBut.stop {k j : Nat} {S : List UInt8} (h : SrtBut k j S) (hj : j ≤ k) (hs : j = 0 ∨ vsOf S (j - 1) ≤ vsOf S j) : Srt (k + 1) S := by
  intro a b h1 h2
  by_cases ha : a = j
  · subst ha; exact h.2 b h1 (by omega)
  · by_cases hb : b = j
    · subst hb
      rcases hs with hs | hs
      · omega
      · by_cases hc : a = b - 1
        · subst hc; exact hs
        · exact Nat.le_trans (h.1 a (b - 1) (by omega) (by omega) ha (by omega)) hs
    · exact h.1 a b h1 (by omega) ha hb
theorem SrtBut.step {k j : Nat} {S : List UInt8} (h : SrtBut k j S) (hj : j ≤ k) (h0 : 0 < j) (hl : j < S.length) (hs : vsOf S j < vsOf S (j - 1)) : SrtBut k (j - 1) (swp S j) := by
  constructor
  · intro a b h1 h2 h3 h4
    rw [vs_swp _ _ _ h0 hl, vs_swp _ _ _ h0 hl, if_neg h3, if_neg h4]
    by_cases ha : a = j
    · rw [if_pos ha, if_neg (by omega)]; exact h.1 _ _ (by omega) h2 (by omega) (by omega)
    · rw [if_neg ha]
      by_cases hb : b = j
      · rw [if_pos hb]; exact h.1 _ _ (by omega) (by omega) ha (by omega)
      · rw [if_neg hb]; exact h.1 _ _ h1 h2 ha hb
  · intro b h1 h2
    rw [vs_swp _ _ _ h0 hl, vs_swp _ _ _ h0 hl, if_pos rfl, if_neg (by omega)]
    by_cases hb : b = j
    · rw [if_pos hb]; omega
    · rw [if_neg hb]; exact h.2 b (by omega) h2
end Go.Proofs.Ytencnfgmgcdiiaa
