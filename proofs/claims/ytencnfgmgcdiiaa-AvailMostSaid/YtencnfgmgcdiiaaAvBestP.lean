/- Plain law: the best configuration. No Go here. -/
import Derived.Test.YtencnfgmgcdiiaaAvRise
namespace Go.Proofs.Ytencnfgmgcdiiaa
open Go.RowKit Go.PM

/-- The first best of f over s, s + 1, ..: where it is (0: nowhere yet), and what it is worth. -/
def bsTo (f : Nat → Nat) (s : Nat) : Nat → Nat × Nat
  | 0 => (0, 0)
  | n + 1 => if (bsTo f s n).1 = 0 ∨ (bsTo f s n).2 < f (s + n) then (s + n, f (s + n)) else bsTo f s n
theorem bsTo_pos (f : Nat → Nat) (s n : Nat) (hs : 0 < s) (hn : 0 < n) : (bsTo f s n).1 ≠ 0 := by
  cases n with
  | zero => omega
  | succ n =>
    rw [bsTo]
    split
    · show s + n ≠ 0; omega
    · rename_i h; intro h0; exact h (.inl h0)
theorem bsTo_in (f : Nat → Nat) (s n : Nat) : (bsTo f s n).1 = 0 ∨ s ≤ (bsTo f s n).1 ∧ (bsTo f s n).1 < s + n ∧ (bsTo f s n).2 = f (bsTo f s n).1 := by
  induction n with
  | zero => exact .inl rfl
  | succ n ih =>
    rw [bsTo]
    split
    · exact .inr ⟨by show s ≤ s + n; omega, by show s + n < s + (n + 1); omega, rfl⟩
    · rcases ih with h | ⟨h1, h2, h3⟩
      · exact .inl h
      · exact .inr ⟨h1, by omega, h3⟩
theorem bsTo_max (f : Nat → Nat) (s n k : Nat) (hs : 0 < s) (hk : k < n) : f (s + k) ≤ (bsTo f s n).2 := by
  induction n with
  | zero => omega
  | succ n ih =>
    rw [bsTo]
    by_cases e : k = n
    · subst e
      split
      · exact Nat.le_refl _
      · rename_i h; have := not_or.1 h; omega
    · have := ih (by omega)
      split
      · rename_i h
        rcases h with h | h
        · exfalso
          exact absurd h (bsTo_pos f s n hs (by omega))
        · show f (s + k) ≤ f (s + n); omega
      · exact this

/-- What r and w are worth, by T. -/
def wv (T : Nat → Nat) (share r w : Nat) : Nat := T r / 100 * share + T w / 100 * (100 - share)
theorem wv_anti {T : Nat → Nat} (hT : ∀ a b, a ≤ b → T b ≤ T a) (share : Nat) {a b : Nat} (w : Nat) (h : a ≤ b) : wv T share b w ≤ wv T share a w := by
  unfold wv
  exact Nat.add_le_add_right (Nat.mul_le_mul_right _ (Nat.div_le_div_right (hT a b h))) _
theorem wv_le {T : Nat → Nat} (hT : ∀ k, T k ≤ 10000000000000000) (share r w : Nat) (hs : share ≤ 100) : T r / 100 * share ≤ 10000000000000000 ∧ T w / 100 * (100 - share) ≤ 10000000000000000 ∧ wv T share r w ≤ 20000000000000000 := by
  have h1 : T r / 100 ≤ 100000000000000 := by have := hT r; omega
  have h2 : T w / 100 ≤ 100000000000000 := by have := hT w; omega
  have h3 := Nat.mul_le_mul h1 hs
  have h4 := Nat.mul_le_mul h2 (show 100 - share ≤ 100 by omega)
  unfold wv
  omega
/-- The program's worth with a w. -/
def pf (T : Nat → Nat) (share A w : Nat) : Nat := wv T share (A - w + 1) w

/-- The reference's state. -/
structure RbSt where
  is : Bool
  r : Nat
  w : Nat
  most : Nat
def rbStep (ok : Nat → Nat → Bool) (g : Nat → Nat → Nat) (w r : Nat) (p : RbSt) : RbSt := if ok r w = true ∧ (p.is = false ∨ p.most < g r w) then ⟨true, r, w, g r w⟩ else p
def rbIn (ok : Nat → Nat → Bool) (g : Nat → Nat → Nat) (w : Nat) (st : RbSt) : Nat → RbSt
  | 0 => st
  | k + 1 => rbStep ok g w (k + 1) (rbIn ok g w st k)
def rbTo (ok : Nat → Nat → Bool) (g : Nat → Nat → Nat) (R : Nat) : Nat → RbSt
  | 0 => ⟨false, 0, 0, 0⟩
  | k + 1 => rbIn ok g (k + 1) (rbTo ok g R k) R
theorem rbIn_no (ok : Nat → Nat → Bool) (g : Nat → Nat → Nat) (w : Nat) (st : RbSt) (h : ∀ r, ok r w = false) (k : Nat) : rbIn ok g w st k = st := by
  induction k with
  | zero => rfl
  | succ k ih => rw [rbIn, ih, rbStep, h, if_neg (by simp)]
theorem rbTo_no (ok : Nat → Nat → Bool) (g : Nat → Nat → Nat) (R : Nat) (h : ∀ r w, ok r w = false) (k : Nat) : rbTo ok g R k = ⟨false, 0, 0, 0⟩ := by
  induction k with
  | zero => rfl
  | succ k ih => rw [rbTo, ih, rbIn_no _ _ _ _ (fun r => h r _)]
/-- A configuration of these votes may be. -/
def okB (A r w : Nat) : Bool := decide (1 ≤ r ∧ 1 ≤ w ∧ r ≤ A ∧ w ≤ A ∧ A < r + w ∧ A < 2 * w)
theorem rbIn_at (A : Nat) (T : Nat → Nat) (hT : ∀ a b, a ≤ b → T b ≤ T a) (share w : Nat) (hw : A / 2 + 1 ≤ w) (hwA : w ≤ A) (st : RbSt) (k : Nat) (hk : k ≤ A) :
    rbIn (okB A) (wv T share) w st k = if k < A - w + 1 then st else rbStep (okB A) (wv T share) w (A - w + 1) st := by
  induction k with
  | zero => rw [if_pos (by omega)]; rfl
  | succ k ih =>
    rw [rbIn, ih (by omega)]
    by_cases h1 : k + 1 < A - w + 1
    · rw [if_pos (by omega), if_pos h1, rbStep]
      rw [if_neg]
      rintro ⟨h, _⟩
      have := of_decide_eq_true h
      omega
    · by_cases h2 : k + 1 = A - w + 1
      · rw [if_pos (by omega), if_neg h1, h2]
      · rw [if_neg (by omega), if_neg h1]
        have hg := wv_anti hT share w (show A - w + 1 ≤ k + 1 by omega)
        have hok : okB A (A - w + 1) w = true := decide_eq_true (by omega)
        rw [rbStep, if_neg]
        rintro ⟨_, h⟩
        rw [rbStep] at h
        by_cases hc : okB A (A - w + 1) w = true ∧ (st.is = false ∨ st.most < wv T share (A - w + 1) w)
        · rw [if_pos hc] at h
          rcases h with h | h
          · cases h
          · simp only at h; omega
        · rw [if_neg hc] at h
          rcases h with h | h
          · exact hc ⟨hok, .inl h⟩
          · exact hc ⟨hok, .inr (by omega)⟩
/-- The program's state as the reference's. -/
def encB (A : Nat) (p : Nat × Nat) : RbSt := ⟨true, A - p.1 + 1, p.1, p.2⟩
theorem rbTo_eq (A : Nat) (T : Nat → Nat) (hT : ∀ a b, a ≤ b → T b ≤ T a) (share : Nat) (k : Nat) (hk : k ≤ A) :
    rbTo (okB A) (wv T share) A k = if k < A / 2 + 1 then ⟨false, 0, 0, 0⟩ else encB A (bsTo (pf T share A) (A / 2 + 1) (k - A / 2)) := by
  induction k with
  | zero => rw [if_pos (by omega)]; rfl
  | succ k ih =>
    rw [rbTo, ih (by omega)]
    by_cases h1 : k + 1 < A / 2 + 1
    · rw [if_pos (by omega), if_pos h1, rbIn_no]
      intro r
      exact decide_eq_false (by omega)
    · rw [if_neg h1, rbIn_at A T hT share (k + 1) (by omega) hk _ A (Nat.le_refl _), if_neg (by omega)]
      have hok : okB A (A - (k + 1) + 1) (k + 1) = true := decide_eq_true (by omega)
      have e : k + 1 - A / 2 = (k - A / 2) + 1 := by omega
      rw [e, bsTo, rbStep, hok]
      have e2 : A / 2 + 1 + (k - A / 2) = k + 1 := by omega
      rw [e2]
      by_cases h2 : k < A / 2 + 1
      · rw [if_pos h2, if_pos ⟨rfl, .inl rfl⟩]
        have e3 : k - A / 2 = 0 := by omega
        rw [e3, if_pos (.inl rfl)]
        rfl
      · rw [if_neg h2]
        have hp := bsTo_pos (pf T share A) (A / 2 + 1) (k - A / 2) (by omega) (by omega)
        by_cases h3 : (bsTo (pf T share A) (A / 2 + 1) (k - A / 2)).2 < pf T share A (k + 1)
        · rw [if_pos ⟨rfl, .inr h3⟩, if_pos (.inr h3)]; rfl
        · rw [if_neg, if_neg]
          · rintro (h | h)
            · exact hp h
            · exact h3 h
          · rintro ⟨_, h | h⟩
            · cases h
            · exact h3 h

/-- What Best finds: its W, if all votes are more than none. -/
def bestW (T : Nat → Nat) (share A : Nat) : Nat := (bsTo (pf T share A) (A / 2 + 1) (A - A / 2)).1
theorem bestW_in (T : Nat → Nat) (share A : Nat) (hA : 0 < A) : A / 2 + 1 ≤ bestW T share A ∧ bestW T share A ≤ A := by
  have h := bsTo_in (pf T share A) (A / 2 + 1) (A - A / 2)
  have hp := bsTo_pos (pf T share A) (A / 2 + 1) (A - A / 2) (by omega) (by omega)
  unfold bestW
  rcases h with h | h
  · exact absurd h hp
  · omega
/-- No other one is worth more. -/
theorem bestW_max (T : Nat → Nat) (hT : ∀ a b, a ≤ b → T b ≤ T a) (share A r w : Nat) (h : okB A r w = true) : wv T share r w ≤ wv T share (A - bestW T share A + 1) (bestW T share A) := by
  have h := of_decide_eq_true h
  have h1 := bsTo_max (pf T share A) (A / 2 + 1) (A - A / 2) (w - (A / 2 + 1)) (by omega) (by omega)
  rw [show A / 2 + 1 + (w - (A / 2 + 1)) = w by omega] at h1
  have h2 := bsTo_in (pf T share A) (A / 2 + 1) (A - A / 2)
  have hp := bsTo_pos (pf T share A) (A / 2 + 1) (A - A / 2) (by omega) (by omega)
  rcases h2 with h2 | ⟨_, _, h2⟩
  · exact absurd h2 hp
  · rw [h2] at h1
    refine Nat.le_trans (wv_anti hT share w (show A - w + 1 ≤ r by omega)) ?_
    exact h1
end Go.Proofs.Ytencnfgmgcdiiaa
