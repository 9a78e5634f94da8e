/- Plain law: with greater chances no fewer cases have so many votes. No Go here. -/
import Derived.Test.YtencnfgmgcdiiaaAvQ
namespace Go.PM

/-- In how many cases k votes, or more, of the first n nodes are up. -/
def avT (vs us : Nat → Nat) : Nat → Nat → Nat
  | 0, k => if k = 0 then 1 else 0
  | n + 1, k => avT vs us n k * (100 - us n) + avT vs us n (k - vs n) * us n
theorem avT_sum (vs us : Nat → Nat) (n k : Nat) : (avSum n fun set => if k ≤ avOf vs n set then avCases us n set else 0) = avT vs us n k := by
  induction n generalizing k with
  | zero =>
    unfold avSum avT
    cases k <;> simp [avOf, avCases]
  | succ n ih =>
    rw [avSum_succ, avT, ← ih, ← ih]
    have h1 : avSum n (fun set => if k ≤ avOf vs (n + 1) set then avCases us (n + 1) set else 0) = (avSum n fun set => if k ≤ avOf vs n set then avCases us n set else 0) * (100 - us n) := by
      unfold avSum
      rw [← sum_map_mul]
      apply congrArg
      apply List.map_congr_left
      intro x hx
      have hb : x.testBit n = false := Nat.testBit_lt_two_pow (by simpa using hx)
      simp only [avOf, avCases, hb, Bool.false_eq_true, if_false, Nat.add_zero]
      split <;> simp
    have h2 : avSum n (fun set => if k ≤ avOf vs (n + 1) (2 ^ n + set) then avCases us (n + 1) (2 ^ n + set) else 0) = (avSum n fun set => if k - vs n ≤ avOf vs n set then avCases us n set else 0) * us n := by
      unfold avSum
      rw [← sum_map_mul]
      apply congrArg
      apply List.map_congr_left
      intro x hx
      have hx' : x < 2 ^ n := by simpa using hx
      have hb : (2 ^ n + x).testBit n = true := by rw [Nat.testBit_two_pow_add_eq, Nat.testBit_lt_two_pow hx']; rfl
      simp only [avOf, avCases, hb, if_true, avOf_low vs n n x (Nat.le_refl _), avCases_low us n n x (Nat.le_refl _)]
      by_cases hv : k ≤ avOf vs n x + vs n
      · rw [if_pos hv, if_pos (by omega)]
      · rw [if_neg hv, if_neg (by omega)]; simp
    rw [h1, h2]
theorem avT_anti (vs us : Nat → Nat) (n : Nat) : ∀ a b, a ≤ b → avT vs us n b ≤ avT vs us n a := by
  induction n with
  | zero =>
    intro a b h
    unfold avT
    split
    · rw [if_pos (by omega)]; exact Nat.le_refl _
    · exact Nat.zero_le _
  | succ n ih =>
    intro a b h
    rw [avT, avT]
    exact Nat.add_le_add (Nat.mul_le_mul_right _ (ih _ _ h)) (Nat.mul_le_mul_right _ (ih _ _ (by omega)))
theorem mix_le (a b x y u u' : Nat) (h1 : a ≤ x) (h2 : b ≤ y) (hab : a ≤ b) (hu : u ≤ u') (hu' : u' ≤ 100) : a * (100 - u) + b * u ≤ x * (100 - u') + y * u' := by
  obtain ⟨d, rfl⟩ : ∃ d, u' = u + d := ⟨u' - u, by omega⟩
  obtain ⟨c, hc⟩ : ∃ c, 100 = u + d + c := ⟨100 - (u + d), by omega⟩
  have e1 : 100 - u = d + c := by omega
  have e2 : 100 - (u + d) = c := by omega
  rw [e1, e2]
  have i1 : a * c ≤ x * c := Nat.mul_le_mul_right _ h1
  have i2 : b * u ≤ y * u := Nat.mul_le_mul_right _ h2
  have i3 : a * d ≤ y * d := Nat.mul_le_mul_right _ (Nat.le_trans hab h2)
  rw [Nat.mul_add, Nat.mul_add]
  omega
theorem avT_mono (vs us us' : Nat → Nat) (h : ∀ k, us k ≤ us' k) (h' : ∀ k, us' k ≤ 100) (n : Nat) : ∀ k, avT vs us n k ≤ avT vs us' n k := by
  induction n with
  | zero => intro k; exact Nat.le_refl _
  | succ n ih =>
    intro k
    rw [avT, avT]
    exact mix_le _ _ _ _ _ _ (ih _) (ih _) (avT_anti vs us n _ _ (by omega)) (h n) (h' n)
theorem avT_le (vs us : Nat → Nat) (h : ∀ k, us k ≤ 100) (n : Nat) : ∀ k, avT vs us n k ≤ 100 ^ n := by
  induction n with
  | zero => intro k; unfold avT; split <;> simp
  | succ n ih =>
    intro k
    rw [avT, Nat.pow_succ]
    have h1 := Nat.mul_le_mul_right (100 - us n) (ih k)
    have h2 := Nat.mul_le_mul_right (us n) (ih (k - vs n))
    have e : 100 ^ n * (100 - us n) + 100 ^ n * us n = 100 ^ n * 100 := by rw [← Nat.mul_add]; congr 1; have := h n; omega
    omega
theorem avT_all (vs us : Nat → Nat) (n : Nat) (h : ∀ k, k < n → us k = 100) (k : Nat) (hk : k ≤ avOf vs n (2 ^ n - 1)) : avT vs us n k = 100 ^ n := by
  induction n generalizing k with
  | zero =>
    have : k = 0 := by simpa [avOf] using hk
    subst this; rfl
  | succ n ih =>
    have e : avOf vs (n + 1) (2 ^ (n + 1) - 1) = avOf vs n (2 ^ n - 1) + vs n := by
      have h : 2 ^ (n + 1) - 1 = 2 ^ n + (2 ^ n - 1) := by
        have := Nat.two_pow_pos n
        rw [Nat.pow_succ]; omega
      have hb : (2 ^ n + (2 ^ n - 1)).testBit n = true := by
        have := Nat.two_pow_pos n
        rw [Nat.testBit_two_pow_add_eq, Nat.testBit_lt_two_pow (by omega)]; rfl
      rw [avOf, h, hb, if_pos rfl, avOf_low vs n n _ (Nat.le_refl _)]
    rw [e] at hk
    rw [avT, h n (by omega), ih (fun k hk => h k (by omega)) (k - vs n) (by omega), Nat.pow_succ]
    simp
theorem avT_none (vs us : Nat → Nat) (n : Nat) (h : ∀ k, k < n → us k = 0) (k : Nat) (hk : 0 < k) : avT vs us n k = 0 := by
  induction n with
  | zero => unfold avT; rw [if_neg (by omega)]
  | succ n ih => rw [avT, h n (by omega), ih (fun k hk => h k (by omega))]; simp
end Go.PM
