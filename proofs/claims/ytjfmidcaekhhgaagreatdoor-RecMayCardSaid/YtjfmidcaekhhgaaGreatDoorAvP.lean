/- The pure count of votes that are up. No Go here. -/
namespace Go.PM

/-- One node more: v votes, up u times of a hundred. -/
def avNext (l : List Nat) (v u : Nat) : List Nat := (List.range (l.length + v)).map fun k => l.getD k 0 * (100 - u) + (if v ≤ k then l.getD (k - v) 0 * u else 0)
/-- In how many cases so many votes are up, node by node. -/
def avCount : List (Nat × Nat) → List Nat → List Nat
  | [], l => l
  | (v, u) :: r, l => avCount r (avNext l v u)

/-- The votes of those of the first n nodes that are in a set. -/
def avOf (vs : Nat → Nat) : Nat → Nat → Nat
  | 0, _ => 0
  | n + 1, set => avOf vs n set + if set.testBit n then vs n else 0
/-- How often just those of the first n nodes are up. -/
def avCases (us : Nat → Nat) : Nat → Nat → Nat
  | 0, _ => 1
  | n + 1, set => avCases us n set * if set.testBit n then us n else 100 - us n
/-- The sum over all sets of n nodes. -/
def avSum (n : Nat) (f : Nat → Nat) : Nat := ((List.range (2 ^ n)).map f).sum
/-- In how many cases k votes of the first n nodes are up. -/
def avAt (vs us : Nat → Nat) (n k : Nat) : Nat := avSum n fun set => if avOf vs n set = k then avCases us n set else 0

theorem sum_map_add (l : List Nat) (f g : Nat → Nat) : (l.map fun x => f x + g x).sum = (l.map f).sum + (l.map g).sum := by
  induction l with
  | nil => rfl
  | cons a l ih => simp only [List.map_cons, List.sum_cons, ih]; omega
theorem sum_map_mul (l : List Nat) (f : Nat → Nat) (c : Nat) : (l.map fun x => f x * c).sum = (l.map f).sum * c := by
  induction l with
  | nil => simp
  | cons a l ih => simp only [List.map_cons, List.sum_cons, ih, Nat.add_mul]
theorem avSum_congr {n : Nat} {f g : Nat → Nat} (h : ∀ x, x < 2 ^ n → f x = g x) : avSum n f = avSum n g := by
  unfold avSum
  congr 1
  apply List.map_congr_left
  intro x hx
  exact h x (by simpa using hx)
theorem avSum_succ (n : Nat) (f : Nat → Nat) : avSum (n + 1) f = avSum n f + avSum n fun x => f (2 ^ n + x) := by
  unfold avSum
  rw [show 2 ^ (n + 1) = 2 ^ n + 2 ^ n by rw [Nat.pow_succ]; omega, List.range_add, List.map_append, List.sum_append, List.map_map]
  rfl
theorem avOf_low (vs : Nat → Nat) (n m set : Nat) (h : m ≤ n) : avOf vs m (2 ^ n + set) = avOf vs m set := by
  induction m with
  | zero => rfl
  | succ m ih =>
    unfold avOf
    rw [ih (by omega), Nat.testBit_two_pow_add_gt (by omega)]
theorem avCases_low (us : Nat → Nat) (n m set : Nat) (h : m ≤ n) : avCases us m (2 ^ n + set) = avCases us m set := by
  induction m with
  | zero => rfl
  | succ m ih =>
    unfold avCases
    rw [ih (by omega), Nat.testBit_two_pow_add_gt (by omega)]

/-- One node more, by sets. -/
theorem avAt_succ (vs us : Nat → Nat) (n k : Nat) : avAt vs us (n + 1) k = avAt vs us n k * (100 - us n) + (if vs n ≤ k then avAt vs us n (k - vs n) * us n else 0) := by
  have h1 : avSum n (fun set => if avOf vs (n + 1) set = k then avCases us (n + 1) set else 0) = avAt vs us n k * (100 - us n) := by
    unfold avAt
    unfold avSum
    rw [← sum_map_mul]
    apply congrArg
    apply List.map_congr_left
    intro x hx
    have hb : x.testBit n = false := Nat.testBit_lt_two_pow (by simpa using hx)
    simp only [avOf, avCases, hb, Bool.false_eq_true, if_false, Nat.add_zero]
    split <;> simp
  have h2 : avSum n (fun set => if avOf vs (n + 1) (2 ^ n + set) = k then avCases us (n + 1) (2 ^ n + set) else 0) = if vs n ≤ k then avAt vs us n (k - vs n) * us n else 0 := by
    have key : ∀ x, x < 2 ^ n → (if avOf vs (n + 1) (2 ^ n + x) = k then avCases us (n + 1) (2 ^ n + x) else 0) = if vs n ≤ k then (if avOf vs n x = k - vs n then avCases us n x else 0) * us n else 0 := by
      intro x hx
      have hb : (2 ^ n + x).testBit n = true := by rw [Nat.testBit_two_pow_add_eq, Nat.testBit_lt_two_pow hx]; rfl
      simp only [avOf, avCases, hb, if_true, avOf_low vs n n x (Nat.le_refl _), avCases_low us n n x (Nat.le_refl _)]
      by_cases hv : vs n ≤ k
      · rw [if_pos hv]
        by_cases he : avOf vs n x = k - vs n
        · rw [if_pos he, if_pos (by omega)]
        · rw [if_neg he, if_neg (by omega)]; simp
      · rw [if_neg hv, if_neg (by omega)]
    rw [avSum_congr key]
    by_cases hv : vs n ≤ k
    · rw [if_pos hv]
      unfold avAt avSum
      rw [← sum_map_mul]
      exact congrArg List.sum (List.map_congr_left fun x _ => if_pos hv)
    · rw [if_neg hv]
      unfold avSum
      rw [List.map_congr_left (g := fun _ => 0) (fun x _ => if_neg hv)]
      generalize List.range (2 ^ n) = l
      induction l with
      | nil => rfl
      | cons a l ih => rw [List.map_cons, List.sum_cons, ih]
  unfold avAt
  rw [avSum_succ, h1, h2]
  rfl

/-- The list of counts reads as the sums over sets. -/
def AvList (vs us : Nat → Nat) (n : Nat) (l : List Nat) : Prop := l.length = 1 + avOf vs n (2 ^ n - 1) ∧ ∀ k, l.getD k 0 = avAt vs us n k
end Go.PM
