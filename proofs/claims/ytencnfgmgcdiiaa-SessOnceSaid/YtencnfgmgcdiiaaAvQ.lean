/- Plain lists for the count of votes, step by step. No Go here. -/
import Derived.Test.YtencnfgmgcdiiaaAvP
namespace Go.PM

/-- The new list when k of the old one's places are done. -/
def avPart (l : List Nat) (v u k : Nat) : List Nat := (List.range (l.length + v)).map fun j => (if j < k then l.getD j 0 * (100 - u) else 0) + (if v ≤ j ∧ j - v < k then l.getD (j - v) 0 * u else 0)
@[simp] theorem avPart_length (l : List Nat) (v u k : Nat) : (avPart l v u k).length = l.length + v := by simp [avPart]
theorem avPart_get (l : List Nat) (v u k j : Nat) (h : j < l.length + v) : (avPart l v u k).getD j 0 = (if j < k then l.getD j 0 * (100 - u) else 0) + (if v ≤ j ∧ j - v < k then l.getD (j - v) 0 * u else 0) := by
  simp [avPart, List.getD_eq_getElem?_getD, h]
theorem avPart_zero (l : List Nat) (v u : Nat) : avPart l v u 0 = List.replicate (l.length + v) 0 := by
  apply List.ext_getElem
  · simp
  · intro j h1 h2
    simp [avPart]
theorem avPart_all (l : List Nat) (v u : Nat) : avPart l v u l.length = avNext l v u := by
  unfold avPart avNext
  apply List.map_congr_left
  intro j hj
  have hj : j < l.length + v := by simpa using hj
  congr 1
  · split
    · rfl
    · rw [List.getD_eq_getElem?_getD, List.getElem?_eq_none (by omega)]; simp
  · by_cases h : v ≤ j
    · rw [if_pos h, if_pos ⟨h, by omega⟩]
    · rw [if_neg h, if_neg (by omega)]
/-- The first store of a round. -/
def avX1 (l : List Nat) (v u k : Nat) : Nat := (avPart l v u k).getD k 0 + l.getD k 0 * (100 - u)
def avMid (l : List Nat) (v u k : Nat) : List Nat := (avPart l v u k).set k (avX1 l v u k)
def avX2 (l : List Nat) (v u k : Nat) : Nat := (avMid l v u k).getD (k + v) 0 + l.getD k 0 * u
@[simp] theorem avMid_length (l : List Nat) (v u k : Nat) : (avMid l v u k).length = l.length + v := by simp [avMid]
theorem getD_set (l : List Nat) (i j x : Nat) (hi : i < l.length) : (l.set i x).getD j 0 = if i = j then x else l.getD j 0 := by
  simp only [List.getD_eq_getElem?_getD, List.getElem?_set]
  split
  · subst_vars; simp
  · rfl
theorem avPart_succ (l : List Nat) (v u k : Nat) (hk : k < l.length) : avPart l v u (k + 1) = (avMid l v u k).set (k + v) (avX2 l v u k) := by
  have key : ∀ j, j < l.length + v → (avPart l v u (k + 1)).getD j 0 = ((avMid l v u k).set (k + v) (avX2 l v u k)).getD j 0 := by
    intro j hj
    rw [getD_set _ _ _ _ (by rw [avMid_length]; omega), avPart_get _ _ _ _ _ hj]
    have hm : ∀ j, j < l.length + v → (avMid l v u k).getD j 0 = if k = j then avX1 l v u k else (avPart l v u k).getD j 0 := fun j _ => getD_set _ _ _ _ (by rw [avPart_length]; omega)
    by_cases h1 : k + v = j
    · subst h1
      rw [if_pos rfl, avX2, hm _ hj]
      rw [show k + v - v = k by omega]
      rw [if_pos (show v ≤ k + v ∧ k < k + 1 from ⟨by omega, by omega⟩)]
      by_cases hv : v = 0
      · subst hv
        rw [if_pos (by omega), if_pos (by omega), avX1, avPart_get _ _ _ _ _ (by omega)]
        simp
      · rw [if_neg (by omega), if_neg (by omega), avPart_get _ _ _ _ _ hj, if_neg (by omega), if_neg (by omega)]
    · rw [if_neg h1, hm _ hj]
      by_cases h2 : k = j
      · subst h2
        rw [if_pos (by omega), if_pos rfl, avX1, avPart_get _ _ _ _ _ hj, if_neg (Nat.lt_irrefl k)]
        have e : (v ≤ k ∧ k - v < k + 1) ↔ (v ≤ k ∧ k - v < k) := by omega
        simp only [e]
        omega
      · rw [if_neg h2, avPart_get _ _ _ _ _ hj]
        have e : (v ≤ j ∧ j - v < k + 1) ↔ (v ≤ j ∧ j - v < k) := by omega
        have e2 : (j < k + 1) ↔ (j < k) := by omega
        simp only [e, e2]
  apply List.ext_getElem
  · simp
  · intro j h1 h2
    have := key j (by simpa using h1)
    simpa only [List.getD_eq_getElem?_getD, List.getElem?_eq_getElem h1, List.getElem?_eq_getElem h2, Option.getD_some] using this

theorem sum_getD (l : List Nat) (m : Nat) : ((List.range (l.length + m)).map fun j => l.getD j 0).sum = l.sum := by
  induction l with
  | nil =>
    simp only [List.length_nil, Nat.zero_add, List.sum_nil]
    generalize List.range m = r
    induction r with
    | nil => rfl
    | cons a r ih => rw [List.map_cons, List.sum_cons, ih]; simp
  | cons a l ih =>
    rw [List.length_cons, show l.length + 1 + m = (l.length + m) + 1 by omega, List.range_succ_eq_map, List.map_cons, List.map_map, List.sum_cons, List.sum_cons, ← ih]
    rfl
theorem sum_shift (l : List Nat) (v : Nat) : ((List.range (l.length + v)).map fun j => if v ≤ j then l.getD (j - v) 0 else 0).sum = l.sum := by
  rw [Nat.add_comm, List.range_add, List.map_append, List.sum_append, List.map_map]
  have h1 : ((List.range v).map fun j => if v ≤ j then l.getD (j - v) 0 else 0).sum = 0 := by
    rw [List.map_congr_left (g := fun _ => 0) (fun j hj => if_neg (by simpa using hj))]
    generalize List.range v = r
    induction r with
    | nil => rfl
    | cons a r ih => rw [List.map_cons, List.sum_cons, ih]
  rw [h1, Nat.zero_add]
  have h2 := sum_getD l 0
  rw [Nat.add_zero] at h2
  rw [← h2]
  apply congrArg
  apply List.map_congr_left
  intro j _
  show (if v ≤ v + j then l.getD (v + j - v) 0 else 0) = _
  rw [if_pos (by omega), show v + j - v = j by omega]
theorem avNext_sum (l : List Nat) (v u : Nat) (hu : u ≤ 100) : (avNext l v u).sum = l.sum * 100 := by
  unfold avNext
  rw [sum_map_add, sum_map_mul, sum_getD]
  have : ((List.range (l.length + v)).map fun k => if v ≤ k then l.getD (k - v) 0 * u else 0) = (List.range (l.length + v)).map fun k => (if v ≤ k then l.getD (k - v) 0 else 0) * u := by
    apply List.map_congr_left
    intro j _
    split <;> simp
  rw [this, sum_map_mul, sum_shift, ← Nat.mul_add]
  congr 1
  omega
theorem getD_le_sum (l : List Nat) (j : Nat) : l.getD j 0 ≤ l.sum := by
  induction l generalizing j with
  | nil => simp
  | cons a l ih =>
    cases j with
    | zero => simp
    | succ j => have := ih j; rw [List.sum_cons]; simpa using Nat.le_trans this (Nat.le_add_left _ _)
theorem avX1_le (l : List Nat) (v u k : Nat) (hk : k < l.length) (hu : u ≤ 100) : avX1 l v u k ≤ l.sum * 200 := by
  have h1 := Nat.mul_le_mul (getD_le_sum l k) (show 100 - u ≤ 100 by omega)
  have h2 := Nat.mul_le_mul (getD_le_sum l (k - v)) hu
  rw [avX1, avPart_get _ _ _ _ _ (by omega), if_neg (by omega)]
  split <;> omega
theorem avX2_le (l : List Nat) (v u k : Nat) (hk : k < l.length) (hu : u ≤ 100) : avX2 l v u k ≤ l.sum * 300 := by
  have h1 := Nat.mul_le_mul (getD_le_sum l k) hu
  have h2 := Nat.mul_le_mul (getD_le_sum l (k + v)) (show 100 - u ≤ 100 by omega)
  have h3 := avX1_le l v u k hk hu
  rw [avX2, avMid, getD_set _ _ _ _ (by rw [avPart_length]; omega)]
  split
  · omega
  · rw [avPart_get _ _ _ _ _ (by omega), if_neg (by omega), if_neg (by omega)]
    omega

/-- The list of counts behind n nodes. -/
def avCnt (vs us : Nat → Nat) : Nat → List Nat
  | 0 => [1]
  | n + 1 => avNext (avCnt vs us n) (vs n) (us n)
theorem avCnt_sum (vs us : Nat → Nat) (h : ∀ n, us n ≤ 100) (n : Nat) : (avCnt vs us n).sum = 100 ^ n := by
  induction n with
  | zero => rfl
  | succ n ih => rw [avCnt, avNext_sum _ _ _ (h n), ih, Nat.pow_succ]
theorem avCnt_length (vs us : Nat → Nat) (n : Nat) : (avCnt vs us n).length = 1 + avOf vs n (2 ^ n - 1) := by
  induction n with
  | zero => rfl
  | succ n ih =>
    have h : 2 ^ (n + 1) - 1 = 2 ^ n + (2 ^ n - 1) := by
      have := Nat.two_pow_pos n
      rw [Nat.pow_succ]; omega
    have hb : (2 ^ n + (2 ^ n - 1)).testBit n = true := by
      have := Nat.two_pow_pos n
      rw [Nat.testBit_two_pow_add_eq, Nat.testBit_lt_two_pow (by omega)]; rfl
    rw [avCnt, avNext, List.length_map, List.length_range, ih, avOf, h, hb, if_pos rfl, avOf_low vs n n _ (Nat.le_refl _)]
    omega
theorem avNext_get (l : List Nat) (v u k : Nat) : (avNext l v u).getD k 0 = l.getD k 0 * (100 - u) + (if v ≤ k then l.getD (k - v) 0 * u else 0) := by
  by_cases h : k < l.length + v
  · simp [avNext, List.getD_eq_getElem?_getD, h]
  · have e1 : (avNext l v u).getD k 0 = 0 := by
      rw [List.getD_eq_getElem?_getD, List.getElem?_eq_none (by simp [avNext]; omega)]; rfl
    have e2 : l.getD k 0 = 0 := by
      rw [List.getD_eq_getElem?_getD, List.getElem?_eq_none (by omega)]; rfl
    have e3 : l.getD (k - v) 0 = 0 := by
      rw [List.getD_eq_getElem?_getD, List.getElem?_eq_none (by omega)]; rfl
    rw [e1, e2, e3]; simp
theorem avCnt_get (vs us : Nat → Nat) (n k : Nat) : (avCnt vs us n).getD k 0 = avAt vs us n k := by
  induction n generalizing k with
  | zero =>
    unfold avAt avSum
    cases k with
    | zero => simp [avCnt, avOf, avCases]
    | succ k => simp [avCnt, avOf]
  | succ n ih => rw [avCnt, avNext_get, ih, ih, avAt_succ]

theorem sum_ite_eq (l : List Nat) (f g : Nat → Nat) (want top : Nat) (hf : ∀ x, x ∈ l → f x < want + top) :
    (((List.range top).map fun j => (l.map fun x => if f x = want + j then g x else 0).sum).sum) = (l.map fun x => if want ≤ f x then g x else 0).sum := by
  induction l with
  | nil =>
    simp only [List.map_nil, List.sum_nil]
    generalize List.range top = r
    induction r with
    | nil => rfl
    | cons a r ih => rw [List.map_cons, List.sum_cons, ih, Nat.add_zero]
  | cons a l ih =>
    simp only [List.map_cons, List.sum_cons]
    rw [sum_map_add, ih (fun x hx => hf x (List.mem_cons_of_mem _ hx))]
    congr 1
    have ha := hf a (List.mem_cons_self)
    clear ih hf
    by_cases hw : want ≤ f a
    · rw [if_pos hw]
      have : ((List.range top).map fun j => if f a = want + j then g a else 0) = (List.range top).map fun j => if j = f a - want then g a else 0 := by
        apply List.map_congr_left
        intro j _
        have e : (f a = want + j) ↔ (j = f a - want) := by omega
        simp only [e]
      rw [this]
      have hlt : f a - want < top := by omega
      generalize f a - want = d at *
      clear this ha
      induction top with
      | zero => omega
      | succ t ih =>
        rw [List.range_succ, List.map_append, List.sum_append]
        by_cases hd : d = t
        · subst hd
          have : ((List.range d).map fun j => if j = d then g a else 0).sum = 0 := by
            rw [List.map_congr_left (g := fun _ => 0) (fun j hj => if_neg (by have := List.mem_range.1 hj; omega))]
            generalize List.range d = r
            induction r with
            | nil => rfl
            | cons a r ih => rw [List.map_cons, List.sum_cons, ih]
          rw [this]; simp
        · rw [ih (by omega)]; simp; omega
    · rw [if_neg hw, List.map_congr_left (g := fun _ => 0) (fun j _ => if_neg (by omega))]
      generalize List.range top = r
      induction r with
      | nil => rfl
      | cons a r ih => rw [List.map_cons, List.sum_cons, ih]
theorem drop_sum (l : List Nat) (w : Nat) : (l.drop w).sum = ((List.range (l.length - w)).map fun j => l.getD (w + j) 0).sum := by
  have h := sum_getD (l.drop w) 0
  rw [Nat.add_zero, List.length_drop] at h
  rw [← h]
  apply congrArg
  apply List.map_congr_left
  intro j _
  simp [List.getD_eq_getElem?_getD]
theorem avOf_mono (vs : Nat → Nat) (n set : Nat) : avOf vs n set ≤ avOf vs n (2 ^ n - 1) := by
  have key : ∀ m, m ≤ n → avOf vs m set ≤ avOf vs m (2 ^ n - 1) := by
    intro m
    induction m with
    | zero => intro _; exact Nat.le_refl _
    | succ m ih =>
      intro hm
      have := ih (by omega)
      have hb : (2 ^ n - 1).testBit m = true := by rw [Nat.testBit_two_pow_sub_one]; exact decide_eq_true hm
      rw [avOf, avOf, hb, if_pos rfl]
      split <;> omega
  exact key n (Nat.le_refl _)
/-- The tail of the counts is the sum over the sets with enough. -/
theorem avCnt_tail (vs us : Nat → Nat) (n want : Nat) : ((avCnt vs us n).drop want).sum = avSum n fun set => if want ≤ avOf vs n set then avCases us n set else 0 := by
  rw [drop_sum, avCnt_length]
  unfold avSum
  have h := sum_ite_eq (List.range (2 ^ n)) (avOf vs n) (avCases us n) want (1 + avOf vs n (2 ^ n - 1) - want)
  by_cases hw : want ≤ 1 + avOf vs n (2 ^ n - 1)
  · rw [← h (fun x _ => by have := avOf_mono vs n x; omega)]
    apply congrArg
    apply List.map_congr_left
    intro j _
    rw [avCnt_get]; rfl
  · rw [show 1 + avOf vs n (2 ^ n - 1) - want = 0 by omega]
    rw [List.map_congr_left (l := List.range (2 ^ n)) (g := fun _ => 0) (fun x _ => if_neg (by have := avOf_mono vs n x; omega))]
    generalize List.range (2 ^ n) = r
    induction r with
    | nil => rfl
    | cons a r ih => rw [List.map_cons, List.sum_cons, ← ih]; rfl
end Go.PM
