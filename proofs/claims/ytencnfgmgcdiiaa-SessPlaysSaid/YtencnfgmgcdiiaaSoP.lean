/- Plain lists for pdqsort over a window of distinct bytes. No Go here. -/
import Derived.Test.YtencnfgmgcdiiaaSeS
namespace Go.Proofs.Ytencnfgmgcdiiaa
open Go.PM

/-- Two places exchanged. -/
def sw (S : List UInt8) (i j : Nat) : List UInt8 := (S.set i (S.getD j 0)).set j (S.getD i 0)
@[simp] theorem sw_length (S : List UInt8) (i j : Nat) : (sw S i j).length = S.length := by simp [sw]
theorem vs_sw (S : List UInt8) {i j : Nat} (hi : i < S.length) (hj : j < S.length) (a : Nat) : vsOf (sw S i j) a = if a = j then vsOf S i else if a = i then vsOf S j else vsOf S a := by
  unfold sw
  rw [vs_set _ _ _ _ (by simp; omega), vs_set _ _ _ _ hi]
  by_cases h1 : a = j
  · rw [if_pos h1.symm, if_pos h1]; rfl
  · rw [if_neg (fun h => h1 h.symm), if_neg h1]
    by_cases h2 : a = i
    · rw [if_pos h2.symm, if_pos h2]; rfl
    · rw [if_neg (fun h => h2 h.symm), if_neg h2]
theorem sw_perm (S : List UInt8) {i j : Nat} (hi : i < S.length) (hj : j < S.length) : (sw S i j).Perm S := by
  have e1 : S.getD j 0 = S[j] := by simp [List.getD_eq_getElem?_getD, hj]
  have e2 : S.getD i 0 = S[i] := by simp [List.getD_eq_getElem?_getD, hi]
  unfold sw; rw [e1, e2]
  exact List.set_set_perm hi hj
theorem sw_self (S : List UInt8) {i : Nat} (hi : i < S.length) : sw S i i = S := by
  have e2 : S.getD i 0 = S[i] := by simp [List.getD_eq_getElem?_getD, hi]
  unfold sw; rw [e2]; simp

/-- Within [a, b) alone something was moved. -/
structure Win (a b : Nat) (S R : List UInt8) : Prop where
  perm : R.Perm S
  out : Out a b S R
theorem Win.refl (a b : Nat) (S : List UInt8) : Win a b S S := ⟨List.Perm.refl _, Out.refl _ _ _⟩
theorem Win.trans {a b : Nat} {S R Q : List UInt8} (h : Win a b S R) (k : Win a b R Q) : Win a b S Q := ⟨k.perm.trans h.perm, h.out.trans k.out⟩
theorem Win.mono {a b a' b' : Nat} {S R : List UInt8} (h : Win a b S R) (ha : a' ≤ a) (hb : b ≤ b') : Win a' b' S R := ⟨h.perm, fun x hx => h.out x (by omega)⟩
theorem Win.sw {a b i j : Nat} {S : List UInt8} (hi : i < S.length) (hj : j < S.length) (ai : a ≤ i) (ib : i < b) (aj : a ≤ j) (jb : j < b) : Win a b S (sw S i j) :=
  ⟨sw_perm S hi hj, fun x hx => by rw [vs_sw S hi hj, if_neg (by omega), if_neg (by omega)]⟩
theorem vs_inj {S : List UInt8} (hn : S.Nodup) {x y : Nat} (hx : x < S.length) (hy : y < S.length) (h : vsOf S x = vsOf S y) : x = y := by
  have e1 : S.getD x 0 = S[x] := by simp [List.getD_eq_getElem?_getD, hx]
  have e2 : S.getD y 0 = S[y] := by simp [List.getD_eq_getElem?_getD, hy]
  unfold vsOf at h
  rw [e1, e2] at h
  have h' : S[x] = S[y] := UInt8.toNat_inj.1 h
  exact (List.getElem?_inj hx hn).1 (by rw [List.getElem?_eq_getElem hx, List.getElem?_eq_getElem hy, h'])
theorem Win.len {a b : Nat} {S R : List UInt8} (h : Win a b S R) : R.length = S.length := h.perm.length_eq
theorem Win.nodup {a b : Nat} {S R : List UInt8} (h : Win a b S R) (hn : S.Nodup) : R.Nodup := h.perm.symm.nodup hn
theorem Win.mem {a b : Nat} {S R : List UInt8} (h : Win a b S R) (hn : S.Nodup) (hb : b ≤ S.length) {x : Nat} (ha : a ≤ x) (hx : x < b) : ∃ y, a ≤ y ∧ y < b ∧ vsOf R x = vsOf S y := by
  have hl := h.len
  have hxl : x < R.length := by omega
  have hm : R[x] ∈ S := h.perm.subset (List.getElem_mem hxl)
  obtain ⟨y, hy, e⟩ := List.getElem_of_mem hm
  have e1 : vsOf R x = vsOf S y := by
    unfold vsOf
    simp [List.getD_eq_getElem?_getD, hxl, hy, e]
  by_cases hw : a ≤ y ∧ y < b
  · exact ⟨y, hw.1, hw.2, e1⟩
  · have e2 := h.out y (by omega)
    have := vs_inj (h.nodup hn) hxl (y := y) (by omega) (by omega)
    omega

/-- What pdqsort keeps: [0, a) and [b, n) stand sorted, below and above what lies between. -/
structure PQ (n a b : Nat) (S : List UInt8) : Prop where
  le : a ≤ b
  bn : b ≤ n
  sl : SrtW 0 a S
  sr : SrtW b n S
  cl : ∀ x y, x < a → a ≤ y → y < n → vsOf S x ≤ vsOf S y
  cr : ∀ x y, x < b → b ≤ y → y < n → vsOf S x ≤ vsOf S y
theorem PQ.start (S : List UInt8) (n : Nat) : PQ n 0 n S := ⟨Nat.zero_le _, Nat.le_refl _, fun a b _ h2 h3 => by omega, fun a b h1 h2 h3 => by omega, fun x y h => by omega, fun x y _ h1 h2 => by omega⟩
theorem PQ.win {n a b : Nat} {S R : List UInt8} (h : PQ n a b S) (k : Win a b S R) (hn : S.Nodup) (hl : S.length = n) : PQ n a b R := by
  have hle := h.le
  have hbn := h.bn
  refine ⟨h.le, h.bn, fun x y h1 h2 h3 => ?_, fun x y h1 h2 h3 => ?_, fun x y h1 h2 h3 => ?_, fun x y h1 h2 h3 => ?_⟩
  · rw [k.out x (by omega), k.out y (by omega)]; exact h.sl x y h1 h2 h3
  · rw [k.out x (by omega), k.out y (by omega)]; exact h.sr x y h1 h2 h3
  · rw [k.out x (by omega)]
    rcases Nat.lt_or_ge y b with hy | hy
    · obtain ⟨y', e1, e2, e3⟩ := k.mem hn (by omega) h2 hy
      rw [e3]; exact h.cl x y' h1 e1 (by omega)
    · rw [k.out y (by omega)]; exact h.cl x y h1 h2 h3
  · rw [k.out y (by omega)]
    rcases Nat.lt_or_ge x a with hx | hx
    · rw [k.out x (by omega)]; exact h.cr x y h1 h2 h3
    · obtain ⟨x', e1, e2, e3⟩ := k.mem hn (by omega) hx h1
      rw [e3]; exact h.cr x' y e2 h2 h3
theorem PQ.done {n a b : Nat} {S : List UInt8} (h : PQ n a b S) (hs : SrtW a b S) : SrtW 0 n S := by
  intro x y h1 h2 h3
  rcases Nat.lt_or_ge x a with hx | hx
  · rcases Nat.lt_or_ge y a with hy | hy
    · exact h.sl x y h1 h2 hy
    · exact h.cl x y hx hy h3
  · rcases Nat.lt_or_ge y b with hy | hy
    · exact hs x y hx h2 hy
    · rcases Nat.lt_or_ge x b with hxb | hxb
      · exact h.cr x y hxb hy h3
      · exact h.sr x y hxb h2 h3
/-- The pivot stands at m. -/
structure Parted (a b m : Nat) (S : List UInt8) : Prop where
  am : a ≤ m
  mb : m < b
  lo : ∀ x, a ≤ x → x < m → vsOf S x ≤ vsOf S m
  hi : ∀ x, m < x → x < b → vsOf S m ≤ vsOf S x
theorem Parted.winL {a b m : Nat} {S R : List UInt8} (h : Parted a b m S) (k : Win a m S R) (hn : S.Nodup) (hl : b ≤ S.length) : Parted a b m R := by
  have h1 := h.am
  have h2 := h.mb
  refine ⟨h1, h2, fun x h3 h4 => ?_, fun x h3 h4 => ?_⟩
  · obtain ⟨y, e1, e2, e3⟩ := k.mem hn (by omega) h3 h4
    rw [e3, k.out m (by omega)]; exact h.lo y e1 e2
  · rw [k.out x (by omega), k.out m (by omega)]; exact h.hi x h3 h4
theorem Parted.winR {a b m : Nat} {S R : List UInt8} (h : Parted a b m S) (k : Win (m + 1) b S R) (hn : S.Nodup) (hl : b ≤ S.length) : Parted a b m R := by
  have h1 := h.am
  have h2 := h.mb
  refine ⟨h1, h2, fun x h3 h4 => ?_, fun x h3 h4 => ?_⟩
  · rw [k.out x (by omega), k.out m (by omega)]; exact h.lo x h3 h4
  · obtain ⟨y, e1, e2, e3⟩ := k.mem hn (by omega) (show m + 1 ≤ x by omega) h4
    rw [e3, k.out m (by omega)]; exact h.hi y (by omega) e2
theorem PQ.left {n a b m : Nat} {S : List UInt8} (h : PQ n a b S) (p : Parted a b m S) (hs : SrtW a m S) : PQ n (m + 1) b S := by
  have h1 := p.am
  have h2 := p.mb
  have hbn := h.bn
  refine ⟨by omega, h.bn, fun x y e1 e2 e3 => ?_, h.sr, fun x y e1 e2 e3 => ?_, h.cr⟩
  · rcases Nat.lt_or_ge x a with hx | hx
    · rcases Nat.lt_or_ge y a with hy | hy
      · exact h.sl x y e1 e2 hy
      · exact h.cl x y hx hy (by omega)
    · rcases Nat.lt_or_ge y m with hy | hy
      · exact hs x y hx e2 hy
      · obtain rfl : y = m := by omega
        exact p.lo x hx e2
  · rcases Nat.lt_or_ge y b with hy | hy
    · rcases Nat.lt_or_ge x a with hx | hx
      · exact h.cl x y hx (by omega) e3
      · have := p.hi y (by omega) hy
        rcases Nat.lt_or_ge x m with hxm | hxm
        · exact Nat.le_trans (p.lo x hx hxm) this
        · obtain rfl : x = m := by omega
          exact this
    · exact h.cr x y (by omega) hy e3
theorem PQ.right {n a b m : Nat} {S : List UInt8} (h : PQ n a b S) (p : Parted a b m S) (hs : SrtW (m + 1) b S) : PQ n a m S := by
  have h1 := p.am
  have h2 := p.mb
  have hbn := h.bn
  refine ⟨h1, by omega, h.sl, fun x y e1 e2 e3 => ?_, h.cl, fun x y e1 e2 e3 => ?_⟩
  · rcases Nat.lt_or_ge y b with hy | hy
    · rcases Nat.lt_or_ge m x with hx | hx
      · exact hs x y hx e2 hy
      · obtain rfl : x = m := by omega
        exact p.hi y e2 hy
    · rcases Nat.lt_or_ge x b with hx | hx
      · exact h.cr x y hx hy e3
      · exact h.sr x y hx e2 e3
  · rcases Nat.lt_or_ge y b with hy | hy
    · rcases Nat.lt_or_ge x a with hx | hx
      · exact h.cl x y hx (by omega) e3
      · have h3 := p.lo x hx e1
        rcases Nat.lt_or_ge m y with hym | hym
        · exact Nat.le_trans h3 (p.hi y hym hy)
        · obtain rfl : y = m := by omega
          exact h3
    · exact h.cr x y (by omega) hy e3

/-- While parting: behind i and ahead of j is done; the pivot stands at a. -/
structure PInv (a b i j : Nat) (S : List UInt8) : Prop where
  ai : a < i
  ij : i ≤ j + 1
  jb : j < b
  lo : ∀ x, a < x → x < i → vsOf S x < vsOf S a
  hi : ∀ x, j < x → x < b → vsOf S a ≤ vsOf S x
theorem PInv.start {a b : Nat} (S : List UInt8) (h : a + 1 < b) : PInv a b (a + 1) (b - 1) S := ⟨by omega, by omega, by omega, fun x h1 h2 => by omega, fun x h1 h2 => by omega⟩
theorem PInv.up {a b i j : Nat} {S : List UInt8} (h : PInv a b i j S) (hij : i ≤ j) (hl : vsOf S i < vsOf S a) : PInv a b (i + 1) j S := by
  have := h.ai
  refine ⟨by omega, by omega, h.jb, fun x h1 h2 => ?_, h.hi⟩
  rcases Nat.lt_or_ge x i with hx | hx
  · exact h.lo x h1 hx
  · obtain rfl : x = i := by omega
    exact hl
theorem PInv.down {a b i j : Nat} {S : List UInt8} (h : PInv a b i j S) (hij : i ≤ j) (hl : vsOf S a ≤ vsOf S j) : PInv a b i (j - 1) S := by
  have := h.ai
  have := h.jb
  refine ⟨h.ai, by omega, by omega, h.lo, fun x h1 h2 => ?_⟩
  rcases Nat.lt_or_ge j x with hx | hx
  · exact h.hi x hx h2
  · obtain rfl : x = j := by omega
    exact hl
theorem PInv.swap {a b i j : Nat} {S : List UInt8} (h : PInv a b i j S) (hij : i < j) (hb : b ≤ S.length) (hi : vsOf S a ≤ vsOf S i) (hj : vsOf S j < vsOf S a) : PInv a b (i + 1) (j - 1) (sw S i j) := by
  have h1 := h.ai
  have h2 := h.jb
  have e := vs_sw S (i := i) (j := j) (by omega) (by omega)
  refine ⟨by omega, by omega, by omega, fun x h3 h4 => ?_, fun x h3 h4 => ?_⟩
  · rw [e x, e a, if_neg (show ¬ x = j by omega), if_neg (show ¬ a = j by omega), if_neg (show ¬ a = i by omega)]
    by_cases hx : x = i
    · rw [if_pos hx]; exact hj
    · rw [if_neg hx]; exact h.lo x h3 (by omega)
  · rw [e x, e a, if_neg (show ¬ a = j by omega), if_neg (show ¬ a = i by omega)]
    by_cases hx : x = j
    · rw [if_pos hx]; exact hi
    · rw [if_neg hx, if_neg (by omega)]; exact h.hi x (by omega) h4
theorem PInv.finish {a b i j : Nat} {S : List UInt8} (h : PInv a b i j S) (hij : j < i) (hb : b ≤ S.length) : Parted a b j (sw S j a) := by
  have h1 := h.ai
  have h2 := h.jb
  have h3 := h.ij
  have e := vs_sw S (i := j) (j := a) (by omega) (by omega)
  refine ⟨by omega, h2, fun x h4 h5 => ?_, fun x h4 h5 => ?_⟩
  · rw [e x, e j]
    by_cases hj : j = a
    · omega
    · rw [if_neg hj, if_pos rfl]
      by_cases hx : x = a
      · rw [if_pos hx]; exact Nat.le_of_lt (h.lo j (by omega) (by omega))
      · rw [if_neg hx, if_neg (by omega)]; exact Nat.le_of_lt (h.lo x (by omega) (by omega))
  · rw [e x, e j, if_neg (show ¬ x = a by omega), if_neg (show ¬ x = j by omega)]
    by_cases hj : j = a
    · subst hj; rw [if_pos rfl]; exact h.hi x h4 h5
    · rw [if_neg hj, if_pos rfl]; exact h.hi x h4 h5
end Go.Proofs.Ytencnfgmgcdiiaa
