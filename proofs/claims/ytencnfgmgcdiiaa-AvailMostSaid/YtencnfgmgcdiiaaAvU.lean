/- Plain law: the least votes of m nodes are those of the first m of a sorted list. No Go here. -/
import Derived.Test.YtencnfgmgcdiiaaAvT
import Derived.Test.YtencnfgmgcdiiaaAvD
import Derived.Test.YtencnfgmgcdiiaaAvQ
namespace Go.Proofs.Ytencnfgmgcdiiaa
open Go.RowKit Go.PM

/-- How many of the first n nodes are in a set. -/
def avCard : Nat → Nat → Nat
  | 0, _ => 0
  | n + 1, set => avCard n set + if set.testBit n then 1 else 0
/-- The votes of those of the first n nodes that are in a set. -/
def sb (vs : Nat → Nat) : Nat → Nat → List Nat
  | 0, _ => []
  | n + 1, set => sb vs n set ++ if set.testBit n then [vs n] else []
theorem sb_length (vs : Nat → Nat) (n set : Nat) : (sb vs n set).length = avCard n set := by
  induction n with
  | zero => rfl
  | succ n ih => rw [sb, avCard, List.length_append, ih]; split <;> rfl
theorem sb_sum (vs : Nat → Nat) (n set : Nat) : (sb vs n set).sum = avOf vs n set := by
  induction n with
  | zero => rfl
  | succ n ih => rw [sb, avOf, List.sum_append, ih]; split <;> simp
theorem sb_sub (vs : Nat → Nat) (n set : Nat) : (sb vs n set).Sublist ((List.range n).map vs) := by
  induction n with
  | zero => exact List.Sublist.refl _
  | succ n ih =>
    rw [sb, List.range_succ, List.map_append]
    refine List.Sublist.append ih ?_
    split
    · exact List.Sublist.refl _
    · exact List.nil_sublist _
theorem sb_low (vs : Nat → Nat) (n m set : Nat) (h : m ≤ n) : sb vs m (2 ^ n + set) = sb vs m set := by
  induction m with
  | zero => rfl
  | succ m ih => rw [sb, sb, ih (by omega), Nat.testBit_two_pow_add_gt (by omega)]
theorem sb_all (vs : Nat → Nat) (n : Nat) (M : List Nat) (h : M.Sublist ((List.range n).map vs)) : ∃ set, set < 2 ^ n ∧ sb vs n set = M := by
  induction n generalizing M with
  | zero =>
    have : M = [] := by simpa using h
    exact ⟨0, by simp, this.symm⟩
  | succ n ih =>
    rw [List.range_succ, List.map_append] at h
    obtain ⟨M1, M2, rfl, h1, h2⟩ := List.sublist_append_iff.1 h
    obtain ⟨set, hs, rfl⟩ := ih M1 h1
    have hp := Nat.two_pow_pos n
    have hq : 2 ^ (n + 1) = 2 ^ n + 2 ^ n := by rw [Nat.pow_succ]; omega
    have h3 : M2 = [] ∨ M2 = [vs n] := by
      cases h2 with
      | cons _ h => left; simpa using h
      | cons_cons _ h => right; have := List.sublist_nil.1 h; rw [this]
    rcases h3 with rfl | rfl
    · exact ⟨set, by omega, by rw [sb, Nat.testBit_lt_two_pow hs]; rfl⟩
    · refine ⟨2 ^ n + set, by omega, ?_⟩
      rw [sb, sb_low vs n n set (Nat.le_refl _), Nat.testBit_two_pow_add_eq, Nat.testBit_lt_two_pow hs]
      rfl
theorem take_le_sub {S M : List Nat} (h : M.Sublist S) (hs : S.Pairwise (· ≤ ·)) : (S.take M.length).sum ≤ M.sum := by
  induction h with
  | slnil => exact Nat.le_refl _
  | @cons M S a h ih =>
    rw [List.pairwise_cons] at hs
    refine Nat.le_trans ?_ (ih hs.2)
    have hl := h.length_le
    generalize M.length = m at *
    cases m with
    | zero => exact Nat.zero_le _
    | succ m =>
      rw [List.take_succ_cons, List.sum_cons, List.take_succ_eq_append_getElem (by omega), List.sum_append]
      have := hs.1 S[m] (List.getElem_mem (by omega))
      simp
      omega
  | @cons_cons M S a h ih =>
    rw [List.pairwise_cons] at hs
    rw [List.length_cons, List.take_succ_cons, List.sum_cons, List.sum_cons]
    have := ih hs.2
    omega

/-- The sum of the first m. -/
def lowv (S : List UInt8) : Nat → Nat
  | 0 => 0
  | m + 1 => lowv S m + vsOf S m
theorem lowv_eq (S : List UInt8) (m : Nat) (h : m ≤ S.length) : lowv S m = ((S.map UInt8.toNat).take m).sum := by
  induction m with
  | zero => rfl
  | succ m ih =>
    rw [lowv, ih (by omega), List.take_succ_eq_append_getElem (by simp; omega), List.sum_append]
    simp [vsOf, List.getD_eq_getElem?_getD, show m < S.length by omega]
theorem map_vs (l : List UInt8) (hl : l.length = 8) : (List.range 8).map (vsOf l) = l.map UInt8.toNat := by
  obtain ⟨a, b, c, d, e, f, g, h, rfl⟩ := list8 l hl
  rfl
theorem avCard_le (n set : Nat) : avCard n set ≤ n := by
  induction n with
  | zero => exact Nat.le_refl _
  | succ n ih => rw [avCard]; split <;> omega
theorem srt_pairwise {S : List UInt8} (hl : S.length = 8) (hs : Srt 8 S) : (S.map UInt8.toNat).Pairwise (· ≤ ·) := by
  rw [List.pairwise_iff_getElem]
  intro i j hi hj hij
  have hi' : i < S.length := by simpa using hi
  have hj' : j < S.length := by simpa using hj
  have := hs i j hij (by omega)
  simpa [vsOf, List.getD_eq_getElem?_getD, hi', hj'] using this
/-- No set of m nodes has fewer votes than the first m of the sorted. -/
theorem low_le {S l : List UInt8} (hl : l.length = 8) (hp : S.Perm l) (hs : Srt 8 S) (set : Nat) : lowv S (avCard 8 set) ≤ avOf (vsOf l) 8 set := by
  have hSl : S.length = 8 := by rw [hp.length_eq, hl]
  have h1 := sb_sub (vsOf l) 8 set
  rw [map_vs l hl] at h1
  obtain ⟨M, hM, hM2⟩ := List.exists_perm_sublist h1 (hp.map UInt8.toNat).symm
  have h2 := take_le_sub hM2 (srt_pairwise hSl hs)
  rw [hM.length_eq, sb_length, hM.sum_nat, sb_sum] at h2
  rw [lowv_eq _ _ (by have := avCard_le 8 set; omega)]
  exact h2
/-- And one has just those. -/
theorem low_at {S l : List UInt8} (hl : l.length = 8) (hp : S.Perm l) (m : Nat) (hm : m ≤ 8) : ∃ set, set < 256 ∧ avCard 8 set = m ∧ avOf (vsOf l) 8 set = lowv S m := by
  have hSl : S.length = 8 := by rw [hp.length_eq, hl]
  obtain ⟨M, hM, hM2⟩ := List.exists_perm_sublist (List.take_sublist m (S.map UInt8.toNat)) (hp.map UInt8.toNat)
  rw [← map_vs l hl] at hM2
  obtain ⟨set, h1, h2⟩ := sb_all (vsOf l) 8 M hM2
  refine ⟨set, h1, ?_, ?_⟩
  · rw [← sb_length (vsOf l), h2, hM.length_eq]; simp; omega
  · rw [← sb_sum, h2, hM.sum_nat, lowv_eq _ _ (by omega)]
theorem lowv_mono (S : List UInt8) {a b : Nat} (h : a ≤ b) : lowv S a ≤ lowv S b := by
  induction b with
  | zero => rw [show a = 0 by omega]; exact Nat.le_refl _
  | succ b ih =>
    by_cases e : a = b + 1
    · rw [e]; exact Nat.le_refl _
    · have := ih (by omega); rw [lowv]; omega
theorem lowv_all {S l : List UInt8} (hl : l.length = 8) (hp : S.Perm l) : lowv S 8 = avOf (vsOf l) 8 255 := by
  have hSl : S.length = 8 := by rw [hp.length_eq, hl]
  rw [lowv_eq _ _ (by omega), List.take_of_length_le (by simp; omega), (hp.map UInt8.toNat).sum_nat, ← map_vs l hl]
  simp [List.range, List.range.loop, avOf, bit255]
  omega

/-- How many may be down: the program's search. -/
def lostF (f : Nat → Nat) (want : Nat) : Nat → Nat
  | 0 => 8
  | m + 1 => if f m < want then 7 - m else lostF f want m
/-- The reference's search over the first sets. -/
def rlost (vs : Nat → Nat) (want : Nat) : Nat → Nat
  | 0 => 8
  | s + 1 => if avOf vs 8 s < want then min (rlost vs want s) (8 - avCard 8 s - 1) else rlost vs want s

theorem lostF_spec (f : Nat → Nat) (want : Nat) (_hf : ∀ a b, a ≤ b → f a ≤ f b) (h0 : f 0 < want) (k : Nat) (hk : 0 < k) (hk8 : k ≤ 8) : ∃ m, m < k ∧ f m < want ∧ lostF f want k = 7 - m ∧ ∀ a, a < k → f a < want → a ≤ m := by
  induction k with
  | zero => omega
  | succ k ih =>
    rw [lostF]
    by_cases h : f k < want
    · rw [if_pos h]; exact ⟨k, by omega, h, rfl, fun a ha _ => by omega⟩
    · rw [if_neg h]
      by_cases hk0 : k = 0
      · subst hk0; exact absurd h0 h
      · obtain ⟨m, h1, h2, h3, h4⟩ := ih (by omega) (by omega)
        refine ⟨m, by omega, h2, h3, fun a ha hfa => ?_⟩
        by_cases e : a = k
        · subst e; exact absurd hfa h
        · exact h4 a (by omega) hfa
theorem rlost_le (vs : Nat → Nat) (want s : Nat) : rlost vs want s ≤ 8 := by
  induction s with
  | zero => exact Nat.le_refl _
  | succ s ih => rw [rlost]; split <;> omega
theorem rlost_lo (vs : Nat → Nat) (want s n : Nat) (hn : n ≤ 8) (h : ∀ x, x < s → avOf vs 8 x < want → n ≤ 8 - avCard 8 x - 1) : n ≤ rlost vs want s := by
  induction s with
  | zero => exact hn
  | succ s ih =>
    rw [rlost]
    have := ih fun x hx => h x (by omega)
    split
    · have := h s (by omega) (by assumption); omega
    · exact this
theorem rlost_hi (vs : Nat → Nat) (want s x : Nat) (hx : x < s) (h : avOf vs 8 x < want) : rlost vs want s ≤ 8 - avCard 8 x - 1 := by
  induction s with
  | zero => omega
  | succ s ih =>
    rw [rlost]
    by_cases e : x = s
    · subst e; rw [if_pos h]; omega
    · have := ih (by omega)
      split <;> omega
/-- Both searches answer the same. -/
theorem lost_same {S l : List UInt8} (hl : l.length = 8) (hp : S.Perm l) (hs : Srt 8 S) (want : Nat) (h1 : 1 ≤ want) (h2 : want ≤ avOf (vsOf l) 8 255) : lostF (lowv S) want 8 = rlost (vsOf l) want 256 := by
  obtain ⟨m, hm, hm2, hm3, hm4⟩ := lostF_spec (lowv S) want (fun a b h => lowv_mono S h) (by show 0 < want; omega) 8 (by omega) (by omega)
  rw [hm3]
  apply Nat.le_antisymm
  · refine rlost_lo _ _ _ _ (by omega) fun x hx hlt => ?_
    have h3 := low_le hl hp hs x
    have h4 := avCard_le 8 x
    have h5 : avCard 8 x < 8 := by
      rcases Nat.lt_or_ge (avCard 8 x) 8 with h | h
      · exact h
      · have : avCard 8 x = 8 := by omega
        rw [this, lowv_all hl hp] at h3
        omega
    have := hm4 _ h5 (by omega)
    omega
  · obtain ⟨set, e1, e2, e3⟩ := low_at hl hp m (by omega)
    have := rlost_hi (vsOf l) want 256 set e1 (by omega)
    omega
end Go.Proofs.Ytencnfgmgcdiiaa
