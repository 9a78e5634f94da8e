/- NetOrder's plain law: what one call leaves of wires in their order. No Go here. -/
import Derived.Test.YtdolddgmemlofaaNetP
namespace Go.PM

/-- Wires that are numbered from 0 on. -/
def obase (k : Nat) : List PW := (List.range k).map fun i => (0, 0, [UInt8.ofNat i])
theorem obase_length (k : Nat) : (obase k).length = k := by simp [obase]
theorem obase_succ (k : Nat) : obase (k + 1) = obase k ++ [(0, 0, [UInt8.ofNat k])] := by simp [obase, List.range_succ]
theorem obase_get {k i : Nat} (h : i < k) : (obase k)[i]? = some (0, 0, [UInt8.ofNat i]) := by simp [obase, h]

/-- What the law asks of the wires behind the call. -/
structure OrdOK (k I : Nat) (kind : Int) (L : List PW) : Prop where
  mono : ∀ (n m : Nat) (x y : PW) (a b : UInt8), n < m → m < k → L[n]? = some x → L[m]? = some y → x.2.2 = [a] → y.2.2 = [b] → a.toNat ≠ I → b.toNat ≠ I → a.toNat < b.toNat
  one : ∀ (n : Nat) (x : PW), L[n]? = some x → x.2.2.length ≠ 1 → kind % 6 = 0

theorem ofNat_lt {k i : Nat} (hk : k ≤ 30) (h : i < k) : (UInt8.ofNat i).toNat = i := by
  rw [UInt8.toNat_ofNat']; omega

theorem ord_base (k I : Nat) (kind : Int) (hk : k ≤ 30) (t : List PW) (ht : t = [] ∨ kind % 6 = 0 ∨ ∃ i, i < k ∧ t = [(0, 0, [UInt8.ofNat i])]) : OrdOK k I kind (obase k ++ t) := by
  refine ⟨?_, ?_⟩
  · intro n m x y a b hnm hm hx hy ha hb _ _
    rw [List.getElem?_append_left (by rw [obase_length]; omega), obase_get (by omega)] at hx
    rw [List.getElem?_append_left (by rw [obase_length]; omega), obase_get hm] at hy
    cases hx; cases hy
    simp only [List.cons.injEq, and_true] at ha hb
    subst ha; subst hb
    rw [ofNat_lt hk (by omega), ofNat_lt hk hm]
    exact hnm
  · intro n x hx hl
    rcases Nat.lt_or_ge n k with h | h
    · rw [List.getElem?_append_left (by rw [obase_length]; omega), obase_get h] at hx
      cases hx; exact absurd rfl hl
    · rw [List.getElem?_append_right (by rw [obase_length]; omega)] at hx
      rcases ht with rfl | h0 | ⟨i, _, rfl⟩
      · simp at hx
      · exact h0
      · have := List.mem_of_getElem? hx
        simp at this; subst this; exact absurd rfl hl

theorem erase_get {k I n : Nat} (hI : I < k) (t : List PW) (h : n < k - 1) : ((obase k).eraseIdx I ++ t)[n]? = some (0, 0, [UInt8.ofNat (if n < I then n else n + 1)]) := by
  rw [List.getElem?_append_left (by rw [List.length_eraseIdx_of_lt (by rw [obase_length]; exact hI), obase_length]; exact h), List.getElem?_eraseIdx]
  split
  · rw [obase_get (by omega)]
  · rw [obase_get (by omega)]

theorem ord_erase (k I : Nat) (kind : Int) (hk : k ≤ 30) (hI : I < k) (t : List PW) (ht : t = [] ∨ t = [(0, 0, [UInt8.ofNat I])]) : OrdOK k I kind ((obase k).eraseIdx I ++ t) := by
  have hlen : ((obase k).eraseIdx I).length = k - 1 := by rw [List.length_eraseIdx_of_lt (by rw [obase_length]; exact hI), obase_length]
  refine ⟨?_, ?_⟩
  · intro n m x y a b hnm hm hx hy ha hb hna hnb
    rcases Nat.lt_or_ge m (k - 1) with h | h
    · rw [erase_get hI t (by omega)] at hx
      rw [erase_get hI t h] at hy
      cases hx; cases hy
      simp only [List.cons.injEq, and_true] at ha hb
      subst ha; subst hb
      rw [ofNat_lt hk (by split <;> omega), ofNat_lt hk (by split <;> omega)]
      split <;> split <;> omega
    · rw [List.getElem?_append_right (by omega), hlen] at hy
      rcases ht with rfl | rfl
      · simp at hy
      · have := List.mem_of_getElem? hy
        simp at this; subst this
        simp only [List.cons.injEq, and_true] at hb
        subst hb
        exact absurd (ofNat_lt hk hI) hnb
  · intro n x hx hl
    rcases Nat.lt_or_ge n (k - 1) with h | h
    · rw [erase_get hI t h] at hx; cases hx; exact absurd rfl hl
    · rw [List.getElem?_append_right (by omega)] at hx
      rcases ht with rfl | rfl
      · simp at hx
      · have := List.mem_of_getElem? hx
        simp at this; subst this; exact absurd rfl hl

theorem ord_does (k I : Nat) (hk : k ≤ 30) (hI : I < k) (a : PAct) (ha : a.i = I) (hk0 : 0 ≤ a.kind) : OrdOK k I a.kind ((⟨40, 0, obase k⟩ : PN).does a).2.2.l := by
  have hin : (⟨40, 0, obase k⟩ : PN).inside a.i := by
    rw [ha]; unfold PN.inside; simp [obase_length]; omega
  have hat : ((⟨40, 0, obase k⟩ : PN).at a.i).1 = (0, 0, [UInt8.ofNat I]) := by
    unfold PN.at
    rw [if_pos (show 0 ≤ a.i ∧ _ from hin)]
    simp [ha, obase_get hI]
  have hnil := ord_base k I a.kind hk [] (.inl rfl)
  rw [List.append_nil] at hnil
  have hlt : ((obase k).length : Int) < 40 := by rw [obase_length]; omega
  unfold PN.does
  split
  · unfold PN.take; rw [if_pos hin]
    have := ord_erase k I a.kind hk hI [] (.inl rfl)
    simpa [PN.without, ha] using this
  split
  · exact hnil
  split
  · unfold PN.drop; rw [if_pos hin]
    have := ord_erase k I a.kind hk hI [] (.inl rfl)
    simpa [PN.without, ha] using this
  split
  · unfold PN.twice; rw [if_pos hin, if_pos hlt, hat]
    exact ord_base k I a.kind hk _ (.inr (.inr ⟨I, hI, rfl⟩))
  split
  · unfold PN.late; rw [if_pos hin, hat]
    have := ord_erase k I a.kind hk hI _ (.inr rfl)
    simpa [PN.without, ha] using this
  · have h6 : a.kind % 6 = 0 := by omega
    unfold PN.send
    split
    · split
      · exact ord_base k I a.kind hk _ (.inr (.inl h6))
      · exact hnil
    · exact hnil
end Go.PM
