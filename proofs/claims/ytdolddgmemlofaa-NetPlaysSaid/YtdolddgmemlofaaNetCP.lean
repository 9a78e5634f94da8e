/- NetCounts' plain law. No Go here. -/
import Derived.Test.YtdolddgmemlofaaNetP
namespace Go.PM

def cntC (k6 code : Int) : Int := if (k6 = 0 ∨ k6 = 4) ∧ code = 0 then 1 else 0
def cntF (k6 code : Int) : Int := if k6 = 0 ∧ code = 9 then 1 else 0
def cntG (k6 code : Int) : Int := if (k6 = 1 ∨ k6 = 3) ∧ code = 0 then 1 else 0

structure CntOK (s s' : PN) (k6 code : Int) : Prop where
  len : (s'.l.length : Int) = s.l.length + cntC k6 code - cntG k6 code
  lost : s'.lost ≤ s.lost + cntG k6 code + cntF k6 code
  nine : code = 9 → (s'.l.length : Int) = s'.room
  fit : (s'.l.length : Int) ≤ s'.room
  room : s'.room = s.room

theorem lmore_le (n : Int) : lmore n ≤ n + 1 := by unfold lmore; split <;> omega

theorem inside_lt {s : PN} {i : Int} (h : s.inside i) : i.toNat < s.l.length ∧ 0 < s.l.length := by
  obtain ⟨h0, h1⟩ := h; omega

theorem cnt_does (s : PN) (a : PAct) (hk0 : 0 ≤ a.kind) (hfit : (s.l.length : Int) ≤ s.room) : CntOK s (s.does a).2.2 (a.kind % 6) (s.does a).2.1 := by
  have h6 : a.kind % 6 = 0 ∨ a.kind % 6 = 1 ∨ a.kind % 6 = 2 ∨ a.kind % 6 = 3 ∨ a.kind % 6 = 4 ∨ a.kind % 6 = 5 := by omega
  have hm := lmore_le s.lost
  unfold PN.does
  rcases h6 with h | h | h | h | h | h <;> rw [h]
  · simp only [show ¬ ((0 : Int) = 1) by omega, show ¬ ((0 : Int) = 2) by omega, show ¬ ((0 : Int) = 3) by omega, show ¬ ((0 : Int) = 4) by omega, show ¬ ((0 : Int) = 5) by omega, if_false]
    unfold PN.send
    split
    · split
      · split
        · constructor <;> simp [cntC, cntG, cntF] <;> omega
        · constructor <;> simp [cntC, cntG, cntF] <;> omega
      · constructor <;> simp [cntC, cntG, cntF] <;> omega
    · constructor <;> simp [cntC, cntG, cntF] <;> omega
  · simp only [if_true]
    unfold PN.take
    split
    · rename_i hi
      obtain ⟨h1, h2⟩ := inside_lt hi
      constructor <;> simp [cntC, cntG, cntF, PN.without, List.length_eraseIdx_of_lt h1] <;> omega
    · constructor <;> simp [cntC, cntG, cntF] <;> omega
  · simp only [show ¬ ((2 : Int) = 1) by omega, if_false, if_true]
    have hc : (s.at a.i).2 = 0 ∨ (s.at a.i).2 = 6 := by unfold PN.at; split <;> simp
    generalize (s.at a.i).2 = cd at hc
    have e1 : cntC 2 cd = 0 := by unfold cntC; rw [if_neg (by omega)]
    have e2 : cntG 2 cd = 0 := by unfold cntG; rw [if_neg (by omega)]
    have e3 : cntF 2 cd = 0 := by unfold cntF; rw [if_neg (by omega)]
    exact ⟨by rw [e1, e2]; omega, by rw [e2, e3]; omega, fun h => by omega, hfit, rfl⟩
  · simp only [show ¬ ((3 : Int) = 1) by omega, show ¬ ((3 : Int) = 2) by omega, if_false, if_true]
    unfold PN.drop
    split
    · rename_i hi
      obtain ⟨h1, h2⟩ := inside_lt hi
      constructor <;> simp [cntC, cntG, cntF, PN.without, List.length_eraseIdx_of_lt h1] <;> omega
    · constructor <;> simp [cntC, cntG, cntF] <;> omega
  · simp only [show ¬ ((4 : Int) = 1) by omega, show ¬ ((4 : Int) = 2) by omega, show ¬ ((4 : Int) = 3) by omega, if_false, if_true]
    unfold PN.twice
    split
    · split
      · constructor <;> simp [cntC, cntG, cntF] <;> omega
      · constructor <;> simp [cntC, cntG, cntF] <;> omega
    · constructor <;> simp [cntC, cntG, cntF] <;> omega
  · simp only [show ¬ ((5 : Int) = 1) by omega, show ¬ ((5 : Int) = 2) by omega, show ¬ ((5 : Int) = 3) by omega, show ¬ ((5 : Int) = 4) by omega, if_false, if_true]
    unfold PN.late
    split
    · rename_i hi
      obtain ⟨h1, h2⟩ := inside_lt hi
      constructor <;> simp [cntC, cntG, cntF, PN.without, List.length_eraseIdx_of_lt h1] <;> omega
    · constructor <;> simp [cntC, cntG, cntF] <;> omega
end Go.PM
