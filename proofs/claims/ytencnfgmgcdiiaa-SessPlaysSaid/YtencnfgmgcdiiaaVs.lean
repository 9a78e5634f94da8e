/- Bytes as numbers, and which is less, as walks. -/
import Derived.Test.YtencnfgmgcdiiaaRows
import Derived.Test.YtencnfgmgcdiiaaMem
namespace Go.PM
theorem Kept.above {S : Nat → Prop} {w w' w'' : World} (h : Kept No w w') (k : Kept S w' w'') (hS : ∀ b, S b → w.heap.size ≤ b) : Kept No w w'' :=
  h.trans k fun b hb hs => absurd (hS b hs) (by omega)
end Go.PM
namespace Go.Proofs.Ytencnfgmgcdiiaa
open Go.RowKit Go.PM

/-- The byte at a place, as a number; 0 where there is none. -/
def vsOf (l : List UInt8) (n : Nat) : Nat := (l.getD n 0).toNat
theorem vsOf_lt (l : List UInt8) (k : Nat) : vsOf l k < 256 := UInt8.toNat_lt _
theorem upcell (u : List UInt8) {k : Nat} (hk : k < u.length) : (bcells u)[k]? = some (.int .u8 (vsOf u k)) := by
  rw [bcells_get u k hk]
  simp [vsOf, List.getD_eq_getElem?_getD, hk]
def ltB (x y : Nat) : Bool := decide (x < y)

section
variable {w : World}
theorem isNaN_calls (x : Nat) : Calls Try.prog 87 #[.int .u8 x] w fun e w' => e = .returned (.bool false) ∧ w = w' := by
  go_enter Try.func87, Try.ntmps87
  go_wp2
  go_ret
  exact ⟨by simp, rfl⟩
theorem less_calls (x y : Nat) : Calls Try.prog 77 #[.int .u8 x, .int .u8 y] w fun e w' => e = .returned (.bool (ltB x y)) ∧ w = w' := by
  have hb : ltB x y = decide (x < y) := rfl
  have hn := fun w x => isNaN_calls (w := w) x
  have HN := Lib.hid hn
  clear hn
  by_cases h : x < y
  · rw [decide_eq_true h] at hb
    have h' : (x : Int) < y := by omega
    go_enter Try.func77, Try.ntmps77
    go_wp2_with (go_at_call 87; refine (HN.out _ _).mono ?_; rintro _ _ ⟨rfl, rfl⟩)
    go_ret
    exact ⟨by simp; exact hb, rfl⟩
  · rw [decide_eq_false h] at hb
    have h' : (y : Int) ≤ x := by omega
    go_enter Try.func77, Try.ntmps77
    go_wp2_with (go_at_call 87; refine (HN.out _ _).mono ?_; rintro _ _ ⟨rfl, rfl⟩)
    go_ret
    exact ⟨by simp; exact hb, rfl⟩
theorem less_q (x y n : Nat) (b : Bool) (h : ltB x y = b) : Calls Try.prog 77 #[.int .u8 x, .int .u8 y] (w.drewN n) fun e w' => e = .returned (.bool b) ∧ ∃ m, w' = w.drewN m :=
  Calls.quiet_of_same ((less_calls x y).mono fun _ _ hh => ⟨hh.1.trans (by rw [h]), hh.2.symm⟩)
end
end Go.Proofs.Ytencnfgmgcdiiaa
