/- The references' small helpers: Ints, Same. -/
import Derived.Test.YtdolddgmemlofaaRows
import Derived.Test.YtdolddgmemlofaaLawB
namespace Go.Proofs.Ytdolddgmemlofaa
open Go.RowKit Go.PM

theorem Try.u_byte : Try.prog.underlying 5 = some (.int .u8) := by kernel_rfl
theorem Try.u_string : Try.prog.underlying 9 = some .string := by kernel_rfl
theorem Try.u_bytes2 : Try.prog.underlying 32 = some (.slice 5) := by kernel_rfl

/-- Whole numbers as cells. -/
def intc (l : List Int) : List Value := l.map (.int .i64)

section
variable {w : World}

set_option maxRecDepth 100000 in
set_option maxHeartbeats 400000 in
theorem same_calls (a1 a2 : Option Addr) (c1 c2 : Nat) (l1 l2 : List UInt8) (h1 : Rd w a1 (bcells l1)) (h2 : Rd w a2 (bcells l2)) :
    Calls Try.prog 31 #[.slice a1 l1.length c1, .slice a2 l2.length c2] w fun e w' => e = .returned (.bool (l1 == l2)) ∧ w = w' := by
  go_enter Try.func31, Try.ntmps31
  go_wp2_with (first
    | (with_reducible refine wpList_conv_bytes rfl _ _ (.tmp 5) rfl _ Try.u_bytes2 Try.u_byte Try.u_string _ _ l1 rfl h1 ?_)
    | (with_reducible refine wpList_conv_bytes rfl _ _ (.tmp 7) rfl _ Try.u_bytes2 Try.u_byte Try.u_string _ _ l2 rfl h2 ?_))
  go_ret
  exact ⟨by simp, rfl⟩

set_option maxRecDepth 100000 in
set_option maxHeartbeats 400000 in
theorem ints_ne (a1 a2 : Option Addr) (c1 c2 n1 n2 : Nat) (h : n1 ≠ n2) :
    Calls Try.prog 25 #[.slice a1 n1 c1, .slice a2 n2 c2] w fun e w' => e = .returned (.bool false) ∧ w = w' := by
  go_enter Try.func25, Try.ntmps25
  go_wp2
  go_ret
  exact ⟨rfl, rfl⟩

def IntsRel (w : World) (n : Nat) (l1 l2 : List Int) (i : Value) (wr : World) : Prop := ∃ k d : Nat, k ≤ n ∧ i = .int .i64 k ∧ wr = w.drewN d ∧ l1.take k = l2.take k

theorem intc_cell {w : World} {ad : Option Addr} {l : List Int} (h : Rd w ad (intc l)) {k : Nat} (hk : k < l.length) : ∃ b o, ad = some ⟨b, o, none⟩ ∧ w.cell? ⟨b, o + k, none⟩ = some (.int .i64 l[k]) :=
  h k _ (by simp [intc, hk])

theorem take_succ_eq {l1 l2 : List Int} {k : Nat} (h1 : k < l1.length) (h2 : k < l2.length) (h : l1.take k = l2.take k) (e : l1[k] = l2[k]) : l1.take (k + 1) = l2.take (k + 1) := by
  rw [List.take_succ_eq_append_getElem h1, List.take_succ_eq_append_getElem h2, h, e]

set_option maxRecDepth 100000 in
set_option maxHeartbeats 400000 in
theorem ints_eq (a1 a2 : Option Addr) (c1 c2 n : Nat) (l1 l2 : List Int) (h1 : Rd w a1 (intc l1)) (h2 : Rd w a2 (intc l2)) (e1 : l1.length = n) (e2 : l2.length = n) (hm : n ≤ 9223372036854775807) :
    Calls Try.prog 25 #[.slice a1 n c1, .slice a2 n c2] w fun e w' => e = .returned (.bool (l1 == l2)) ∧ ∃ d, w' = w.drewN d := by
  have E1 := Lib.hid e1
  have E2 := Lib.hid e2
  clear e1 e2
  go_enter Try.func25, Try.ntmps25
  go_wp2
  go_loopw [5] (fun i wr => IntsRel w n l1 l2 i wr) (fun i _ => n - (intOf i).toNat)
  case atStart => exact ⟨0, 0, Nat.zero_le _, rfl, rfl, by simp⟩
  case round =>
    obtain ⟨k, d, hk, rfl, rfl, ht⟩ := hrel
    have HT := Lib.hid ht
    clear ht
    by_cases hlt : k < n
    · have k1 : k < l1.length := by rw [E1.out]; exact hlt
      have k2 : k < l2.length := by rw [E2.out]; exact hlt
      obtain ⟨b1, o1, rfl, d1⟩ := intc_cell h1 k1
      obtain ⟨b2, o2, rfl, d2⟩ := intc_cell h2 k2
      have i0 : (0 : Int) ≤ k := by omega
      have i1 : (k : Int) < n := by omega
      by_cases he : l1[k] = l2[k]
      · have hb : (l1[k] != l2[k]) = false := by simp [he]
        have HE := Lib.hid he
        clear he
        go_wp2_with fail
        go_quiet (fail)
        go_wp2
        go_roundw
        case rel => exact ⟨k + 1, d + nq, by omega, by go_num, rfl, take_succ_eq k1 k2 HT.out HE.out⟩
        case measure => simp [intOf]; omega
      · have hb : (l1[k] != l2[k]) = true := by simp [he]
        go_wp2_with fail
        go_quiet (fail)
        go_wp2
        go_ret
        refine ⟨?_, d + nq, by rw [World.drewN_drewN]⟩
        have : (l1 == l2) = false := by
          rw [beq_eq_false_iff_ne]
          rintro rfl
          exact he rfl
        rw [this]; rfl
    · go_wp2
      go_ret
      have e : k = n := by omega
      subst e
      have h := HT.out
      rw [List.take_of_length_le (Nat.le_of_eq E1.out), List.take_of_length_le (Nat.le_of_eq E2.out)] at h
      subst h
      exact ⟨by simp, _, rfl⟩

theorem ints_calls (a1 a2 : Option Addr) (c1 c2 : Nat) (l1 l2 : List Int) (h1 : Rd w a1 (intc l1)) (h2 : Rd w a2 (intc l2)) (hm : l1.length ≤ 9223372036854775807) :
    Calls Try.prog 25 #[.slice a1 l1.length c1, .slice a2 l2.length c2] w fun e w' => e = .returned (.bool (l1 == l2)) ∧ ∃ d, w' = w.drewN d := by
  by_cases h : l1.length = l2.length
  · rw [← h]; exact ints_eq a1 a2 c1 c2 l1.length l1 l2 h1 h2 rfl h.symm hm
  · refine (ints_ne a1 a2 c1 c2 _ _ h).mono ?_
    rintro e w' ⟨rfl, rfl⟩
    refine ⟨?_, 0, rfl⟩
    have : (l1 == l2) = false := by
      rw [beq_eq_false_iff_ne]
      rintro rfl
      exact h rfl
    rw [this]
end
end Go.Proofs.Ytdolddgmemlofaa
