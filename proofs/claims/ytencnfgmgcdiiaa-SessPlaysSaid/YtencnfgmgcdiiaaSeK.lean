/- The laws of sess: short, seq; an act of a script in memory. -/
import Derived.Test.YtencnfgmgcdiiaaSeArgs
namespace Go.Proofs.Ytencnfgmgcdiiaa
open Go.RowKit Go.PM
set_option maxRecDepth 100000

set_option maxHeartbeats 400000 in
theorem sshort_calls (a : Option Addr) (n c : Nat) (w : World) (hn : n ≤ c) (hc : c ≤ maxLen) :
    Calls Try.prog 15 #[.slice a n c] w fun e w' => e = .returned (.slice a (min n 100) c) ∧ w = w' := by
  unfold maxLen at hc
  by_cases h : n ≤ 100
  · have e : min n 100 = n := Nat.min_eq_left h
    rw [e]
    go_enter Try.func15, Try.ntmps15
    go_wp2
    all_goals (go_ret; exact ⟨rfl, rfl⟩)
  · have e : min n 100 = 100 := Nat.min_eq_right (by omega)
    rw [e]
    go_enter Try.func15, Try.ntmps15
    go_wp2
    all_goals (go_ret; exact ⟨rfl, rfl⟩)

/-- The number of an act's call. -/
def SA.num (x : SA) (last : Int) : Int := if x.seq = 0 then last else if x.seq = 1 then last + 1 else x.seq - 2

set_option maxHeartbeats 1000000 in
theorem sseq_calls (x : SA) (last : Int) (w : World) (h : x.In) (h0 : 0 ≤ last) (h1 : last ≤ 2147483647) :
    Calls Try.prog 16 #[.agg #[.int .u8 x.kind.toNat, .int .u8 x.client.toNat, .int .u32 x.seq, .int .i64 x.a.why, .int .u8 x.a.node, .int .u32 x.a.boot, .int .u32 x.a.num, .string x.a.val, .int .u32 x.a.ver], .int .u32 last] w
      fun e w' => e = .returned (.int .u32 (x.num last)) ∧ Kept No w w' := by
  have K := (Kept.refl No w).alloc (.cells #[.int .u8 x.kind.toNat, .int .u8 x.client.toNat, .int .u32 x.seq, .int .i64 x.a.why, .int .u8 x.a.node, .int .u32 x.a.boot, .int .u32 x.a.num, .string x.a.val, .int .u32 x.a.ver] 35)
  have hr : x.num last = if x.seq = 0 then last else if x.seq = 1 then last + 1 else x.seq - 2 := rfl
  generalize x.num last = r at *
  have q0 := h.q0
  have q1 := h.q1
  by_cases e0 : x.seq = 0
  · rw [if_pos e0] at hr
    subst hr
    have d0 : (x.seq == 0) = true := by simpa using e0
    clear h e0 q0 q1
    go_enter Try.func16, Try.ntmps16
    go_wp2
    go_ret
    exact ⟨rfl, K⟩
  · rw [if_neg e0] at hr
    have d0 : (x.seq == 0) = false := by simpa using e0
    by_cases e1 : x.seq = 1
    · rw [if_pos e1] at hr
      have HR := Lib.hid hr
      have d1 : (x.seq == 1) = true := by simpa using e1
      clear h e0 e1 q0 q1 hr
      have hw : IntKind.u32.wrap (last + 1) = last + 1 := by rw [IntKind.wrap_u32]; exact Int.emod_eq_of_lt (by omega) (by omega)
      go_enter Try.func16, Try.ntmps16
      go_wp2
      go_ret
      exact ⟨by rw [HR.out]; rfl, K⟩
    · rw [if_neg e1] at hr
      have HR := Lib.hid hr
      have d1 : (x.seq == 1) = false := by simpa using e1
      have hw : IntKind.u32.wrap (x.seq - 2) = x.seq - 2 := by rw [IntKind.wrap_u32]; exact Int.emod_eq_of_lt (by omega) (by omega)
      clear h e0 e1 q0 q1 hr
      go_enter Try.func16, Try.ntmps16
      go_wp2
      go_ret
      exact ⟨by rw [HR.out]; rfl, K⟩
end Go.Proofs.Ytencnfgmgcdiiaa
