/- The program's check and tail, as walks. -/
import Derived.Test.YtencnfgmgcdiiaaAvG
namespace Go.Proofs.Ytencnfgmgcdiiaa
open Go.RowKit Go.PM

/-- What check answers. -/
def ckOf (u v : List UInt8) : Nat := if mxTo u 8 ≤ 100 then if mxTo v 8 ≤ 15 then 0 else 16 else 1
/-- Numbers as cells. -/
def ucells (l : List Nat) : List Value := l.map fun n : Nat => .int .u64 (n : Int)
@[simp] theorem ucells_length (l : List Nat) : (ucells l).length = l.length := by simp [ucells]
theorem ucells_get (l : List Nat) (j : Nat) (h : j < l.length) : (ucells l)[j]? = some (.int .u64 (l.getD j 0 : Nat)) := by simp [ucells, List.getD_eq_getElem?_getD, h]
theorem ucells_set (l : List Nat) (j n : Nat) : (ucells l).set j (.int .u64 n) = ucells (l.set j n) := by simp [ucells, List.map_set]

theorem sum_take_le (l : List Nat) (n : Nat) : (l.take n).sum ≤ l.sum := by
  have h : (l.take n ++ l.drop n).sum = l.sum := by rw [List.take_append_drop]
  rw [List.sum_append] at h; omega
theorem sum_drop_le (l : List Nat) (n : Nat) : (l.drop n).sum ≤ l.sum := by
  have h : (l.take n ++ l.drop n).sum = l.sum := by rw [List.take_append_drop]
  rw [List.sum_append] at h; omega

section
variable {w : World}

set_option maxRecDepth 100000 in
set_option maxHeartbeats 400000 in
theorem check_calls (u v : List UInt8) (hu : u.length = 8) (hv : v.length = 8) :
    Calls Try.prog 53 #[.agg (bcells u).toArray, .agg (bcells v).toArray] w fun x w' => x = .returned (.int .i64 (ckOf u v)) ∧ Kept No w w' := by
  have B0' : Rd ((w.alloc (.cells (bcells u).toArray 123)).alloc (.cells (bcells v).toArray 47)) (some ⟨w.heap.size, 0, none⟩) (bcells u) := Rd.ofBlk' ((Blk.new w 123 (bcells u)).alloc _)
  have B1 : Rd ((w.alloc (.cells (bcells u).toArray 123)).alloc (.cells (bcells v).toArray 47)) (some ⟨w.heap.size + 1, 0, none⟩) (bcells v) := Rd.ofBlk' (Blk.new' (w := w.alloc (.cells (bcells u).toArray 123)) (g := w.heap.size + 1) (by rw [World.size_alloc]) 47 (bcells v))
  have K0 := ((Kept.refl No w).alloc (.cells (bcells u).toArray 123)).alloc (.cells (bcells v).toArray 47)
  have m1 := mxTo_lt u 8
  have m2 := mxTo_lt v 8
  have ck : ckOf u v = if mxTo u 8 ≤ 100 then if mxTo v 8 ≤ 15 then 0 else 16 else 1 := rfl
  generalize ckOf u v = C at *
  generalize e1 : mxTo u 8 = M at *
  generalize e2 : mxTo v 8 = N at *
  have H1 := Lib.hid e1
  have H2 := Lib.hid e2
  have HC := Lib.hid ck
  clear e1 e2 ck
  have b1 : (M : Int) < 256 := by omega
  have b2 : (N : Int) < 256 := by omega
  by_cases h1 : M ≤ 100
  · by_cases h2 : N ≤ 15
    · have q1 : (M : Int) ≤ 100 := by omega
      have q2 : (N : Int) ≤ 15 := by omega
      have HF : Hid (C = 0) := Lib.hid (by rw [HC.out, if_pos h1, if_pos h2])
      go_enter Try.func53, Try.ntmps53
      go_wp2_with (first
        | (go_at_call 61; (with_reducible refine (max8_calls _ _ _ u hu B0').mono ?_); rw [H1.out]; rintro _ _ ⟨rfl, rfl⟩)
        | (go_at_call 61; (with_reducible refine (max8_calls _ _ _ v hv B1).mono ?_); rw [H2.out]; rintro _ _ ⟨rfl, rfl⟩))
      go_ret
      exact ⟨by rw [HF.out]; rfl, K0⟩
    · have q1 : (M : Int) ≤ 100 := by omega
      have q2 := decide_eq_true (show (N : Int) > 15 by omega)
      have HF : Hid (C = 16) := Lib.hid (by rw [HC.out, if_pos h1, if_neg h2])
      go_enter Try.func53, Try.ntmps53
      go_wp2_with (first
        | (go_at_call 61; (with_reducible refine (max8_calls _ _ _ u hu B0').mono ?_); rw [H1.out]; rintro _ _ ⟨rfl, rfl⟩)
        | (go_at_call 61; (with_reducible refine (max8_calls _ _ _ v hv B1).mono ?_); rw [H2.out]; rintro _ _ ⟨rfl, rfl⟩))
      go_ret
      exact ⟨by rw [HF.out]; rfl, K0⟩
  · by_cases True
    · have q1 := decide_eq_true (show (M : Int) > 100 by omega)
      have q2 : True := trivial
      have HF : Hid (C = 1) := Lib.hid (by rw [HC.out, if_neg h1])
      go_enter Try.func53, Try.ntmps53
      go_wp2_with (first
        | (go_at_call 61; (with_reducible refine (max8_calls _ _ _ u hu B0').mono ?_); rw [H1.out]; rintro _ _ ⟨rfl, rfl⟩)
        | (go_at_call 61; (with_reducible refine (max8_calls _ _ _ v hv B1).mono ?_); rw [H2.out]; rintro _ _ ⟨rfl, rfl⟩))
      go_ret
      exact ⟨by rw [HF.out]; rfl, K0⟩
    · exact absurd trivial (by assumption)

def TlRel (ws : World) (l : List Nat) (L want : Nat) (n i : Value) (wr : World) : Prop :=
  ∃ k : Nat, k ≤ L - want ∧ n = .int .u64 ((l.drop want).take k).sum ∧ i = .int .i64 k ∧ wr = ws

set_option maxRecDepth 100000 in
set_option maxHeartbeats 400000 in
theorem tail_calls (g : Nat) (l : List Nat) (want : Nat) (hw : want < l.length) (hlen : l.length ≤ 100000) (hwb : want < 256) (hs : l.sum < 18446744073709551616) (hr : Rd w (some ⟨g, 0, none⟩) (ucells l)) :
    Calls Try.prog 58 #[.slice (some ⟨g, 0, none⟩) l.length l.length, .int .u8 want] w fun e w' => e = .returned (.int .u64 (l.drop want).sum) ∧ w = w' := by
  have q1 : (want : Int) < 256 := by omega
  have q2 : (want : Int) < l.length := by omega
  have q3 : ¬ l.length = want := by omega
  have q4 : (l.length : Int) ≤ 100000 := by omega
  generalize hL : l.length = L at *
  have HL := Lib.hid hL
  clear hL
  go_enter Try.func58, Try.ntmps58
  go_wp2
  go_loopw [5, 12] (fun n i wr => TlRel w l L want n i wr) (fun _ i _ => (L - want) - (intOf i).toNat)
  case atStart => exact ⟨0, by omega, by simp, rfl, rfl⟩
  case round =>
    obtain ⟨k, hk, rfl, rfl, rfl⟩ := hrel
    have i0 : (0 : Int) ≤ k := by omega
    by_cases hlt : k < L - want
    · have i1 : (k : Int) < (L - want : Nat) := by omega
      have hlk : want + k < l.length := by rw [HL.out]; omega
      have hc : wr.cell? ⟨g, want + k, none⟩ = some (.int .u64 (l.getD (want + k) 0 : Nat)) := by
        have h2 := hr.at (want + k) (by rw [ucells_length]; exact hlk)
        rw [Nat.zero_add] at h2
        rw [h2, ← ucells_get l _ hlk]; simp
      have step : ((l.drop want).take (k + 1)).sum = ((l.drop want).take k).sum + l.getD (want + k) 0 := by
        rw [List.take_succ_eq_append_getElem (by rw [List.length_drop]; omega), List.sum_append]
        simp [List.getD_eq_getElem?_getD, hlk]
      have bd : ((l.drop want).take (k + 1)).sum ≤ l.sum := Nat.le_trans (sum_take_le _ _) (sum_drop_le _ _)
      have bI : (((l.drop want).take k).sum : Int) + (l.getD (want + k) 0 : Nat) < 18446744073709551616 := by omega
      have HS := Lib.hid step
      clear step bd
      generalize l.getD (want + k) 0 = x at *
      go_wp2
      exact ⟨⟨k + 1, by omega, by rw [HS.out]; go_num, by go_num, rfl⟩, by simp [intOf]; omega⟩
    · have i1 : ((L - want : Nat) : Int) ≤ k := by omega
      go_wp2
      go_ret
      exact ⟨by rw [List.take_of_length_le (by rw [List.length_drop, HL.out]; omega)]; rfl, rfl⟩
end
end Go.Proofs.Ytencnfgmgcdiiaa
