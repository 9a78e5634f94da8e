/- The reference's May, as a walk. -/
import Derived.Test.YtencnfgmgcdiiaaAvD
namespace Go.Proofs.Ytencnfgmgcdiiaa
open Go.RowKit Go.PM

/-- Votes of no node are more than may be. -/
def vOk (l : List UInt8) : Bool := l.all fun x => x.toNat ≤ 15
/-- A configuration that may be. -/
def avMay (e r v : Nat) (l : List UInt8) : Bool :=
  vOk l && decide (1 ≤ e ∧ e ≤ 2147483647 ∧ 1 ≤ r ∧ 1 ≤ v ∧ r ≤ avOf (vsOf l) 8 255 ∧ v ≤ avOf (vsOf l) 8 255 ∧ avOf (vsOf l) 8 255 < r + v ∧ avOf (vsOf l) 8 255 < 2 * v)
theorem vOk_le {u : List UInt8} (h : vOk u = true) (k : Nat) : vsOf u k ≤ 15 := by
  unfold vsOf
  rw [List.getD_eq_getElem?_getD]
  unfold vOk at h
  simp only [List.all_eq_true, decide_eq_true_eq] at h
  cases e : u[k]? with
  | none => simp
  | some x => exact h x (List.mem_of_getElem? e)
theorem vOk_step {u : List UInt8} {k : Nat} (hk : k < u.length) (h : vOk (u.take k) = true) : vOk (u.take (k + 1)) = decide (vsOf u k ≤ 15) := by
  rw [List.take_succ_eq_append_getElem hk]
  unfold vOk at *
  rw [List.all_append, h]
  simp [vsOf, List.getD_eq_getElem?_getD, hk]

def VRel (ws : World) (u : List UInt8) (i : Value) (wr : World) : Prop :=
  ∃ k : Nat, k ≤ 8 ∧ vOk (u.take k) = true ∧ i = .int .i64 k ∧ wr = ws
theorem avMay_no {e r v : Nat} {l : List UInt8} (h : ¬ (1 ≤ e ∧ e ≤ 2147483647 ∧ 1 ≤ r ∧ 1 ≤ v ∧ r ≤ avOf (vsOf l) 8 255 ∧ v ≤ avOf (vsOf l) 8 255 ∧ avOf (vsOf l) 8 255 < r + v ∧ avOf (vsOf l) 8 255 < 2 * v)) : avMay e r v l = false := by
  unfold avMay
  rw [decide_eq_false h, Bool.and_false]

section
variable {w : World}

set_option maxRecDepth 100000 in
set_option maxHeartbeats 400000 in
theorem refMay_calls (e r v : Nat) (l : List UInt8) (hl : l.length = 8) (he : e < 4294967296) (hr : r < 256) (hv : v < 256) :
    Calls Try.prog 24 #[.agg (cfgc e r v l).toArray] w fun x w' => x = .returned (.bool (avMay e r v l)) ∧ Kept No w w' := by
  go_enter Try.func24, Try.ntmps24
  go_wp2
  have B0 := Blk.new w 49 (cfgc e r v l)
  have K0 := (Kept.refl No w).alloc (.cells (cfgc e r v l).toArray 49)
  generalize hws : w.alloc (.cells (cfgc e r v l).toArray 49) = ws at *
  have kd : Kept No w ws.drew := K0.drew
  have wr1 : IntKind.i64.wrap (r : Int) = r := by rw [IntKind.wrap_i64]; omega
  have wr2 : IntKind.i64.wrap (v : Int) = v := by rw [IntKind.wrap_i64]; omega
  obtain ⟨c0, c1, c2, c3, c4, c5, c6, c7, c8, c9, c10⟩ := cfg_cells B0 hl
  have B1 : Blk ws.drew _ _ _ := B0.drewN 1
  obtain ⟨d0, d1, d2, d3, d4, d5, d6, d7, d8, d9, d10⟩ := cfg_cells (B0.drewN 1 : Blk ws.drew _ _ _) hl
  go_region_held3 (fun w' => w'.cell? ⟨w.heap.size, 0, none⟩ = some (.int .u32 e) ∧ w'.cell? ⟨w.heap.size, 1, none⟩ = some (.int .u8 r) ∧ w'.cell? ⟨w.heap.size, 2, none⟩ = some (.int .u8 v) ∧ w'.cell? ⟨w.heap.size, 3, none⟩ = some (.int .u8 (vsOf l 0)) ∧ w'.cell? ⟨w.heap.size, 4, none⟩ = some (.int .u8 (vsOf l 1)) ∧ w'.cell? ⟨w.heap.size, 5, none⟩ = some (.int .u8 (vsOf l 2)) ∧ w'.cell? ⟨w.heap.size, 6, none⟩ = some (.int .u8 (vsOf l 3)) ∧ w'.cell? ⟨w.heap.size, 7, none⟩ = some (.int .u8 (vsOf l 4)) ∧ w'.cell? ⟨w.heap.size, 8, none⟩ = some (.int .u8 (vsOf l 5)) ∧ w'.cell? ⟨w.heap.size, 9, none⟩ = some (.int .u8 (vsOf l 6)) ∧ w'.cell? ⟨w.heap.size, 10, none⟩ = some (.int .u8 (vsOf l 7)))
    (first | (with_reducible exact cfg_cells B1 hl) | (with_reducible exact cfg_cells B2 hl) | go_keep)
    (first
      | (go_at_call 39; rw [cfg_eq e r v l hl]; refine (refTotal_calls e r v l hl).mono ?_; rintro _ w2 ⟨rfl, hk2⟩; have B2 : Blk w2 _ _ _ := (B0.drewN 1 : Blk ws.drew _ _ _).kept hk2 id; have k2 := kd.trans hk2 fun _ _ h => h)
      | fail)
  try simp only [wr1, wr2]
  clear c0 c1 c2 c3 c4 c5 c6 c7 c8 c9 c10 d0 d1 d2 d3 d4 d5 d6 d7 d8 d9 d10
  go_wp2
  go_loopw [6] (fun i wr => VRel w2 l i wr) (fun i _ => 8 - (intOf i).toNat)
  case atStart => exact ⟨0, by omega, rfl, rfl, rfl⟩
  case round =>
    obtain ⟨k, hk, ho, rfl, rfl⟩ := hrel
    have HO := Lib.hid ho
    clear ho
    by_cases hlt : k < 8
    · have i0 : (0 : Int) ≤ k := by omega
      have i1 : (k : Int) < 8 := by omega
      have hc : wr.cell? ⟨w.heap.size, 3 + k, none⟩ = some (.int .u8 (vsOf l k)) := (B2.cell _).trans (cfgc_votes e r v l (by omega))
      have v1 := vsOf_lt l k
      by_cases h15 : vsOf l k ≤ 15
      · have V1 : ((vsOf l k : Nat) : Int) ≤ 15 := by omega
        go_wp2
        go_roundw
        case rel => exact ⟨k + 1, by omega, by rw [vOk_step (by omega) HO.out]; exact decide_eq_true h15, by go_num, rfl⟩
        case measure => simp [intOf]; omega
      · have V1 : (15 : Int) < (vsOf l k : Nat) := by omega
        go_wp2
        go_ret
        refine ⟨?_, k2⟩
        have : vOk l = false := by
          cases h : vOk l
          · rfl
          · exact absurd (vOk_le h k) h15
        unfold avMay
        rw [this]; rfl
    · have e8 : k = 8 := by omega
      subst e8
      have ok : vOk l = true := by
        have := HO.out
        rwa [List.take_of_length_le (by omega)] at this
      obtain ⟨f0, f1, f2, f3, f4, f5, f6, f7, f8, f9, f10⟩ := cfg_cells B2 hl
      have tb := avOf_le l 8 255
      have b1 : (r : Int) < 256 := by omega
      have b2 : (v : Int) < 256 := by omega
      have b3 : (e : Int) < 4294967296 := by omega
      generalize hA : avOf (vsOf l) 8 255 = A at *
      have b4 : (A : Int) ≤ 2040 := by omega
      by_cases h0 : 1 ≤ e
      case neg =>
        have q0 := decide_eq_false (show ¬ (e : Int) ≥ 1 by omega)
        go_wp2
        go_ret
        exact ⟨by rw [avMay_no (by rw [hA]; omega)]; rfl, k2⟩
      have q0 : (1 : Int) ≤ e := by omega
      by_cases h1 : e ≤ 2147483647
      case neg =>
        have q1 := decide_eq_false (show ¬ (e : Int) ≤ 2147483647 by omega)
        go_wp2
        go_ret
        exact ⟨by rw [avMay_no (by rw [hA]; omega)]; rfl, k2⟩
      have q1 : (e : Int) ≤ 2147483647 := by omega
      by_cases h2 : 1 ≤ r
      case neg =>
        have q2 := decide_eq_false (show ¬ (r : Int) ≥ 1 by omega)
        go_wp2
        go_ret
        exact ⟨by rw [avMay_no (by rw [hA]; omega)]; rfl, k2⟩
      have q2 : (1 : Int) ≤ r := by omega
      by_cases h3 : 1 ≤ v
      case neg =>
        have q3 := decide_eq_false (show ¬ (v : Int) ≥ 1 by omega)
        go_wp2
        go_ret
        exact ⟨by rw [avMay_no (by rw [hA]; omega)]; rfl, k2⟩
      have q3 : (1 : Int) ≤ v := by omega
      by_cases h4 : r ≤ A
      case neg =>
        have q4 : (A : Int) < r := by omega
        go_wp2
        go_ret
        exact ⟨by rw [avMay_no (by rw [hA]; omega)]; rfl, k2⟩
      have q4 : (r : Int) ≤ A := by omega
      by_cases h5 : v ≤ A
      case neg =>
        have q5 : (A : Int) < v := by omega
        go_wp2
        go_ret
        exact ⟨by rw [avMay_no (by rw [hA]; omega)]; rfl, k2⟩
      have q5 : (v : Int) ≤ A := by omega
      by_cases h6 : A < r + v
      case neg =>
        have q6 := decide_eq_false (show ¬ (r : Int) + v > A by omega)
        go_wp2
        go_ret
        exact ⟨by rw [avMay_no (by rw [hA]; omega)]; rfl, k2⟩
      have q6 : (A : Int) < r + v := by omega
      have h7 : avMay e r v l = decide ((A : Int) < 2 * v) := by
        unfold avMay
        rw [ok, hA, Bool.true_and]
        by_cases h : A < 2 * v
        · rw [decide_eq_true (show (A : Int) < 2 * v by omega)]
          exact decide_eq_true ⟨h0, h1, h2, h3, h4, h5, h6, h⟩
        · rw [decide_eq_false (show ¬ (A : Int) < 2 * v by omega)]
          exact decide_eq_false fun x => h x.2.2.2.2.2.2.2
      go_wp2
      go_ret
      exact ⟨by rw [h7]; rfl, k2⟩
end
end Go.Proofs.Ytencnfgmgcdiiaa
