/- The program's often, Reads, Writes and Votes, as walks. -/
import Derived.Test.YtencnfgmgcdiiaaAvI
namespace Go.Proofs.Ytencnfgmgcdiiaa
open Go.RowKit Go.PM

/-- How often, or which error. -/
def rdOf (e r v : Nat) (l u : List UInt8) (want : Nat) : Nat × Nat := if upOk u then if avMay e r v l then (avOften (vsOf l) (vsOf u) want 256, 0) else (0, 16) else (0, 1)
theorem avOften_tail (l u : List UInt8) (want : Nat) : ((avCnt (vsOf l) (vsOf u) 8).drop want).sum = avOften (vsOf l) (vsOf u) want 256 := by
  rw [avCnt_tail]
  unfold avSum avOften
  show ((List.range 256).map _).sum = _
  apply congrArg
  apply List.map_congr_left
  intro x _
  have e : (want ≤ avOf (vsOf l) 8 x) ↔ ((want : Int) ≤ (avOf (vsOf l) 8 x : Int)) := by omega
  simp only [e]
def zero8 : List UInt8 := List.replicate 8 0
theorem ck_zero (u : List UInt8) (hu : u.length = 8) : ckOf u zero8 = if upOk u then 0 else 1 := by
  have h := mx_upOk u hu
  have hz : mxTo zero8 8 ≤ 15 := by decide
  unfold ckOf
  by_cases hh : upOk u = true
  · rw [if_pos (h.2 hh), if_pos hz, if_pos hh]
  · rw [if_neg (fun x => hh (h.1 x)), if_neg hh]

section
variable {w : World}

set_option maxRecDepth 100000 in
set_option maxHeartbeats 1000000 in
theorem often_calls (e r v : Nat) (l u : List UInt8) (hl : l.length = 8) (hul : u.length = 8) (he : e < 4294967296) (hr : r < 256) (hv : v < 256) (want : Nat) (hw : want = r ∨ want = v) :
    Calls Try.prog 48 #[.agg (cfgc e r v l).toArray, .agg (bcells u).toArray, .int .u8 want] w
      fun x w' => x = .returned (.tuple #[.int .u64 (rdOf e r v l u want).1, .int .i64 (rdOf e r v l u want).2]) ∧ Kept No w w' := by
  have hr0 : rdOf e r v l u want = if upOk u then if avMay e r v l then (avOften (vsOf l) (vsOf u) want 256, 0) else (0, 16) else (0, 1) := rfl
  have B0 := (Blk.new w 49 (cfgc e r v l)).alloc (.cells (bcells u).toArray 123)
  have B1 := Blk.new' (w := w.alloc (.cells (cfgc e r v l).toArray 49)) (g := w.heap.size + 1) (by rw [World.size_alloc]) 123 (bcells u)
  have K0 := ((Kept.refl No w).alloc (.cells (cfgc e r v l).toArray 49)).alloc (.cells (bcells u).toArray 123)
  have hck := ck_zero u hul
  obtain ⟨c0, c1, c2, c3, c4, c5, c6, c7, c8, c9, c10⟩ := cfg_cells B0 hl
  obtain ⟨d0, d1, d2, d3, d4, d5, d6, d7⟩ := up_cells B1 hul
  generalize rdOf e r v l u want = R at *
  cases hU : upOk u
  case false =>
    rw [hU, if_neg (by decide)] at hr0 hck
    subst hr0
    have HC := Lib.hid hck
    clear hck hU
    go_enter Try.func48, Try.ntmps48
    go_wp2_with fail
    rw [up_eq u hul]
    refine (check_calls u zero8 hul rfl).mono ?_
    rw [HC.out]
    rintro _ w1 ⟨rfl, k1⟩
    go_wp2
    go_ret2
    exact ⟨rfl, K0.trans k1 fun _ _ h => h⟩
  rw [hU, if_pos rfl] at hr0 hck
  have HC := Lib.hid hck
  have HU := Lib.hid hU
  clear hck hU
  cases hM : avMay e r v l
  case false =>
    rw [hM, if_neg (by decide)] at hr0
    subst hr0
    have HM := Lib.hid hM
    clear hM
    go_enter Try.func48, Try.ntmps48
    go_wp2_with fail
    rw [up_eq u hul]
    refine (check_calls u zero8 hul rfl).mono ?_
    rw [HC.out]
    rintro _ w1 ⟨rfl, k1⟩
    have C0 := B0.kept k1 id
    have K1 := K0.trans k1 fun _ _ h => h
    clear c0 c1 c2 c3 c4 c5 c6 c7 c8 c9 c10 d0 d1 d2 d3 d4 d5 d6 d7 B0 B1 K0
    obtain ⟨c0, c1, c2, c3, c4, c5, c6, c7, c8, c9, c10⟩ := cfg_cells C0 hl
    go_wp2_with fail
    rw [cfg_eq e r v l hl]
    refine (may_calls e r v l hl he hr hv).mono ?_
    rw [HM.out]
    rintro _ w2 ⟨rfl, k2⟩
    go_wp2
    go_ret2
    exact ⟨rfl, K1.trans k2 fun _ _ h => h⟩
  rw [hM, if_pos rfl] at hr0
  subst hr0
  have HM := Lib.hid hM
  have hwant : want < (avCnt (vsOf l) (vsOf u) 8).length := by
    rw [avCnt_length]
    unfold avMay at hM
    simp only [Bool.and_eq_true, decide_eq_true_eq] at hM
    show want < 1 + avOf (vsOf l) 8 255
    omega
  have hlen : (avCnt (vsOf l) (vsOf u) 8).length ≤ 100000 := by
    rw [avCnt_length]
    have := avOf_le l 8 (2 ^ 8 - 1)
    omega
  have hsum : (avCnt (vsOf l) (vsOf u) 8).sum < 18446744073709551616 := by
    rw [avCnt_sum _ _ (upOk_le HU.out)]; decide
  have HT := Lib.hid (avOften_tail l u want)
  have hw256 : want < 256 := by omega
  clear hM
  generalize avOften (vsOf l) (vsOf u) want 256 = ans at *
  go_enter Try.func48, Try.ntmps48
  go_wp2_with fail
  rw [up_eq u hul]
  refine (check_calls u zero8 hul rfl).mono ?_
  rw [HC.out]
  rintro _ w1 ⟨rfl, k1⟩
  have C0 := B0.kept k1 id
  have C1 := B1.kept k1 id
  have K1 := K0.trans k1 fun _ _ h => h
  clear c0 c1 c2 c3 c4 c5 c6 c7 c8 c9 c10 d0 d1 d2 d3 d4 d5 d6 d7 B0 B1 K0
  obtain ⟨c0, c1, c2, c3, c4, c5, c6, c7, c8, c9, c10⟩ := cfg_cells C0 hl
  go_wp2_with fail
  rw [cfg_eq e r v l hl]
  refine (may_calls e r v l hl he hr hv).mono ?_
  rw [HM.out]
  rintro _ w2 ⟨rfl, k2⟩
  have D0 := C0.kept k2 id
  have D1 := C1.kept k2 id
  have K2 := K1.trans k2 fun _ _ h => h
  clear c0 c1 c2 c3 c4 c5 c6 c7 c8 c9 c10 C0 C1 K1
  obtain ⟨c0, c1, c2, c3, c4, c5, c6, c7, c8, c9, c10⟩ := cfg_cells D0 hl
  obtain ⟨d0, d1, d2, d3, d4, d5, d6, d7⟩ := up_cells D1 hul
  go_wp2_with fail
  rw [up_eq u hul, up_eq l hl]
  refine (count_calls l u hl hul HU.out).mono ?_
  rintro _ w3 ⟨_, rfl, ⟨g, rfl, hg, BG⟩, k3⟩
  clear c0 c1 c2 c3 c4 c5 c6 c7 c8 c9 c10 d0 d1 d2 d3 d4 d5 d6 d7
  go_wp2_with fail
  refine (tail_calls g _ want hwant hlen hw256 hsum (Rd.ofBlk' BG)).mono ?_
  rw [HT.out]
  rintro _ w4 ⟨rfl, rfl⟩
  go_wp2
  go_ret2
  exact ⟨rfl, K2.trans k3 fun _ _ h => h⟩
end
end Go.Proofs.Ytencnfgmgcdiiaa
