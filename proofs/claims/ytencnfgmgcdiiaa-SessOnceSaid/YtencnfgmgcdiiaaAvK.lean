/- Reads and Writes, the program's and the reference's, as walks. PRINTED by wip/tools/gen_avk.py. -/
import Derived.Test.YtencnfgmgcdiiaaAvJ
namespace Go.Proofs.Ytencnfgmgcdiiaa
open Go.RowKit Go.PM

section
variable {w : World}

set_option maxRecDepth 100000 in
set_option maxHeartbeats 1000000 in
theorem reads_calls (e r v : Nat) (l u : List UInt8) (hl : l.length = 8) (hul : u.length = 8) (he : e < 4294967296) (hr : r < 256) (hv : v < 256) :
    Calls Try.prog 26 #[.agg (cfgc e r v l).toArray, .agg (bcells u).toArray] w
      fun x w' => x = .returned (.tuple #[.int .u64 (rdOf e r v l u r).1, .int .i64 (rdOf e r v l u r).2]) ∧ Kept No w w' := by
  have B0 := (Blk.new w 49 (cfgc e r v l)).alloc (.cells (bcells u).toArray 47)
  have B1 := Blk.new' (w := w.alloc (.cells (cfgc e r v l).toArray 49)) (g := w.heap.size + 1) (by rw [World.size_alloc]) 47 (bcells u)
  have K0 := ((Kept.refl No w).alloc (.cells (cfgc e r v l).toArray 49)).alloc (.cells (bcells u).toArray 47)
  have ho := fun w => often_calls (w := w) e r v l u hl hul he hr hv r (.inl rfl)
  obtain ⟨c0, c1, c2, c3, c4, c5, c6, c7, c8, c9, c10⟩ := cfg_cells B0 hl
  obtain ⟨d0, d1, d2, d3, d4, d5, d6, d7⟩ := up_cells B1 hul
  generalize rdOf e r v l u r = R at *
  have HO := Lib.hid ho
  clear ho
  go_enter Try.func26, Try.ntmps26
  go_wp2_with fail
  rw [cfg_eq e r v l hl, up_eq u hul]
  refine (HO.out _).mono ?_
  rintro _ w1 ⟨rfl, k1⟩
  go_wp2
  go_ret2
  exact ⟨rfl, K0.trans k1 fun _ _ h => h⟩

set_option maxRecDepth 100000 in
set_option maxHeartbeats 1000000 in
theorem writes_calls (e r v : Nat) (l u : List UInt8) (hl : l.length = 8) (hul : u.length = 8) (he : e < 4294967296) (hr : r < 256) (hv : v < 256) :
    Calls Try.prog 27 #[.agg (cfgc e r v l).toArray, .agg (bcells u).toArray] w
      fun x w' => x = .returned (.tuple #[.int .u64 (rdOf e r v l u v).1, .int .i64 (rdOf e r v l u v).2]) ∧ Kept No w w' := by
  have B0 := (Blk.new w 49 (cfgc e r v l)).alloc (.cells (bcells u).toArray 47)
  have B1 := Blk.new' (w := w.alloc (.cells (cfgc e r v l).toArray 49)) (g := w.heap.size + 1) (by rw [World.size_alloc]) 47 (bcells u)
  have K0 := ((Kept.refl No w).alloc (.cells (cfgc e r v l).toArray 49)).alloc (.cells (bcells u).toArray 47)
  have ho := fun w => often_calls (w := w) e r v l u hl hul he hr hv v (.inr rfl)
  obtain ⟨c0, c1, c2, c3, c4, c5, c6, c7, c8, c9, c10⟩ := cfg_cells B0 hl
  obtain ⟨d0, d1, d2, d3, d4, d5, d6, d7⟩ := up_cells B1 hul
  generalize rdOf e r v l u v = R at *
  have HO := Lib.hid ho
  clear ho
  go_enter Try.func27, Try.ntmps27
  go_wp2_with fail
  rw [cfg_eq e r v l hl, up_eq u hul]
  refine (HO.out _).mono ?_
  rintro _ w1 ⟨rfl, k1⟩
  go_wp2
  go_ret2
  exact ⟨rfl, K0.trans k1 fun _ _ h => h⟩

set_option maxRecDepth 100000 in
set_option maxHeartbeats 1000000 in
theorem refReads_calls (e r v : Nat) (l u : List UInt8) (hl : l.length = 8) (hul : u.length = 8) (he : e < 4294967296) (hr : r < 256) (hv : v < 256) :
    Calls Try.prog 36 #[.agg (cfgc e r v l).toArray, .agg (bcells u).toArray] w
      fun x w' => x = .returned (.tuple #[.int .u64 (rdOf e r v l u r).1, .int .i64 (rdOf e r v l u r).2]) ∧ Kept No w w' := by
  have hr0 : rdOf e r v l u r = if upOk u then if avMay e r v l then (avOften (vsOf l) (vsOf u) r 256, 0) else (0, 16) else (0, 1) := rfl
  have B0 := (Blk.new w 49 (cfgc e r v l)).alloc (.cells (bcells u).toArray 47)
  have B1 := Blk.new' (w := w.alloc (.cells (cfgc e r v l).toArray 49)) (g := w.heap.size + 1) (by rw [World.size_alloc]) 47 (bcells u)
  have K0 := ((Kept.refl No w).alloc (.cells (cfgc e r v l).toArray 49)).alloc (.cells (bcells u).toArray 47)
  have br : (r : Int) < 256 := by omega
  have bv : (v : Int) < 256 := by omega
  obtain ⟨c0, c1, c2, c3, c4, c5, c6, c7, c8, c9, c10⟩ := cfg_cells B0 hl
  obtain ⟨d0, d1, d2, d3, d4, d5, d6, d7⟩ := up_cells B1 hul
  generalize rdOf e r v l u r = R at *
  cases hU : upOk u
  case false =>
    rw [hU, if_neg (by decide)] at hr0
    subst hr0
    have HU := Lib.hid hU
    clear hU
    go_enter Try.func36, Try.ntmps36
    go_wp2_with fail
    rw [up_eq u hul]
    refine (refUp_calls u hul).mono ?_
    rw [HU.out]
    rintro _ w1 ⟨rfl, k1⟩
    go_wp2
    go_ret2
    exact ⟨rfl, K0.trans k1 fun _ _ h => h⟩
  rw [hU, if_pos rfl] at hr0
  have HU := Lib.hid hU
  clear hU
  cases hM : avMay e r v l
  case false =>
    rw [hM, if_neg (by decide)] at hr0
    subst hr0
    have HM := Lib.hid hM
    clear hM
    go_enter Try.func36, Try.ntmps36
    go_wp2_with fail
    rw [up_eq u hul]
    refine (refUp_calls u hul).mono ?_
    rw [HU.out]
    rintro _ w1 ⟨rfl, k1⟩
    have C0 := B0.kept k1 id
    have C1 := B1.kept k1 id
    have K1 := K0.trans k1 fun _ _ h => h
    clear c0 c1 c2 c3 c4 c5 c6 c7 c8 c9 c10 d0 d1 d2 d3 d4 d5 d6 d7 B0 B1 K0
    obtain ⟨c0, c1, c2, c3, c4, c5, c6, c7, c8, c9, c10⟩ := cfg_cells C0 hl
    go_wp2_with fail
    rw [cfg_eq e r v l hl]
    refine (refMay_calls e r v l hl he hr hv).mono ?_
    rw [HM.out]
    rintro _ w2 ⟨rfl, k2⟩
    go_wp2
    go_ret2
    exact ⟨rfl, K1.trans k2 fun _ _ h => h⟩
  case true =>
    rw [hM, if_pos rfl] at hr0
    subst hr0
    have HM := Lib.hid hM
    clear hM
    have ho := fun w => refOften_calls (w := w) e r v l u hl hul HU.out r
    generalize avOften (vsOf l) (vsOf u) r 256 = ans at *
    have HO := Lib.hid ho
    clear ho
    go_enter Try.func36, Try.ntmps36
    go_wp2_with fail
    rw [up_eq u hul]
    refine (refUp_calls u hul).mono ?_
    rw [HU.out]
    rintro _ w1 ⟨rfl, k1⟩
    have C0 := B0.kept k1 id
    have C1 := B1.kept k1 id
    have K1 := K0.trans k1 fun _ _ h => h
    clear c0 c1 c2 c3 c4 c5 c6 c7 c8 c9 c10 d0 d1 d2 d3 d4 d5 d6 d7 B0 B1 K0
    obtain ⟨c0, c1, c2, c3, c4, c5, c6, c7, c8, c9, c10⟩ := cfg_cells C0 hl
    go_wp2_with fail
    rw [cfg_eq e r v l hl]
    refine (refMay_calls e r v l hl he hr hv).mono ?_
    rw [HM.out]
    rintro _ w2 ⟨rfl, k2⟩
    have D0 := C0.kept k2 id
    have D1 := C1.kept k2 id
    have K2 := K1.trans k2 fun _ _ h => h
    clear c0 c1 c2 c3 c4 c5 c6 c7 c8 c9 c10 C0 C1 K1
    obtain ⟨c0, c1, c2, c3, c4, c5, c6, c7, c8, c9, c10⟩ := cfg_cells D0 hl
    obtain ⟨d0, d1, d2, d3, d4, d5, d6, d7⟩ := up_cells D1 hul
    go_wp2_with fail
    rw [cfg_eq e r v l hl, up_eq u hul]
    refine (HO.out _).mono ?_
    rintro _ w3 ⟨rfl, k3⟩
    go_wp2
    go_ret2
    exact ⟨rfl, K2.trans k3 fun _ _ h => h⟩

set_option maxRecDepth 100000 in
set_option maxHeartbeats 1000000 in
theorem refWrites_calls (e r v : Nat) (l u : List UInt8) (hl : l.length = 8) (hul : u.length = 8) (he : e < 4294967296) (hr : r < 256) (hv : v < 256) :
    Calls Try.prog 37 #[.agg (cfgc e r v l).toArray, .agg (bcells u).toArray] w
      fun x w' => x = .returned (.tuple #[.int .u64 (rdOf e r v l u v).1, .int .i64 (rdOf e r v l u v).2]) ∧ Kept No w w' := by
  have hr0 : rdOf e r v l u v = if upOk u then if avMay e r v l then (avOften (vsOf l) (vsOf u) v 256, 0) else (0, 16) else (0, 1) := rfl
  have B0 := (Blk.new w 49 (cfgc e r v l)).alloc (.cells (bcells u).toArray 47)
  have B1 := Blk.new' (w := w.alloc (.cells (cfgc e r v l).toArray 49)) (g := w.heap.size + 1) (by rw [World.size_alloc]) 47 (bcells u)
  have K0 := ((Kept.refl No w).alloc (.cells (cfgc e r v l).toArray 49)).alloc (.cells (bcells u).toArray 47)
  have br : (r : Int) < 256 := by omega
  have bv : (v : Int) < 256 := by omega
  obtain ⟨c0, c1, c2, c3, c4, c5, c6, c7, c8, c9, c10⟩ := cfg_cells B0 hl
  obtain ⟨d0, d1, d2, d3, d4, d5, d6, d7⟩ := up_cells B1 hul
  generalize rdOf e r v l u v = R at *
  cases hU : upOk u
  case false =>
    rw [hU, if_neg (by decide)] at hr0
    subst hr0
    have HU := Lib.hid hU
    clear hU
    go_enter Try.func37, Try.ntmps37
    go_wp2_with fail
    rw [up_eq u hul]
    refine (refUp_calls u hul).mono ?_
    rw [HU.out]
    rintro _ w1 ⟨rfl, k1⟩
    go_wp2
    go_ret2
    exact ⟨rfl, K0.trans k1 fun _ _ h => h⟩
  rw [hU, if_pos rfl] at hr0
  have HU := Lib.hid hU
  clear hU
  cases hM : avMay e r v l
  case false =>
    rw [hM, if_neg (by decide)] at hr0
    subst hr0
    have HM := Lib.hid hM
    clear hM
    go_enter Try.func37, Try.ntmps37
    go_wp2_with fail
    rw [up_eq u hul]
    refine (refUp_calls u hul).mono ?_
    rw [HU.out]
    rintro _ w1 ⟨rfl, k1⟩
    have C0 := B0.kept k1 id
    have C1 := B1.kept k1 id
    have K1 := K0.trans k1 fun _ _ h => h
    clear c0 c1 c2 c3 c4 c5 c6 c7 c8 c9 c10 d0 d1 d2 d3 d4 d5 d6 d7 B0 B1 K0
    obtain ⟨c0, c1, c2, c3, c4, c5, c6, c7, c8, c9, c10⟩ := cfg_cells C0 hl
    go_wp2_with fail
    rw [cfg_eq e r v l hl]
    refine (refMay_calls e r v l hl he hr hv).mono ?_
    rw [HM.out]
    rintro _ w2 ⟨rfl, k2⟩
    go_wp2
    go_ret2
    exact ⟨rfl, K1.trans k2 fun _ _ h => h⟩
  case true =>
    rw [hM, if_pos rfl] at hr0
    subst hr0
    have HM := Lib.hid hM
    clear hM
    have ho := fun w => refOften_calls (w := w) e r v l u hl hul HU.out v
    generalize avOften (vsOf l) (vsOf u) v 256 = ans at *
    have HO := Lib.hid ho
    clear ho
    go_enter Try.func37, Try.ntmps37
    go_wp2_with fail
    rw [up_eq u hul]
    refine (refUp_calls u hul).mono ?_
    rw [HU.out]
    rintro _ w1 ⟨rfl, k1⟩
    have C0 := B0.kept k1 id
    have C1 := B1.kept k1 id
    have K1 := K0.trans k1 fun _ _ h => h
    clear c0 c1 c2 c3 c4 c5 c6 c7 c8 c9 c10 d0 d1 d2 d3 d4 d5 d6 d7 B0 B1 K0
    obtain ⟨c0, c1, c2, c3, c4, c5, c6, c7, c8, c9, c10⟩ := cfg_cells C0 hl
    go_wp2_with fail
    rw [cfg_eq e r v l hl]
    refine (refMay_calls e r v l hl he hr hv).mono ?_
    rw [HM.out]
    rintro _ w2 ⟨rfl, k2⟩
    have D0 := C0.kept k2 id
    have D1 := C1.kept k2 id
    have K2 := K1.trans k2 fun _ _ h => h
    clear c0 c1 c2 c3 c4 c5 c6 c7 c8 c9 c10 C0 C1 K1
    obtain ⟨c0, c1, c2, c3, c4, c5, c6, c7, c8, c9, c10⟩ := cfg_cells D0 hl
    obtain ⟨d0, d1, d2, d3, d4, d5, d6, d7⟩ := up_cells D1 hul
    go_wp2_with fail
    rw [cfg_eq e r v l hl, up_eq u hul]
    refine (HO.out _).mono ?_
    rintro _ w3 ⟨rfl, k3⟩
    go_wp2
    go_ret2
    exact ⟨rfl, K2.trans k3 fun _ _ h => h⟩
end
end Go.Proofs.Ytencnfgmgcdiiaa
