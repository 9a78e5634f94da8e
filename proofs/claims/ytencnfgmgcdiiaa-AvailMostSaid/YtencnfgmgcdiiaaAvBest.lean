/- The law AvailBest, as a walk. -/
import Derived.Test.YtencnfgmgcdiiaaAvBestB
import Derived.Test.YtencnfgmgcdiiaaEq
namespace Go.Proofs.Ytencnfgmgcdiiaa
open Go.RowKit Go.PM

theorem bestCfg_form (l u : List UInt8) (share : Nat) (hl : l.length = 8) (_hA : avOf (vsOf l) 8 255 ≤ 2040) : ∃ (e r v : Nat) (m : List UInt8), bestCfg l u share = cfgc e r v m ∧ m.length = 8 := by
  unfold bestCfg
  split
  · exact ⟨0, 0, 0, zero8, rfl, rfl⟩
  · exact ⟨_, _, _, l, rfl, hl⟩

section
variable {w : World}

def BestPost' (w : World) (e r v : Nat) (m : List UInt8) (E : Nat) (x : Ending) (w' : World) : Prop := x = .returned (.tuple #[.agg #[.int .u32 e, .int .u8 r, .int .u8 v, .int .u8 (vsOf m 0), .int .u8 (vsOf m 1), .int .u8 (vsOf m 2), .int .u8 (vsOf m 3), .int .u8 (vsOf m 4), .int .u8 (vsOf m 5), .int .u8 (vsOf m 6), .int .u8 (vsOf m 7)], .int .i64 E]) ∧ Kept No w w'

set_option maxRecDepth 100000 in
set_option maxHeartbeats 4000000 in
theorem availBest_calls (e r v : Nat) (l u : List UInt8) (share : Int) (hl : l.length = 8) (hul : u.length = 8) (_he : e < 4294967296) (_hr : r < 256) (_hv : v < 256) (hs0 : 0 ≤ share) (hs1 : share ≤ 255) :
    Calls Try.prog 12 #[.agg (cfgc e r v l).toArray, .agg (bcells u).toArray, .int .u8 share] w fun x w' => x = .returned (.bool true) ∧ Kept No w w' := by
  obtain ⟨sh, rfl⟩ := Int.eq_ofNat_of_zero_le hs0
  have B0 := (Blk.new w 49 (cfgc e r v l)).alloc (.cells (bcells u).toArray 47)
  have B1 := Blk.new' (w := w.alloc (.cells (cfgc e r v l).toArray 49)) (g := w.heap.size + 1) (by rw [World.size_alloc]) 47 (bcells u)
  have K0 := ((Kept.refl No w).alloc (.cells (cfgc e r v l).toArray 49)).alloc (.cells (bcells u).toArray 47)
  obtain ⟨c0, c1, c2, c3, c4, c5, c6, c7, c8, c9, c10⟩ := cfg_cells B0 hl
  obtain ⟨d0, d1, d2, d3, d4, d5, d6, d7⟩ := up_cells B1 hul
  have hA := avOf_le l 8 255
  obtain ⟨e', r', v', m, hform, hm⟩ := bestCfg_form l u sh hl (by omega)
  have h1 : ∀ w, Calls Try.prog 40 #[.agg (bcells l).toArray, .agg (bcells u).toArray, .int .u8 sh] w (BestPost' w e' r' v' m (bestErr l u sh)) := fun w =>
    (best_calls (w := w) l u hl hul sh (by omega)).mono fun x w' h => ⟨by rw [h.1, hform, cfg_eq e' r' v' m hm], h.2⟩
  have h2 : ∀ w, Calls Try.prog 41 #[.agg (bcells l).toArray, .agg (bcells u).toArray, .int .u8 sh] w (BestPost' w e' r' v' m (bestErr l u sh)) := fun w =>
    (refBest_calls (w := w) l u hl hul sh (by omega)).mono fun x w' h => ⟨by rw [h.1, hform, cfg_eq e' r' v' m hm], h.2⟩
  have h3 := fun w => alive_calls (w := w)
  have h4 := fun w => refTotal_calls (w := w) e r v l hl
  generalize bestErr l u sh = E at *
  generalize avOf (vsOf l) 8 255 = A at *
  have H1 := Lib.hid h1
  have H2 := Lib.hid h2
  have H3 := Lib.hid h3
  have H4 := Lib.hid h4
  clear h1 h2 h3 h4 hform
  have A1 : (A : Int) ≤ 2040 := by omega
  by_cases hg : 40 < A
  · have q1 : (40 : Int) < A := by omega
    by_cases hg2 : A ≤ 120
    · have q2 : (A : Int) ≤ 120 := by omega
      go_enter Try.func12, Try.ntmps12
      go_wp2_with fail
      rw [cfg_eq e r v l hl]
      refine (H4.out _).mono ?_
      rintro _ w1 ⟨rfl, k1⟩
      have C0 := B0.kept k1 id
      have K1 := K0.transNo k1
      clear c0 c1 c2 c3 c4 c5 c6 c7 c8 c9 c10 d0 d1 d2 d3 d4 d5 d6 d7 B0 B1 K0 k1
      obtain ⟨c0, c1, c2, c3, c4, c5, c6, c7, c8, c9, c10⟩ := cfg_cells C0 hl
      go_wp2_with fail
      rw [cfg_eq e r v l hl]
      refine (H4.out _).mono ?_
      rintro _ w2 ⟨rfl, k2⟩
      have K2 := K1.transNo k2
      clear c0 c1 c2 c3 c4 c5 c6 c7 c8 c9 c10
      go_wp2_with (go_at_call 23; refine (H3.out _).mono ?_; rintro _ w8 ⟨rfl, k8⟩)
      go_ret
      exact ⟨rfl, K2.transNo k8⟩
    · have q2 := decide_eq_false (show ¬ (A : Int) ≤ 120 by omega)
      go_enter Try.func12, Try.ntmps12
      go_wp2_with fail
      rw [cfg_eq e r v l hl]
      refine (H4.out _).mono ?_
      rintro _ w1 ⟨rfl, k1⟩
      have C0 := B0.kept k1 id
      have C1 := B1.kept k1 id
      have K1 := K0.transNo k1
      clear c0 c1 c2 c3 c4 c5 c6 c7 c8 c9 c10 d0 d1 d2 d3 d4 d5 d6 d7 B0 B1 K0 k1
      obtain ⟨c0, c1, c2, c3, c4, c5, c6, c7, c8, c9, c10⟩ := cfg_cells C0 hl
      go_wp2_with fail
      rw [cfg_eq e r v l hl]
      refine (H4.out _).mono ?_
      rintro _ wt ⟨rfl, kt⟩
      have C0 := C0.kept kt id
      have C1 := C1.kept kt id
      have K1 := K1.transNo kt
      clear c0 c1 c2 c3 c4 c5 c6 c7 c8 c9 c10 kt
      obtain ⟨c0, c1, c2, c3, c4, c5, c6, c7, c8, c9, c10⟩ := cfg_cells C0 hl
      obtain ⟨d0, d1, d2, d3, d4, d5, d6, d7⟩ := up_cells C1 hul
      go_wp2_with fail
      rw [up_eq l hl, up_eq u hul]
      refine (H1.out _).mono ?_
      rintro _ w2 ⟨rfl, k2⟩
      have D0 := C0.kept k2 id
      have D1 := C1.kept k2 id
      have K2 := K1.transNo k2
      clear c0 c1 c2 c3 c4 c5 c6 c7 c8 c9 c10 d0 d1 d2 d3 d4 d5 d6 d7 C0 C1 K1 k2
      obtain ⟨c0, c1, c2, c3, c4, c5, c6, c7, c8, c9, c10⟩ := cfg_cells D0 hl
      obtain ⟨d0, d1, d2, d3, d4, d5, d6, d7⟩ := up_cells D1 hul
      have l0 := D0.lt
      have l1 := D1.lt
      go_wp2_with fail
      rw [up_eq l hl, up_eq u hul, cfg_eq e' r' v' m hm]
      have BN := Blk.new w2 49 (cfgc e' r' v' m)
      have KA := K2.alloc (.cells (cfgc e' r' v' m).toArray 49)
      generalize hgn : w2.heap.size = gn at *
      generalize hwn : w2.alloc (.cells (cfgc e' r' v' m).toArray 49) = wn at *
      clear hgn hwn c0 c1 c2 c3 c4 c5 c6 c7 c8 c9 c10 d0 d1 d2 d3 d4 d5 d6 d7 D0 D1 K2
      refine (H2.out _).mono ?_
      rintro _ w3 ⟨rfl, k3⟩
      have BM := BN.kept k3 id
      have K3 := KA.transNo k3
      have hlt := BM.lt
      obtain ⟨c0, c1, c2, c3, c4, c5, c6, c7, c8, c9, c10⟩ := cfg_cells BM hm
      clear BN KA k3
      have hG := Try.g_cfg
      have hq := fun w => eqlCfg_same e' r' v' m hm w
      rw [← cfg_eq e' r' v' m hm] at hq
      go_wp2_with (go_at_call 23; refine (H3.out _).mono ?_; rintro _ w8 ⟨rfl, k8⟩)
      go_ret
      exact ⟨rfl, (K3.alloc _).transNo k8⟩
  · have q1 := decide_eq_false (show ¬ (A : Int) > 40 by omega)
    go_enter Try.func12, Try.ntmps12
    go_wp2_with fail
    rw [cfg_eq e r v l hl]
    refine (H4.out _).mono ?_
    rintro _ w1 ⟨rfl, k1⟩
    have C0 := B0.kept k1 id
    have C1 := B1.kept k1 id
    have K1 := K0.transNo k1
    clear c0 c1 c2 c3 c4 c5 c6 c7 c8 c9 c10 d0 d1 d2 d3 d4 d5 d6 d7 B0 B1 K0 k1
    obtain ⟨c0, c1, c2, c3, c4, c5, c6, c7, c8, c9, c10⟩ := cfg_cells C0 hl
    obtain ⟨d0, d1, d2, d3, d4, d5, d6, d7⟩ := up_cells C1 hul
    go_wp2_with fail
    rw [up_eq l hl, up_eq u hul]
    refine (H1.out _).mono ?_
    rintro _ w2 ⟨rfl, k2⟩
    have D0 := C0.kept k2 id
    have D1 := C1.kept k2 id
    have K2 := K1.transNo k2
    clear c0 c1 c2 c3 c4 c5 c6 c7 c8 c9 c10 d0 d1 d2 d3 d4 d5 d6 d7 C0 C1 K1 k2
    obtain ⟨c0, c1, c2, c3, c4, c5, c6, c7, c8, c9, c10⟩ := cfg_cells D0 hl
    obtain ⟨d0, d1, d2, d3, d4, d5, d6, d7⟩ := up_cells D1 hul
    have l0 := D0.lt
    have l1 := D1.lt
    go_wp2_with fail
    rw [up_eq l hl, up_eq u hul, cfg_eq e' r' v' m hm]
    have BN := Blk.new w2 49 (cfgc e' r' v' m)
    have KA := K2.alloc (.cells (cfgc e' r' v' m).toArray 49)
    generalize hgn : w2.heap.size = gn at *
    generalize hwn : w2.alloc (.cells (cfgc e' r' v' m).toArray 49) = wn at *
    clear hgn hwn c0 c1 c2 c3 c4 c5 c6 c7 c8 c9 c10 d0 d1 d2 d3 d4 d5 d6 d7 D0 D1 K2
    refine (H2.out _).mono ?_
    rintro _ w3 ⟨rfl, k3⟩
    have BM := BN.kept k3 id
    have K3 := KA.transNo k3
    have hlt := BM.lt
    obtain ⟨c0, c1, c2, c3, c4, c5, c6, c7, c8, c9, c10⟩ := cfg_cells BM hm
    clear BN KA k3
    have hG := Try.g_cfg
    have hq := fun w => eqlCfg_same e' r' v' m hm w
    rw [← cfg_eq e' r' v' m hm] at hq
    go_wp2_with (go_at_call 23; refine (H3.out _).mono ?_; rintro _ w8 ⟨rfl, k8⟩)
    go_ret
    exact ⟨rfl, (K3.alloc _).transNo k8⟩
end
end Go.Proofs.Ytencnfgmgcdiiaa
