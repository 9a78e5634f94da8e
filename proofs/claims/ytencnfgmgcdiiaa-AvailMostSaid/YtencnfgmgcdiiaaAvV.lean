/- The program's lost and Losses, as walks. -/
import Derived.Test.YtencnfgmgcdiiaaAvS
import Derived.Test.YtencnfgmgcdiiaaAvU
namespace Go.Proofs.Ytencnfgmgcdiiaa
open Go.RowKit Go.PM

section
variable {w : World}

/-- One of the sorted lists of the votes. -/
def SrtOf (l S : List UInt8) : Prop := S.Perm l ∧ Srt 8 S
def LsRel (_w wo : World) (S : List UInt8) (want R : Nat) (t i : Value) (wr : World) : Prop :=
  ∃ k : Nat, k ≤ 8 ∧ t = .int .i64 (lowv S (8 - k)) ∧ i = .int .i64 k ∧ R = lostF (lowv S) want (8 - k) ∧ wr = wo

set_option maxRecDepth 100000 in
set_option maxHeartbeats 2000000 in
theorem lost_calls (e r v : Nat) (l : List UInt8) (hl : l.length = 8) (want : Nat) (hwb : want < 256) (h1 : 1 ≤ want) (h2 : want ≤ avOf (vsOf l) 8 255) :
    Calls Try.prog 45 #[.agg (cfgc e r v l).toArray, .int .u8 want] w fun x w' => x = .returned (.int .i64 (rlost (vsOf l) want 256)) ∧ Kept No w w' := by
  have B0 := Blk.new w 49 (cfgc e r v l)
  have K0 := (Kept.refl No w).alloc (.cells (cfgc e r v l).toArray 49)
  obtain ⟨c0, c1, c2, c3, c4, c5, c6, c7, c8, c9, c10⟩ := cfg_cells B0 hl
  have hs := fun S hp hs => lost_same (S := S) hl hp hs want h1 h2
  have hT := fun (S : List UInt8) hp => lowv_all (S := S) hl hp
  generalize rlost (vsOf l) want 256 = R at *
  have HS := Lib.hid hs
  have HT := Lib.hid hT
  clear hs hT
  go_enter Try.func45, Try.ntmps45
  go_wp2_with fail
  rw [up_eq l hl]
  have B1 := Blk.new' (w := w.alloc (.cells (cfgc e r v l).toArray 49)) (g := w.heap.size + 1) (by rw [World.size_alloc]) 47 (bcells l)
  have B2 := B0.alloc (.cells (bcells l).toArray 47)
  have K1 := K0.alloc (.cells (bcells l).toArray 47)
  refine (sort_calls _ l hl _ B1).mono ?_
  rintro _ w1 ⟨rfl, k1, S, hp, hs, BS⟩
  have C0 := B2.kept k1 (by omega)
  have K2 : Kept No w w1 := K1.trans k1 (fun b hb e => by subst e; omega)
  clear c0 c1 c2 c3 c4 c5 c6 c7 c8 c9 c10 B0 B1 B2 K0 K1 k1
  obtain ⟨c0, c1, c2, c3, c4, c5, c6, c7, c8, c9, c10⟩ := cfg_cells C0 hl
  have HR := HS.out S hp hs
  have HT2 := HT.out S hp
  subst HR
  clear HS HT
  have hSl : S.length = 8 := by rw [hp.length_eq, hl]
  go_wp2_with fail
  rw [cfg_eq e r v l hl]
  refine (total_calls e r v l hl).mono ?_
  rw [← HT2]
  rintro _ w2 ⟨rfl, k2⟩
  have BT := BS.kept k2 id
  have K3 := K2.trans k2 fun _ _ h => h
  have H2 := Lib.hid HT2
  clear c0 c1 c2 c3 c4 c5 c6 c7 c8 c9 c10 C0 K2 k2 BS HT2
  generalize hr0 : lostF (lowv S) want 8 = R at *
  have HR0 := Lib.hid hr0
  clear hr0
  have hw3 : (want : Int) < 256 := by omega
  go_wp2
  go_loopw [6, 14] (fun t i wr => LsRel w w2 S want R t i wr) (fun _ i _ => 8 - (intOf i).toNat)
  case atStart => exact ⟨0, by omega, rfl, rfl, HR0.out.symm, rfl⟩
  case round =>
    obtain ⟨k, hk, rfl, rfl, hr, rfl⟩ := hrel
    have HR := Lib.hid hr
    clear hr
    by_cases hlt : k < 8
    · have i0 : (0 : Int) ≤ k := by omega
      have i1 : (k : Int) < 8 := by omega
      have i2 : (0 : Int) ≤ 7 - (k : Int) := by omega
      have i3 : (7 - (k : Int)) < 8 := by omega
      have ei : (7 - (k : Int)).toNat = 7 - k := by omega
      have hc := (BT.cell (7 - k)).trans (upcell S (by omega))
      have e1 : lowv S (8 - k) = lowv S (7 - k) + vsOf S (7 - k) := by rw [show 8 - k = (7 - k) + 1 by omega]; rfl
      have e2 : lostF (lowv S) want (8 - k) = if lowv S (7 - k) < want then 7 - (7 - k) else lostF (lowv S) want (7 - k) := by rw [show 8 - k = (7 - k) + 1 by omega]; rfl
      have hlow : lowv S (8 - k) ≤ 2040 := by
        have a := lowv_mono S (show 8 - k ≤ 8 by omega)
        rw [H2.out] at a
        exact Nat.le_trans a (avOf_le l 8 255)
      have hv := vsOf_lt S (7 - k)
      have e3 : 8 - (k + 1) = 7 - k := by omega
      generalize lowv S (8 - k) = A at *
      generalize hD : lowv S (7 - k) = D at *
      have HD := Lib.hid hD
      clear hD
      generalize vsOf S (7 - k) = x at *
      have HE1 := Lib.hid e1
      have HE2 := Lib.hid e2
      clear e1 e2
      have b1 : (A : Int) ≤ 2040 := by omega
      have b2 : (x : Int) < 256 := by omega
      have b3 : (x : Int) ≤ A := by rw [HE1.out]; omega
      by_cases hd : D < want
      · have q1 : (A : Int) - x < want := by rw [HE1.out]; omega
        go_wp2
        go_ret
        refine ⟨?_, K3⟩
        rw [HR0.out, HR.out, HE2.out, if_pos hd, show 7 - (7 - k) = k by omega]
        rfl
      · have q1 : (want : Int) ≤ (A : Int) - x := by rw [HE1.out]; omega
        go_wp2
        refine ⟨⟨k + 1, by omega, ?_, by go_num, ?_, rfl⟩, by simp [intOf]; omega⟩
        · rw [e3, HD.out]; congr 1; rw [HE1.out]; omega
        · rw [e3, HR.out, HE2.out, if_neg hd]
    · obtain rfl : k = 8 := by omega
      go_wp2
      go_ret
      exact ⟨by rw [HR0.out, HR.out]; rfl, K3⟩

/-- What Losses answers. -/
def lsOf (e r v : Nat) (l : List UInt8) : Nat × Nat × Nat := if avMay e r v l then (rlost (vsOf l) r 256, rlost (vsOf l) v 256, 0) else (0, 0, 16)
theorem may_want {e r v : Nat} {l : List UInt8} (h : avMay e r v l = true) : 1 ≤ r ∧ r ≤ avOf (vsOf l) 8 255 ∧ 1 ≤ v ∧ v ≤ avOf (vsOf l) 8 255 := by
  unfold avMay at h
  simp only [Bool.and_eq_true, decide_eq_true_eq] at h
  omega

set_option maxRecDepth 100000 in
set_option maxHeartbeats 2000000 in
theorem losses_calls (e r v : Nat) (l : List UInt8) (hl : l.length = 8) (he : e < 4294967296) (hr : r < 256) (hv : v < 256) :
    Calls Try.prog 21 #[.agg (cfgc e r v l).toArray] w
      fun x w' => x = .returned (.tuple #[.int .i64 (lsOf e r v l).1, .int .i64 (lsOf e r v l).2.1, .int .i64 (lsOf e r v l).2.2]) ∧ Kept No w w' := by
  have B0 := Blk.new w 49 (cfgc e r v l)
  have K0 := (Kept.refl No w).alloc (.cells (cfgc e r v l).toArray 49)
  obtain ⟨c0, c1, c2, c3, c4, c5, c6, c7, c8, c9, c10⟩ := cfg_cells B0 hl
  have hls : lsOf e r v l = if avMay e r v l then (rlost (vsOf l) r 256, rlost (vsOf l) v 256, 0) else (0, 0, 16) := rfl
  generalize lsOf e r v l = R at *
  cases hM : avMay e r v l
  case false =>
    rw [hM, if_neg (by decide)] at hls
    subst hls
    have HM := Lib.hid hM
    clear hM
    go_enter Try.func21, Try.ntmps21
    go_wp2_with fail
    rw [cfg_eq e r v l hl]
    refine (may_calls e r v l hl he hr hv).mono ?_
    rw [HM.out]
    rintro _ w2 ⟨rfl, k2⟩
    go_wp2
    go_ret3
    exact ⟨rfl, K0.trans k2 fun _ _ h => h⟩
  rw [hM, if_pos rfl] at hls
  subst hls
  have hm := may_want hM
  have HM := Lib.hid hM
  clear hM
  have hl1 := fun w => lost_calls (w := w) e r v l hl r hr hm.1 hm.2.1
  have hl2 := fun w => lost_calls (w := w) e r v l hl v hv hm.2.2.1 hm.2.2.2
  generalize rlost (vsOf l) r 256 = x1 at *
  generalize rlost (vsOf l) v 256 = x2 at *
  have H1 := Lib.hid hl1
  have H2 := Lib.hid hl2
  clear hl1 hl2 hm
  go_enter Try.func21, Try.ntmps21
  go_wp2_with fail
  rw [cfg_eq e r v l hl]
  refine (may_calls e r v l hl he hr hv).mono ?_
  rw [HM.out]
  rintro _ w2 ⟨rfl, k2⟩
  have C0 := B0.kept k2 id
  have K2 := K0.trans k2 fun _ _ h => h
  clear c0 c1 c2 c3 c4 c5 c6 c7 c8 c9 c10 B0 K0 k2
  obtain ⟨c0, c1, c2, c3, c4, c5, c6, c7, c8, c9, c10⟩ := cfg_cells C0 hl
  have br : (r : Int) < 256 := by omega
  have bv : (v : Int) < 256 := by omega
  go_wp2
  have C1 : Blk w2.drew _ _ _ := C0.drewN 1
  obtain ⟨d0, d1, d2, d3, d4, d5, d6, d7, d8, d9, d10⟩ := cfg_cells (C0.drewN 1 : Blk w2.drew _ _ _) hl
  go_region_held3 (fun w' => w'.cell? ⟨w.heap.size, 0, none⟩ = some (.int .u32 e) ∧ w'.cell? ⟨w.heap.size, 1, none⟩ = some (.int .u8 r) ∧ w'.cell? ⟨w.heap.size, 2, none⟩ = some (.int .u8 v) ∧ w'.cell? ⟨w.heap.size, 3, none⟩ = some (.int .u8 (vsOf l 0)) ∧ w'.cell? ⟨w.heap.size, 4, none⟩ = some (.int .u8 (vsOf l 1)) ∧ w'.cell? ⟨w.heap.size, 5, none⟩ = some (.int .u8 (vsOf l 2)) ∧ w'.cell? ⟨w.heap.size, 6, none⟩ = some (.int .u8 (vsOf l 3)) ∧ w'.cell? ⟨w.heap.size, 7, none⟩ = some (.int .u8 (vsOf l 4)) ∧ w'.cell? ⟨w.heap.size, 8, none⟩ = some (.int .u8 (vsOf l 5)) ∧ w'.cell? ⟨w.heap.size, 9, none⟩ = some (.int .u8 (vsOf l 6)) ∧ w'.cell? ⟨w.heap.size, 10, none⟩ = some (.int .u8 (vsOf l 7)))
    (first | (with_reducible exact cfg_cells C1 hl) | (with_reducible exact cfg_cells C3 hl) | (with_reducible exact cfg_cells C4 hl) | go_keep)
    (first
      | (go_at_call 45; (try rw [cfg_eq e r v l hl]); (with_reducible refine (H1.out _).mono ?_); rintro _ w3 ⟨rfl, k3⟩; have C3 : Blk w3 _ _ _ := Blk.kept (by exact C0) k3 id; have K3 : Kept No w w3 := Kept.transNo (by first | exact K2 | exact K2.drew) k3)
      | (go_at_call 45; (try rw [cfg_eq e r v l hl]); (with_reducible refine (H2.out _).mono ?_); rintro _ w4 ⟨rfl, k4⟩; have C4 : Blk w4 _ _ _ := Blk.kept (by exact C3) k4 id; have K4 : Kept No w w4 := Kept.transNo K3 k4)
      | fail)
  go_wp2
  go_ret3
  exact ⟨rfl, K4⟩
end
end Go.Proofs.Ytencnfgmgcdiiaa
