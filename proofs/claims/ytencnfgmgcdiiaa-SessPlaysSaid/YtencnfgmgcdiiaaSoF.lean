/- slices' pdqsort of at most sixteen distinct bytes. -/
import Derived.Test.YtencnfgmgcdiiaaSoE
import Derived.Test.YtencnfgmgcdiiaaSeZ
namespace Go.Proofs.Ytencnfgmgcdiiaa
open Go.RowKit Go.PM
section
variable {w : World}
def PdqRel (w : World) (g : Nat) (T : TypeId) (tail : List Value) (l : List UInt8) (n : Nat) (s1 s2 s3 s8 s9 : Value) (wr : World) : Prop :=
  ∃ (a b : Nat) (lim : Int) (x y : Bool) (S : List UInt8), s1 = .int .i64 a ∧ s2 = .int .i64 b ∧ s3 = .int .i64 lim ∧ s8 = .bool x ∧ s9 = .bool y ∧ Kept (· = g) w wr ∧ Win 0 n l S ∧ PQ n a b S ∧ (b : Int) - a < lim + 12 ∧ lim < 100 ∧ Blk wr g T (bcells S ++ tail)
/-- A window has been moved about. -/
def Moved (w : World) (g : Nat) (T : TypeId) (tail : List Value) (S : List UInt8) (a b : Nat) (wx : World) : Prop := ∃ R, Win a b S R ∧ Kept (· = g) w wx ∧ Blk wx g T (bcells R ++ tail)

set_option maxRecDepth 100000 in
set_option maxHeartbeats 8000000 in
theorem pdq_calls (g : Nat) (l : List UInt8) (tail : List Value) (n cap : Nat) (lim : Int) (hl : l.length = n) (hn : n ≤ 16) (hnd : l.Nodup) (hlim : (n : Int) < lim + 12) (hlim2 : lim < 100) (T : TypeId) (hb : Blk w g T (bcells l ++ tail)) :
    Calls Try.prog 68 #[.slice (some ⟨g, 0, none⟩) n cap, .int .i64 0, .int .i64 n, .int .i64 lim] w (IwPost w g T tail l 0 n) := by
  go_enter Try.func68, Try.ntmps68
  go_wp2
  go_loopw [1, 2, 3, 8, 9] (fun s1 s2 s3 s8 s9 wr => PdqRel w g T tail l n s1 s2 s3 s8 s9 wr) (fun s1 s2 _ _ _ _ => (intOf s2).toNat - (intOf s1).toNat)
  case atStart => exact ⟨0, n, lim, true, true, l, rfl, rfl, rfl, rfl, rfl, Kept.refl _ _, Win.refl _ _ _, PQ.start l n, by omega, hlim2, hb⟩
  case round =>
    clear hlim hlim2 hb
    obtain ⟨a, b, lim, x, y, S, rfl, rfl, rfl, rfl, rfl, Kw, hW, hQ, hlim, hlim2, BS⟩ := hrel
    have hSl : S.length = n := by rw [hW.len, hl]
    have hSn := hW.nodup hnd
    have hab := hQ.le
    have hbn := hQ.bn
    have wba : IntKind.i64.wrap ((b : Int) - a) = (b : Int) - a := by rw [IntKind.wrap_i64]; omega
    by_cases h12 : b - a ≤ 12
    · have d12 : decide ((b : Int) - a ≤ 12) = true := decide_eq_true (by omega)
      have HI := Lib.hid (insw_calls (w := wr) g S tail n cap a b hSl (by omega) hab hbn T BS)
      have HF : ∀ S', S'.Perm S → Out a b S S' → SrtW a b S' → S'.Perm l ∧ Out 0 n l S' ∧ SrtW 0 n S' := by
        intro S' hp ho hs
        have hw : Win a b S S' := ⟨hp, ho⟩
        exact ⟨hp.trans hW.perm, (hW.trans (hw.mono (by omega) hbn)).out, (hQ.win hw hSn hSl).done hs⟩
      clear hlim hlim2 BS hW hQ
      go_wp2_with fail
      refine HI.out.mono ?_
      rintro _ w2 ⟨rfl, k2, S', hp, ho, hs, B2⟩
      obtain ⟨e1, e2, e3⟩ := HF S' hp ho hs
      go_wp2
      refine bodyPost_ret (results_none rfl _ _ _) rfl ?_
      exact ⟨rfl, Kw.trans k2 fun _ _ h => h, S', e1, e2, e3, B2⟩
    · have d12 : decide ((b : Int) - a ≤ 12) = false := decide_eq_false (by omega)
      have dl : (lim == 0) = false := by rw [beq_eq_false_iff_ne]; omega
      have hHn : Hid (S.Nodup) := Lib.hid hSn
      have ha16 : b ≤ a + 16 := by omega
      clear hSn
      go_upto_if 35 with (fail)
      go_cut [3] (fun s3 wx => (∃ lim2 : Int, s3 = .int .i64 lim2 ∧ lim - 1 ≤ lim2 ∧ lim2 < 100) ∧ Moved wr g T tail S a b wx)
      case first =>
        cases x with
        | true =>
          go_wp2
          go_meet
          exact ⟨⟨lim, rfl, by omega, hlim2⟩, S, Win.refl _ _ _, Kept.refl _ _, BS⟩
        | false =>
          have wl : IntKind.i64.wrap (lim - 1) = lim - 1 := by rw [IntKind.wrap_i64]; omega
          have HB := Lib.hid (break_calls (w := wr) g S tail n cap a b hSl (by omega) hbn (by omega) ha16 T BS)
          clear BS
          go_wp2_with fail
          refine HB.out.mono ?_
          rintro _ w2 ⟨rfl, k2, S', hw, B2⟩
          go_wp2
          go_meet
          exact ⟨⟨lim - 1, rfl, by omega, by omega⟩, S', hw, k2, B2⟩
      case rest =>
        obtain ⟨⟨lim2, rfl, hl2, hl3⟩, S1, hw1, k1, B1⟩ := hcut
        have hS1 : S1.length = n := by rw [hw1.len, hSl]
        have HP := Lib.hid (pivot_calls (w := wc) g S1 tail n cap a b hS1 (by omega) hbn (by omega) ha16 T B1)
        clear BS
        go_wp2_with fail
        refine HP.out.mono ?_
        rintro _ w2 ⟨m, hh, rfl, hm1, hm2, k2⟩
        have B2 := B1.kept k2 id
        clear B1 HP
        go_upto_if 50 with (fail)
        go_cut [11, 12] (fun s11 s12 wx => (∃ (p : Nat) (h2 : Int), s11 = .int .i64 p ∧ s12 = .int .i64 h2 ∧ a < p ∧ p < b) ∧ Moved w2 g T tail S1 a b wx)
        case first =>
          by_cases hh2 : hh = 2
          · have d2 : (hh == 2) = true := by rw [beq_iff_eq]; exact hh2
            have wb1 : IntKind.i64.wrap ((b : Int) - 1) = (b : Int) - 1 := by rw [IntKind.wrap_i64]; omega
            have wma : IntKind.i64.wrap ((m : Int) - a) = (m : Int) - a := by rw [IntKind.wrap_i64]; omega
            have wx1 : IntKind.i64.wrap ((b : Int) - 1 - ((m : Int) - a)) = ((b - 1 - (m - a) : Nat) : Int) := by rw [IntKind.wrap_i64]; omega
            have wx2 : (b : Int) - 1 - ((m : Int) - a) = ((b - 1 - (m - a) : Nat) : Int) := by omega
            have HX2 := Lib.hid wx2
            have HR := Lib.hid (reverse_calls (w := w2) g S1 tail n cap a b hS1 (by omega) (by omega) hbn T B2)
            clear B2 wx2
            go_wp2_with fail
            refine HR.out.mono ?_
            rintro _ w3 ⟨rfl, k3, S', hw, B3⟩
            go_wp2
            go_meet
            exact ⟨⟨b - 1 - (m - a), 1, by first | rfl | rw [HX2.out], rfl, by omega, by omega⟩, S', hw, k3, B3⟩
          · have d2 : (hh == 2) = false := by rw [beq_eq_false_iff_ne]; exact hh2
            go_wp2
            go_meet
            exact ⟨⟨m, hh, rfl, rfl, by omega, by omega⟩, S1, Win.refl _ _ _, Kept.refl _ _, B2⟩
        case rest =>
          obtain ⟨⟨p, h2, rfl, rfl, hp1, hp2⟩, S2, hw2, k3, B3⟩ := hcut
          have hS2 : S2.length = n := by rw [hw2.len, hS1]
          have hw12 := hw1.trans hw2
          have hQ2 := hQ.win hw12 hHn.out hSl
          have hn2 := hw12.nodup hHn.out
          have hW2 := hW.trans (hw12.mono (by omega) hbn)
          have K2 := ((Kw.trans k1 fun _ _ h => h).transNo k2).trans k3 fun _ _ h => h
          clear Kw k1 k2 k3 hw1 hw2 hw12 hW hQ B2
          generalize wc = w3 at *
          go_upto_region 15 with (fail)
          go_cut [68] (fun s68 wx => wx = w3 ∧ ∃ z, s68 = .bool z)
          case first =>
            cases x <;> cases y
            all_goals
              go_wp2
              go_meet
              exact ⟨rfl, _, rfl⟩
          case rest =>
            obtain ⟨hwc, z, rfl⟩ := hcut
            subst hwc
            go_upto_if 68 with (fail)
            go_cut [] (fun wx => Kept No wc wx)
            case first =>
              cases z with
              | false =>
                go_wp2
                go_meet
                exact Kept.refl _ _
              | true =>
                have HPI := Lib.hid (partial_calls (w := wc) g S2 tail n cap a b hS2 (by omega) (by omega) hbn (by omega) T B3)
                have HB3 := Lib.hid B3
                clear B3
                go_wp2_with fail
                refine HPI.out.mono ?_
                rintro _ w4 ⟨z, rfl, hz, k4⟩
                cases z with
                | false =>
                  go_wp2
                  go_meet
                  exact k4
                | true =>
                  have hs := hQ2.done (hz rfl)
                  clear hz
                  go_wp2
                  refine bodyPost_ret (results_none rfl _ _ _) rfl ?_
                  exact ⟨rfl, K2.transNo k4, S2, hW2.perm, hW2.out, hs, HB3.out.kept k4 id⟩
            case rest =>
              have B4 := B3.kept hcut id
              have K4 := K2.transNo hcut
              clear B3 K2
              generalize wc = w4 at *
              go_upto_region 17 with (fail)
              go_cut [87] (fun s87 wx => s87 = .bool false ∧ Kept No w4 wx)
              case first =>
                by_cases ha0 : a = 0
                · have d0 : decide ((0 : Int) < (a : Int)) = false := decide_eq_false (by omega)
                  have d0n : decide (0 < a) = false := decide_eq_false (by omega)
                  go_wp2
                  go_quiet (fail)
                  go_wp2
                  go_meet
                  exact ⟨rfl, (Kept.refl _ _).drewN _⟩
                · have d0 : decide ((0 : Int) < (a : Int)) = true := decide_eq_true (by omega)
                  have d0n : decide (0 < a) = true := decide_eq_true (by omega)
                  have d0' : 0 < a := by omega
                  have j3 : (0 : Int) ≤ (a : Int) - 1 := by omega
                  have j4 : (a : Int) - 1 < n := by omega
                  have p3 : (0 : Int) ≤ (p : Int) := by omega
                  have p4 : (p : Int) < n := by omega
                  have c1 := (B4.cell (a - 1)).trans (btcell S2 tail (by omega))
                  have c2 := (B4.cell p).trans (btcell S2 tail (by omega))
                  have ej : ((a : Int) - 1).toNat = a - 1 := by omega
                  have hlt : ltB (vsOf S2 (a - 1)) (vsOf S2 p) = true := by
                    have e1 := hQ2.cl (a - 1) p (by omega) (by omega) (by omega)
                    unfold ltB
                    refine decide_eq_true (Nat.lt_of_le_of_ne e1 fun e => ?_)
                    have := vs_inj hn2 (by omega) (by omega) e
                    omega
                  clear ha0
                  go_wp2
                  go_quiet ((go_at_call 77; exact less_q _ _ _ _ hlt))
                  go_wp2
                  go_meet
                  exact ⟨rfl, (Kept.refl _ _).drewN _⟩
              case rest =>
                obtain ⟨rfl, k5⟩ := hcut
                have B5 := B4.kept k5 id
                have K5 := K4.transNo k5
                have HPA := Lib.hid (part_sort_calls (w := wc) g S2 tail n cap a b p hS2 (by omega) hp1 hp2 hbn T B5)
                clear B4 B5 K4
                go_wp2_with fail
                refine HPA.out.mono ?_
                rintro _ w6 ⟨mid, dn, S3, rfl, k6, hw3, hpt, B6⟩
                have am := hpt.am
                have mb := hpt.mb
                have hS3 : S3.length = n := by rw [hw3.len, hS2]
                have hn3 := hw3.nodup hn2
                have hQ3 := hQ2.win hw3 hn2 hS2
                have hW3 := hW2.trans (hw3.mono (by omega) hbn)
                have K6 := K5.trans k6 fun _ _ h => h
                have wma : IntKind.i64.wrap ((mid : Int) - a) = (mid : Int) - a := by rw [IntKind.wrap_i64]; omega
                have wbm : IntKind.i64.wrap ((b : Int) - mid) = (b : Int) - mid := by rw [IntKind.wrap_i64]; omega
                have EM : Hid ((mid : Int) + 1 = ((mid + 1 : Nat) : Int)) := Lib.hid (by omega)
                have wm1 : IntKind.i64.wrap ((mid : Int) + 1) = (mid : Int) + 1 := by rw [IntKind.wrap_i64]; omega
                by_cases hlr : mid - a < b - mid
                · have dlr : decide ((mid : Int) - a < (b : Int) - mid) = true := decide_eq_true (by omega)
                  have HR := Lib.hid (pdq_small (w := w6) g S3 tail n cap a mid hS3 (by omega) am (by omega) (by omega) T B6 lim2)
                  have HF : ∀ S', S'.Perm S3 → Out a mid S3 S' → SrtW a mid S' → Win 0 n l S' ∧ PQ n (mid + 1) b S' := by
                    intro S' e1 e2 e3
                    have W4 : Win a mid S3 S' := ⟨e1, e2⟩
                    exact ⟨hW3.trans (W4.mono (by omega) (by omega)), (hQ3.win (W4.mono (by omega) (by omega)) hn3 hS3).left (hpt.winL W4 hn3 (by omega)) e3⟩
                  clear B6 hpt hQ3 hQ2 hw3
                  go_wp2_with fail
                  refine HR.out.mono ?_
                  rintro _ w7 ⟨rfl, k7, S', e1, e2, e3, B7⟩
                  obtain ⟨q1, q2⟩ := HF S' e1 e2 e3
                  go_wp2
                  go_roundw
                  case rel => exact ⟨mid + 1, b, lim2, _, dn, S', by first | rfl | rw [EM.out], rfl, rfl, rfl, rfl, K6.trans k7 fun _ _ h => h, q1, q2, by omega, hl3, B7⟩
                  case measure => simp [intOf]; omega
                · have dlr : decide ((mid : Int) - a < (b : Int) - mid) = false := decide_eq_false (by omega)
                  have HR := Lib.hid (pdq_small (w := w6) g S3 tail n cap (mid + 1) b hS3 (by omega) (by omega) hbn (by omega) T B6 lim2)
                  have HF : ∀ S', S'.Perm S3 → Out (mid + 1) b S3 S' → SrtW (mid + 1) b S' → Win 0 n l S' ∧ PQ n a mid S' := by
                    intro S' e1 e2 e3
                    have W4 : Win (mid + 1) b S3 S' := ⟨e1, e2⟩
                    exact ⟨hW3.trans (W4.mono (by omega) hbn), (hQ3.win (W4.mono (by omega) (Nat.le_refl _)) hn3 hS3).right (hpt.winR W4 hn3 (by omega)) e3⟩
                  clear B6 hpt hQ3 hQ2 hw3
                  go_wp2_with fail
                  rw [EM.out]
                  refine HR.out.mono ?_
                  rintro _ w7 ⟨rfl, k7, S', e1, e2, e3, B7⟩
                  obtain ⟨q1, q2⟩ := HF S' e1 e2 e3
                  go_wp2
                  go_roundw
                  case rel => exact ⟨a, mid, lim2, _, dn, S', rfl, rfl, rfl, rfl, rfl, K6.trans k7 fun _ _ h => h, q1, q2, by omega, hl3, B7⟩
                  case measure => simp [intOf]; omega
end
end Go.Proofs.Ytencnfgmgcdiiaa
