/- slices' breaking of patterns in a window of bytes: the walk. -/
import Derived.Test.YtencnfgmgcdiiaaSoD
import Derived.Test.YtencnfgmgcdiiaaSoC
namespace Go.Proofs.Ytencnfgmgcdiiaa
open Go.RowKit Go.PM
section
variable {w : World}
def BrkRel (w : World) (g gs : Nat) (T : TypeId) (tail : List Value) (l : List UInt8) (lo hi : Nat) (t : Value) (wr : World) : Prop :=
  ∃ (x v : Nat), t = .int .i64 x ∧ lo + (hi - lo) / 4 * 2 ≤ x + 1 ∧ x ≤ lo + (hi - lo) / 4 * 2 + 2 ∧ Kept (· = g) w wr ∧ Blk wr gs 138 [.int .u64 v] ∧ ∃ S, Win lo hi l S ∧ Blk wr g T (bcells S ++ tail)

set_option maxRecDepth 100000 in
set_option maxHeartbeats 4000000 in
theorem break_calls (g : Nat) (l : List UInt8) (tail : List Value) (n cap lo hi : Nat) (hl : l.length = n) (hn : n < 1000000) (h1 : hi ≤ n) (h13 : lo + 13 ≤ hi) (h16 : hi ≤ lo + 16) (T : TypeId) (hb : Blk w g T (bcells l ++ tail)) :
    Calls Try.prog 73 #[.slice (some ⟨g, 0, none⟩) n cap, .int .i64 lo, .int .i64 hi] w (WinPost w g T tail l lo hi) := by
  obtain ⟨d, hd⟩ : ∃ d : Nat, d = hi - lo := ⟨_, rfl⟩
  have ed : (hi : Int) - lo = (d : Int) := by omega
  have w0 : IntKind.i64.wrap ((hi : Int) - lo) = (d : Int) := by rw [IntKind.wrap_i64]; omega
  have d8 : decide ((8 : Int) ≤ (d : Int)) = true := decide_eq_true (by omega)
  have HP := Lib.hid (fun w => pow_calls (w := w) d (by omega) (by omega))
  have wc : IntKind.u64.wrap (d : Int) = (d : Int) := by rw [IntKind.wrap_u64]; exact Int.emod_eq_of_lt (by omega) (by omega)
  have hd1 : 13 ≤ d := by omega
  have hd2 : d ≤ 16 := by omega
  have hhi : hi = lo + d := by omega
  have HHI := Lib.hid hhi
  have HD := Lib.hid hd
  have B0 := Blk.new w 138 [.int .u64 d]
  have K0 := (Kept.refl (· = g) w).alloc (.cells #[.int .u64 d] 138)
  have hb0 := hb.kept ((Kept.refl No w).alloc (.cells #[.int .u64 d] 138)) id
  have hg : ¬ g = w.heap.size := by have := hb.lt; omega
  clear hd hhi hb h13 h16
  go_enter Try.func73, Try.ntmps73
  go_wp2_with fail
  refine (HP.out _).mono ?_
  rintro _ _ ⟨M, rfl, hM1, hM2, rfl⟩
  have wm : IntKind.u64.wrap ((M : Int) - 1) = ((M - 1 : Nat) : Int) := by rw [IntKind.wrap_u64]; exact (Int.emod_eq_of_lt (by omega) (by omega)).trans (by omega)
  generalize w.alloc _ = w1 at *
  generalize hgs : w.heap.size = gs at *
  go_wp2
  go_loopw [9] (fun t wr => BrkRel w g gs T tail l lo hi t wr) (fun t _ => lo + d / 4 * 2 + 3 - (intOf t).toNat)
  case atStart =>
    have hhi := HHI.out
    refine ⟨lo + d / 4 * 2 - 1, d, ?_, by omega, by omega, K0, B0, l, Win.refl _ _ _, hb0⟩
    congr 1; omega
  case round =>
    clear K0 B0 hb0
    obtain ⟨x, v, rfl, hx0, hx1, Kw, BV, S, hW, BS⟩ := hrel
    have hSl : S.length = n := by rw [hW.len, hl]
    have hhi := HHI.out
    have x0 : (0 : Int) ≤ x := by omega
    have x1 : (x : Int) < n := by omega
    have xlo : lo ≤ x := by omega
    have xhi : x < hi := by omega
    by_cases hlt : x ≤ lo + d / 4 * 2 + 1
    · have dl : decide ((x : Int) ≤ lo + (d : Int) / 4 * 2 + 1) = true := decide_eq_true (by omega)
      have hlt' : (x : Int) ≤ lo + (d : Int) / 4 * 2 + 1 := by omega
      have HX := Lib.hid (And.intro hx0 (And.intro hx1 hlt))
      clear hx0 hx1 hlt hhi
      go_wp2_with fail
      refine (next_calls gs v BV).mono ?_
      rintro _ w2 ⟨v', rfl, hv', BV2, k2⟩
      obtain ⟨O, hO⟩ : ∃ O : Nat, v' &&& (M - 1) = O := ⟨_, rfl⟩
      have hOle : O ≤ M - 1 := by rw [← hO]; exact Nat.and_le_right
      have eAnd : bits .and .u64 (v' : Int) ((M - 1 : Nat) : Int) = (O : Int) := by rw [bits_and_u64_nat _ _ hv' (by omega), hO]
      have wO : IntKind.i64.wrap (O : Int) = (O : Int) := by rw [IntKind.wrap_i64]; omega
      have BS2 := BS.kept k2 hg
      clear hO
      go_upto_if 43 with (fail)
      go_cut [10] (fun s10 wx => wx = w2 ∧ ∃ o : Nat, o < d ∧ s10 = .int .i64 o)
      case first =>
        by_cases hod : d ≤ O
        · have dd : decide ((d : Int) ≤ O) = true := decide_eq_true (by omega)
          have ws : IntKind.i64.wrap ((O : Int) - d) = ((O - d : Nat) : Int) := by rw [IntKind.wrap_i64]; omega
          have es : (O : Int) - d = ((O - d : Nat) : Int) := by omega
          go_wp2
          all_goals
            go_meet
            exact ⟨rfl, O - d, by omega, rfl⟩
        · have dd : decide ((d : Int) ≤ O) = false := decide_eq_false (by omega)
          go_wp2
          all_goals
            go_meet
            exact ⟨rfl, O, by omega, rfl⟩
      case rest =>
        obtain ⟨hwc, o, ho, rfl⟩ := hcut
        subst hwc
        have hhi := HHI.out
        obtain ⟨hx0, hx1, hlt⟩ := HX.out
        clear eAnd wO hOle
        have eo : (lo : Int) + o = ((lo + o : Nat) : Int) := by omega
        have wo : IntKind.i64.wrap ((lo : Int) + o) = ((lo + o : Nat) : Int) := by rw [IntKind.wrap_i64]; omega
        have o0 : (0 : Int) ≤ ((lo + o : Nat) : Int) := by omega
        have o1 : ((lo + o : Nat) : Int) < n := by omega
        have oh : lo + o < hi := by omega
        have c1 := (BS2.cell x).trans (btcell S tail (by omega))
        have c2 := (BS2.cell (lo + o)).trans (btcell S tail (by omega))
        have f1 := BS2.frozen x
        have f2 := BS2.frozen (lo + o)
        have hW2 := hW.trans (Win.sw (i := x) (j := lo + o) (by omega) (by omega) xlo xhi (by omega) oh)
        have BW := (blk_sw BS2 (i := x) (j := lo + o) (by omega) (by omega)).kept (Kept.refl No _).drew id
        have BV3 := (((BV2.setOther (a := ⟨g, x, none⟩) (Ne.symm hg) (.int .u8 (vsOf S (lo + o)))).setOther (a := ⟨g, lo + o, none⟩) (Ne.symm hg) (.int .u8 (vsOf S x)))).kept (Kept.refl No _).drew id
        have KW := (((Kw.trans k2 fun b hb he => absurd he (by omega)).setCell (a := ⟨g, x, none⟩) (fun _ => rfl) (.int .u8 (vsOf S (lo + o)))).setCell (a := ⟨g, lo + o, none⟩) (fun _ => rfl) (.int .u8 (vsOf S x))).drew
        have HR : Hid (BrkRel w g gs T tail l lo hi (.int .i64 ((x + 1 : Nat) : Int)) (World.drew _)) := Lib.hid ⟨x + 1, v', rfl, by omega, by omega, KW, BV3, _, hW2, BW⟩
        clear hhi hx0 hx1 BW BV3 KW hW2 BV2 k2 BS2
        generalize lo + o = y at *
        by_cases hxy : x = y
        · subst hxy
          go_wp2
          go_region
          go_wp2
          go_roundw
          case rel => exact HR.out
          case measure => simp [intOf]; omega
        · go_wp2
          go_region
          go_wp2
          go_roundw
          case rel => exact HR.out
          case measure => simp [intOf]; omega
    · have dl : decide ((x : Int) ≤ lo + (d : Int) / 4 * 2 + 1) = false := decide_eq_false (by omega)
      have hlt' : ¬ (x : Int) ≤ lo + (d : Int) / 4 * 2 + 1 := by omega
      clear hhi
      go_wp2
      go_end0
      exact ⟨rfl, Kw, S, hW, BS⟩
end
end Go.Proofs.Ytencnfgmgcdiiaa
