/- slices' reversal of a window of bytes; whether a window rises. -/
import Derived.Test.YtencnfgmgcdiiaaSoA
namespace Go.Proofs.Ytencnfgmgcdiiaa
open Go.RowKit Go.PM

theorem sw_cells (S : List UInt8) (tail : List Value) {i j : Nat} (hi : i < S.length) (hj : j < S.length) :
    bcells (sw S i j) ++ tail = ((bcells S ++ tail).set i (.int .u8 (vsOf S j))).set j (.int .u8 (vsOf S i)) := by
  rw [List.set_append_left _ _ (by simpa [bcells] using hi), List.set_append_left _ _ (by simpa [bcells] using hj)]
  simp [bcells, sw, List.map_set, vsOf]
section
variable {w : World}
theorem blk_sw {g : Nat} {T : TypeId} {S : List UInt8} {tail : List Value} {i j : Nat} (hb : Blk w g T (bcells S ++ tail)) (hi : i < S.length) (hj : j < S.length) :
    Blk ((w.setCell ⟨g, i, none⟩ (.int .u8 (vsOf S j))).setCell ⟨g, j, none⟩ (.int .u8 (vsOf S i))) g T (bcells (sw S i j) ++ tail) := by
  rw [sw_cells S tail hi hj]
  exact (hb.set i _).set j _

def RevRel (w : World) (g : Nat) (T : TypeId) (tail : List Value) (l : List UInt8) (lo hi : Nat) (s t : Value) (wr : World) : Prop :=
  ∃ i j : Nat, lo ≤ i ∧ i ≤ j + 1 ∧ j < hi ∧ s = .int .i64 i ∧ t = .int .i64 j ∧ Kept (· = g) w wr ∧ ∃ S, Win lo hi l S ∧ Blk wr g T (bcells S ++ tail)
def WinPost (w : World) (g : Nat) (T : TypeId) (tail : List Value) (l : List UInt8) (lo hi : Nat) (e : Ending) (w' : World) : Prop :=
  e = .returned (.tuple #[]) ∧ Kept (· = g) w w' ∧ ∃ S, Win lo hi l S ∧ Blk w' g T (bcells S ++ tail)

set_option maxRecDepth 100000 in
set_option maxHeartbeats 2000000 in
theorem reverse_calls (g : Nat) (l : List UInt8) (tail : List Value) (n cap lo hi : Nat) (hl : l.length = n) (hn : n < 1000000) (h0 : lo < hi) (h1 : hi ≤ n) (T : TypeId) (hb : Blk w g T (bcells l ++ tail)) :
    Calls Try.prog 75 #[.slice (some ⟨g, 0, none⟩) n cap, .int .i64 lo, .int .i64 hi] w (WinPost w g T tail l lo hi) := by
  go_enter Try.func75, Try.ntmps75
  go_wp2
  go_loopw [6, 7] (fun s t wr => RevRel w g T tail l lo hi s t wr) (fun _ t _ => (intOf t).toNat + 1)
  case atStart => exact ⟨lo, hi - 1, by omega, by omega, by omega, rfl, by rw [show (((hi - 1 : Nat)) : Int) = (hi : Int) - 1 by omega], Kept.refl _ _, l, Win.refl _ _ _, hb⟩
  case round =>
    obtain ⟨i, j, hi0, hij, hj, rfl, rfl, Kw, S, hw, BS⟩ := hrel
    have hSl : S.length = n := by rw [hw.len, hl]
    by_cases hlt : i < j
    · have i0 : (0 : Int) ≤ i := by omega
      have i1 : (i : Int) < n := by omega
      have j0 : (0 : Int) ≤ j := by omega
      have j1 : (j : Int) < n := by omega
      have hlt' : (i : Int) < j := by omega
      have c1 := (BS.cell i).trans (btcell S tail (by omega))
      have c2 := (BS.cell j).trans (btcell S tail (by omega))
      have f1 := BS.frozen i
      have f2 := BS.frozen j
      have hne : ¬ i = j := by omega
      go_wp2
      go_region
      have BW := (blk_sw BS (i := i) (j := j) (by omega) (by omega)).kept (Kept.refl No _).drew id
      have KW := ((Kw.setCell (a := ⟨g, i, none⟩) (fun _ => rfl) (.int .u8 (vsOf S j))).setCell (a := ⟨g, j, none⟩) (fun _ => rfl) (.int .u8 (vsOf S i))).drew
      have WW := hw.trans (Win.sw (i := i) (j := j) (by omega) (by omega) hi0 (by omega) (by omega) hj)
      go_wp2
      exact ⟨⟨i + 1, j - 1, by omega, by omega, by omega, by go_num, by rw [show (((j - 1 : Nat)) : Int) = (j : Int) - 1 by omega], KW, _, WW, BW⟩, by simp [intOf]; omega⟩
    · have hlt' : ¬ (i : Int) < j := by omega
      go_wp2
      go_end0
      exact ⟨rfl, Kw, S, hw, BS⟩

def RiseRel (w : World) (S : List UInt8) (lo hi : Nat) (t : Value) (wr : World) : Prop :=
  ∃ i : Nat, lo + 1 ≤ i ∧ i ≤ hi ∧ t = .int .i64 i ∧ SrtW lo i S ∧ Kept No w wr
theorem SrtW.more {lo i : Nat} {S : List UInt8} (h : SrtW lo i S) (h0 : lo < i) (hs : vsOf S (i - 1) ≤ vsOf S i) : SrtW lo (i + 1) S := by
  intro a b h1 h2 h3
  rcases Nat.lt_or_ge b i with hb | hb
  · exact h a b h1 h2 hb
  · obtain rfl : b = i := by omega
    rcases Nat.lt_or_ge a (b - 1) with ha | ha
    · exact Nat.le_trans (h a (b - 1) h1 ha (by omega)) hs
    · obtain rfl : a = b - 1 := by omega
      exact hs

set_option maxRecDepth 100000 in
set_option maxHeartbeats 2000000 in
theorem partial_calls (g : Nat) (S : List UInt8) (tail : List Value) (n cap lo hi : Nat) (hl : S.length = n) (hn : n < 1000000) (h0 : lo < hi) (h1 : hi ≤ n) (h50 : hi < lo + 50) (T : TypeId) (hb : Blk w g T (bcells S ++ tail)) :
    Calls Try.prog 76 #[.slice (some ⟨g, 0, none⟩) n cap, .int .i64 lo, .int .i64 hi] w fun e w' =>
      ∃ b, e = .returned (.bool b) ∧ (b = true → SrtW lo hi S) ∧ Kept No w w' := by
  have w1 : IntKind.i64.wrap ((lo : Int) + 1) = (lo : Int) + 1 := by rw [IntKind.wrap_i64]; omega
  have d50 : decide ((hi : Int) - lo < 50) = true := decide_eq_true (by omega)
  go_enter Try.func76, Try.ntmps76
  go_wp2
  refine wp_loop_rounds 1 ?_
  rw [rounds_succ]
  go_wp2
  go_loopw [7] (fun t wr => RiseRel w S lo hi t wr) (fun t _ => hi - (intOf t).toNat)
  case atStart => exact ⟨lo + 1, by omega, by omega, by go_num, fun a b h1 h2 h3 => by omega, Kept.refl _ _⟩
  case round =>
    obtain ⟨i, hi0, hi1, rfl, hs, Kw⟩ := hrel
    have BS := hb.kept Kw id
    have i0 : (0 : Int) ≤ i := by omega
    by_cases hlt : i < hi
    · have i1 : (i : Int) < n := by omega
      have hlt' : (i : Int) < hi := by omega
      have j3 : (0 : Int) ≤ (i : Int) - 1 := by omega
      have j4 : (i : Int) - 1 < n := by omega
      have c1 := (BS.cell i).trans (btcell S tail (by omega))
      have c2 := (BS.cell (i - 1)).trans (btcell S tail (by omega))
      have ej : ((i : Int) - 1).toNat = i - 1 := by omega
      cases hlt2 : ltB (vsOf S i) (vsOf S (i - 1))
      · have hfin : vsOf S (i - 1) ≤ vsOf S i := by unfold ltB at hlt2; have := of_decide_eq_false hlt2; omega
        go_wp2
        go_quiet ((go_at_call 77; exact less_q _ _ _ _ hlt2))
        go_wp2
        exact ⟨⟨i + 1, by omega, by omega, by go_num, hs.more (by omega) hfin, Kw.drewN _⟩, by simp [intOf]; omega⟩
      · have hne : ((i : Int) == hi) = false := by rw [beq_eq_false_iff_ne]; omega
        go_wp2
        go_quiet ((go_at_call 77; exact less_q _ _ _ _ hlt2))
        go_wp2
        go_ret
        exact ⟨false, rfl, fun h => (nomatch h), Kw.drewN _⟩
    · have hlt' : ¬ (i : Int) < hi := by omega
      obtain rfl : hi = i := by omega
      go_wp2
      go_quiet (fail)
      go_wp2
      go_ret
      exact ⟨true, rfl, fun _ => hs, Kw.drewN _⟩
end
end Go.Proofs.Ytencnfgmgcdiiaa
