/- slices' insertion sort over a window of bytes, as a walk. -/
import Derived.Test.YtencnfgmgcdiiaaAvT
import Derived.Test.YtencnfgmgcdiiaaSeS
namespace Go.Proofs.Ytencnfgmgcdiiaa
open Go.RowKit Go.PM

section
variable {w : World}
theorem btcell (S : List UInt8) (tail : List Value) {j : Nat} (hj : j < S.length) : (bcells S ++ tail)[j]? = some (.int .u8 (vsOf S j)) := by
  rw [List.getElem?_append_left (by simpa [bcells] using hj)]
  exact upcell S hj
def IwRel (w : World) (g : Nat) (T : TypeId) (tail : List Value) (l : List UInt8) (lo hi : Nat) (t : Value) (wr : World) : Prop :=
  ∃ k : Nat, lo + 1 ≤ k ∧ (k ≤ hi ∨ k = lo + 1) ∧ t = .int .i64 k ∧ Kept (· = g) w wr ∧ ∃ S, S.Perm l ∧ Out lo hi l S ∧ SrtW lo k S ∧ Blk wr g T (bcells S ++ tail)
def JwRel (w : World) (g : Nat) (T : TypeId) (tail : List Value) (l : List UInt8) (lo hi k : Nat) (t : Value) (wr : World) : Prop :=
  ∃ j : Nat, lo ≤ j ∧ j ≤ k ∧ t = .int .i64 j ∧ Kept (· = g) w wr ∧ ∃ S, S.Perm l ∧ Out lo hi l S ∧ SrtBW lo k j S ∧ Blk wr g T (bcells S ++ tail)
def IwPost (w : World) (g : Nat) (T : TypeId) (tail : List Value) (l : List UInt8) (lo hi : Nat) (e : Ending) (w' : World) : Prop :=
  e = .returned (.tuple #[]) ∧ Kept (· = g) w w' ∧ ∃ S, S.Perm l ∧ Out lo hi l S ∧ SrtW lo hi S ∧ Blk w' g T (bcells S ++ tail)

set_option maxRecDepth 100000 in
set_option maxHeartbeats 2000000 in
theorem insw_calls (g : Nat) (l : List UInt8) (tail : List Value) (n cap lo hi : Nat) (hl : l.length = n) (hn : n < 1000000) (h0 : lo ≤ hi) (h1 : hi ≤ n) (T : TypeId) (hb : Blk w g T (bcells l ++ tail)) :
    Calls Try.prog 71 #[.slice (some ⟨g, 0, none⟩) n cap, .int .i64 lo, .int .i64 hi] w (IwPost w g T tail l lo hi) := by
  have w0 : IntKind.i64.wrap ((lo : Int) + 1) = (lo : Int) + 1 := by rw [IntKind.wrap_i64]; omega
  go_enter Try.func71, Try.ntmps71
  go_wp2
  go_loopw [6] (fun t wr => IwRel w g T tail l lo hi t wr) (fun t _ => hi - (intOf t).toNat)
  case atStart => exact ⟨lo + 1, by omega, .inr rfl, by go_num, Kept.refl _ _, l, List.Perm.refl _, Out.refl _ _ _, fun a b h1 h2 h3 => by omega, hb⟩
  case round =>
    obtain ⟨k, hk1, hk, rfl, Kw, S, hp, hout, hs, BS⟩ := hrel
    have k0 : (0 : Int) ≤ k := by omega
    by_cases hlt : k < hi
    · have k1 : (k : Int) < hi := by omega
      go_wp2
      go_loopw [7] (fun t wr => JwRel w g T tail l lo hi k t wr) (fun t _ => (intOf t).toNat)
      case atStart => exact ⟨k, by omega, by omega, rfl, Kw, S, hp, hout, SrtBW.start hs, BS⟩
      case round =>
        clear hs hp BS Kw hout S
        obtain ⟨j, hjl, hj, rfl, Kw, S, hp, hout, hs, BS⟩ := hrel
        have hSl : S.length = n := by rw [hp.length_eq, hl]
        have j0 : (0 : Int) ≤ j := by omega
        have j1 : (j : Int) < n := by omega
        by_cases hj0 : lo < j
        · have j2 : (lo : Int) < j := by omega
          have j3 : (0 : Int) ≤ (j : Int) - 1 := by omega
          have c1 := (BS.cell j).trans (btcell S tail (by omega))
          have c2 := (BS.cell (j - 1)).trans (btcell S tail (by omega))
          have f1 := BS.frozen j
          have f2 := BS.frozen (j - 1)
          have ej : ((j : Int) - 1).toNat = j - 1 := by omega
          cases hlt2 : ltB (vsOf S j) (vsOf S (j - 1))
          · go_wp2
            go_quiet ((go_at_call 77; exact less_q _ _ _ _ hlt2))
            have hfin : vsOf S (j - 1) ≤ vsOf S j := by unfold ltB at hlt2; have := of_decide_eq_false hlt2; omega
            go_wp2
            exact ⟨⟨k + 1, by omega, .inl (by omega), by go_num, Kw.drewN _, S, hp, hout, SrtBW.stop hs hj (.inr hfin), BS.drewN _⟩, by simp [intOf]; omega⟩
          · have hfin : vsOf S j < vsOf S (j - 1) := by unfold ltB at hlt2; exact of_decide_eq_true hlt2
            go_wp2
            go_quiet ((go_at_call 77; exact less_q _ _ _ _ hlt2))
            go_wp2
            go_region
            have BW : Blk (((wr.drewN (nq + 1)).setCell ⟨g, j, none⟩ (.int .u8 (vsOf S (j - 1)))).setCell ⟨g, j - 1, none⟩ (.int .u8 (vsOf S j))) g T (bcells (swp S j) ++ tail) := by
              have e : bcells (swp S j) ++ tail = ((bcells S ++ tail).set j (.int .u8 (vsOf S (j - 1)))).set (j - 1) (.int .u8 (vsOf S j)) := by
                rw [List.set_append_left _ _ (by simp [bcells]; omega), List.set_append_left _ _ (by simp [bcells]; omega)]
                simp [bcells, swp, List.map_set, vsOf]
              rw [e]
              exact ((BS.drewN (nq + 1)).set j _).set (j - 1) _
            have KW : Kept (· = g) w (((wr.drewN (nq + 1)).setCell ⟨g, j, none⟩ (.int .u8 (vsOf S (j - 1)))).setCell ⟨g, j - 1, none⟩ (.int .u8 (vsOf S j))) := ((Kw.drewN (nq + 1)).setCell (fun _ => rfl) _).setCell (fun _ => rfl) _
            have PW := (swp_perm S j (by omega) (by omega)).trans hp
            have SW := SrtBW.step hs hj hj0 (by omega) hfin
            have OW := hout.trans (Out.swp (hi := hi) hj0 (by omega) (by omega))
            go_wp2
            exact ⟨⟨j - 1, by omega, by omega, by rw [show (((j - 1 : Nat)) : Int) = (j : Int) - 1 by omega], KW, _, PW, OW, SW, BW⟩, by simp [intOf]; omega⟩
        · obtain rfl : j = lo := by omega
          go_wp2
          go_quiet (fail)
          go_wp2
          exact ⟨⟨k + 1, by omega, .inl (by omega), by go_num, Kw.drewN _, S, hp, hout, SrtBW.stop hs hj (.inl rfl), BS.drewN _⟩, by simp [intOf]; omega⟩
    · have k1 : ¬ ((k : Int) < hi) := by omega
      go_wp2
      go_end0
      exact ⟨rfl, Kw, S, hp, hout, fun a b h2 h3 h4 => hs a b h2 h3 (by omega), BS⟩
end
end Go.Proofs.Ytencnfgmgcdiiaa
