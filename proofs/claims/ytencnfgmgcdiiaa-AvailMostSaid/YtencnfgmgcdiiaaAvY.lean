/- The laws AvailLosses and AvailCounts, as walks. -/
import Derived.Test.YtencnfgmgcdiiaaAvX
namespace Go.Proofs.Ytencnfgmgcdiiaa
open Go.RowKit Go.PM

section
variable {w : World}

set_option maxRecDepth 100000 in
set_option maxHeartbeats 2000000 in
theorem availLosses_calls (e r v : Nat) (l : List UInt8) (hl : l.length = 8) (he : e < 4294967296) (hr : r < 256) (hv : v < 256) :
    Calls Try.prog 4 #[.agg (cfgc e r v l).toArray] w fun x w' => x = .returned (.bool true) ∧ Kept No w w' := by
  have B0 := Blk.new w 49 (cfgc e r v l)
  have K0 := (Kept.refl No w).alloc (.cells (cfgc e r v l).toArray 49)
  obtain ⟨c0, c1, c2, c3, c4, c5, c6, c7, c8, c9, c10⟩ := cfg_cells B0 hl
  have h1 := fun w => losses_calls (w := w) e r v l hl he hr hv
  have h2 := fun w => refLosses_calls (w := w) e r v l hl he hr hv
  have h3 := fun w => alive_calls (w := w)
  generalize lsOf e r v l = R at *
  have H1 := Lib.hid h1
  have H2 := Lib.hid h2
  have H3 := Lib.hid h3
  clear h1 h2 h3
  go_enter Try.func4, Try.ntmps4
  go_wp2_with fail
  rw [cfg_eq e r v l hl]
  refine (H1.out _).mono ?_
  rintro _ w1 ⟨rfl, k1⟩
  have C0 := B0.kept k1 id
  have K1 := K0.trans k1 fun _ _ h => h
  clear c0 c1 c2 c3 c4 c5 c6 c7 c8 c9 c10 B0 K0 k1
  obtain ⟨c0, c1, c2, c3, c4, c5, c6, c7, c8, c9, c10⟩ := cfg_cells C0 hl
  go_wp2_with fail
  rw [cfg_eq e r v l hl]
  refine (H2.out _).mono ?_
  rintro _ w2 ⟨rfl, k2⟩
  have K2 := K1.trans k2 fun _ _ h => h
  clear c0 c1 c2 c3 c4 c5 c6 c7 c8 c9 c10 K1
  go_wp2_with (go_at_call 23; refine (H3.out _).mono ?_; rintro _ w3 ⟨rfl, k3⟩)
  go_ret
  exact ⟨rfl, K2.trans k3 fun _ _ h => h⟩

/-- The program's same, over two lists alike. -/
def SmRel (ws : World) (L : Nat) (i : Value) (wr : World) : Prop := ∃ k : Nat, k ≤ L ∧ i = .int .i64 k ∧ Kept No ws wr

set_option maxRecDepth 100000 in
set_option maxHeartbeats 2000000 in
theorem same_calls (a b : Option Addr) (ca cb : Nat) (l : List Nat) (hm : l.length ≤ maxLen) (h1 : Rd w a (ucells l)) (h2 : Rd w b (ucells l)) :
    Calls Try.prog 38 #[.slice a l.length ca, .slice b l.length cb] w fun x w' => x = .returned (.bool true) ∧ Kept No w w' := by
  unfold maxLen at hm
  go_enter Try.func38, Try.ntmps38
  go_wp2
  go_loopw [13] (fun i wr => SmRel w l.length i wr) (fun i _ => l.length - (intOf i).toNat)
  case atStart => exact ⟨0, by omega, rfl, Kept.refl _ _⟩
  case round =>
    obtain ⟨k, hk, rfl, Kw⟩ := hrel
    have i0 : (0 : Int) ≤ k := by omega
    by_cases hlt : k < l.length
    · have i1 : (k : Int) < l.length := by omega
      obtain ⟨b1, o1, rfl, hc1⟩ := (h1.keptNo Kw) k _ (ucells_get l k hlt)
      obtain ⟨b2, o2, rfl, hc2⟩ := (h2.keptNo Kw) k _ (ucells_get l k hlt)
      generalize l.getD k 0 = x at *
      go_wp2
      go_quiet (fail)
      go_wp2
      exact ⟨⟨k + 1, by omega, by go_num, Kw.drewN _⟩, by simp [intOf]; omega⟩
    · have i1 : (l.length : Int) ≤ k := by omega
      go_wp2
      go_ret
      exact ⟨rfl, Kw⟩
end
end Go.Proofs.Ytencnfgmgcdiiaa
