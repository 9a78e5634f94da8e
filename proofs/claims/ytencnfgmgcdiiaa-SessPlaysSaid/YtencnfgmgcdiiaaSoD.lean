/- slices' breaking of patterns in a window of bytes. -/
import Derived.Test.YtencnfgmgcdiiaaSoB
import Derived.Test.YtencnfgmgcdiiaaSeV
import Derived.Laws.Bits64b
import Derived.Laws.Closers25b
namespace Go.Proofs.Ytencnfgmgcdiiaa
open Go.RowKit Go.PM
theorem bits_nat (op : BinOp) (a b : Int) : ∃ v : Nat, bits op .u64 a b = v ∧ v < 18446744073709551616 :=
  ⟨(bits op .u64 a b).toNat, by have := bits_lo_u64 op a b; omega, by have := bits_lo_u64 op a b; have := bits_hi_u64 op a b; omega⟩
section
variable {w : World}
set_option maxRecDepth 100000 in
set_option maxHeartbeats 4000000 in
theorem next_calls (gs : Nat) (v : Int) (hb : Blk w gs 138 [.int .u64 v]) :
    Calls Try.prog 84 #[.pointer (some ⟨gs, 0, none⟩)] w fun e w' => ∃ v' : Nat, e = .returned (.int .u64 v') ∧ v' < 18446744073709551616 ∧ Blk w' gs 138 [.int .u64 v'] ∧ Kept (· = gs) w w' := by
  have c0 : w.cell? ⟨gs, 0, none⟩ = some (.int .u64 v) := hb.cell 0
  have f0 := hb.frozen 0
  go_enter Try.func84, Try.ntmps84
  go_wp2
  go_region
  generalize bits _ _ _ _ = v1
  have b1 := (hb.set 0 (.int .u64 v1)).kept (Kept.refl No _).drew id
  have k1 := ((Kept.refl (· = gs) w).setCell (a := ⟨gs, 0, none⟩) (fun _ => rfl) (.int .u64 v1)).drew
  clear c0 f0 hb
  generalize World.drew _ = w1 at *
  have c0 : w1.cell? ⟨gs, 0, none⟩ = some (.int .u64 v1) := b1.cell 0
  have f0 := b1.frozen 0
  go_wp2
  go_region
  generalize bits _ _ _ _ = v2
  have b2 := (b1.set 0 (.int .u64 v2)).kept (Kept.refl No _).drew id
  have k2 := (k1.setCell (a := ⟨gs, 0, none⟩) (fun _ => rfl) (.int .u64 v2)).drew
  clear c0 f0 b1 k1
  generalize World.drew _ = w2 at *
  have c0 : w2.cell? ⟨gs, 0, none⟩ = some (.int .u64 v2) := b2.cell 0
  have f0 := b2.frozen 0
  go_wp2
  go_region
  obtain ⟨v3, e3, h3⟩ := bits_nat .xor v2 (IntKind.u64.wrap (v2 * 131072))
  rw [e3]
  have b3 := (b2.set 0 (.int .u64 v3)).kept (Kept.refl No _).drew id
  have k3 := (k2.setCell (a := ⟨gs, 0, none⟩) (fun _ => rfl) (.int .u64 v3)).drew
  clear c0 f0 b2 k2
  generalize World.drew _ = w3 at *
  have c0 : w3.cell? ⟨gs, 0, none⟩ = some (.int .u64 v3) := b3.cell 0
  have HB := Lib.hid b3
  clear b3
  go_wp2
  go_ret
  exact ⟨v3, rfl, h3, HB.out, k3⟩

set_option maxRecDepth 100000 in
set_option maxHeartbeats 1000000 in
theorem pow_calls (n : Nat) (h13 : 13 ≤ n) (h16 : n ≤ 16) : Calls Try.prog 83 #[.int .i64 n] w fun e w' => ∃ M : Nat, e = .returned (.int .u64 M) ∧ n ≤ M ∧ M ≤ 2 * n ∧ w = w' := by
  have h : n = 13 ∨ n = 14 ∨ n = 15 ∨ n = 16 := by omega
  have HL : Hid (∀ w : World, ∀ n : Nat, n ≤ 16 → Calls Try.prog 69 #[.int .u64 n] w fun e w' => e = .returned (.int .i64 (len16 n)) ∧ w = w') := Lib.hid (fun w n h => len_small (w := w) n h)
  rcases h with rfl | rfl | rfl | rfl
  all_goals
    go_enter Try.func83, Try.ntmps83
    go_wp2_with fail
    refine (HL.out _ _ h16).mono ?_
    rintro _ _ ⟨rfl, rfl⟩
    simp only [len16]
    go_wp2
    go_ret
  · exact ⟨16, rfl, by decide, by decide, rfl⟩
  · exact ⟨16, rfl, by decide, by decide, rfl⟩
  · exact ⟨16, rfl, by decide, by decide, rfl⟩
  · exact ⟨32, rfl, by decide, by decide, rfl⟩
end
end Go.Proofs.Ytencnfgmgcdiiaa
