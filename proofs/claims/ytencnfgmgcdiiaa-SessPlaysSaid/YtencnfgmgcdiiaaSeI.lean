/- The laws of sess: alive, short, seq. -/
import Derived.Test.YtencnfgmgcdiiaaSeH
namespace Go.Proofs.Ytencnfgmgcdiiaa
open Go.RowKit Go.PM

def alA : PA := ⟨0, 0, 0, 0, ⟨#[]⟩, 7⟩
def alD1 : List (UInt8 × PC) := [(1, ⟨1, true, .zero⟩)]
def alD2 : List (UInt8 × PC) := [(1, ⟨1, false, alA⟩)]

section
variable {w : World} {p b : Nat} {D : List (UInt8 × PC)}
theorem al_come0 (h : DeskB w p b []) : Calls Try.prog 19 #[.pointer (some ⟨p, 0, none⟩), .agg #[.int .u8 1, .int .u32 1]] w fun e w' =>
    e = .returned (.tuple #[.int .i64 1, .agg #[.int .i64 0, .int .u8 0, .int .u32 0, .int .u32 0, .string ⟨#[]⟩, .int .u32 0], .int .i64 0]) ∧ DeskB w' p b alD1 ∧ Kept (· = b) w w' :=
  se_Come h 1 1 (by decide) (by decide) (by decide) (by decide) (by decide)
theorem al_come1 (h : DeskB w p b alD1) : Calls Try.prog 19 #[.pointer (some ⟨p, 0, none⟩), .agg #[.int .u8 1, .int .u32 1]] w fun e w' =>
    e = .returned (.tuple #[.int .i64 2, .agg #[.int .i64 0, .int .u8 0, .int .u32 0, .int .u32 0, .string ⟨#[]⟩, .int .u32 0], .int .i64 0]) ∧ DeskB w' p b alD1 ∧ Kept (· = b) w w' :=
  se_Come h 1 1 (by decide) (by decide) (by decide) (by decide) (by decide)
theorem al_come2 (h : DeskB w p b alD2) : Calls Try.prog 19 #[.pointer (some ⟨p, 0, none⟩), .agg #[.int .u8 1, .int .u32 1]] w fun e w' =>
    e = .returned (.tuple #[.int .i64 3, .agg #[.int .i64 0, .int .u8 0, .int .u32 0, .int .u32 0, .string ⟨#[]⟩, .int .u32 7], .int .i64 0]) ∧ DeskB w' p b alD2 ∧ Kept (· = b) w w' :=
  se_Come h 1 1 (by decide) (by decide) (by decide) (by decide) (by decide)
theorem al_tell (h : DeskB w p b alD1) : Calls Try.prog 18 #[.pointer (some ⟨p, 0, none⟩), .agg #[.int .u8 1, .int .u32 1], .agg #[.int .i64 0, .int .u8 0, .int .u32 0, .int .u32 0, .string ⟨#[]⟩, .int .u32 7]] w fun e w' =>
    e = .returned (.int .i64 0) ∧ DeskB w' p b alD2 ∧ Kept (· = b) w w' :=
  se_Tell h 1 1 alA
theorem al_all (h : DeskB w p b alD2) : Calls Try.prog 33 #[.pointer (some ⟨p, 0, none⟩)] w fun e w' =>
    (∃ a cap, e = .returned (.slice a 0 cap)) ∧ Kept No w w' := by
  refine (se_All sortsTo12 (by decide) h (by decide)).mono ?_
  rintro e w' ⟨S, a, cap, rfl, hp, _, _, k⟩
  have : S = [1] := List.perm_singleton.1 hp
  subst this
  exact ⟨⟨a, cap, rfl⟩, k⟩

set_option maxRecDepth 100000 in
set_option maxHeartbeats 2000000 in
theorem alive_calls (w : World) : Calls Try.prog 20 #[] w fun e w' => e = .returned (.bool true) ∧ Kept No w w' := by
  go_enter Try.func20, Try.ntmps20
  go_wp2_with fail
  refine (se_New w).mono ?_
  rintro _ w1 ⟨p, b, rfl, d1, k1, hp, hb⟩
  go_wp2_with fail
  have K2 := (Kept.refl No w1).alloc (.cells #[.int .u8 1, .int .u32 1] 39)
  have B2 := Blk.new w1 39 [.int .u8 1, .int .u32 1]
  refine (al_come0 (d1.kept K2 id id)).mono ?_
  rintro _ w3 ⟨rfl, d3, k3⟩
  have nb : ¬ w1.heap.size = b := by have := d1.mp.lt; omega
  have B3 := B2.kept k3 nb
  have K3 := (k1.transNo K2).above k3 fun c e => e ▸ hb
  have c3 : w3.cell? ⟨w1.heap.size, 0, none⟩ = some (.int .u8 1) := B3.cell 0
  have c3' : w3.cell? ⟨w1.heap.size, 1, none⟩ = some (.int .u32 1) := B3.cell 1
  generalize w1.heap.size = g at *
  clear d1 k1 K2 B2 k3 hp
  have K4 := (Kept.refl No w3).alloc (.cells #[.int .i64 0, .int .u8 0, .int .u32 0, .int .u32 0, .string ⟨#[]⟩, .int .u32 0] 40)
  have B4 := B3.kept K4 id
  have c4 : (w3.alloc (.cells #[.int .i64 0, .int .u8 0, .int .u32 0, .int .u32 0, .string ⟨#[]⟩, .int .u32 0] 40)).cell? ⟨g, 0, none⟩ = some (.int .u8 1) := B4.cell 0
  have c4' : (w3.alloc (.cells #[.int .i64 0, .int .u8 0, .int .u32 0, .int .u32 0, .string ⟨#[]⟩, .int .u32 0] 40)).cell? ⟨g, 1, none⟩ = some (.int .u32 1) := B4.cell 1
  clear c3 c3'
  go_wp2_with fail
  clear c4 c4'
  have d4 := d3.kept K4 id id
  generalize w3.alloc _ = w4 at *
  refine (al_come1 d4).mono ?_
  rintro _ w5 ⟨rfl, d5, k5⟩
  have B5 := B4.kept k5 nb
  have K5 := (K3.transNo K4).above k5 fun c e => e ▸ hb
  have c5 : w5.cell? ⟨g, 0, none⟩ = some (.int .u8 1) := B5.cell 0
  have c5' : w5.cell? ⟨g, 1, none⟩ = some (.int .u32 1) := B5.cell 1
  clear d3 d4 B3 B4 k5 K3 K4
  have K6 := (Kept.refl No w5).alloc (.cells #[.int .i64 0, .int .u8 0, .int .u32 0, .int .u32 0, .string ⟨#[]⟩, .int .u32 0] 40)
  have B6 := B5.kept K6 id
  have c6 : (w5.alloc (.cells #[.int .i64 0, .int .u8 0, .int .u32 0, .int .u32 0, .string ⟨#[]⟩, .int .u32 0] 40)).cell? ⟨g, 0, none⟩ = some (.int .u8 1) := B6.cell 0
  have c6' : (w5.alloc (.cells #[.int .i64 0, .int .u8 0, .int .u32 0, .int .u32 0, .string ⟨#[]⟩, .int .u32 0] 40)).cell? ⟨g, 1, none⟩ = some (.int .u32 1) := B6.cell 1
  clear c5 c5'
  go_wp2_with fail
  clear c6 c6'
  have d6 := d5.kept K6 id id
  generalize w5.alloc _ = w6 at *
  refine (al_tell d6).mono ?_
  rintro _ w7 ⟨rfl, d7, k7⟩
  have B7 := B6.kept k7 nb
  have K7 := (K5.transNo K6).above k7 fun c e => e ▸ hb
  have c7 : w7.cell? ⟨g, 0, none⟩ = some (.int .u8 1) := B7.cell 0
  have c7' : w7.cell? ⟨g, 1, none⟩ = some (.int .u32 1) := B7.cell 1
  clear d5 d6 B5 B6 k7 K5 K6
  go_wp2_with fail
  refine (al_come2 d7).mono ?_
  rintro _ w8 ⟨rfl, d8, k8⟩
  have K8 := K7.above k8 fun c e => e ▸ hb
  have K9 := (Kept.refl No w8).alloc (.cells #[.int .i64 0, .int .u8 0, .int .u32 0, .int .u32 0, .string ⟨#[]⟩, .int .u32 7] 40)
  clear c7 c7' B7 d7 k8 K7
  go_wp2_with fail
  have d9 := d8.kept K9 id id
  generalize w8.alloc _ = w9 at *
  refine (al_all d9).mono ?_
  rintro _ w10 ⟨⟨a, cap, rfl⟩, k10⟩
  go_wp2
  go_ret
  exact ⟨rfl, (K8.transNo K9).transNo k10⟩
end
end Go.Proofs.Ytencnfgmgcdiiaa
