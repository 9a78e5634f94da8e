/- The reference's often, as a walk. -/
import Derived.Test.YtencnfgmgcdiiaaAvC
namespace Go.Proofs.Ytencnfgmgcdiiaa
open Go.RowKit Go.PM

/-- How often a set has so many votes, over the first sets. -/
def avOften (vs us : Nat → Nat) (want : Int) (s : Nat) : Nat := ((List.range s).map fun set => if want ≤ (avOf vs 8 set : Int) then avCases us 8 set else 0).sum
theorem avOften_succ (vs us : Nat → Nat) (want : Int) (s : Nat) : avOften vs us want (s + 1) = avOften vs us want s + if want ≤ (avOf vs 8 s : Int) then avCases us 8 s else 0 := by
  unfold avOften
  rw [List.range_succ, List.map_append, List.sum_append]
  simp
theorem avOften_le {vs us : Nat → Nat} (h : ∀ k, us k ≤ 100) (want : Int) (s : Nat) : avOften vs us want s ≤ 10000000000000000 * s := by
  induction s with
  | zero => exact Nat.le_refl _
  | succ s ih =>
    rw [avOften_succ]
    have := avCases_le h 8 s
    have e : 100 ^ 8 = 10000000000000000 := by decide
    rw [e] at this
    split <;> omega

theorem list8 (l : List UInt8) (hl : l.length = 8) : ∃ a b c d e f g h, l = [a, b, c, d, e, f, g, h] := by
  match l, hl with
  | [a, b, c, d, e, f, g, h], _ => exact ⟨a, b, c, d, e, f, g, h, rfl⟩
theorem cfg_eq (e r v : Nat) (l : List UInt8) (hl : l.length = 8) : #[Value.int .u32 e, .int .u8 r, .int .u8 v, .int .u8 (vsOf l 0), .int .u8 (vsOf l 1), .int .u8 (vsOf l 2), .int .u8 (vsOf l 3), .int .u8 (vsOf l 4), .int .u8 (vsOf l 5), .int .u8 (vsOf l 6), .int .u8 (vsOf l 7)] = (cfgc e r v l).toArray := by
  obtain ⟨a, b, c, d, e, f, g, h, rfl⟩ := list8 l hl
  rfl
theorem up_eq (l : List UInt8) (hl : l.length = 8) : #[Value.int .u8 (vsOf l 0), .int .u8 (vsOf l 1), .int .u8 (vsOf l 2), .int .u8 (vsOf l 3), .int .u8 (vsOf l 4), .int .u8 (vsOf l 5), .int .u8 (vsOf l 6), .int .u8 (vsOf l 7)] = (bcells l).toArray := by
  obtain ⟨a, b, c, d, e, f, g, h, rfl⟩ := list8 l hl
  rfl
theorem cfg_cells {w : World} {b : Nat} {T : TypeId} {e r v : Nat} {l : List UInt8} (hb : Blk w b T (cfgc e r v l)) (hl : l.length = 8) :
    w.cell? ⟨b, 0, none⟩ = some (.int .u32 e) ∧ w.cell? ⟨b, 1, none⟩ = some (.int .u8 r) ∧ w.cell? ⟨b, 2, none⟩ = some (.int .u8 v) ∧ w.cell? ⟨b, 3, none⟩ = some (.int .u8 (vsOf l 0)) ∧ w.cell? ⟨b, 4, none⟩ = some (.int .u8 (vsOf l 1)) ∧ w.cell? ⟨b, 5, none⟩ = some (.int .u8 (vsOf l 2)) ∧ w.cell? ⟨b, 6, none⟩ = some (.int .u8 (vsOf l 3)) ∧ w.cell? ⟨b, 7, none⟩ = some (.int .u8 (vsOf l 4)) ∧ w.cell? ⟨b, 8, none⟩ = some (.int .u8 (vsOf l 5)) ∧ w.cell? ⟨b, 9, none⟩ = some (.int .u8 (vsOf l 6)) ∧ w.cell? ⟨b, 10, none⟩ = some (.int .u8 (vsOf l 7)) := by
  obtain ⟨a, b, c, d, e, f, g, h, rfl⟩ := list8 l hl
  refine ⟨hb.cell 0, hb.cell 1, hb.cell 2, hb.cell 3, hb.cell 4, hb.cell 5, hb.cell 6, hb.cell 7, hb.cell 8, hb.cell 9, hb.cell 10⟩
theorem up_cells {w : World} {b : Nat} {T : TypeId} {l : List UInt8} (hb : Blk w b T (bcells l)) (hl : l.length = 8) :
    w.cell? ⟨b, 0, none⟩ = some (.int .u8 (vsOf l 0)) ∧ w.cell? ⟨b, 1, none⟩ = some (.int .u8 (vsOf l 1)) ∧ w.cell? ⟨b, 2, none⟩ = some (.int .u8 (vsOf l 2)) ∧ w.cell? ⟨b, 3, none⟩ = some (.int .u8 (vsOf l 3)) ∧ w.cell? ⟨b, 4, none⟩ = some (.int .u8 (vsOf l 4)) ∧ w.cell? ⟨b, 5, none⟩ = some (.int .u8 (vsOf l 5)) ∧ w.cell? ⟨b, 6, none⟩ = some (.int .u8 (vsOf l 6)) ∧ w.cell? ⟨b, 7, none⟩ = some (.int .u8 (vsOf l 7)) := by
  obtain ⟨a, b, c, d, e, f, g, h, rfl⟩ := list8 l hl
  exact ⟨hb.cell 0, hb.cell 1, hb.cell 2, hb.cell 3, hb.cell 4, hb.cell 5, hb.cell 6, hb.cell 7⟩

section
variable {w : World}

def OftRel (w ws : World) (l u : List UInt8) (want : Int) (n i : Value) (wr : World) : Prop :=
  ∃ s : Nat, s ≤ 256 ∧ n = .int .u64 (avOften (vsOf l) (vsOf u) want s) ∧ i = .int .u64 s ∧ Kept No ws wr ∧ Kept No w wr

set_option maxRecDepth 100000 in
set_option maxHeartbeats 400000 in
theorem refOften_calls (e r v : Nat) (l u : List UInt8) (hl : l.length = 8) (hul : u.length = 8) (hu : upOk u = true) (want : Int) :
    Calls Try.prog 57 #[.agg (cfgc e r v l).toArray, .agg (bcells u).toArray, .int .i64 want] w fun x w' => x = .returned (.int .u64 (avOften (vsOf l) (vsOf u) want 256)) ∧ Kept No w w' := by
  go_enter Try.func57, Try.ntmps57
  go_wp2
  have B0 := (Blk.new w 49 (cfgc e r v l)).alloc (.cells (bcells u).toArray 47)
  have B1 := Blk.new' (w := w.alloc (.cells (cfgc e r v l).toArray 49)) (g := w.heap.size + 1) (by rw [World.size_alloc]) 47 (bcells u)
  have K0 := ((Kept.refl No w).alloc (.cells (cfgc e r v l).toArray 49)).alloc (.cells (bcells u).toArray 47)
  generalize hws : (w.alloc (.cells (cfgc e r v l).toArray 49)).alloc (.cells (bcells u).toArray 47) = ws at *
  go_loopw [7, 8] (fun n i wr => OftRel w ws l u want n i wr) (fun _ i _ => 256 - (intOf i).toNat)
  case atStart => exact ⟨0, by omega, rfl, rfl, Kept.refl No ws, K0⟩
  case round =>
    obtain ⟨s, hs, rfl, rfl, Kw, Kt⟩ := hrel
    by_cases hlt : s < 256
    · have i0 : (0 : Int) ≤ s := by omega
      have i1 : (s : Int) < 256 := by omega
      have C0 := B0.kept Kw id
      have C1 := B1.kept Kw id
      obtain ⟨c0, c1, c2, c3, c4, c5, c6, c7, c8, c9, c10⟩ := cfg_cells C0 hl
      obtain ⟨d0, d1, d2, d3, d4, d5, d6, d7⟩ := up_cells C1 hul
      have step := avOften_succ (vsOf l) (vsOf u) want s
      have bnd := avOften_le (vs := vsOf l) (upOk_le hu) want (s + 1)
      by_cases hw : want ≤ (avOf (vsOf l) 8 s : Int)
      · rw [if_pos hw] at step
        have bI : (avOften (vsOf l) (vsOf u) want s : Int) + (avCases (vsOf u) 8 s : Nat) ≤ 2560000000000000000 := by omega
        go_wp2_with (first
          | (go_at_call 25; rw [cfg_eq e r v l hl]; refine (refOf_calls e r v l hl s (by omega)).mono ?_; rintro _ wz ⟨rfl, Kz⟩
             obtain ⟨f0, f1, f2, f3, f4, f5, f6, f7⟩ := up_cells (C1.kept Kz id) hul)
          | (go_at_call 56; rw [up_eq u hul]; refine (refCases_calls u hul hu s (by omega)).mono ?_; rintro _ wy ⟨rfl, Ky⟩))
        exact ⟨⟨s + 1, by omega, by rw [step, Int.natCast_add], by go_num, (Kw.trans Kz fun _ _ h => h).trans Ky fun _ _ h => h, (Kt.trans Kz fun _ _ h => h).trans Ky fun _ _ h => h⟩, by simp [intOf]; omega⟩
      · go_wp2_with (first
          | (go_at_call 25; rw [cfg_eq e r v l hl]; refine (refOf_calls e r v l hl s (by omega)).mono ?_; rintro _ wz ⟨rfl, Kz⟩))
        refine ⟨⟨s + 1, by omega, ?_, by go_num, Kw.trans Kz fun _ _ h => h, Kt.trans Kz fun _ _ h => h⟩, by simp [intOf]; omega⟩
        rw [step, if_neg (by omega), Nat.add_zero]
    · have e : s = 256 := by omega
      subst e
      go_wp2
      go_ret
      exact ⟨rfl, Kt⟩
end
end Go.Proofs.Ytencnfgmgcdiiaa
