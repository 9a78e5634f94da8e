/- Votes, the program's and the reference's, as walks. -/
import Derived.Test.YtencnfgmgcdiiaaAvK
namespace Go.Proofs.Ytencnfgmgcdiiaa
open Go.RowKit Go.PM

/-- What Votes answers as an error. -/
def vtErr (l u : List UInt8) : Nat := if upOk u then if vOk l then 0 else 16 else 1
theorem vtErr_ck (l u : List UInt8) (hl : l.length = 8) (hu : u.length = 8) : ckOf u l = vtErr l u := by
  have h1 := mx_upOk u hu
  have h2 := mx_vOk l hl
  unfold ckOf vtErr
  by_cases a : upOk u = true
  · rw [if_pos (h1.2 a), if_pos a]
    by_cases b : vOk l = true
    · rw [if_pos (h2.2 b), if_pos b]
    · rw [if_neg (fun x => b (h2.1 x)), if_neg b]
  · rw [if_neg (fun x => a (h1.1 x)), if_neg a]

section
variable {w : World}

/-- The numbers, or an error and none. -/
def VotesPost (w : World) (l u : List UInt8) (e : Ending) (w' : World) : Prop :=
  Kept No w w' ∧ ∃ v, e = .returned (.tuple #[v, .int .i64 (vtErr l u)]) ∧ (vtErr l u ≠ 0 → v = .slice none 0 0) ∧ (vtErr l u = 0 → FreshU w w' v (avCnt (vsOf l) (vsOf u) 8))

set_option maxRecDepth 100000 in
set_option maxHeartbeats 1000000 in
theorem votes_calls (l u : List UInt8) (hl : l.length = 8) (hul : u.length = 8) :
    Calls Try.prog 34 #[.agg (bcells l).toArray, .agg (bcells u).toArray] w (VotesPost w l u) := by
  have B0 := (Blk.new w 47 (bcells l)).alloc (.cells (bcells u).toArray 47)
  have B1 := Blk.new' (w := w.alloc (.cells (bcells l).toArray 47)) (g := w.heap.size + 1) (by rw [World.size_alloc]) 47 (bcells u)
  have K0 := ((Kept.refl No w).alloc (.cells (bcells l).toArray 47)).alloc (.cells (bcells u).toArray 47)
  obtain ⟨c0, c1, c2, c3, c4, c5, c6, c7⟩ := up_cells B0 hl
  obtain ⟨d0, d1, d2, d3, d4, d5, d6, d7⟩ := up_cells B1 hul
  have hpost : ∀ e w', VotesPost w l u e w' ↔ (Kept No w w' ∧ ∃ v, e = .returned (.tuple #[v, .int .i64 (vtErr l u)]) ∧ (vtErr l u ≠ 0 → v = .slice none 0 0) ∧ (vtErr l u = 0 → FreshU w w' v (avCnt (vsOf l) (vsOf u) 8))) := fun _ _ => Iff.rfl
  have hck := vtErr_ck l u hl hul
  have hu0 : vtErr l u = 0 → upOk u = true := by
    unfold vtErr
    cases upOk u <;> simp
  generalize vtErr l u = E at *
  have HP := Lib.hid hpost
  have HC := Lib.hid hck
  have HU := Lib.hid hu0
  clear hpost hck hu0
  by_cases hE : E = 0
  · subst hE
    go_enter Try.func34, Try.ntmps34
    go_wp2_with fail
    rw [up_eq u hul, up_eq l hl]
    refine (check_calls u l hul hl).mono ?_
    rw [HC.out]
    rintro _ w1 ⟨rfl, k1⟩
    have C0 := B0.kept k1 id
    have C1 := B1.kept k1 id
    have K1 := K0.trans k1 fun _ _ h => h
    clear c0 c1 c2 c3 c4 c5 c6 c7 d0 d1 d2 d3 d4 d5 d6 d7 B0 B1 K0
    obtain ⟨c0, c1, c2, c3, c4, c5, c6, c7⟩ := up_cells C0 hl
    obtain ⟨d0, d1, d2, d3, d4, d5, d6, d7⟩ := up_cells C1 hul
    go_wp2_with fail
    rw [up_eq u hul, up_eq l hl]
    refine (count_calls l u hl hul (HU.out (by trivial))).mono ?_
    rintro _ w3 ⟨_, rfl, ⟨g, rfl, hg, BG⟩, k3⟩
    go_wp2
    go_ret2
    exact (HP.out _ _).2 ⟨K1.trans k3 fun _ _ h => h, _, rfl, fun h => absurd rfl h, fun _ => ⟨g, rfl, Nat.le_trans K1.size hg, BG⟩⟩
  · have hE' := beq_eq_false_iff_ne.2 (show (E : Int) ≠ 0 by omega)
    have hE2 : ((E : Int) != 0) = true := by rw [bne, hE']; rfl
    go_enter Try.func34, Try.ntmps34
    go_wp2_with fail
    rw [up_eq u hul, up_eq l hl]
    refine (check_calls u l hul hl).mono ?_
    rw [HC.out]
    rintro _ w1 ⟨rfl, k1⟩
    go_wp2
    go_ret2
    exact (HP.out _ _).2 ⟨K0.trans k1 fun _ _ h => h, _, rfl, fun _ => rfl, fun h => absurd h hE⟩
end
end Go.Proofs.Ytencnfgmgcdiiaa
