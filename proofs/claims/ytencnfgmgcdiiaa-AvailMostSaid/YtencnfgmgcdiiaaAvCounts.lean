/- The law AvailCounts, as a walk. -/
import Derived.Test.YtencnfgmgcdiiaaAvY
namespace Go.Proofs.Ytencnfgmgcdiiaa
open Go.RowKit Go.PM

/-- What Votes answers as a list. -/
def vtList (l u : List UInt8) : List Nat := if vtErr l u = 0 then avCnt (vsOf l) (vsOf u) 8 else []
theorem vtList_len (l u : List UInt8) : (vtList l u).length ≤ 2041 := by
  unfold vtList
  split
  · rw [avCnt_length]
    have := avOf_le l 8 (2 ^ 8 - 1)
    omega
  · simp

section
variable {w : World}

def ListedPost (w : World) (L : List Nat) (E : Nat) (e : Ending) (w' : World) : Prop :=
  ∃ (a : Option Addr) (c : Nat), e = .returned (.tuple #[.slice a L.length c, .int .i64 E]) ∧ Rd w' a (ucells L) ∧ Kept No w w'
theorem listed_of {l u : List UInt8} {e : Ending} {w' : World} (h : VotesPost w l u e w') : ListedPost w (vtList l u) (vtErr l u) e w' := by
  obtain ⟨hk, v, he, h1, h2⟩ := h
  by_cases h0 : vtErr l u = 0
  · obtain ⟨g, rfl, _, hb⟩ := h2 h0
    refine ⟨some ⟨g, 0, none⟩, (avCnt (vsOf l) (vsOf u) 8).length, ?_, ?_, hk⟩
    · rw [he, vtList, if_pos h0]
    · rw [vtList, if_pos h0]; exact Rd.ofBlk' hb
  · have := h1 h0
    subst this
    refine ⟨none, 0, ?_, ?_, hk⟩
    · rw [he, vtList, if_neg h0]; rfl
    · rw [vtList, if_neg h0]; exact Rd.nil _ _
theorem votesL_calls (l u : List UInt8) (hl : l.length = 8) (hul : u.length = 8) : Calls Try.prog 34 #[.agg (bcells l).toArray, .agg (bcells u).toArray] w (ListedPost w (vtList l u) (vtErr l u)) :=
  (votes_calls l u hl hul).mono fun _ _ h => listed_of h
theorem refVotesL_calls (l u : List UInt8) (hl : l.length = 8) (hul : u.length = 8) : Calls Try.prog 35 #[.agg (bcells l).toArray, .agg (bcells u).toArray] w (ListedPost w (vtList l u) (vtErr l u)) :=
  (refVotes_calls l u hl hul).mono fun _ _ h => listed_of h

set_option maxRecDepth 100000 in
set_option maxHeartbeats 4000000 in
theorem availCounts_calls (e r v : Nat) (l u : List UInt8) (hl : l.length = 8) (hul : u.length = 8) (he : e < 4294967296) (hr : r < 256) (hv : v < 256) :
    Calls Try.prog 10 #[.agg (cfgc e r v l).toArray, .agg (bcells u).toArray] w fun x w' => x = .returned (.bool true) ∧ Kept No w w' := by
  have B0 := (Blk.new w 49 (cfgc e r v l)).alloc (.cells (bcells u).toArray 47)
  have B1 := Blk.new' (w := w.alloc (.cells (cfgc e r v l).toArray 49)) (g := w.heap.size + 1) (by rw [World.size_alloc]) 47 (bcells u)
  have K0 := ((Kept.refl No w).alloc (.cells (cfgc e r v l).toArray 49)).alloc (.cells (bcells u).toArray 47)
  obtain ⟨c0, c1, c2, c3, c4, c5, c6, c7, c8, c9, c10⟩ := cfg_cells B0 hl
  obtain ⟨d0, d1, d2, d3, d4, d5, d6, d7⟩ := up_cells B1 hul
  have h1 := fun w => votesL_calls (w := w) l u hl hul
  have h2 := fun w => refVotesL_calls (w := w) l u hl hul
  have h3 := fun w => reads_calls (w := w) e r v l u hl hul he hr hv
  have h4 := fun w => refReads_calls (w := w) e r v l u hl hul he hr hv
  have h5 := fun w => writes_calls (w := w) e r v l u hl hul he hr hv
  have h6 := fun w => refWrites_calls (w := w) e r v l u hl hul he hr hv
  have h7 := fun w => alive_calls (w := w)
  have hlen := vtList_len l u
  have hmx : (vtList l u).length ≤ maxLen := by unfold maxLen; omega
  generalize rdOf e r v l u r = R1 at *
  generalize rdOf e r v l u v = R2 at *
  generalize vtList l u = L at *
  generalize vtErr l u = E at *
  have H1 := Lib.hid h1
  have H2 := Lib.hid h2
  have H3 := Lib.hid h3
  have H4 := Lib.hid h4
  have H5 := Lib.hid h5
  have H6 := Lib.hid h6
  have H7 := Lib.hid h7
  have HMx := Lib.hid hmx
  clear h1 h2 h3 h4 h5 h6 h7 hmx
  go_enter Try.func10, Try.ntmps10
  go_wp2_with fail
  rw [up_eq l hl, up_eq u hul]
  refine (H1.out _).mono ?_
  rintro _ w1 ⟨a1, ca, rfl, R1', k1⟩
  have C0 := B0.kept k1 id
  have C1 := B1.kept k1 id
  have K1 := K0.trans k1 fun _ _ h => h
  clear c0 c1 c2 c3 c4 c5 c6 c7 c8 c9 c10 d0 d1 d2 d3 d4 d5 d6 d7 B0 B1 K0 k1
  obtain ⟨c0, c1, c2, c3, c4, c5, c6, c7, c8, c9, c10⟩ := cfg_cells C0 hl
  obtain ⟨d0, d1, d2, d3, d4, d5, d6, d7⟩ := up_cells C1 hul
  go_wp2_with fail
  rw [up_eq l hl, up_eq u hul]
  refine (H2.out _).mono ?_
  rintro _ w2 ⟨a2, cb, rfl, R2', k2⟩
  have D0 := C0.kept k2 id
  have D1 := C1.kept k2 id
  have K2 := K1.trans k2 fun _ _ h => h
  have R12 := R1'.keptNo k2
  clear c0 c1 c2 c3 c4 c5 c6 c7 c8 c9 c10 d0 d1 d2 d3 d4 d5 d6 d7 C0 C1 K1 k2 R1'
  obtain ⟨c0, c1, c2, c3, c4, c5, c6, c7, c8, c9, c10⟩ := cfg_cells D0 hl
  obtain ⟨d0, d1, d2, d3, d4, d5, d6, d7⟩ := up_cells D1 hul
  go_wp2_with fail
  rw [cfg_eq e r v l hl, up_eq u hul]
  refine (H3.out _).mono ?_
  rintro _ w3 ⟨rfl, k3⟩
  have E0 := D0.kept k3 id
  have E1 := D1.kept k3 id
  have K3 := K2.trans k3 fun _ _ h => h
  have R13 := R12.keptNo k3
  have R23 := R2'.keptNo k3
  clear c0 c1 c2 c3 c4 c5 c6 c7 c8 c9 c10 d0 d1 d2 d3 d4 d5 d6 d7 D0 D1 K2 k3 R12 R2'
  obtain ⟨c0, c1, c2, c3, c4, c5, c6, c7, c8, c9, c10⟩ := cfg_cells E0 hl
  obtain ⟨d0, d1, d2, d3, d4, d5, d6, d7⟩ := up_cells E1 hul
  go_wp2_with fail
  rw [cfg_eq e r v l hl, up_eq u hul]
  refine (H4.out _).mono ?_
  rintro _ w4 ⟨rfl, k4⟩
  have F0 := E0.kept k4 id
  have F1 := E1.kept k4 id
  have K4 := K3.trans k4 fun _ _ h => h
  have R14 := R13.keptNo k4
  have R24 := R23.keptNo k4
  clear c0 c1 c2 c3 c4 c5 c6 c7 c8 c9 c10 d0 d1 d2 d3 d4 d5 d6 d7 E0 E1 K3 k4 R13 R23
  obtain ⟨c0, c1, c2, c3, c4, c5, c6, c7, c8, c9, c10⟩ := cfg_cells F0 hl
  obtain ⟨d0, d1, d2, d3, d4, d5, d6, d7⟩ := up_cells F1 hul
  go_wp2_with fail
  rw [cfg_eq e r v l hl, up_eq u hul]
  refine (H5.out _).mono ?_
  rintro _ w5 ⟨rfl, k5⟩
  have G0 := F0.kept k5 id
  have G1 := F1.kept k5 id
  have K5 := K4.trans k5 fun _ _ h => h
  have R15 := R14.keptNo k5
  have R25 := R24.keptNo k5
  clear c0 c1 c2 c3 c4 c5 c6 c7 c8 c9 c10 d0 d1 d2 d3 d4 d5 d6 d7 F0 F1 K4 k5 R14 R24
  obtain ⟨c0, c1, c2, c3, c4, c5, c6, c7, c8, c9, c10⟩ := cfg_cells G0 hl
  obtain ⟨d0, d1, d2, d3, d4, d5, d6, d7⟩ := up_cells G1 hul
  go_wp2_with fail
  rw [cfg_eq e r v l hl, up_eq u hul]
  refine (H6.out _).mono ?_
  rintro _ w6 ⟨rfl, k6⟩
  have K6 := K5.trans k6 fun _ _ h => h
  have R16 := R15.keptNo k6
  have R26 := R25.keptNo k6
  clear c0 c1 c2 c3 c4 c5 c6 c7 c8 c9 c10 d0 d1 d2 d3 d4 d5 d6 d7 G0 G1 K5 k6 R15 R25
  go_wp2_with (first
    | (go_at_call 38; refine (same_calls a1 a2 ca cb L HMx.out R16 R26).mono ?_; rintro _ w7 ⟨rfl, k7⟩)
    | (go_at_call 23; refine (H7.out _).mono ?_; rintro _ w8 ⟨rfl, k8⟩))
  go_ret
  exact ⟨rfl, (K6.trans k7 fun _ _ h => h).trans k8 fun _ _ h => h⟩
end
end Go.Proofs.Ytencnfgmgcdiiaa
