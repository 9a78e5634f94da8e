/- The reference's Votes, as a walk. -/
import Derived.Test.YtencnfgmgcdiiaaAvL
namespace Go.Proofs.Ytencnfgmgcdiiaa
open Go.RowKit Go.PM

/-- The reference's counts over the first sets. -/
def rfAcc (vs us : Nat → Nat) (s : Nat) : List Nat := (List.range (avOf vs 8 255 + 1)).map fun k => ((List.range s).map fun set => if avOf vs 8 set = k then avCases us 8 set else 0).sum
@[simp] theorem rfAcc_length (vs us : Nat → Nat) (s : Nat) : (rfAcc vs us s).length = avOf vs 8 255 + 1 := by simp [rfAcc]
theorem rfAcc_get (vs us : Nat → Nat) (s k : Nat) (h : k < avOf vs 8 255 + 1) : (rfAcc vs us s).getD k 0 = ((List.range s).map fun set => if avOf vs 8 set = k then avCases us 8 set else 0).sum := by
  simp [rfAcc, List.getD_eq_getElem?_getD, h]
theorem rfAcc_zero (vs us : Nat → Nat) : rfAcc vs us 0 = List.replicate (avOf vs 8 255 + 1) 0 := by
  apply List.ext_getElem
  · simp
  · intro j h1 h2
    simp [rfAcc]
theorem rfAcc_all (vs us : Nat → Nat) : rfAcc vs us 256 = avCnt vs us 8 := by
  apply List.ext_getElem
  · rw [rfAcc_length, avCnt_length, Nat.add_comm]
  · intro j h1 h2
    have e1 := rfAcc_get vs us 256 j (by simpa using h1)
    have e2 := avCnt_get vs us 8 j
    have e : (rfAcc vs us 256).getD j 0 = (avCnt vs us 8).getD j 0 := e1.trans e2.symm
    simpa only [List.getD_eq_getElem?_getD, List.getElem?_eq_getElem h1, List.getElem?_eq_getElem h2, Option.getD_some] using e
theorem rfAcc_succ (vs us : Nat → Nat) (s : Nat) : rfAcc vs us (s + 1) = (rfAcc vs us s).set (avOf vs 8 s) ((rfAcc vs us s).getD (avOf vs 8 s) 0 + avCases us 8 s) := by
  have hm : avOf vs 8 s ≤ avOf vs 8 255 := avOf_mono vs 8 s
  apply List.ext_getElem
  · simp
  · intro j h1 h2
    have hj : j < avOf vs 8 255 + 1 := by simpa using h1
    have e1 := rfAcc_get vs us (s + 1) j hj
    have e2 := getD_set (rfAcc vs us s) (avOf vs 8 s) j ((rfAcc vs us s).getD (avOf vs 8 s) 0 + avCases us 8 s) (by rw [rfAcc_length]; omega)
    have e : (rfAcc vs us (s + 1)).getD j 0 = ((rfAcc vs us s).set (avOf vs 8 s) ((rfAcc vs us s).getD (avOf vs 8 s) 0 + avCases us 8 s)).getD j 0 := by
      rw [e1, e2, List.range_succ, List.map_append, List.sum_append]
      by_cases h : avOf vs 8 s = j
      · subst h
        rw [if_pos rfl, rfAcc_get _ _ _ _ hj]; simp
      · rw [if_neg h, rfAcc_get _ _ _ _ hj]; simp [h]
    rw [List.getD_eq_getElem?_getD, List.getD_eq_getElem?_getD, List.getElem?_eq_getElem h1, List.getElem?_eq_getElem h2, Option.getD_some, Option.getD_some] at e
    exact e
theorem rfAcc_le {vs us : Nat → Nat} (h : ∀ k, us k ≤ 100) (s k : Nat) (hk : k < avOf vs 8 255 + 1) : (rfAcc vs us s).getD k 0 ≤ 10000000000000000 * s := by
  rw [rfAcc_get _ _ _ _ hk]
  induction s with
  | zero => exact Nat.le_refl _
  | succ s ih =>
    rw [List.range_succ, List.map_append, List.sum_append]
    have hc := avCases_le h 8 s
    have e : 100 ^ 8 = 10000000000000000 := by decide
    rw [e] at hc
    simp only [List.map_cons, List.map_nil, List.sum_cons, List.sum_nil]
    split <;> omega

section
variable {w : World}

def RvRel (ws : World) (l : List UInt8) (a i : Value) (wr : World) : Prop :=
  ∃ k : Nat, k ≤ 8 ∧ vOk (l.take k) = true ∧ a = .int .i64 (avOf (vsOf l) k 255) ∧ i = .int .i64 k ∧ wr = ws
def RsRel (wo : World) (g : Nat) (vs us : Nat → Nat) (t : Value) (wr : World) : Prop :=
  ∃ s : Nat, s ≤ 256 ∧ t = .int .u64 s ∧ Blk wr g 56 (ucells (rfAcc vs us s)) ∧ Kept (· = g) wo wr

set_option maxRecDepth 100000 in
set_option maxHeartbeats 2000000 in
theorem refVotes_calls (l u : List UInt8) (hl : l.length = 8) (hul : u.length = 8) :
    Calls Try.prog 35 #[.agg (bcells l).toArray, .agg (bcells u).toArray] w (VotesPost w l u) := by
  obtain ⟨i0, hi, hz0, hz1, hz2⟩ := info_parts Try.inf_u64
  have B0 := (Blk.new w 47 (bcells l)).alloc (.cells (bcells u).toArray 47)
  have B1 := Blk.new' (w := w.alloc (.cells (bcells l).toArray 47)) (g := w.heap.size + 1) (by rw [World.size_alloc]) 47 (bcells u)
  have K0 := ((Kept.refl No w).alloc (.cells (bcells l).toArray 47)).alloc (.cells (bcells u).toArray 47)
  obtain ⟨d0, d1, d2, d3, d4, d5, d6, d7⟩ := up_cells B1 hul
  have hpost : ∀ e w', VotesPost w l u e w' ↔ (Kept No w w' ∧ ∃ v, e = .returned (.tuple #[v, .int .i64 (vtErr l u)]) ∧ (vtErr l u ≠ 0 → v = .slice none 0 0) ∧ (vtErr l u = 0 → FreshU w w' v (avCnt (vsOf l) (vsOf u) 8))) := fun _ _ => Iff.rfl
  have HP := Lib.hid hpost
  clear hpost
  cases hU : upOk u
  case false =>
    have HE : Hid (vtErr l u = 1) := Lib.hid (by unfold vtErr; rw [hU]; rfl)
    have HU := Lib.hid hU
    clear hU
    go_enter Try.func35, Try.ntmps35
    go_wp2_with fail
    rw [up_eq u hul]
    refine (refUp_calls u hul).mono ?_
    rw [HU.out]
    rintro _ w1 ⟨rfl, k1⟩
    go_wp2
    go_ret2
    refine (HP.out _ _).2 ⟨K0.trans k1 fun _ _ h => h, _, ?_, fun _ => rfl, fun h => ?_⟩
    · rw [HE.out]; rfl
    · rw [HE.out] at h; cases h
  have HU := Lib.hid hU
  have HE : Hid (vtErr l u = if vOk l then 0 else 16) := Lib.hid (by unfold vtErr; rw [hU]; rfl)
  clear hU
  go_enter Try.func35, Try.ntmps35
  go_wp2_with fail
  rw [up_eq u hul]
  refine (refUp_calls u hul).mono ?_
  rw [HU.out]
  rintro _ w1 ⟨rfl, k1⟩
  have C0 := B0.kept k1 id
  have C1 := B1.kept k1 id
  have K1 := K0.trans k1 fun _ _ h => h
  clear d0 d1 d2 d3 d4 d5 d6 d7 B0 B1 K0
  go_wp2
  go_loopw [6, 7] (fun a i wr => RvRel w1 l a i wr) (fun _ i _ => 8 - (intOf i).toNat)
  case atStart => exact ⟨0, by omega, rfl, rfl, rfl, rfl⟩
  case round =>
    obtain ⟨k, hk, ho, rfl, rfl, rfl⟩ := hrel
    have HO := Lib.hid ho
    clear ho
    have i0' : (0 : Int) ≤ k := by omega
    by_cases hlt : k < 8
    · have i1 : (k : Int) < 8 := by omega
      have hc : wr.cell? ⟨w.heap.size, k, none⟩ = some (.int .u8 (vsOf l k)) := (C0.cell _).trans (upcell l (by omega))
      have v1 := vsOf_lt l k
      have V1 : (vsOf l k : Int) < 256 := by omega
      have a1 := avOf_le l k 255
      have A1 : ((avOf (vsOf l) k 255 : Nat) : Int) ≤ 2040 := by omega
      have step : avOf (vsOf l) (k + 1) 255 = avOf (vsOf l) k 255 + vsOf l k := by
        rw [avOf, bit255 k hlt, if_pos rfl]
      have HS := Lib.hid step
      clear step
      by_cases h15 : vsOf l k ≤ 15
      · have q1 : (vsOf l k : Int) ≤ 15 := by omega
        have HV : Hid (vOk (l.take (k + 1)) = true) := Lib.hid (by rw [vOk_step (by omega) HO.out]; exact decide_eq_true h15)
        generalize vsOf l k = x at *
        go_wp2
        exact ⟨⟨k + 1, by omega, HV.out, by rw [HS.out]; go_num, by go_num, rfl⟩, by simp [intOf]; omega⟩
      · have q1 := decide_eq_true (show (vsOf l k : Int) > 15 by omega)
        have HV : Hid (vOk l = false) := Lib.hid (by
          cases h : vOk l
          · rfl
          · exact absurd (vOk_le h k) h15)
        generalize vsOf l k = x at *
        go_wp2
        go_ret2
        refine (HP.out _ _).2 ⟨K1, _, ?_, fun _ => rfl, fun h => ?_⟩
        · rw [HE.out, HV.out]; rfl
        · rw [HE.out, HV.out] at h; cases h
    · have i1 : (8 : Int) ≤ k := by omega
      obtain rfl : k = 8 := by omega
      have HV : Hid (vOk l = true) := Lib.hid (by
        have := HO.out
        rwa [List.take_of_length_le (by omega)] at this)
      have a1 := avOf_le l 8 255
      have A1 : ((avOf (vsOf l) 8 255 : Nat) : Int) ≤ 2040 := by omega
      have hmono := fun s => avOf_mono (vsOf l) 8 s
      have hz9 : zrow (.int .u64 0) (avOf (vsOf l) 8 255 + 1) = ucells (rfAcc (vsOf l) (vsOf u) 0) := by
        rw [zrow_one _ rfl, rfAcc_zero]; simp [ucells]
      obtain ⟨c0, c1, c2, c3, c4, c5, c6, c7⟩ := up_cells (C0.alloc (.cells (zrow (.int .u64 0) (avOf (vsOf l) 8 255 + 1)).toArray 56)) hl
      have hA0 : avOf (vsOf l) 8 255 = avOf (vsOf l) 8 255 := rfl
      generalize hA : avOf (vsOf l) 8 255 = A at *
      clear hA0
      have HA := Lib.hid hA
      have HM := Lib.hid hmono
      have HZ := Lib.hid hz9
      clear hA hmono hz9
      go_wp2_with (at_make; go_must (refine wpList_make rfl (.tmp 29) (.tmp 29) _ rfl _ i0 _ Try.u_u64s hi hz0 1 8 hz1 hz2 rfl .i64 .i64 _ _ (A + 1) (A + 1) rfl rfl (by push_cast; rfl) (by push_cast; rfl) (Nat.le_refl _) (by omega) (by omega) ?_))
      have hcf : #[Value.int .u32 0, .int .u8 0, .int .u8 0, .int .u8 (vsOf l 0), .int .u8 (vsOf l 1), .int .u8 (vsOf l 2), .int .u8 (vsOf l 3), .int .u8 (vsOf l 4), .int .u8 (vsOf l 5), .int .u8 (vsOf l 6), .int .u8 (vsOf l 7)] = (cfgc 0 0 0 l).toArray := cfg_eq 0 0 0 l hl
      rw [hcf, HZ.out]
      have HCF := Lib.hid hcf
      clear hcf c0 c1 c2 c3 c4 c5 c6 c7
      have Z := (Blk.new wr 56 (ucells (rfAcc (vsOf l) (vsOf u) 0))).alloc (.cells (cfgc 0 0 0 l).toArray 49)
      have CB := Blk.new' (w := wr.alloc (.cells (ucells (rfAcc (vsOf l) (vsOf u) 0)).toArray 56)) (g := wr.heap.size + 1) (by simp) 49 (cfgc 0 0 0 l)
      have KA := ((Kept.refl No wr).alloc (.cells (ucells (rfAcc (vsOf l) (vsOf u) 0)).toArray 56)).alloc (.cells (cfgc 0 0 0 l).toArray 49)
      have C2 := C1.kept KA id
      have hg1 := K1.size
      have hg2 := C1.lt
      generalize hg : wr.heap.size = g at *
      generalize hwo : (wr.alloc (.cells (ucells (rfAcc (vsOf l) (vsOf u) 0)).toArray 56)).alloc (.cells (cfgc 0 0 0 l).toArray 49) = wo at *
      have hne1 : ¬ w.heap.size + 1 = g := by omega
      have hne2 : ¬ g + 1 = g := by omega
      have KO : Kept No w wo := K1.trans KA fun _ _ h => h
      have HG := Lib.hid hg
      clear hwo hg C0 C1
      go_loopw [10] (fun t wx => RsRel wo g (vsOf l) (vsOf u) t wx) (fun t _ => 256 - (intOf t).toNat)
      case atStart => exact ⟨0, by omega, rfl, Z, Kept.refl _ _⟩
      case round =>
        obtain ⟨s, hs, rfl, BP, Kx⟩ := hrel
        have s0 : (0 : Int) ≤ s := by omega
        by_cases hsl : s < 256
        · have s1 : (s : Int) < 256 := by omega
          have D0 := CB.kept Kx hne2
          have D1 := C2.kept Kx hne1
          obtain ⟨c0, c1, c2, c3, c4, c5, c6, c7, c8, c9, c10⟩ := cfg_cells D0 hl
          obtain ⟨d0, d1, d2, d3, d4, d5, d6, d7⟩ := up_cells D1 hul
          have of1 := HM.out s
          have cs1 := avCases_le (upOk_le HU.out) 8 s
          have le1 := rfAcc_le (vs := vsOf l) (upOk_le HU.out) s (avOf (vsOf l) 8 s) (by rw [HA.out]; omega)
          have fp := BP.cell (avOf (vsOf l) 8 s)
          have hx := ucells_get (rfAcc (vsOf l) (vsOf u) s) (avOf (vsOf l) 8 s) (by rw [rfAcc_length, HA.out]; omega)
          rw [hx] at fp
          have HX0 := Lib.hid hx
          clear hx
          have hstep := rfAcc_succ (vsOf l) (vsOf u) s
          have W1 : IntKind.u64.wrap ((((rfAcc (vsOf l) (vsOf u) s).getD (avOf (vsOf l) 8 s) 0 : Nat) : Int) + ((avCases (vsOf u) 8 s : Nat) : Int)) = (((rfAcc (vsOf l) (vsOf u) s).getD (avOf (vsOf l) 8 s) 0 + avCases (vsOf u) 8 s : Nat) : Int) := by
            have e : 100 ^ 8 = 10000000000000000 := by decide
            rw [e] at cs1
            rw [IntKind.wrap_u64]; omega
          have fz := BP.frozen (avOf (vsOf l) 8 s)
          have hof := fun w => refOf_calls (w := w) 0 0 0 l hl s (by omega)
          have hcs := fun w => refCases_calls (w := w) u hul HU.out s (by omega)
          generalize (rfAcc (vsOf l) (vsOf u) s).getD (avOf (vsOf l) 8 s) 0 + avCases (vsOf u) 8 s = x' at *
          generalize (rfAcc (vsOf l) (vsOf u) s).getD (avOf (vsOf l) 8 s) 0 = x at *
          generalize avOf (vsOf l) 8 s = m at *
          generalize avCases (vsOf u) 8 s = c at *
          have HOf := Lib.hid hof
          have HX := HX0
          have HCs := Lib.hid hcs
          have HSt := Lib.hid hstep
          clear hof hcs hstep cs1 le1
          have m0 : (0 : Int) ≤ m := by omega
          have m1 : (m : Int) < (A : Int) + 1 := by omega
          go_wp2
          go_region_with (first
            | (go_at_call 25; rw [HCF.out]; refine (HOf.out _).mono ?_; rintro _ wz ⟨rfl, Kz⟩; have BPz : Blk wz g _ _ := Blk.kept (by exact BP) Kz id; have fpz := (BPz.cell m).trans HX.out; have fzz := BPz.frozen m; have KZ : Kept (· = g) wo wz := Kept.transNo (by first | exact Kx | exact Kx.drew | exact Kx.drewN _) Kz; have D1z : Blk wz _ _ _ := Blk.kept (by exact D1) Kz id; obtain ⟨_, _, _, _, _, _, _, _⟩ := up_cells D1z hul)
            | (go_at_call 56; rw [up_eq u hul]; refine (HCs.out _).mono ?_; rintro _ wy ⟨rfl, Ky⟩; have BPy : Blk wy g _ _ := Blk.kept (by exact BPz) Ky id; have fpy := (BPy.cell m).trans HX.out; have fzy := BPy.frozen m; have KY : Kept (· = g) wo wy := Kept.transNo (by first | exact KZ | exact KZ.drew | exact KZ.drewN _) Ky; have BE := BPy.set m (.int .u64 x'); rw [ucells_set, ← HSt.out] at BE))
          all_goals
            go_wp2
            refine ⟨⟨s + 1, by omega, by go_num, ?_, ?_⟩, by simp [intOf]; omega⟩
            · exact BE
            · exact KY.setCell (fun _ => rfl) _
        · have s1 : (256 : Int) ≤ s := by omega
          obtain rfl : s = 256 := by omega
          rw [rfAcc_all] at BP
          have KF : Kept No w wr := KO.trans Kx (fun b hb e => by subst e; exact absurd (Nat.lt_of_lt_of_le hb hg1) (by omega))
          have hlen : A + 1 = (avCnt (vsOf l) (vsOf u) 8).length := by rw [avCnt_length, Nat.add_comm, ← HA.out]
          have HL := Lib.hid hlen
          clear hlen
          go_wp2
          go_ret2
          refine (HP.out _ _).2 ⟨KF, .slice (some ⟨g, 0, none⟩) (A + 1) (A + 1), ?_, fun h => ?_, fun _ => ⟨g, ?_, hg1, BP⟩⟩
          · rw [HE.out, HV.out]; rfl
          · exact absurd (by rw [HE.out, HV.out]; rfl) h
          · rw [← HL.out]
end
end Go.Proofs.Ytencnfgmgcdiiaa
