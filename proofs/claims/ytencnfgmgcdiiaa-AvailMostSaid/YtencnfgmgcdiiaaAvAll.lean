/- The law AvailAll, as a walk. -/
import Derived.Test.YtencnfgmgcdiiaaAvCounts
namespace Go.Proofs.Ytencnfgmgcdiiaa
open Go.RowKit Go.PM

/-- The sum from place r up to place k. -/
def sumFT (l : List Nat) (r k : Nat) : Nat := ((l.take k).drop r).sum
theorem sumFT_le (l : List Nat) (r k : Nat) : sumFT l r k ≤ l.sum := Nat.le_trans (sum_drop_le _ _) (sum_take_le _ _)
theorem sumFT_step (l : List Nat) (r k : Nat) (hk : k < l.length) : sumFT l r (k + 1) = sumFT l r k + if r ≤ k then l.getD k 0 else 0 := by
  unfold sumFT
  rw [List.take_succ_eq_append_getElem hk, List.drop_append]
  rw [List.sum_append]
  congr 1
  have e : (l.take k).length = k := by rw [List.length_take]; omega
  rw [e]
  by_cases h : r ≤ k
  · rw [if_pos h, show r - k = 0 by omega]
    simp [List.getD_eq_getElem?_getD, hk]
  · rw [if_neg h, List.drop_of_length_le (by simp; omega)]
    rfl
theorem sumFT_all (l : List Nat) (r : Nat) : sumFT l r l.length = (l.drop r).sum := by
  unfold sumFT
  rw [List.take_of_length_le (Nat.le_refl _)]

theorem sum_cnt (l u : List UInt8) (hup : upOk u = true) : (avCnt (vsOf l) (vsOf u) 8).sum = 10000000000000000 := (avCnt_sum _ _ (upOk_le hup) 8).trans (by decide)
theorem rd_err (e r v : Nat) (l u : List UInt8) (a b : Nat) : (rdOf e r v l u a).2 = (rdOf e r v l u b).2 := by
  unfold rdOf
  cases upOk u <;> cases avMay e r v l <;> simp
theorem rd_tail (e r v : Nat) (l u : List UInt8) (a : Nat) (hup : upOk u = true) (h : (rdOf e r v l u a).2 = 0) : (rdOf e r v l u a).1 = ((avCnt (vsOf l) (vsOf u) 8).drop a).sum := by
  rw [avOften_tail]
  unfold rdOf at *
  rw [if_pos hup] at *
  cases hM : avMay e r v l
  · rw [hM, if_neg (by decide)] at h; cases h
  · rw [if_pos rfl]

section
variable {w : World}

def AaRel (ws : World) (l : List Nat) (r v : Nat) (a b c i : Value) (wr : World) : Prop :=
  ∃ k : Nat, k ≤ l.length ∧ a = .int .u64 (sumFT l 0 k) ∧ b = .int .u64 (sumFT l r k) ∧ c = .int .u64 (sumFT l v k) ∧ i = .int .i64 k ∧ wr = ws

set_option maxRecDepth 100000 in
set_option maxHeartbeats 4000000 in
theorem availAll_calls (e r v : Nat) (l u : List UInt8) (hl : l.length = 8) (hul : u.length = 8) (he : e < 4294967296) (hr : r < 256) (hv : v < 256) :
    Calls Try.prog 11 #[.agg (cfgc e r v l).toArray, .agg (bcells u).toArray] w fun x w' => x = .returned (.bool true) ∧ Kept No w w' := by
  have B0 := (Blk.new w 49 (cfgc e r v l)).alloc (.cells (bcells u).toArray 47)
  have B1 := Blk.new' (w := w.alloc (.cells (cfgc e r v l).toArray 49)) (g := w.heap.size + 1) (by rw [World.size_alloc]) 47 (bcells u)
  have K0 := ((Kept.refl No w).alloc (.cells (cfgc e r v l).toArray 49)).alloc (.cells (bcells u).toArray 47)
  obtain ⟨c0, c1, c2, c3, c4, c5, c6, c7, c8, c9, c10⟩ := cfg_cells B0 hl
  obtain ⟨d0, d1, d2, d3, d4, d5, d6, d7⟩ := up_cells B1 hul
  have h1 := fun w => votesL_calls (w := w) l u hl hul
  have h3 := fun w => reads_calls (w := w) e r v l u hl hul he hr hv
  have h5 := fun w => writes_calls (w := w) e r v l u hl hul he hr hv
  have h7 := fun w => alive_calls (w := w)
  have hlen := vtList_len l u
  by_cases hE : vtErr l u = 0
  case neg =>
    have hL : vtList l u = [] := by unfold vtList; rw [if_neg hE]
    rw [hL] at h1
    generalize vtErr l u = E at *
    have H1 := Lib.hid h1
    have H7 := Lib.hid h7
    have hE' := beq_eq_false_iff_ne.2 (show (E : Int) ≠ 0 by omega)
    have hE2 : ((E : Int) != 0) = true := by rw [bne, hE']; rfl
    clear h1 h3 h5 h7
    go_enter Try.func11, Try.ntmps11
    go_wp2_with fail
    rw [up_eq l hl, up_eq u hul]
    refine (H1.out _).mono ?_
    rintro _ w1 ⟨a1, ca, rfl, R1', k1⟩
    go_wp2_with (go_at_call 23; refine (H7.out _).mono ?_; rintro _ w8 ⟨rfl, k8⟩)
    go_ret
    exact ⟨rfl, (K0.trans k1 fun _ _ h => h).trans k8 fun _ _ h => h⟩
  have hup : upOk u = true := by
    unfold vtErr at hE
    cases h : upOk u
    · rw [h] at hE; cases hE
    · rfl
  have hL : vtList l u = avCnt (vsOf l) (vsOf u) 8 := by unfold vtList; rw [if_pos hE]
  have hsum := sum_cnt l u hup
  have hrv := rd_err e r v l u r v
  have hr1 := rd_tail e r v l u r hup
  have hr2 := rd_tail e r v l u v hup
  rw [← hL] at hsum hr1 hr2
  rw [hE] at h1
  clear hE hL hup
  generalize vtList l u = L at *
  generalize rdOf e r v l u r = R1 at *
  generalize rdOf e r v l u v = R2 at *
  obtain ⟨x1, y1⟩ := R1
  obtain ⟨x2, y2⟩ := R2
  dsimp only at hrv hr1 hr2 h3 h5
  have hsz := @sumFT_le L
  rw [hsum] at hsz
  have all0 : sumFT L 0 L.length = 10000000000000000 := by rw [sumFT_all, List.drop_zero]; exact hsum
  rw [← sumFT_all] at hr1 hr2
  have H1 := Lib.hid h1
  have H3 := Lib.hid h3
  have H5 := Lib.hid h5
  have H7 := Lib.hid h7
  have HRV := Lib.hid hrv
  have HR1 := Lib.hid hr1
  have HR2 := Lib.hid hr2
  have HSum := Lib.hid hsum
  have HSz := Lib.hid hsz
  have HAll := Lib.hid all0
  clear h1 h3 h5 h7 hrv hr1 hr2 hsum hsz all0
  have br : (r : Int) < 256 := by omega
  have bv : (v : Int) < 256 := by omega
  go_enter Try.func11, Try.ntmps11
  go_wp2_with fail
  rw [up_eq l hl, up_eq u hul]
  refine (H1.out _).mono ?_
  rintro _ w1 ⟨a1, ca, rfl, R1', k1⟩
  have C0 := B0.kept k1 id
  have C1 := B1.kept k1 id
  have K1 := K0.trans k1 fun _ _ h => h
  clear c0 c1 c2 c3 c4 c5 c6 c7 c8 c9 c10 d0 d1 d2 d3 d4 d5 d6 d7 B0 B1 K0 k1
  obtain ⟨c0, c1, c2, c3, c4, c5, c6, c7, c8, c9, c10⟩ := cfg_cells C0 hl
  obtain ⟨d0, d1, d2, d3, d4, d5, d6, d7⟩ := up_cells C1 hul
  clear c0 c3 c4 c5 c6 c7 c8 c9 c10 d0 d1 d2 d3 d4 d5 d6 d7
  go_wp2
  go_loopw [7, 8, 9, 33] (fun a b c i wr => AaRel w1 L r v a b c i wr) (fun _ _ _ i _ => L.length - (intOf i).toNat)
  case atStart => exact ⟨0, by omega, by simp [sumFT], by simp [sumFT], by simp [sumFT], rfl, rfl⟩
  case round =>
    obtain ⟨k, hk, rfl, rfl, rfl, rfl, rfl⟩ := hrel
    have i0 : (0 : Int) ≤ k := by omega
    by_cases hlt : k < L.length
    · have i1 : (k : Int) < L.length := by omega
      obtain ⟨b1, o1, rfl, hc1⟩ := R1' k _ (ucells_get L k hlt)
      have s0 := sumFT_step L 0 k hlt
      have s1 := sumFT_step L r k hlt
      have s2 := sumFT_step L v k hlt
      rw [if_pos (Nat.zero_le k)] at s0
      have z0 := HSz.out 0 (k + 1)
      have z1 := HSz.out r (k + 1)
      have z2 := HSz.out v (k + 1)
      generalize hx : L.getD k 0 = x at *
      generalize ha : sumFT L 0 k = A at *
      generalize hb : sumFT L r k = B at *
      generalize hc : sumFT L v k = C at *
      have zA : (A : Int) + x ≤ 10000000000000000 := by omega
      have zB : r ≤ k → (B : Int) + x ≤ 10000000000000000 := by intro h; rw [if_pos h] at s1; omega
      have zC : v ≤ k → (C : Int) + x ≤ 10000000000000000 := by intro h; rw [if_pos h] at s2; omega
      have S0 := Lib.hid s0
      have S1 := Lib.hid s1
      have S2 := Lib.hid s2
      have ZB := Lib.hid zB
      have ZC := Lib.hid zC
      clear s0 s1 s2 zB zC hx ha hb hc z0 z1 z2
      by_cases h1 : r ≤ k
      · have q1 : (r : Int) ≤ k := by omega
        have zB := ZB.out h1
        by_cases h2 : v ≤ k
        · have q2 : (v : Int) ≤ k := by omega
          have zC := ZC.out h2
          go_wp2
          refine ⟨⟨k + 1, by omega, ?_, ?_, ?_, by go_num, rfl⟩, by simp [intOf]; omega⟩
          · rw [S0.out]; go_num
          · rw [S1.out, if_pos h1]; go_num
          · rw [S2.out, if_pos h2]; go_num
        · have q2 : (k : Int) < v := by omega
          go_wp2
          refine ⟨⟨k + 1, by omega, ?_, ?_, ?_, by go_num, rfl⟩, by simp [intOf]; omega⟩
          · rw [S0.out]; go_num
          · rw [S1.out, if_pos h1]; go_num
          · rw [S2.out, if_neg h2, Nat.add_zero]
      · have q1 : (k : Int) < r := by omega
        by_cases h2 : v ≤ k
        · have q2 : (v : Int) ≤ k := by omega
          have zC := ZC.out h2
          go_wp2
          refine ⟨⟨k + 1, by omega, ?_, ?_, ?_, by go_num, rfl⟩, by simp [intOf]; omega⟩
          · rw [S0.out]; go_num
          · rw [S1.out, if_neg h1, Nat.add_zero]
          · rw [S2.out, if_pos h2]; go_num
        · have q2 : (k : Int) < v := by omega
          go_wp2
          refine ⟨⟨k + 1, by omega, ?_, ?_, ?_, by go_num, rfl⟩, by simp [intOf]; omega⟩
          · rw [S0.out]; go_num
          · rw [S1.out, if_neg h1, Nat.add_zero]
          · rw [S2.out, if_neg h2, Nat.add_zero]
    · have i1 : (L.length : Int) ≤ k := by omega
      have hkl : k = L.length := by omega
      rw [hkl]
      have e1 := HAll.out
      rw [e1]
      clear e1 hkl
      generalize hA : sumFT L r L.length = A at *
      generalize hB : sumFT L v L.length = B at *
      have hrv := HRV.out
      subst hrv
      have hr1 := HR1.out
      have hr2 := HR2.out
      clear HRV HR1 HR2 hA hB HSum HSz HAll H1
      obtain ⟨c0, c1, c2, c3, c4, c5, c6, c7, c8, c9, c10⟩ := cfg_cells C0 hl
      obtain ⟨d0, d1, d2, d3, d4, d5, d6, d7⟩ := up_cells C1 hul
      by_cases hy : y1 = 0
      · have e1 := hr1 hy
        have e2 := hr2 hy
        subst hy e1 e2
        clear hr1 hr2
        go_wp2_with fail
        rw [cfg_eq e r v l hl, up_eq u hul]
        refine (H3.out _).mono ?_
        rintro _ w3 ⟨rfl, k3⟩
        have D0 := C0.kept k3 id
        have D1 := C1.kept k3 id
        have K3 := K1.trans k3 fun _ _ h => h
        clear c0 c1 c2 c3 c4 c5 c6 c7 c8 c9 c10 d0 d1 d2 d3 d4 d5 d6 d7 C0 C1 K1 k3
        obtain ⟨c0, c1, c2, c3, c4, c5, c6, c7, c8, c9, c10⟩ := cfg_cells D0 hl
        obtain ⟨d0, d1, d2, d3, d4, d5, d6, d7⟩ := up_cells D1 hul
        go_wp2_with fail
        rw [cfg_eq e r v l hl, up_eq u hul]
        refine (H5.out _).mono ?_
        rintro _ w5 ⟨rfl, k5⟩
        have K5 := K3.trans k5 fun _ _ h => h
        clear c0 c1 c2 c3 c4 c5 c6 c7 c8 c9 c10 d0 d1 d2 d3 d4 d5 d6 d7
        go_wp2_with (go_at_call 23; refine (H7.out _).mono ?_; rintro _ w8 ⟨rfl, k8⟩)
        go_ret
        exact ⟨rfl, K5.trans k8 fun _ _ h => h⟩
      · have hE' := beq_eq_false_iff_ne.2 (show (y1 : Int) ≠ 0 by omega)
        have hE2 : ((y1 : Int) != 0) = true := by rw [bne, hE']; rfl
        clear hr1 hr2
        go_wp2_with fail
        rw [cfg_eq e r v l hl, up_eq u hul]
        refine (H3.out _).mono ?_
        rintro _ w3 ⟨rfl, k3⟩
        have D0 := C0.kept k3 id
        have D1 := C1.kept k3 id
        have K3 := K1.trans k3 fun _ _ h => h
        clear c0 c1 c2 c3 c4 c5 c6 c7 c8 c9 c10 d0 d1 d2 d3 d4 d5 d6 d7 C0 C1 K1 k3
        obtain ⟨c0, c1, c2, c3, c4, c5, c6, c7, c8, c9, c10⟩ := cfg_cells D0 hl
        obtain ⟨d0, d1, d2, d3, d4, d5, d6, d7⟩ := up_cells D1 hul
        go_wp2_with fail
        rw [cfg_eq e r v l hl, up_eq u hul]
        refine (H5.out _).mono ?_
        rintro _ w5 ⟨rfl, k5⟩
        have K5 := K3.trans k5 fun _ _ h => h
        clear c0 c1 c2 c3 c4 c5 c6 c7 c8 c9 c10 d0 d1 d2 d3 d4 d5 d6 d7
        go_wp2_with (go_at_call 23; refine (H7.out _).mono ?_; rintro _ w8 ⟨rfl, k8⟩)
        go_ret
        exact ⟨rfl, K5.trans k8 fun _ _ h => h⟩
end
end Go.Proofs.Ytencnfgmgcdiiaa
