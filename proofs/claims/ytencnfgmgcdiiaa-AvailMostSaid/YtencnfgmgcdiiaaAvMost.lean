/- The law AvailMost, as a walk. -/
import Derived.Test.YtencnfgmgcdiiaaAvBest
namespace Go.Proofs.Ytencnfgmgcdiiaa
open Go.RowKit Go.PM

theorem bestErr_ok (l u : List UInt8) (share : Nat) (h : bestErr l u share = 0) : share ≤ 100 ∧ vtErr l u = 0 ∧ 0 < avOf (vsOf l) 8 255 := by
  unfold bestErr at h
  split at h
  · cases h
  · split at h
    · exact absurd h (by assumption)
    · split at h
      · cases h
      · rename_i h1 h2 h3
        exact ⟨by omega, by simpa using h2, by omega⟩
theorem vtErr_ok (l u : List UInt8) (h : vtErr l u = 0) : upOk u = true ∧ vOk l = true := by
  unfold vtErr at h
  cases hu : upOk u
  · rw [hu] at h; cases h
  · cases hv : vOk l
    · rw [hu, hv] at h; cases h
    · exact ⟨rfl, rfl⟩
theorem bestErr_cfg (l u : List UInt8) (share : Nat) (h : bestErr l u share ≠ 0) : bestCfg l u share = cfgc 0 0 0 zero8 := by
  unfold bestErr at h
  unfold bestCfg
  rw [if_pos]
  split at h
  · exact .inl (by assumption)
  · split at h
    · exact .inr (.inl (by assumption))
    · split at h
      · exact .inr (.inr (by assumption))
      · exact absurd rfl h

theorem cfg_one (r v : Nat) (l : List UInt8) (hl : l.length = 8) : #[Value.int .u32 1, .int .u8 r, .int .u8 v, .int .u8 (vsOf l 0), .int .u8 (vsOf l 1), .int .u8 (vsOf l 2), .int .u8 (vsOf l 3), .int .u8 (vsOf l 4), .int .u8 (vsOf l 5), .int .u8 (vsOf l 6), .int .u8 (vsOf l 7)] = (cfgc 1 r v l).toArray := cfg_eq 1 r v l hl

section
variable {w : World}

theorem all30 {a c d : Nat} {T T' S : TypeId} {r v br b : Nat} {l u : List UInt8} (ha : Blk w a T (cfgc 1 r v l)) (hc : Blk w c T' (cfgc 1 br b l)) (hd : Blk w d S (bcells u)) (hl : l.length = 8) (hul : u.length = 8) :
    w.cell? ⟨a, 0, none⟩ = some (.int .u32 1) ∧ w.cell? ⟨a, 1, none⟩ = some (.int .u8 r) ∧ w.cell? ⟨a, 2, none⟩ = some (.int .u8 v) ∧ w.cell? ⟨a, 3, none⟩ = some (.int .u8 (vsOf l 0)) ∧ w.cell? ⟨a, 4, none⟩ = some (.int .u8 (vsOf l 1)) ∧ w.cell? ⟨a, 5, none⟩ = some (.int .u8 (vsOf l 2)) ∧ w.cell? ⟨a, 6, none⟩ = some (.int .u8 (vsOf l 3)) ∧ w.cell? ⟨a, 7, none⟩ = some (.int .u8 (vsOf l 4)) ∧ w.cell? ⟨a, 8, none⟩ = some (.int .u8 (vsOf l 5)) ∧ w.cell? ⟨a, 9, none⟩ = some (.int .u8 (vsOf l 6)) ∧ w.cell? ⟨a, 10, none⟩ = some (.int .u8 (vsOf l 7)) ∧ w.cell? ⟨c, 0, none⟩ = some (.int .u32 1) ∧ w.cell? ⟨c, 1, none⟩ = some (.int .u8 br) ∧ w.cell? ⟨c, 2, none⟩ = some (.int .u8 b) ∧ w.cell? ⟨c, 3, none⟩ = some (.int .u8 (vsOf l 0)) ∧ w.cell? ⟨c, 4, none⟩ = some (.int .u8 (vsOf l 1)) ∧ w.cell? ⟨c, 5, none⟩ = some (.int .u8 (vsOf l 2)) ∧ w.cell? ⟨c, 6, none⟩ = some (.int .u8 (vsOf l 3)) ∧ w.cell? ⟨c, 7, none⟩ = some (.int .u8 (vsOf l 4)) ∧ w.cell? ⟨c, 8, none⟩ = some (.int .u8 (vsOf l 5)) ∧ w.cell? ⟨c, 9, none⟩ = some (.int .u8 (vsOf l 6)) ∧ w.cell? ⟨c, 10, none⟩ = some (.int .u8 (vsOf l 7)) ∧ w.cell? ⟨d, 0, none⟩ = some (.int .u8 (vsOf u 0)) ∧ w.cell? ⟨d, 1, none⟩ = some (.int .u8 (vsOf u 1)) ∧ w.cell? ⟨d, 2, none⟩ = some (.int .u8 (vsOf u 2)) ∧ w.cell? ⟨d, 3, none⟩ = some (.int .u8 (vsOf u 3)) ∧ w.cell? ⟨d, 4, none⟩ = some (.int .u8 (vsOf u 4)) ∧ w.cell? ⟨d, 5, none⟩ = some (.int .u8 (vsOf u 5)) ∧ w.cell? ⟨d, 6, none⟩ = some (.int .u8 (vsOf u 6)) ∧ w.cell? ⟨d, 7, none⟩ = some (.int .u8 (vsOf u 7)) := by
  obtain ⟨a0, a1, a2, a3, a4, a5, a6, a7, a8, a9, a10⟩ := cfg_cells ha hl
  obtain ⟨c0, c1, c2, c3, c4, c5, c6, c7, c8, c9, c10⟩ := cfg_cells hc hl
  obtain ⟨d0, d1, d2, d3, d4, d5, d6, d7⟩ := up_cells hd hul
  exact ⟨a0, a1, a2, a3, a4, a5, a6, a7, a8, a9, a10, c0, c1, c2, c3, c4, c5, c6, c7, c8, c9, c10, d0, d1, d2, d3, d4, d5, d6, d7⟩


set_option maxRecDepth 100000 in
set_option maxHeartbeats 4000000 in
theorem availMost_calls (e r v : Nat) (l u : List UInt8) (share : Int) (hl : l.length = 8) (hul : u.length = 8) (_he : e < 4294967296) (hr : r < 256) (hv : v < 256) (hs0 : 0 ≤ share) (hs1 : share ≤ 255) :
    Calls Try.prog 13 #[.agg (cfgc e r v l).toArray, .agg (bcells u).toArray, .int .u8 share] w fun x w' => x = .returned (.bool true) ∧ Kept No w w' := by
  obtain ⟨sh, rfl⟩ := Int.eq_ofNat_of_zero_le hs0
  have B0 := (Blk.new w 49 (cfgc e r v l)).alloc (.cells (bcells u).toArray 47)
  have B1 := Blk.new' (w := w.alloc (.cells (cfgc e r v l).toArray 49)) (g := w.heap.size + 1) (by rw [World.size_alloc]) 47 (bcells u)
  have K0 := ((Kept.refl No w).alloc (.cells (cfgc e r v l).toArray 49)).alloc (.cells (bcells u).toArray 47)
  obtain ⟨c0, c1, c2, c3, c4, c5, c6, c7, c8, c9, c10⟩ := cfg_cells B0 hl
  obtain ⟨d0, d1, d2, d3, d4, d5, d6, d7⟩ := up_cells B1 hul
  have h3 := fun w => alive_calls (w := w)
  have H3 := Lib.hid h3
  clear h3
  have hG := Try.g_cfg
  have hG8 := Try.g_arr8
  by_cases hE : bestErr l u sh = 0
  case neg =>
    have hc := bestErr_cfg l u sh hE
    have h1 : ∀ w, Calls Try.prog 40 #[.agg (bcells l).toArray, .agg (bcells u).toArray, .int .u8 sh] w (fun x w' => x = .returned (.tuple #[.agg #[.int .u32 0, .int .u8 0, .int .u8 0, .int .u8 0, .int .u8 0, .int .u8 0, .int .u8 0, .int .u8 0, .int .u8 0, .int .u8 0, .int .u8 0], .int .i64 (bestErr l u sh)]) ∧ Kept No w w') := fun w =>
      (best_calls (w := w) l u hl hul sh (by omega)).mono fun x w' h => ⟨by rw [h.1, hc]; rfl, h.2⟩
    generalize bestErr l u sh = E at *
    have H1 := Lib.hid h1
    have hE' := beq_eq_false_iff_ne.2 (show (E : Int) ≠ 0 by omega)
    have hE2 : ((E : Int) != 0) = true := by rw [bne, hE']; rfl
    have hq : ∀ w, (binOp .eql 49 (.agg #[.int .u32 0, .int .u8 0, .int .u8 0, .int .u8 0, .int .u8 0, .int .u8 0, .int .u8 0, .int .u8 0, .int .u8 0, .int .u8 0, .int .u8 0]) (.agg #[.int .u32 0, .int .u8 0, .int .u8 0, .int .u8 0, .int .u8 0, .int .u8 0, .int .u8 0, .int .u8 0, .int .u8 0, .int .u8 0, .int .u8 0])).run Try.prog w = .ok (.bool true) w := fun w => eqlCfg_same 0 0 0 zero8 rfl w
    clear h1 hc
    go_enter Try.func13, Try.ntmps13
    go_wp2_with fail
    rw [up_eq l hl, up_eq u hul]
    refine (H1.out _).mono ?_
    rintro _ w2 ⟨rfl, k2⟩
    have K2 := K0.transNo k2
    clear c0 c1 c2 c3 c4 c5 c6 c7 c8 c9 c10 d0 d1 d2 d3 d4 d5 d6 d7
    go_wp2_with (go_at_call 23; refine (H3.out _).mono ?_; rintro _ w8 ⟨rfl, k8⟩)
    go_ret
    exact ⟨rfl, (K2.alloc _).transNo k8⟩
  obtain ⟨h100, hvt, hA⟩ := bestErr_ok l u sh hE
  obtain ⟨hup, hvo⟩ := vtErr_ok l u hvt
  have hA15 := avOf_le15 l hvo 8 255
  have hbin := bestW_in (avT (vsOf l) (vsOf u) 8) sh (avOf (vsOf l) 8 255) hA
  have hmax := bestW_max (avT (vsOf l) (vsOf u) 8) (fun a b h => avT_anti (vsOf l) (vsOf u) 8 a b h) sh (avOf (vsOf l) 8 255) r v
  rw [← may_okB l hvo r v] at hmax
  have hcf : bestCfg l u sh = cfgc 1 (avOf (vsOf l) 8 255 - bestW (avT (vsOf l) (vsOf u) 8) sh (avOf (vsOf l) 8 255) + 1) (bestW (avT (vsOf l) (vsOf u) 8) sh (avOf (vsOf l) 8 255)) l := by
    unfold bestCfg
    rw [if_neg]
    rintro (h | h | h)
    · omega
    · exact h hvt
    · omega
  have hmayb : avMay 1 (avOf (vsOf l) 8 255 - bestW (avT (vsOf l) (vsOf u) 8) sh (avOf (vsOf l) 8 255) + 1) (bestW (avT (vsOf l) (vsOf u) 8) sh (avOf (vsOf l) 8 255)) l = true := by
    rw [may_okB l hvo]
    exact decide_eq_true (by omega)
  have h1 : ∀ w, Calls Try.prog 40 #[.agg (bcells l).toArray, .agg (bcells u).toArray, .int .u8 sh] w (fun x w' => x = .returned (.tuple #[.agg (bestCfg l u sh).toArray, .int .i64 0]) ∧ Kept No w w') := fun w =>
    (best_calls (w := w) l u hl hul sh (by omega)).mono fun x w' h => ⟨by rw [h.1, hE]; rfl, h.2⟩
  have hmc := fun w => refMay_calls (w := w) 1 r v l hl (by omega) hr hv
  have hwc := fun w => refWorth_calls (w := w) 1 r v l u hl hul hup hr hv sh h100
  rw [hcf] at h1
  generalize hb : bestW (avT (vsOf l) (vsOf u) 8) sh (avOf (vsOf l) 8 255) = b at *
  generalize hbr : avOf (vsOf l) 8 255 - b + 1 = br at *
  have hmb := fun w => refMay_calls (w := w) 1 br b l hl (by omega) (by omega) (by omega)
  have hwb := fun w => refWorth_calls (w := w) 1 br b l u hl hul hup (by omega) (by omega) sh h100
  rw [hmayb] at hmb
  simp only [← cfg_eq 1 br b l hl] at h1
  generalize wv (avT (vsOf l) (vsOf u) 8) sh r v = x1 at *
  generalize wv (avT (vsOf l) (vsOf u) 8) sh br b = x2 at *
  generalize avMay 1 r v l = M at *
  have hq : ∀ w, (binOp .neq 47 (.agg (bcells l).toArray) (.agg (bcells l).toArray)).run Try.prog w = .ok (.bool false) w := fun w => neqArr8_same l hl w
  rw [← up_eq l hl] at hq
  have H1 := Lib.hid h1
  have HMC := Lib.hid hmc
  have HWC := Lib.hid hwc
  have HMB := Lib.hid hmb
  have HWB := Lib.hid hwb
  have HMax := Lib.hid hmax
  clear h1 hmc hwc hmb hwb hmax hcf hmayb hb hbr hvt hE hA hA15 hbin
  go_enter Try.func13, Try.ntmps13
  go_wp2_with fail
  rw [up_eq l hl, up_eq u hul]
  refine (H1.out _).mono ?_
  rintro _ w2 ⟨rfl, k2⟩
  have D0 := B0.kept k2 id
  have D1 := B1.kept k2 id
  have K2 := K0.transNo k2
  clear c0 c1 c2 c3 c4 c5 c6 c7 c8 c9 c10 d0 d1 d2 d3 d4 d5 d6 d7 B0 B1 K0 k2
  obtain ⟨c0, c1, c2, c3, c4, c5, c6, c7, c8, c9, c10⟩ := cfg_cells D0 hl
  have l0 := D0.lt
  have l1 := D1.lt
  have f0 := D0.frozen 0
  go_wp2_with fail
  rw [cfg_one br b l hl]
  have BN := Blk.new' (w := w2.setCell ⟨w.heap.size, 0, none⟩ (.int .u32 1)) (g := w2.heap.size) (by simp) 49 (cfgc 1 br b l)
  have E0 : Blk ((w2.setCell ⟨w.heap.size, 0, none⟩ (.int .u32 1)).alloc (.cells (cfgc 1 br b l).toArray 49)) w.heap.size 49 (cfgc 1 r v l) := (D0.set 0 (.int .u32 1)).alloc _
  have E1 := (D1.setOther (a := ⟨w.heap.size, 0, none⟩) (by show w.heap.size + 1 ≠ w.heap.size; omega) (.int .u32 1)).alloc (.cells (cfgc 1 br b l).toArray 49)
  have K3 := (K2.setCell (a := ⟨w.heap.size, 0, none⟩) (fun h => by simp at h) (.int .u32 1)).alloc (.cells (cfgc 1 br b l).toArray 49)
  generalize hgn : w2.heap.size = gn at *
  generalize hwn : (w2.setCell ⟨w.heap.size, 0, none⟩ (.int .u32 1)).alloc (.cells (cfgc 1 br b l).toArray 49) = wn at *
  clear c0 c1 c2 c3 c4 c5 c6 c7 c8 c9 c10 D0 D1 K2 f0 hwn hgn
  refine (HMB.out _).mono ?_
  rintro _ w3 ⟨rfl, k3⟩
  have F0 := E0.kept k3 id
  have F1 := E1.kept k3 id
  have FN := BN.kept k3 id
  have K4 := K3.transNo k3
  clear E0 E1 BN K3 k3
  obtain ⟨c0, c1, c2, c3, c4, c5, c6, c7, c8, c9, c10⟩ := cfg_cells F0 hl
  obtain ⟨e0, e1, e2, e3, e4, e5, e6, e7, e8, e9, e10⟩ := cfg_cells FN hl
  go_wp2
  clear c0 c1 c2 c3 c4 c5 c6 c7 c8 c9 c10 e0 e1 e2 e3 e4 e5 e6 e7 e8 e9 e10
  have G0 : Blk w3.drew _ _ _ := F0.drewN 1
  have G1 : Blk w3.drew _ _ _ := F1.drewN 1
  have GN : Blk w3.drew _ _ _ := FN.drewN 1
  obtain ⟨a0, a1, a2, a3, a4, a5, a6, a7, a8, a9, a10, c0, c1, c2, c3, c4, c5, c6, c7, c8, c9, c10, d0, d1, d2, d3, d4, d5, d6, d7⟩ := all30 G0 GN G1 hl hul
  cases M
  · clear HMax
    refine wp_region_held_drew (S := (fun w' => w'.cell? ⟨w.heap.size, 0, none⟩ = some (.int .u32 1) ∧ w'.cell? ⟨w.heap.size, 1, none⟩ = some (.int .u8 r) ∧ w'.cell? ⟨w.heap.size, 2, none⟩ = some (.int .u8 v) ∧ w'.cell? ⟨w.heap.size, 3, none⟩ = some (.int .u8 (vsOf l 0)) ∧ w'.cell? ⟨w.heap.size, 4, none⟩ = some (.int .u8 (vsOf l 1)) ∧ w'.cell? ⟨w.heap.size, 5, none⟩ = some (.int .u8 (vsOf l 2)) ∧ w'.cell? ⟨w.heap.size, 6, none⟩ = some (.int .u8 (vsOf l 3)) ∧ w'.cell? ⟨w.heap.size, 7, none⟩ = some (.int .u8 (vsOf l 4)) ∧ w'.cell? ⟨w.heap.size, 8, none⟩ = some (.int .u8 (vsOf l 5)) ∧ w'.cell? ⟨w.heap.size, 9, none⟩ = some (.int .u8 (vsOf l 6)) ∧ w'.cell? ⟨w.heap.size, 10, none⟩ = some (.int .u8 (vsOf l 7)))) (by kernel_rfl) (by exact cfg_cells G0 hl) (fun hHeld => ?_)
    refine wpAnyH_take (i := 0) (oi := _) (v := ?_) rfl (by kernel_rfl) (by kernel_rfl) (by kernel_rfl) (fun _ _ _ h => h) (Or.inl ⟨by rfl, ?_⟩) (by assumption) ?_
    rotate_left
    · intro w hSw; (try dsimp only at hSw); go_simp; (try with_reducible rfl)
    (try simp only [List.getElem_toArray, List.getElem_cons_zero, Act.put, List.setIfInBounds_toArray, List.set_cons_zero, List.set_cons_succ])
    refine wpAnyH_ready (rs := [1]) (by kernel_rfl) (by simp) ?_
    refine AllReadyH.cons (o := _) rfl (fun K hK => ?_) AllReadyH.nil
    go_simp
    (go_at_call 24; (try rw [cfg_one r v l hl]); refine (HMC.out _).mono ?_; rintro _ w4 ⟨rfl, k4⟩; have A0 : Blk w4 _ _ _ := Blk.kept (by exact F0) k4 id; have KA : Kept No w w4 := Kept.transNo (by first | exact K4 | exact K4.drew) k4)
    (try go_wp2_with fail)
    refine hK.out _ _ (by exact cfg_cells A0 hl) (fun hHeld => ?_)
    clear hK K
    (try simp only [List.getElem_toArray, List.getElem_cons_zero, List.getElem_cons_succ, Act.put, List.setIfInBounds_toArray, List.set_cons_zero, List.set_cons_succ])
    refine wpAnyH_take (i := 2) (oi := _) (v := ?_) rfl (by kernel_rfl) (by kernel_rfl) (by kernel_rfl) (fun _ _ _ h => h) (Or.inl ⟨by rfl, ?_⟩) (by assumption) ?_
    rotate_left
    · intro w hSw; (try dsimp only at hSw); go_simp; (try with_reducible rfl)
    (try simp only [List.getElem_toArray, List.getElem_cons_zero, List.getElem_cons_succ, Act.put, List.setIfInBounds_toArray, List.set_cons_zero, List.set_cons_succ])
    refine wpAnyH_take (i := 3) (oi := _) (v := ?_) rfl (by kernel_rfl) (by kernel_rfl) (by kernel_rfl) (fun _ _ _ h => h) (Or.inl ⟨by rfl, ?_⟩) (by assumption) ?_
    rotate_left
    · intro w hSw; (try dsimp only at hSw); go_simp; (try with_reducible rfl)
    (try simp only [List.getElem_toArray, List.getElem_cons_zero, List.getElem_cons_succ, Act.put, List.setIfInBounds_toArray, List.set_cons_zero, List.set_cons_succ])
    refine wpAnyH_take (i := 4) (oi := _) (v := undef) rfl (by kernel_rfl) (by kernel_rfl) (by kernel_rfl) (fun _ _ _ h => h) (Or.inr ⟨by rfl, rfl⟩) (by assumption) ?_
    (try simp only [List.getElem_toArray, List.getElem_cons_zero, List.getElem_cons_succ, Act.put, List.setIfInBounds_toArray, List.set_cons_zero, List.set_cons_succ])
    refine wpAnyH_take (i := 5) (oi := _) (v := undef) rfl (by kernel_rfl) (by kernel_rfl) (by kernel_rfl) (fun _ _ _ h => h) (Or.inr ⟨by rfl, rfl⟩) (by assumption) ?_
    (try simp only [List.getElem_toArray, List.getElem_cons_zero, List.getElem_cons_succ, Act.put, List.setIfInBounds_toArray, List.set_cons_zero, List.set_cons_succ])
    refine wpAnyH_take (i := 6) (oi := _) (v := undef) rfl (by kernel_rfl) (by kernel_rfl) (by kernel_rfl) (fun _ _ _ h => h) (Or.inr ⟨by rfl, rfl⟩) (by assumption) ?_
    (try simp only [List.getElem_toArray, List.getElem_cons_zero, List.getElem_cons_succ, Act.put, List.setIfInBounds_toArray, List.set_cons_zero, List.set_cons_succ])
    refine wpAnyH_take (i := 7) (oi := _) (v := undef) rfl (by kernel_rfl) (by kernel_rfl) (by kernel_rfl) (fun _ _ _ h => h) (Or.inr ⟨by rfl, rfl⟩) (by assumption) ?_
    (try simp only [List.getElem_toArray, List.getElem_cons_zero, List.getElem_cons_succ, Act.put, List.setIfInBounds_toArray, List.set_cons_zero, List.set_cons_succ])
    refine wpAnyH_take (i := 8) (oi := _) (v := undef) rfl (by kernel_rfl) (by kernel_rfl) (by kernel_rfl) (fun _ _ _ h => h) (Or.inr ⟨by rfl, rfl⟩) (by assumption) ?_
    (try simp only [List.getElem_toArray, List.getElem_cons_zero, List.getElem_cons_succ, Act.put, List.setIfInBounds_toArray, List.set_cons_zero, List.set_cons_succ])
    refine wpAnyH_take (i := 9) (oi := _) (v := undef) rfl (by kernel_rfl) (by kernel_rfl) (by kernel_rfl) (fun _ _ _ h => h) (Or.inr ⟨by rfl, rfl⟩) (by assumption) ?_
    (try simp only [List.getElem_toArray, List.getElem_cons_zero, List.getElem_cons_succ, Act.put, List.setIfInBounds_toArray, List.set_cons_zero, List.set_cons_succ])
    refine wpAnyH_take (i := 10) (oi := _) (v := undef) rfl (by kernel_rfl) (by kernel_rfl) (by kernel_rfl) (fun _ _ _ h => h) (Or.inr ⟨by rfl, rfl⟩) (by assumption) ?_
    (try simp only [List.getElem_toArray, List.getElem_cons_zero, List.getElem_cons_succ, Act.put, List.setIfInBounds_toArray, List.set_cons_zero, List.set_cons_succ])
    refine wpAnyH_take (i := 11) (oi := _) (v := undef) rfl (by kernel_rfl) (by kernel_rfl) (by kernel_rfl) (fun _ _ _ h => h) (Or.inr ⟨by rfl, rfl⟩) (by assumption) ?_
    (try simp only [List.getElem_toArray, List.getElem_cons_zero, List.getElem_cons_succ, Act.put, List.setIfInBounds_toArray, List.set_cons_zero, List.set_cons_succ])
    refine wpAnyH_take (i := 12) (oi := _) (v := undef) rfl (by kernel_rfl) (by kernel_rfl) (by kernel_rfl) (fun _ _ _ h => h) (Or.inr ⟨by rfl, rfl⟩) (by assumption) ?_
    (try simp only [List.getElem_toArray, List.getElem_cons_zero, List.getElem_cons_succ, Act.put, List.setIfInBounds_toArray, List.set_cons_zero, List.set_cons_succ])
    refine wpAnyH_take (i := 13) (oi := _) (v := ?_) rfl (by kernel_rfl) (by kernel_rfl) (by kernel_rfl) (fun _ _ _ h => h) (Or.inl ⟨by rfl, ?_⟩) (by assumption) ?_
    rotate_left
    · intro w hSw; (try dsimp only at hSw); go_simp; (try with_reducible rfl)
    (try simp only [List.getElem_toArray, List.getElem_cons_zero, List.getElem_cons_succ, Act.put, List.setIfInBounds_toArray, List.set_cons_zero, List.set_cons_succ])
    refine wpAnyH_take (i := 14) (oi := _) (v := ?_) rfl (by kernel_rfl) (by kernel_rfl) (by kernel_rfl) (fun _ _ _ h => h) (Or.inl ⟨by rfl, ?_⟩) (by assumption) ?_
    rotate_left
    · intro w hSw; (try dsimp only at hSw); go_simp; (try with_reducible rfl)
    (try simp only [List.getElem_toArray, List.getElem_cons_zero, List.getElem_cons_succ, Act.put, List.setIfInBounds_toArray, List.set_cons_zero, List.set_cons_succ])
    refine wpAnyH_ready (rs := [15]) (by kernel_rfl) (by simp) ?_
    refine AllReadyH.cons (o := _) rfl (fun K hK => ?_) AllReadyH.nil
    go_simp
    (go_at_call 23; refine (H3.out _).mono ?_; rintro _ w7 ⟨rfl, k7⟩; have D0 : Blk w7 _ _ _ := Blk.kept (by exact A0) k7 id; have KD : Kept No w w7 := Kept.transNo (by first | exact KA | exact KA.drew) k7)
    (try go_wp2_with fail)
    refine hK.out _ _ (by exact cfg_cells D0 hl) (fun hHeld => ?_)
    clear hK K
    (try simp only [List.getElem_toArray, List.getElem_cons_zero, List.getElem_cons_succ, Act.put, List.setIfInBounds_toArray, List.set_cons_zero, List.set_cons_succ])
    refine wpAnyH_take (i := 16) (oi := _) (v := ?_) rfl (by kernel_rfl) (by kernel_rfl) (by kernel_rfl) (fun _ _ _ h => h) (Or.inl ⟨by rfl, ?_⟩) (by assumption) ?_
    rotate_left
    · intro w hSw; (try dsimp only at hSw); go_simp; (try with_reducible rfl)
    (try simp only [List.getElem_toArray, List.getElem_cons_zero, List.getElem_cons_succ, Act.put, List.setIfInBounds_toArray, List.set_cons_zero, List.set_cons_succ])
    refine wpAnyH_take (i := 17) (oi := _) (v := ?_) rfl (by kernel_rfl) (by kernel_rfl) (by kernel_rfl) (fun _ _ _ h => h) (Or.inl ⟨by rfl, ?_⟩) (by assumption) ?_
    rotate_left
    · intro w hSw; (try dsimp only at hSw); go_simp; (try with_reducible rfl)
    (try simp only [List.getElem_toArray, List.getElem_cons_zero, List.getElem_cons_succ, Act.put, List.setIfInBounds_toArray, List.set_cons_zero, List.set_cons_succ])
    refine wpAnyH_done (by kernel_rfl) ?_ _
    go_wp2
    go_ret
    exact ⟨rfl, KD⟩
  · have hx := HMax.out rfl
    have q5 : (x1 : Int) ≤ x2 := by omega
    clear HMax
    go_region_held3 (fun w' => w'.cell? ⟨w.heap.size, 0, none⟩ = some (.int .u32 1) ∧ w'.cell? ⟨w.heap.size, 1, none⟩ = some (.int .u8 r) ∧ w'.cell? ⟨w.heap.size, 2, none⟩ = some (.int .u8 v) ∧ w'.cell? ⟨w.heap.size, 3, none⟩ = some (.int .u8 (vsOf l 0)) ∧ w'.cell? ⟨w.heap.size, 4, none⟩ = some (.int .u8 (vsOf l 1)) ∧ w'.cell? ⟨w.heap.size, 5, none⟩ = some (.int .u8 (vsOf l 2)) ∧ w'.cell? ⟨w.heap.size, 6, none⟩ = some (.int .u8 (vsOf l 3)) ∧ w'.cell? ⟨w.heap.size, 7, none⟩ = some (.int .u8 (vsOf l 4)) ∧ w'.cell? ⟨w.heap.size, 8, none⟩ = some (.int .u8 (vsOf l 5)) ∧ w'.cell? ⟨w.heap.size, 9, none⟩ = some (.int .u8 (vsOf l 6)) ∧ w'.cell? ⟨w.heap.size, 10, none⟩ = some (.int .u8 (vsOf l 7)) ∧ w'.cell? ⟨gn, 0, none⟩ = some (.int .u32 1) ∧ w'.cell? ⟨gn, 1, none⟩ = some (.int .u8 br) ∧ w'.cell? ⟨gn, 2, none⟩ = some (.int .u8 b) ∧ w'.cell? ⟨gn, 3, none⟩ = some (.int .u8 (vsOf l 0)) ∧ w'.cell? ⟨gn, 4, none⟩ = some (.int .u8 (vsOf l 1)) ∧ w'.cell? ⟨gn, 5, none⟩ = some (.int .u8 (vsOf l 2)) ∧ w'.cell? ⟨gn, 6, none⟩ = some (.int .u8 (vsOf l 3)) ∧ w'.cell? ⟨gn, 7, none⟩ = some (.int .u8 (vsOf l 4)) ∧ w'.cell? ⟨gn, 8, none⟩ = some (.int .u8 (vsOf l 5)) ∧ w'.cell? ⟨gn, 9, none⟩ = some (.int .u8 (vsOf l 6)) ∧ w'.cell? ⟨gn, 10, none⟩ = some (.int .u8 (vsOf l 7)) ∧ w'.cell? ⟨w.heap.size + 1, 0, none⟩ = some (.int .u8 (vsOf u 0)) ∧ w'.cell? ⟨w.heap.size + 1, 1, none⟩ = some (.int .u8 (vsOf u 1)) ∧ w'.cell? ⟨w.heap.size + 1, 2, none⟩ = some (.int .u8 (vsOf u 2)) ∧ w'.cell? ⟨w.heap.size + 1, 3, none⟩ = some (.int .u8 (vsOf u 3)) ∧ w'.cell? ⟨w.heap.size + 1, 4, none⟩ = some (.int .u8 (vsOf u 4)) ∧ w'.cell? ⟨w.heap.size + 1, 5, none⟩ = some (.int .u8 (vsOf u 5)) ∧ w'.cell? ⟨w.heap.size + 1, 6, none⟩ = some (.int .u8 (vsOf u 6)) ∧ w'.cell? ⟨w.heap.size + 1, 7, none⟩ = some (.int .u8 (vsOf u 7)))
      (first | (with_reducible exact all30 G0 GN G1 hl hul) | (with_reducible exact all30 A0 AN A1 hl hul) | (with_reducible exact all30 B0 BN B1 hl hul) | (with_reducible exact all30 C0 CN C1 hl hul) | (with_reducible exact all30 D0 DN D1 hl hul) | go_keep)
      (first
        | (go_at_call 24; (try rw [cfg_one r v l hl]); (with_reducible refine (HMC.out _).mono ?_); rintro _ w4 ⟨rfl, k4⟩; have A0 : Blk w4 _ _ _ := Blk.kept (by exact F0) k4 id; have A1 : Blk w4 _ _ _ := Blk.kept (by exact F1) k4 id; have AN : Blk w4 _ _ _ := Blk.kept (by exact FN) k4 id; have KA : Kept No w w4 := Kept.transNo (by first | exact K4 | exact K4.drew) k4)
        | (go_at_call 42; (try rw [cfg_one r v l hl]); (try rw [cfg_one br b l hl]); (try rw [up_eq u hul]); (with_reducible refine (HWC.out _).mono ?_); rintro _ w5 ⟨rfl, k5⟩; have B0 : Blk w5 _ _ _ := Blk.kept (by exact A0) k5 id; have B1 : Blk w5 _ _ _ := Blk.kept (by exact A1) k5 id; have BN : Blk w5 _ _ _ := Blk.kept (by exact AN) k5 id; have KB : Kept No w w5 := Kept.transNo KA k5)
        | (go_at_call 42; (try rw [cfg_one r v l hl]); (try rw [cfg_one br b l hl]); (try rw [up_eq u hul]); (with_reducible refine (HWB.out _).mono ?_); rintro _ w6 ⟨rfl, k6⟩; have C0 : Blk w6 _ _ _ := Blk.kept (by exact B0) k6 id; have C1 : Blk w6 _ _ _ := Blk.kept (by exact B1) k6 id; have CN : Blk w6 _ _ _ := Blk.kept (by exact BN) k6 id; have KC : Kept No w w6 := Kept.transNo KB k6)
        | (go_at_call 23; refine (H3.out _).mono ?_; rintro _ w7 ⟨rfl, k7⟩; have D0 : Blk w7 _ _ _ := Blk.kept (by first | exact C0 | exact A0) k7 id; have D1 : Blk w7 _ _ _ := Blk.kept (by first | exact C1 | exact A1) k7 id; have DN : Blk w7 _ _ _ := Blk.kept (by first | exact CN | exact AN) k7 id; have KD : Kept No w w7 := Kept.transNo (by first | exact KC | exact KA) k7)
        | fail)
    go_wp2
    go_ret
    exact ⟨rfl, KD⟩
end
end Go.Proofs.Ytencnfgmgcdiiaa
