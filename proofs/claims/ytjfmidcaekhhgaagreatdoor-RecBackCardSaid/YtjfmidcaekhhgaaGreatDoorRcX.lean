/- The law RecBack, as a walk. Printed by gen_rcw.py. -/
import Derived.Test.YtjfmidcaekhhgaaGreatDoorRcW
namespace Go.Proofs.YtjfmidcaekhhgaaGreatDoor
open Go.RowKit Go.PM

section
variable {w : World}
set_option maxRecDepth 100000 in
set_option maxHeartbeats 2000000 in
theorem recBack_calls (m : PRec) (hm : m.Wf) (hs : m.Sm) (aw : Option Addr) (cw : Nat) (am : Option Addr) (cm : Nat) (hrw : Rd w aw (pwsv m.writes)) (hrm : Rd w am (ucells m.missing)) (haw : ∀ b, At aw b → b < w.heap.size) (ham : ∀ b, At am b → b < w.heap.size) (hc : m.writes.length ≤ cw) :
    Calls Tryz.prog 7 #[.agg (recv m aw cw am cm).toArray] w fun e w' => e = .returned (.bool true) ∧ Kept No w w' := by
  have B0 := Blk.new w 50 (recv m aw cw am cm)
  have K0 := (Kept.refl No w).alloc (.cells (recv m aw cw am cm).toArray 50)
  have l31 := recv_length hm aw cw am cm
  have HL := rlong_calls (w := w.alloc (.cells (recv m aw cw am cm).toArray 50)) m hm hs aw cw am cm (hrw.keptNo K0) (hrm.keptNo K0) (fun b hb => K0.lt (haw b hb)) (fun b hb => K0.lt (ham b hb)) hc
  have s0 := B0.seg0
  have HA := Lib.hid fun w => ralive_calls (w := w)
  have HT := Lib.hid fun w => rtheirs_calls (w := w) m hm aw cw am cm
  cases hl : rlongB m
  case true =>
    rw [hl] at HL
    have HL' := Lib.hid HL
    clear HL
    go_enter Tryz.func7, Tryz.ntmps7
    go_wp2_with (with_reducible refine wpList_ld rfl 50 _ rfl Tryz.isAgg50 31 Tryz.sizeOf50 w.heap.size 0 rfl (recv m aw cw am cm) l31 s0 ?_)
    refine HL'.out.mono ?_
    rintro _ w1 ⟨rfl, k1⟩
    go_wp2_with fail
    refine (HA.out _).mono ?_
    rintro _ w2 ⟨rfl, k2⟩
    go_wp2_with fail
    go_ret
    exact ⟨rfl, (K0.trans k1 fun _ _ h => h).trans k2 fun _ _ h => h⟩
  case false =>
  rw [hl] at HL
  have HL' := Lib.hid HL
  clear HL
  cases hmay : rMay m
  case false =>
    have HE := Lib.hid (show ∀ w', Kept No w w' → Calls Tryz.prog 16 #[.agg (recv m aw cw am cm).toArray] w' fun e w'' => e = .returned (.tuple #[.slice none 0 0, .int .i64 1]) ∧ Kept No w' w'' from fun w' k => by
      have h := rencode_calls (w := w') (aw := aw) (cw := cw) (am := am) (cm := cm) m hm hs (hrw.keptNo k) (hrm.keptNo k) (fun b hb => k.lt (haw b hb)) (fun b hb => k.lt (ham b hb))
      exact h.mono fun e w'' hp => by rw [REncPost, hmay] at hp; exact hp)
    have HM := Lib.hid (show ∀ w', Kept No w w' → Calls Tryz.prog 27 #[.agg (recv m aw cw am cm).toArray] w' fun e w'' => e = .returned (.bool false) ∧ Kept No w' w'' from fun w' k => hmay ▸ rMay_calls (w := w') (cw := cw) (cm := cm) m hm hs (hrw.keptNo k) (hrm.keptNo k) (fun b hb => k.lt (haw b hb)) (fun b hb => k.lt (ham b hb)))
    go_enter Tryz.func7, Tryz.ntmps7
    go_wp2_with (with_reducible refine wpList_ld rfl 50 _ rfl Tryz.isAgg50 31 Tryz.sizeOf50 w.heap.size 0 rfl (recv m aw cw am cm) l31 s0 ?_)
    refine HL'.out.mono ?_
    rintro _ w1 ⟨rfl, k1⟩
    have s1 := (B0.kept k1 fun h => h).seg0
    go_wp2_with (with_reducible refine wpList_ld rfl 50 _ rfl Tryz.isAgg50 31 Tryz.sizeOf50 w.heap.size 0 rfl (recv m aw cw am cm) l31 s1 ?_)
    refine (HT.out _).mono ?_
    rintro _ w2 ⟨rfl, k2⟩
    have k12 := (K0.trans k1 fun _ _ h => h).trans k2 fun _ _ h => h
    have s2 := ((B0.kept k1 fun h => h).kept k2 fun h => h)
    go_wp2_with fail
    refine (HE.out _ k12).mono ?_
    rintro _ w3 ⟨rfl, k3⟩
    have s3 := (s2.kept k3 fun h => h).seg0
    have k13 := k12.trans k3 fun _ _ h => h
    go_wp2_with (with_reducible refine wpList_ld rfl 50 _ rfl Tryz.isAgg50 31 Tryz.sizeOf50 w.heap.size 0 rfl (recv m aw cw am cm) l31 s3 ?_)
    refine (HT.out _).mono ?_
    rintro _ w4 ⟨rfl, k4⟩
    have k14 := k13.trans k4 fun _ _ h => h
    go_wp2_with fail
    refine (HM.out _ k14).mono ?_
    rintro _ w5 ⟨rfl, k5⟩
    go_wp2_with fail
    refine (HA.out _).mono ?_
    rintro _ w6 ⟨rfl, k6⟩
    go_wp2_with fail
    go_ret
    exact ⟨rfl, (k14.trans k5 fun _ _ h => h).trans k6 fun _ _ h => h⟩
  case true =>
  have hle := rEnc_le hm hmay
  have hdec := rDec_enc hm hmay
  have HE := Lib.hid (show ∀ w', Kept No w w' → Calls Tryz.prog 16 #[.agg (recv m aw cw am cm).toArray] w' fun e w'' => ∃ ae ce, e = .returned (.tuple #[.slice ae (rEnc m).length ce, .int .i64 0]) ∧ Owns w'' 5 1 ae (rEnc m).length ce (bcells (rEnc m)) ∧ Kept No w' w'' from fun w' k => by
    have h := rencode_calls (w := w') (aw := aw) (cw := cw) (am := am) (cm := cm) m hm hs (hrw.keptNo k) (hrm.keptNo k) (fun b hb => k.lt (haw b hb)) (fun b hb => k.lt (ham b hb))
    exact h.mono fun e w'' hp => by
      rw [REncPost, hmay] at hp
      obtain ⟨ae, ce, h1, h2, h3, _⟩ := hp
      exact ⟨ae, ce, h1, h2, h3⟩)
  have hlz : ((rEnc m).length : Int) ≤ 4096 := by omega
  obtain ⟨N, hN⟩ : ∃ N, (rEnc m).length = N := ⟨_, rfl⟩
  rw [hN] at HE hlz
  clear hle
  go_enter Tryz.func7, Tryz.ntmps7
  go_wp2_with (with_reducible refine wpList_ld rfl 50 _ rfl Tryz.isAgg50 31 Tryz.sizeOf50 w.heap.size 0 rfl (recv m aw cw am cm) l31 s0 ?_)
  refine HL'.out.mono ?_
  rintro _ w1 ⟨rfl, k1⟩
  have s1 := (B0.kept k1 fun h => h).seg0
  go_wp2_with (with_reducible refine wpList_ld rfl 50 _ rfl Tryz.isAgg50 31 Tryz.sizeOf50 w.heap.size 0 rfl (recv m aw cw am cm) l31 s1 ?_)
  refine (HT.out _).mono ?_
  rintro _ w2 ⟨rfl, k2⟩
  have k12 := (K0.trans k1 fun _ _ h => h).trans k2 fun _ _ h => h
  go_wp2_with fail
  refine (HE.out _ k12).mono ?_
  rintro _ w3 ⟨ae, ce, rfl, oe, k3⟩
  have k13 := k12.trans k3 fun _ _ h => h
  have BR := ((B0.kept k1 fun h => h).kept k2 fun h => h).kept k3 fun h => h
  have hce : ae = none → ce = 0 := fun e => by rcases oe.row with ⟨_, _, h3⟩ | ⟨_, _, h3, _⟩; exact h3; rw [e] at h3; cases h3
  have HDC := Lib.hid (rdecode_calls (w := w3) (rEnc m) ae ce N hN oe.rd (by omega) hce)
  go_wp2_with fail
  refine HDC.out.mono ?_
  intro e w4 h4
  unfold RDecPost at h4
  rw [hdec] at h4
  obtain ⟨bw, dw, bm, dm, rfl, ow, om, tw, tm, k4, gl⟩ := h4
  have hf0 : ((0 : Nat) : Int) = 0 := rfl
  simp only [hf0]
  clear hf0 HDC HE HL' s1 s0
  have BR4 := BR.kept k4 fun h => h
  have l31' := recv_length hm bw dw bm dm
  have hone := recv_one m bw dw bm dm
  have hfone : ∀ u ∈ [Value.int .i64 0, .int .i64 0], u.oneCell' = true := fun u hu => by
    simp only [List.mem_cons, List.not_mem_nil, or_false] at hu; rcases hu with rfl | rfl <;> rfl
  have D0 := (Blk.new w4 53 [.int .u8 0, .int .u32 0, .int .u8 0, .int .u32 0, .int .u32 0, .int .u32 0, .int .u32 0, .int .u64 0, .slice none 0 0, .slice none 0 0, .int .u8 0, .int .u8 0, .int .u8 0, .int .u8 0, .int .u8 0, .int .u8 0, .int .u8 0, .int .u8 0, .int .u32 0, .string ⟨#[]⟩, .int .u32 0, .int .u8 0, .int .u8 0, .int .u8 0, .int .u8 0, .int .u8 0, .int .u8 0, .int .u8 0, .int .u8 0, .int .u8 0, .int .u8 0]).alloc (.cells #[.int .i64 0, .int .i64 0] 65)
  have F0 := Blk.new' (w := w4.alloc (.cells #[.int .u8 0, .int .u32 0, .int .u8 0, .int .u32 0, .int .u32 0, .int .u32 0, .int .u32 0, .int .u64 0, .slice none 0 0, .slice none 0 0, .int .u8 0, .int .u8 0, .int .u8 0, .int .u8 0, .int .u8 0, .int .u8 0, .int .u8 0, .int .u8 0, .int .u32 0, .string ⟨#[]⟩, .int .u32 0, .int .u8 0, .int .u8 0, .int .u8 0, .int .u8 0, .int .u8 0, .int .u8 0, .int .u8 0, .int .u8 0, .int .u8 0, .int .u8 0] 53)) (g := w4.heap.size + 1) (by rw [World.size_alloc]) 65 [.int .i64 0, .int .i64 0]
  have F1 := fun cs => F0.kept ((Kept.refl (· = w4.heap.size) _).setRow (fun _ => rfl) cs) (show ¬ w4.heap.size + 1 = w4.heap.size by omega)
  have hs1 : splice ([.int .u8 0, .int .u32 0, .int .u8 0, .int .u32 0, .int .u32 0, .int .u32 0, .int .u32 0, .int .u64 0, .slice none 0 0, .slice none 0 0, .int .u8 0, .int .u8 0, .int .u8 0, .int .u8 0, .int .u8 0, .int .u8 0, .int .u8 0, .int .u8 0, .int .u32 0, .string ⟨#[]⟩, .int .u32 0, .int .u8 0, .int .u8 0, .int .u8 0, .int .u8 0, .int .u8 0, .int .u8 0, .int .u8 0, .int .u8 0, .int .u8 0, .int .u8 0] : List Value) 0 (recv m bw dw bm dm) = recv m bw dw bm dm := splice_all _ _ l31'
  have hs2 : splice [Value.int .i64 0, .int .i64 0] 0 [.int .i64 0, .int .i64 0] = [.int .i64 0, .int .i64 0] := splice_all _ _ rfl
  have D2 := (D0.setRow (recv m bw dw bm dm)).kept ((Kept.refl (· = w4.heap.size + 1) _).setRow (fun _ => rfl) [Value.int .i64 0, .int .i64 0].toArray) (show ¬ w4.heap.size = w4.heap.size + 1 by omega)
  have F2 := (F1 (recv m bw dw bm dm).toArray).setRow [Value.int .i64 0, .int .i64 0]
  have K9 := ((((Kept.refl No w4).alloc (.cells #[.int .u8 0, .int .u32 0, .int .u8 0, .int .u32 0, .int .u32 0, .int .u32 0, .int .u32 0, .int .u64 0, .slice none 0 0, .slice none 0 0, .int .u8 0, .int .u8 0, .int .u8 0, .int .u8 0, .int .u8 0, .int .u8 0, .int .u8 0, .int .u8 0, .int .u32 0, .string ⟨#[]⟩, .int .u32 0, .int .u8 0, .int .u8 0, .int .u8 0, .int .u8 0, .int .u8 0, .int .u8 0, .int .u8 0, .int .u8 0, .int .u8 0, .int .u8 0] 53)).alloc (.cells #[.int .i64 0, .int .i64 0] 65)).setRow (g := w4.heap.size) (fun h => absurd h (Nat.lt_irrefl _)) (recv m bw dw bm dm).toArray).setRow (g := w4.heap.size + 1) (fun h => absurd h (by omega)) [Value.int .i64 0, .int .i64 0].toArray
  have hS0 := (⟨D2.drewN 1, F2.drewN 1, K9.drewN 1⟩ : (fun w' => Blk w' w4.heap.size 53 (recv m bw dw bm dm) ∧ Blk w' (w4.heap.size + 1) 65 [Value.int .i64 0, .int .i64 0] ∧ Kept No w4 w') (World.drewN _ 1))
  have HSame := Lib.hid (show ∀ w', Kept No w4 w' → Calls Tryz.prog 29 #[.agg (recv m bw dw bm dm).toArray, .agg (recv m aw cw am cm).toArray] w' fun e w'' => e = .returned (.bool true) ∧ Kept No w' w'' from fun w' k => sameR_self m ▸ rsame_calls (w := w') m m bw bm aw am dw dm cw cm hm hm hs hs (ow.rd.keptNo k) (om.rd.keptNo k) (hrw.keptNo (((k13.trans k4 fun _ _ h => h)).trans k fun _ _ h => h)) (hrm.keptNo (((k13.trans k4 fun _ _ h => h)).trans k fun _ _ h => h)))
  have heq := eqlFaultN 0 0 fun _ => rfl
  have hgf := eqGuard_fault
  have KEND := k13.trans k4 fun _ _ h => h
  have HBR := Lib.hid (show ∀ w', Kept No w4 w' → Seg w' w.heap.size 0 (recv m aw cw am cm) from fun w' k => (BR4.kept k fun h => h).seg0)
  clear k1 k2 k3 k12 B0 K0 BR oe BR4
  go_wp2_with (first
    | (with_reducible refine wpList_st rfl 53 _ _ rfl 31 Tryz.sizeOf53 w4.heap.size 0 rfl (recv m bw dw bm dm) rfl l31' _ _ D0 (by decide) hone ?_; rw [hs1])
    | (with_reducible refine wpList_st rfl 65 _ _ rfl 2 Tryz.sizeOf65 (w4.heap.size + 1) 0 rfl [.int .i64 0, .int .i64 0] rfl rfl _ _ (F1 _) (by decide) hfone ?_; rw [hs2]))
  refine wp_region_held_drew (S := fun w' => Blk w' w4.heap.size 53 (recv m bw dw bm dm) ∧ Blk w' (w4.heap.size + 1) 65 [Value.int .i64 0, .int .i64 0] ∧ Kept No w4 w') (by kernel_rfl) (hS0) (fun hHeld => ?_)
  refine wpAnyH_take (i := 0) (oi := _) (v := ?_) rfl (by kernel_rfl) (by kernel_rfl) (by kernel_rfl) (fun _ _ _ h => h) (Or.inl ⟨by rfl, ?_⟩) (by assumption) ?_
  rotate_left
  · intro wv hSw; refine ld_val 65 ?lx1 ?l11 Tryz.isAgg65 2 Tryz.sizeOf65 (w4.heap.size + 1) 0 ?l21 [Value.int .i64 0, .int .i64 0] rfl (hSw.2.1.seg0); (case l11 => rfl); (case l21 => rfl)
  (try simp only [List.getElem_toArray, List.getElem_cons_zero, Act.put, List.setIfInBounds_toArray, List.set_cons_zero, List.set_cons_succ])
  refine wpAnyH_take (i := 1) (oi := _) (v := ?_) rfl (by kernel_rfl) (by kernel_rfl) (by kernel_rfl) (fun _ _ _ h => h) (Or.inl ⟨by rfl, ?_⟩) (by assumption) ?_
  rotate_left
  · intro wv hSw; (try dsimp only at hSw); go_simp; (try with_reducible rfl)
  (try simp only [List.getElem_toArray, List.getElem_cons_zero, List.getElem_cons_succ, Act.put, List.setIfInBounds_toArray, List.set_cons_zero, List.set_cons_succ])
  refine wpAnyH_take (i := 2) (oi := _) (v := ?_) rfl (by kernel_rfl) (by kernel_rfl) (by kernel_rfl) (fun _ _ _ h => h) (Or.inl ⟨by rfl, ?_⟩) (by assumption) ?_
  rotate_left
  · intro wv hSw; (try dsimp only at hSw); go_simp; (try with_reducible rfl)
  (try simp only [List.getElem_toArray, List.getElem_cons_zero, List.getElem_cons_succ, Act.put, List.setIfInBounds_toArray, List.set_cons_zero, List.set_cons_succ])
  refine wpAnyH_take (i := 3) (oi := _) (v := ?_) rfl (by kernel_rfl) (by kernel_rfl) (by kernel_rfl) (fun _ _ _ h => h) (Or.inl ⟨by rfl, ?_⟩) (by assumption) ?_
  rotate_left
  · intro wv hSw; (try dsimp only at hSw); go_simp; (try with_reducible rfl)
  (try simp only [List.getElem_toArray, List.getElem_cons_zero, List.getElem_cons_succ, Act.put, List.setIfInBounds_toArray, List.set_cons_zero, List.set_cons_succ])
  refine wpAnyH_take (i := 4) (oi := _) (v := ?_) rfl (by kernel_rfl) (by kernel_rfl) (by kernel_rfl) (fun _ _ _ h => h) (Or.inl ⟨by rfl, ?_⟩) (by assumption) ?_
  rotate_left
  · intro wv hSw; refine ld_val 53 ?lx2 ?l12 Tryz.isAgg53 31 Tryz.sizeOf53 w4.heap.size 0 ?l22 (recv m bw dw bm dm) l31' (hSw.1.seg0); (case l12 => rfl); (case l22 => rfl)
  (try simp only [List.getElem_toArray, List.getElem_cons_zero, List.getElem_cons_succ, Act.put, List.setIfInBounds_toArray, List.set_cons_zero, List.set_cons_succ])
  refine wpAnyH_take (i := 5) (oi := _) (v := ?_) rfl (by kernel_rfl) (by kernel_rfl) (by kernel_rfl) (fun _ _ _ h => h) (Or.inl ⟨by rfl, ?_⟩) (by assumption) ?_
  rotate_left
  · intro wv hSw; refine ld_val 50 ?lx3 ?l13 Tryz.isAgg50 31 Tryz.sizeOf50 w.heap.size 0 ?l23 (recv m aw cw am cm) l31 (HBR.out _ hSw.2.2); (case l13 => rfl); (case l23 => rfl)
  (try simp only [List.getElem_toArray, List.getElem_cons_zero, List.getElem_cons_succ, Act.put, List.setIfInBounds_toArray, List.set_cons_zero, List.set_cons_succ])
  refine wpAnyH_ready (rs := [6]) (by kernel_rfl) (by simp) ?_
  refine AllReadyH.cons (o := _) rfl (fun K hK => ?_) AllReadyH.nil
  go_simp
  go_at_call 17; refine (HT.out _).mono ?_; rintro _ w5 ⟨rfl, k5⟩
  (try go_wp2_with fail)
  refine hK.out _ _ (⟨hHeld.1.kept k5 (fun h => h), hHeld.2.1.kept k5 (fun h => h), hHeld.2.2.trans k5 fun _ _ h => h⟩) (fun hHeld => ?_)
  clear hK K
  (try simp only [List.getElem_toArray, List.getElem_cons_zero, List.getElem_cons_succ, Act.put, List.setIfInBounds_toArray, List.set_cons_zero, List.set_cons_succ])
  refine wpAnyH_ready (rs := [7]) (by kernel_rfl) (by simp) ?_
  refine AllReadyH.cons (o := _) rfl (fun K hK => ?_) AllReadyH.nil
  go_simp
  go_at_call 29; refine (HSame.out _ hHeld.2.2).mono ?_; rintro _ w6 ⟨rfl, k6⟩
  (try go_wp2_with fail)
  refine hK.out _ _ (⟨hHeld.1.kept k6 (fun h => h), hHeld.2.1.kept k6 (fun h => h), hHeld.2.2.trans k6 fun _ _ h => h⟩) (fun hHeld => ?_)
  clear hK K
  (try simp only [List.getElem_toArray, List.getElem_cons_zero, List.getElem_cons_succ, Act.put, List.setIfInBounds_toArray, List.set_cons_zero, List.set_cons_succ])
  refine wpAnyH_take (i := 8) (oi := _) (v := ?_) rfl (by kernel_rfl) (by kernel_rfl) (by kernel_rfl) (fun _ _ _ h => h) (Or.inl ⟨by rfl, ?_⟩) (by assumption) ?_
  rotate_left
  · intro wv hSw; (try dsimp only at hSw); go_simp; (try with_reducible rfl)
  (try simp only [List.getElem_toArray, List.getElem_cons_zero, List.getElem_cons_succ, Act.put, List.setIfInBounds_toArray, List.set_cons_zero, List.set_cons_succ])
  refine wpAnyH_take (i := 9) (oi := _) (v := ?_) rfl (by kernel_rfl) (by kernel_rfl) (by kernel_rfl) (fun _ _ _ h => h) (Or.inl ⟨by rfl, ?_⟩) (by assumption) ?_
  rotate_left
  · intro wv hSw; (try dsimp only at hSw); go_simp; (try with_reducible rfl)
  (try simp only [List.getElem_toArray, List.getElem_cons_zero, List.getElem_cons_succ, Act.put, List.setIfInBounds_toArray, List.set_cons_zero, List.set_cons_succ])
  refine wpAnyH_take (i := 10) (oi := _) (v := ?_) rfl (by kernel_rfl) (by kernel_rfl) (by kernel_rfl) (fun _ _ _ h => h) (Or.inl ⟨by rfl, ?_⟩) (by assumption) ?_
  rotate_left
  · intro wv hSw; (try dsimp only at hSw); go_simp; (try with_reducible rfl)
  (try simp only [List.getElem_toArray, List.getElem_cons_zero, List.getElem_cons_succ, Act.put, List.setIfInBounds_toArray, List.set_cons_zero, List.set_cons_succ])
  refine wpAnyH_take (i := 11) (oi := _) (v := ?_) rfl (by kernel_rfl) (by kernel_rfl) (by kernel_rfl) (fun _ _ _ h => h) (Or.inl ⟨by rfl, ?_⟩) (by assumption) ?_
  rotate_left
  · intro wv hSw; (try dsimp only at hSw); go_simp; (try with_reducible rfl)
  (try simp only [List.getElem_toArray, List.getElem_cons_zero, List.getElem_cons_succ, Act.put, List.setIfInBounds_toArray, List.set_cons_zero, List.set_cons_succ])
  refine wpAnyH_take (i := 12) (oi := _) (v := ?_) rfl (by kernel_rfl) (by kernel_rfl) (by kernel_rfl) (fun _ _ _ h => h) (Or.inl ⟨by rfl, ?_⟩) (by assumption) ?_
  rotate_left
  · intro wv hSw; (try dsimp only at hSw); go_simp; (try with_reducible rfl)
  (try simp only [List.getElem_toArray, List.getElem_cons_zero, List.getElem_cons_succ, Act.put, List.setIfInBounds_toArray, List.set_cons_zero, List.set_cons_succ])
  refine wpAnyH_take (i := 13) (oi := _) (v := ?_) rfl (by kernel_rfl) (by kernel_rfl) (by kernel_rfl) (fun _ _ _ h => h) (Or.inl ⟨by rfl, ?_⟩) (by assumption) ?_
  rotate_left
  · intro wv hSw; (try dsimp only at hSw); go_simp; (try with_reducible rfl)
  (try simp only [List.getElem_toArray, List.getElem_cons_zero, List.getElem_cons_succ, Act.put, List.setIfInBounds_toArray, List.set_cons_zero, List.set_cons_succ])
  refine wpAnyH_take (i := 14) (oi := _) (v := ?_) rfl (by kernel_rfl) (by kernel_rfl) (by kernel_rfl) (fun _ _ _ h => h) (Or.inl ⟨by rfl, ?_⟩) (by assumption) ?_
  rotate_left
  · intro wv hSw; (try dsimp only at hSw); go_simp; (try with_reducible rfl)
  (try simp only [List.getElem_toArray, List.getElem_cons_zero, List.getElem_cons_succ, Act.put, List.setIfInBounds_toArray, List.set_cons_zero, List.set_cons_succ])
  refine wpAnyH_ready (rs := [15]) (by kernel_rfl) (by simp) ?_
  refine AllReadyH.cons (o := _) rfl (fun K hK => ?_) AllReadyH.nil
  go_simp
  go_at_call 15; refine (HA.out _).mono ?_; rintro _ w7 ⟨rfl, k7⟩
  (try go_wp2_with fail)
  refine hK.out _ _ (⟨hHeld.1.kept k7 (fun h => h), hHeld.2.1.kept k7 (fun h => h), hHeld.2.2.trans k7 fun _ _ h => h⟩) (fun hHeld => ?_)
  clear hK K
  (try simp only [List.getElem_toArray, List.getElem_cons_zero, List.getElem_cons_succ, Act.put, List.setIfInBounds_toArray, List.set_cons_zero, List.set_cons_succ])
  refine wpAnyH_take (i := 16) (oi := _) (v := ?_) rfl (by kernel_rfl) (by kernel_rfl) (by kernel_rfl) (fun _ _ _ h => h) (Or.inl ⟨by rfl, ?_⟩) (by assumption) ?_
  rotate_left
  · intro wv hSw; (try dsimp only at hSw); go_simp; (try with_reducible rfl)
  (try simp only [List.getElem_toArray, List.getElem_cons_zero, List.getElem_cons_succ, Act.put, List.setIfInBounds_toArray, List.set_cons_zero, List.set_cons_succ])
  refine wpAnyH_take (i := 17) (oi := _) (v := ?_) rfl (by kernel_rfl) (by kernel_rfl) (by kernel_rfl) (fun _ _ _ h => h) (Or.inl ⟨by rfl, ?_⟩) (by assumption) ?_
  rotate_left
  · intro wv hSw; (try dsimp only at hSw); go_simp; (try with_reducible rfl)
  (try simp only [List.getElem_toArray, List.getElem_cons_zero, List.getElem_cons_succ, Act.put, List.setIfInBounds_toArray, List.set_cons_zero, List.set_cons_succ])
  refine wpAnyH_done (by kernel_rfl) ?_ _
  go_wp2_with fail
  go_ret
  exact ⟨rfl, KEND.trans hHeld.2.2 fun _ _ h => h⟩
end
end Go.Proofs.YtjfmidcaekhhgaaGreatDoor
