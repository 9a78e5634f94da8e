/- The law MsgBack, as a walk. Printed by gen_msu.py. -/
import Derived.Test.YtjfmidcaekhhgaaDoorMsAl
namespace Go.Proofs.YtjfmidcaekhhgaaDoor
open Go.RowKit Go.PM

theorem At.ofOwns {w w' : World} {T : TypeId} {k n cap : Nat} {a : Option Addr} {xs : List Value} (o : Owns w T k a n cap xs) (K : Kept No w w') : ∀ q, At a q → q < w'.heap.size := fun q hq => K.lt (o.lt q hq)
theorem eqlFaultN' (y f : Nat) (h : y = 0 → f = 0) (w : World) : (binOp .neq 46 (.agg #[.int .i64 y, .int .i64 f]) (.agg #[.int .i64 0, .int .i64 0])).run Tryd.prog w = .ok (.bool (!decide (y = 0))) w := by
  rw [neqFault y f h w]; simp
section
variable {w : World}
set_option maxRecDepth 100000 in
set_option maxHeartbeats 2000000 in
theorem msgBack_calls (m : PMsg) (hm : m.Wf) (hs : m.Sm) (a : Option Addr) (c : Nat) (hr : Rd w a (pwsv m.writes)) (hat : ∀ b, At a b → b < w.heap.size) (hc : m.writes.length ≤ c) :
    Calls Tryd.prog 3 #[.agg (msgv m a c).toArray] w fun e w' => e = .returned (.bool true) ∧ Kept No w w' := by
  have B0 := Blk.new w 35 (msgv m a c)
  have K0 := (Kept.refl No w).alloc (.cells (msgv m a c).toArray 35)
  have l33 := msgv_length hm a c
  have hat0 : ∀ b, At a b → b < (w.alloc (.cells (msgv m a c).toArray 35)).heap.size := fun b hb => K0.lt (hat b hb)
  have hr0 := hr.keptNo K0
  have HL := mlong_calls (w := w.alloc (.cells (msgv m a c).toArray 35)) m hm hs a c hr0 hat0 hc
  have s0 := B0.seg0
  have HA := Lib.hid fun w => alive_calls (w := w)
  have HT := Lib.hid fun w => theirs_calls (w := w) m hm a c
  cases hl : longB m
  case true =>
    rw [hl] at HL
    have HL' := Lib.hid HL
    clear HL
    go_enter Tryd.func3, Tryd.ntmps3
    go_wp2_with (with_reducible refine wpList_ld rfl 35 _ rfl Tryd.isAgg35 33 Tryd.sizeOf35 w.heap.size 0 rfl (msgv m a c) l33 s0 ?_)
    refine HL'.out.mono ?_
    rintro _ w1 ⟨rfl, k1⟩
    go_wp2_with fail
    refine (HA.out _).mono ?_
    rintro _ w2 ⟨rfl, k2⟩
    go_wp2_with fail
    go_ret
    exact ⟨rfl, (K0.trans k1 fun _ _ h => h).trans k2 fun _ _ h => h⟩
  case false =>
  rw [hl] at HL
  have HL' := Lib.hid HL
  clear HL
  cases hmay : mMay m
  case false =>
    have HE := Lib.hid (show ∀ w', Kept No w w' → Calls Tryd.prog 8 #[.agg (msgv m a c).toArray] w' fun e w'' => e = .returned (.tuple #[.slice none 0 0, .int .i64 1]) ∧ Kept No w' w'' from fun w' k => by
      have h := encode_calls (w := w') (ad := a) (c := c) m hm hs (hr.keptNo k) fun b hb => k.lt (hat b hb)
      exact h.mono fun e w'' hp => by rw [EncPost, hmay] at hp; exact hp)
    have HM := Lib.hid (show ∀ w', Kept No w w' → Calls Tryd.prog 10 #[.agg (msgv m a c).toArray] w' fun e w'' => e = .returned (.bool false) ∧ Kept No w' w'' from fun w' k => hmay ▸ mMay_calls (w := w') (c := c) m hm hs (hr.keptNo k) fun b hb => k.lt (hat b hb))
    go_enter Tryd.func3, Tryd.ntmps3
    go_wp2_with (with_reducible refine wpList_ld rfl 35 _ rfl Tryd.isAgg35 33 Tryd.sizeOf35 w.heap.size 0 rfl (msgv m a c) l33 s0 ?_)
    refine HL'.out.mono ?_
    rintro _ w1 ⟨rfl, k1⟩
    have s1 := (B0.kept k1 fun h => h).seg0
    go_wp2_with (with_reducible refine wpList_ld rfl 35 _ rfl Tryd.isAgg35 33 Tryd.sizeOf35 w.heap.size 0 rfl (msgv m a c) l33 s1 ?_)
    refine (HT.out _).mono ?_
    rintro _ w2 ⟨rfl, k2⟩
    have k12 := (K0.trans k1 fun _ _ h => h).trans k2 fun _ _ h => h
    have s2 := ((B0.kept k1 fun h => h).kept k2 fun h => h)
    go_wp2_with fail
    refine (HE.out _ k12).mono ?_
    rintro _ w3 ⟨rfl, k3⟩
    have s3 := (s2.kept k3 fun h => h).seg0
    have k13 := k12.trans k3 fun _ _ h => h
    go_wp2_with (with_reducible refine wpList_ld rfl 35 _ rfl Tryd.isAgg35 33 Tryd.sizeOf35 w.heap.size 0 rfl (msgv m a c) l33 s3 ?_)
    refine (HT.out _).mono ?_
    rintro _ w4 ⟨rfl, k4⟩
    have k14 := k13.trans k4 fun _ _ h => h
    go_wp2_with fail
    refine (HM.out _ k14).mono ?_
    rintro _ w5 ⟨rfl, k5⟩
    go_wp2_with fail
    refine (HA.out _).mono ?_
    rintro _ w6 ⟨rfl, k6⟩
    go_wp2_with fail
    go_ret
    exact ⟨rfl, (k14.trans k5 fun _ _ h => h).trans k6 fun _ _ h => h⟩
  case true =>
  have hle := mEnc_le hm hmay
  have hdec := mDec_enc hm hmay
  have HE := Lib.hid (show ∀ w', Kept No w w' → Calls Tryd.prog 8 #[.agg (msgv m a c).toArray] w' fun e w'' => ∃ ae ce, e = .returned (.tuple #[.slice ae (mEnc m).length ce, .int .i64 0]) ∧ Owns w'' 5 1 ae (mEnc m).length ce (bcells (mEnc m)) ∧ Kept No w' w'' from fun w' k => by
    have h := encode_calls (w := w') (ad := a) (c := c) m hm hs (hr.keptNo k) fun b hb => k.lt (hat b hb)
    exact h.mono fun e w'' hp => by
      rw [EncPost, hmay] at hp
      obtain ⟨ae, ce, h1, h2, h3, _⟩ := hp
      exact ⟨ae, ce, h1, h2, h3⟩)
  have hlz : ((mEnc m).length : Int) ≤ 4096 := by omega
  obtain ⟨N, hN⟩ : ∃ N, (mEnc m).length = N := ⟨_, rfl⟩
  rw [hN] at HE hlz
  clear hle
  go_enter Tryd.func3, Tryd.ntmps3
  go_wp2_with (with_reducible refine wpList_ld rfl 35 _ rfl Tryd.isAgg35 33 Tryd.sizeOf35 w.heap.size 0 rfl (msgv m a c) l33 s0 ?_)
  refine HL'.out.mono ?_
  rintro _ w1 ⟨rfl, k1⟩
  have s1 := (B0.kept k1 fun h => h).seg0
  go_wp2_with (with_reducible refine wpList_ld rfl 35 _ rfl Tryd.isAgg35 33 Tryd.sizeOf35 w.heap.size 0 rfl (msgv m a c) l33 s1 ?_)
  refine (HT.out _).mono ?_
  rintro _ w2 ⟨rfl, k2⟩
  have k12 := (K0.trans k1 fun _ _ h => h).trans k2 fun _ _ h => h
  go_wp2_with fail
  refine (HE.out _ k12).mono ?_
  rintro _ w3 ⟨ae, ce, rfl, oe, k3⟩
  have k13 := k12.trans k3 fun _ _ h => h
  have BR := ((B0.kept k1 fun h => h).kept k2 fun h => h).kept k3 fun h => h
  have hce : ae = none → ce = 0 := fun e => by rcases oe.row with ⟨_, _, h3⟩ | ⟨_, _, h3, _⟩; exact h3; rw [e] at h3; cases h3
  have HDC := Lib.hid (decode_calls (w := w3) (mEnc m) ae ce N hN oe.rd (by omega) hce)
  go_wp2_with fail
  refine HDC.out.mono ?_
  intro e w4 h4
  unfold DecPost at h4
  rw [hdec] at h4
  obtain ⟨al, cl, rfl, ol, tl, k4, gl⟩ := h4
  have hf0 : ((0 : Nat) : Int) = 0 := rfl
  simp only [hf0]
  clear hf0 HDC HE HL' s1 s0 hr0 hat0
  have BR4 := BR.kept k4 fun h => h
  have l33' := msgv_length hm al cl
  have hone := msgv_one m al cl
  have hfone : ∀ u ∈ [Value.int .i64 0, .int .i64 0], u.oneCell' = true := fun u hu => by
    simp only [List.mem_cons, List.not_mem_nil, or_false] at hu; rcases hu with rfl | rfl <;> rfl
  have D0 := (Blk.new w4 42 [.int .u8 0, .int .u8 0, .int .u32 0, .int .u32 0, .int .u32 0, .int .u32 0, .int .u32 0, .int .u8 0, .int .u8 0, .int .u8 0, .int .u8 0, .int .u8 0, .int .u8 0, .int .u8 0, .int .u8 0, .int .u8 0, .int .u32 0, .int .u8 0, .int .u8 0, .int .u32 0, .string ⟨#[]⟩, .int .u32 0, .int .u8 0, .int .u8 0, .int .u8 0, .int .u8 0, .int .u8 0, .int .u8 0, .int .u8 0, .int .u8 0, .int .u8 0, .int .u8 0, .slice none 0 0]).alloc (.cells #[.int .i64 0, .int .i64 0] 46)
  have F0 := Blk.new' (w := w4.alloc (.cells #[.int .u8 0, .int .u8 0, .int .u32 0, .int .u32 0, .int .u32 0, .int .u32 0, .int .u32 0, .int .u8 0, .int .u8 0, .int .u8 0, .int .u8 0, .int .u8 0, .int .u8 0, .int .u8 0, .int .u8 0, .int .u8 0, .int .u32 0, .int .u8 0, .int .u8 0, .int .u32 0, .string ⟨#[]⟩, .int .u32 0, .int .u8 0, .int .u8 0, .int .u8 0, .int .u8 0, .int .u8 0, .int .u8 0, .int .u8 0, .int .u8 0, .int .u8 0, .int .u8 0, .slice none 0 0] 42)) (g := w4.heap.size + 1) (by rw [World.size_alloc]) 46 [.int .i64 0, .int .i64 0]
  have F1 := fun cs => F0.kept ((Kept.refl (· = w4.heap.size) _).setRow (fun _ => rfl) cs) (show ¬ w4.heap.size + 1 = w4.heap.size by omega)
  have hs1 : splice ([.int .u8 0, .int .u8 0, .int .u32 0, .int .u32 0, .int .u32 0, .int .u32 0, .int .u32 0, .int .u8 0, .int .u8 0, .int .u8 0, .int .u8 0, .int .u8 0, .int .u8 0, .int .u8 0, .int .u8 0, .int .u8 0, .int .u32 0, .int .u8 0, .int .u8 0, .int .u32 0, .string ⟨#[]⟩, .int .u32 0, .int .u8 0, .int .u8 0, .int .u8 0, .int .u8 0, .int .u8 0, .int .u8 0, .int .u8 0, .int .u8 0, .int .u8 0, .int .u8 0, .slice none 0 0] : List Value) 0 (msgv m al cl) = msgv m al cl := splice_all _ _ l33'
  have hs2 : splice [Value.int .i64 0, .int .i64 0] 0 [.int .i64 0, .int .i64 0] = [.int .i64 0, .int .i64 0] := splice_all _ _ rfl
  have D2 := (D0.setRow (msgv m al cl)).kept ((Kept.refl (· = w4.heap.size + 1) _).setRow (fun _ => rfl) [Value.int .i64 0, .int .i64 0].toArray) (show ¬ w4.heap.size = w4.heap.size + 1 by omega)
  have F2 := (F1 (msgv m al cl).toArray).setRow [Value.int .i64 0, .int .i64 0]
  have K9 := ((((Kept.refl No w4).alloc (.cells #[.int .u8 0, .int .u8 0, .int .u32 0, .int .u32 0, .int .u32 0, .int .u32 0, .int .u32 0, .int .u8 0, .int .u8 0, .int .u8 0, .int .u8 0, .int .u8 0, .int .u8 0, .int .u8 0, .int .u8 0, .int .u8 0, .int .u32 0, .int .u8 0, .int .u8 0, .int .u32 0, .string ⟨#[]⟩, .int .u32 0, .int .u8 0, .int .u8 0, .int .u8 0, .int .u8 0, .int .u8 0, .int .u8 0, .int .u8 0, .int .u8 0, .int .u8 0, .int .u8 0, .slice none 0 0] 42)).alloc (.cells #[.int .i64 0, .int .i64 0] 46)).setRow (g := w4.heap.size) (fun h => absurd h (Nat.lt_irrefl _)) (msgv m al cl).toArray).setRow (g := w4.heap.size + 1) (fun h => absurd h (by omega)) [Value.int .i64 0, .int .i64 0].toArray
  have hS0 := (⟨D2.drewN 1, F2.drewN 1, K9.drewN 1⟩ : (fun w' => Blk w' w4.heap.size 42 (msgv m al cl) ∧ Blk w' (w4.heap.size + 1) 46 [Value.int .i64 0, .int .i64 0] ∧ Kept No w4 w') (World.drewN _ 1))
  have HSame := Lib.hid (show ∀ w', Kept No w4 w' → Calls Tryd.prog 12 #[.agg (msgv m al cl).toArray, .agg (msgv m a c).toArray] w' fun e w'' => e = .returned (.bool true) ∧ Kept No w' w'' from fun w' k => sameM_self m ▸ same_calls (w := w') m m al a cl c hm hm hs hs (ol.rd.keptNo k) (hr.keptNo (((k13.trans k4 fun _ _ h => h)).trans k fun _ _ h => h)) (At.ofOwns ol k) fun b hb => ((k13.trans k4 fun _ _ h => h).trans k fun _ _ h => h).lt (hat b hb))
  have heq := eqlFaultN 0 0 fun _ => rfl
  have hgf := eqGuard_fault
  have KEND := k13.trans k4 fun _ _ h => h
  have HBR := Lib.hid (show ∀ w', Kept No w4 w' → Seg w' w.heap.size 0 (msgv m a c) from fun w' k => (BR4.kept k fun h => h).seg0)
  clear k1 k2 k3 k12 B0 K0 BR oe BR4
  go_wp2_with (first
    | (with_reducible refine wpList_st rfl 42 _ _ rfl 33 Tryd.sizeOf42 w4.heap.size 0 rfl (msgv m al cl) rfl l33' _ _ D0 (by decide) hone ?_; rw [hs1])
    | (with_reducible refine wpList_st rfl 46 _ _ rfl 2 Tryd.sizeOf46 (w4.heap.size + 1) 0 rfl [.int .i64 0, .int .i64 0] rfl rfl _ _ (F1 _) (by decide) hfone ?_; rw [hs2]))
  refine wp_region_held_drew (S := fun w' => Blk w' w4.heap.size 42 (msgv m al cl) ∧ Blk w' (w4.heap.size + 1) 46 [Value.int .i64 0, .int .i64 0] ∧ Kept No w4 w') (by kernel_rfl) (hS0) (fun hHeld => ?_)
  refine wpAnyH_take (i := 0) (oi := _) (v := ?_) rfl (by kernel_rfl) (by kernel_rfl) (by kernel_rfl) (fun _ _ _ h => h) (Or.inl ⟨by rfl, ?_⟩) (by assumption) ?_
  rotate_left
  · intro wv hSw; refine ld_val 46 ?lx1 ?l11 Tryd.isAgg46 2 Tryd.sizeOf46 (w4.heap.size + 1) 0 ?l21 [Value.int .i64 0, .int .i64 0] rfl (hSw.2.1.seg0); (case l11 => rfl); (case l21 => rfl)
  (try simp only [List.getElem_toArray, List.getElem_cons_zero, Act.put, List.setIfInBounds_toArray, List.set_cons_zero, List.set_cons_succ])
  refine wpAnyH_take (i := 1) (oi := _) (v := ?_) rfl (by kernel_rfl) (by kernel_rfl) (by kernel_rfl) (fun _ _ _ h => h) (Or.inl ⟨by rfl, ?_⟩) (by assumption) ?_
  rotate_left
  · intro wv hSw; (try dsimp only at hSw); go_simp; (try with_reducible rfl)
  (try simp only [List.getElem_toArray, List.getElem_cons_zero, List.getElem_cons_succ, Act.put, List.setIfInBounds_toArray, List.set_cons_zero, List.set_cons_succ])
  refine wpAnyH_take (i := 2) (oi := _) (v := ?_) rfl (by kernel_rfl) (by kernel_rfl) (by kernel_rfl) (fun _ _ _ h => h) (Or.inl ⟨by rfl, ?_⟩) (by assumption) ?_
  rotate_left
  · intro wv hSw; (try dsimp only at hSw); go_simp; (try with_reducible rfl)
  (try simp only [List.getElem_toArray, List.getElem_cons_zero, List.getElem_cons_succ, Act.put, List.setIfInBounds_toArray, List.set_cons_zero, List.set_cons_succ])
  refine wpAnyH_take (i := 3) (oi := _) (v := ?_) rfl (by kernel_rfl) (by kernel_rfl) (by kernel_rfl) (fun _ _ _ h => h) (Or.inl ⟨by rfl, ?_⟩) (by assumption) ?_
  rotate_left
  · intro wv hSw; (try dsimp only at hSw); go_simp; (try with_reducible rfl)
  (try simp only [List.getElem_toArray, List.getElem_cons_zero, List.getElem_cons_succ, Act.put, List.setIfInBounds_toArray, List.set_cons_zero, List.set_cons_succ])
  refine wpAnyH_take (i := 4) (oi := _) (v := ?_) rfl (by kernel_rfl) (by kernel_rfl) (by kernel_rfl) (fun _ _ _ h => h) (Or.inl ⟨by rfl, ?_⟩) (by assumption) ?_
  rotate_left
  · intro wv hSw; refine ld_val 42 ?lx2 ?l12 Tryd.isAgg42 33 Tryd.sizeOf42 w4.heap.size 0 ?l22 (msgv m al cl) l33' (hSw.1.seg0); (case l12 => rfl); (case l22 => rfl)
  (try simp only [List.getElem_toArray, List.getElem_cons_zero, List.getElem_cons_succ, Act.put, List.setIfInBounds_toArray, List.set_cons_zero, List.set_cons_succ])
  refine wpAnyH_take (i := 5) (oi := _) (v := ?_) rfl (by kernel_rfl) (by kernel_rfl) (by kernel_rfl) (fun _ _ _ h => h) (Or.inl ⟨by rfl, ?_⟩) (by assumption) ?_
  rotate_left
  · intro wv hSw; refine ld_val 35 ?lx3 ?l13 Tryd.isAgg35 33 Tryd.sizeOf35 w.heap.size 0 ?l23 (msgv m a c) l33 (HBR.out _ hSw.2.2); (case l13 => rfl); (case l23 => rfl)
  (try simp only [List.getElem_toArray, List.getElem_cons_zero, List.getElem_cons_succ, Act.put, List.setIfInBounds_toArray, List.set_cons_zero, List.set_cons_succ])
  refine wpAnyH_ready (rs := [6]) (by kernel_rfl) (by simp) ?_
  refine AllReadyH.cons (o := _) rfl (fun K hK => ?_) AllReadyH.nil
  go_simp
  go_at_call 9; refine (HT.out _).mono ?_; rintro _ w5 ⟨rfl, k5⟩
  (try go_wp2_with fail)
  refine hK.out _ _ (⟨hHeld.1.kept k5 (fun h => h), hHeld.2.1.kept k5 (fun h => h), hHeld.2.2.trans k5 fun _ _ h => h⟩) (fun hHeld => ?_)
  clear hK K
  (try simp only [List.getElem_toArray, List.getElem_cons_zero, List.getElem_cons_succ, Act.put, List.setIfInBounds_toArray, List.set_cons_zero, List.set_cons_succ])
  refine wpAnyH_ready (rs := [7]) (by kernel_rfl) (by simp) ?_
  refine AllReadyH.cons (o := _) rfl (fun K hK => ?_) AllReadyH.nil
  go_simp
  go_at_call 12; refine (HSame.out _ hHeld.2.2).mono ?_; rintro _ w6 ⟨rfl, k6⟩
  (try go_wp2_with fail)
  refine hK.out _ _ (⟨hHeld.1.kept k6 (fun h => h), hHeld.2.1.kept k6 (fun h => h), hHeld.2.2.trans k6 fun _ _ h => h⟩) (fun hHeld => ?_)
  clear hK K
  (try simp only [List.getElem_toArray, List.getElem_cons_zero, List.getElem_cons_succ, Act.put, List.setIfInBounds_toArray, List.set_cons_zero, List.set_cons_succ])
  refine wpAnyH_take (i := 8) (oi := _) (v := ?_) rfl (by kernel_rfl) (by kernel_rfl) (by kernel_rfl) (fun _ _ _ h => h) (Or.inl ⟨by rfl, ?_⟩) (by assumption) ?_
  rotate_left
  · intro wv hSw; (try dsimp only at hSw); go_simp; (try with_reducible rfl)
  (try simp only [List.getElem_toArray, List.getElem_cons_zero, List.getElem_cons_succ, Act.put, List.setIfInBounds_toArray, List.set_cons_zero, List.set_cons_succ])
  refine wpAnyH_take (i := 9) (oi := _) (v := ?_) rfl (by kernel_rfl) (by kernel_rfl) (by kernel_rfl) (fun _ _ _ h => h) (Or.inl ⟨by rfl, ?_⟩) (by assumption) ?_
  rotate_left
  · intro wv hSw; (try dsimp only at hSw); go_simp; (try with_reducible rfl)
  (try simp only [List.getElem_toArray, List.getElem_cons_zero, List.getElem_cons_succ, Act.put, List.setIfInBounds_toArray, List.set_cons_zero, List.set_cons_succ])
  refine wpAnyH_take (i := 10) (oi := _) (v := ?_) rfl (by kernel_rfl) (by kernel_rfl) (by kernel_rfl) (fun _ _ _ h => h) (Or.inl ⟨by rfl, ?_⟩) (by assumption) ?_
  rotate_left
  · intro wv hSw; (try dsimp only at hSw); go_simp; (try with_reducible rfl)
  (try simp only [List.getElem_toArray, List.getElem_cons_zero, List.getElem_cons_succ, Act.put, List.setIfInBounds_toArray, List.set_cons_zero, List.set_cons_succ])
  refine wpAnyH_take (i := 11) (oi := _) (v := ?_) rfl (by kernel_rfl) (by kernel_rfl) (by kernel_rfl) (fun _ _ _ h => h) (Or.inl ⟨by rfl, ?_⟩) (by assumption) ?_
  rotate_left
  · intro wv hSw; (try dsimp only at hSw); go_simp; (try with_reducible rfl)
  (try simp only [List.getElem_toArray, List.getElem_cons_zero, List.getElem_cons_succ, Act.put, List.setIfInBounds_toArray, List.set_cons_zero, List.set_cons_succ])
  refine wpAnyH_take (i := 12) (oi := _) (v := ?_) rfl (by kernel_rfl) (by kernel_rfl) (by kernel_rfl) (fun _ _ _ h => h) (Or.inl ⟨by rfl, ?_⟩) (by assumption) ?_
  rotate_left
  · intro wv hSw; (try dsimp only at hSw); go_simp; (try with_reducible rfl)
  (try simp only [List.getElem_toArray, List.getElem_cons_zero, List.getElem_cons_succ, Act.put, List.setIfInBounds_toArray, List.set_cons_zero, List.set_cons_succ])
  refine wpAnyH_take (i := 13) (oi := _) (v := ?_) rfl (by kernel_rfl) (by kernel_rfl) (by kernel_rfl) (fun _ _ _ h => h) (Or.inl ⟨by rfl, ?_⟩) (by assumption) ?_
  rotate_left
  · intro wv hSw; (try dsimp only at hSw); go_simp; (try with_reducible rfl)
  (try simp only [List.getElem_toArray, List.getElem_cons_zero, List.getElem_cons_succ, Act.put, List.setIfInBounds_toArray, List.set_cons_zero, List.set_cons_succ])
  refine wpAnyH_take (i := 14) (oi := _) (v := ?_) rfl (by kernel_rfl) (by kernel_rfl) (by kernel_rfl) (fun _ _ _ h => h) (Or.inl ⟨by rfl, ?_⟩) (by assumption) ?_
  rotate_left
  · intro wv hSw; (try dsimp only at hSw); go_simp; (try with_reducible rfl)
  (try simp only [List.getElem_toArray, List.getElem_cons_zero, List.getElem_cons_succ, Act.put, List.setIfInBounds_toArray, List.set_cons_zero, List.set_cons_succ])
  refine wpAnyH_ready (rs := [15]) (by kernel_rfl) (by simp) ?_
  refine AllReadyH.cons (o := _) rfl (fun K hK => ?_) AllReadyH.nil
  go_simp
  go_at_call 7; refine (HA.out _).mono ?_; rintro _ w7 ⟨rfl, k7⟩
  (try go_wp2_with fail)
  refine hK.out _ _ (⟨hHeld.1.kept k7 (fun h => h), hHeld.2.1.kept k7 (fun h => h), hHeld.2.2.trans k7 fun _ _ h => h⟩) (fun hHeld => ?_)
  clear hK K
  (try simp only [List.getElem_toArray, List.getElem_cons_zero, List.getElem_cons_succ, Act.put, List.setIfInBounds_toArray, List.set_cons_zero, List.set_cons_succ])
  refine wpAnyH_take (i := 16) (oi := _) (v := ?_) rfl (by kernel_rfl) (by kernel_rfl) (by kernel_rfl) (fun _ _ _ h => h) (Or.inl ⟨by rfl, ?_⟩) (by assumption) ?_
  rotate_left
  · intro wv hSw; (try dsimp only at hSw); go_simp; (try with_reducible rfl)
  (try simp only [List.getElem_toArray, List.getElem_cons_zero, List.getElem_cons_succ, Act.put, List.setIfInBounds_toArray, List.set_cons_zero, List.set_cons_succ])
  refine wpAnyH_take (i := 17) (oi := _) (v := ?_) rfl (by kernel_rfl) (by kernel_rfl) (by kernel_rfl) (fun _ _ _ h => h) (Or.inl ⟨by rfl, ?_⟩) (by assumption) ?_
  rotate_left
  · intro wv hSw; (try dsimp only at hSw); go_simp; (try with_reducible rfl)
  (try simp only [List.getElem_toArray, List.getElem_cons_zero, List.getElem_cons_succ, Act.put, List.setIfInBounds_toArray, List.set_cons_zero, List.set_cons_succ])
  refine wpAnyH_done (by kernel_rfl) ?_ _
  go_wp2_with fail
  go_ret
  exact ⟨rfl, KEND.trans hHeld.2.2 fun _ _ h => h⟩
end
end Go.Proofs.YtjfmidcaekhhgaaDoor
