/- The law MsgOne, as a walk. Printed by gen_msv.py. -/
import Derived.Test.YtjfmidcaekhhgaaDoorMsU
namespace Go.Proofs.YtjfmidcaekhhgaaDoor
open Go.RowKit Go.PM

section
variable {w : World}
set_option maxRecDepth 100000 in
set_option maxHeartbeats 2000000 in
theorem msgOne_calls (b : List UInt8) (n : Nat) (hn : b.length = n) (ab : Option Addr) (cb : Nat) (hr : Rd w ab (bcells b)) (hc : ab = none → cb = 0) :
    Calls Tryd.prog 4 #[.slice ab n cb] w fun e w' => e = .returned (.bool true) ∧ Kept No w w' := by
  have HA := Lib.hid fun w => alive_calls (w := w)
  by_cases hbig : 10000 < n
  · have i1 : (10000 : Int) < n := by omega
    clear hn hr
    go_enter Tryd.func4, Tryd.ntmps4
    go_wp2_with fail
    refine (HA.out _).mono ?_
    rintro _ w2 ⟨rfl, k2⟩
    go_wp2_with fail
    go_ret
    exact ⟨rfl, k2⟩
  have i1 : (n : Int) ≤ 10000 := by omega
  have HDC := decode_calls (w := w) b ab cb n hn hr (by omega) hc
  have hone := mDec_one b
  unfold DecPost at HDC
  obtain ⟨M, y, f, hM⟩ : ∃ M y f, mDec b = (M, y, f) := ⟨_, _, _, rfl⟩
  rw [hM] at HDC hone
  simp only at HDC hone
  have HDC' := Lib.hid HDC
  clear HDC hM hbig
  go_enter Tryd.func4, Tryd.ntmps4
  go_wp2_with fail
  refine HDC'.out.mono ?_
  rintro _ w4 ⟨al, cl, rfl, ol, tl, k4, gl⟩
  clear HDC'
  have hr4 := hr.keptNo k4
  have l33' := msgv_length gl.wf al cl
  have hone' := msgv_one M al cl
  have hfone : ∀ u ∈ [Value.int .i64 y, .int .i64 f], u.oneCell' = true := fun u hu => by
    simp only [List.mem_cons, List.not_mem_nil, or_false] at hu; rcases hu with rfl | rfl <;> rfl
  have D0 := (Blk.new w4 42 [.int .u8 0, .int .u8 0, .int .u32 0, .int .u32 0, .int .u32 0, .int .u32 0, .int .u32 0, .int .u8 0, .int .u8 0, .int .u8 0, .int .u8 0, .int .u8 0, .int .u8 0, .int .u8 0, .int .u8 0, .int .u8 0, .int .u32 0, .int .u8 0, .int .u8 0, .int .u32 0, .string ⟨#[]⟩, .int .u32 0, .int .u8 0, .int .u8 0, .int .u8 0, .int .u8 0, .int .u8 0, .int .u8 0, .int .u8 0, .int .u8 0, .int .u8 0, .int .u8 0, .slice none 0 0]).alloc (.cells #[.int .i64 0, .int .i64 0] 46)
  have F0 := Blk.new' (w := w4.alloc (.cells #[.int .u8 0, .int .u8 0, .int .u32 0, .int .u32 0, .int .u32 0, .int .u32 0, .int .u32 0, .int .u8 0, .int .u8 0, .int .u8 0, .int .u8 0, .int .u8 0, .int .u8 0, .int .u8 0, .int .u8 0, .int .u8 0, .int .u32 0, .int .u8 0, .int .u8 0, .int .u32 0, .string ⟨#[]⟩, .int .u32 0, .int .u8 0, .int .u8 0, .int .u8 0, .int .u8 0, .int .u8 0, .int .u8 0, .int .u8 0, .int .u8 0, .int .u8 0, .int .u8 0, .slice none 0 0] 42)) (g := w4.heap.size + 1) (by rw [World.size_alloc]) 46 [.int .i64 0, .int .i64 0]
  have F1 := fun cs => F0.kept ((Kept.refl (· = w4.heap.size) _).setRow (fun _ => rfl) cs) (show ¬ w4.heap.size + 1 = w4.heap.size by omega)
  have hs1 : splice ([.int .u8 0, .int .u8 0, .int .u32 0, .int .u32 0, .int .u32 0, .int .u32 0, .int .u32 0, .int .u8 0, .int .u8 0, .int .u8 0, .int .u8 0, .int .u8 0, .int .u8 0, .int .u8 0, .int .u8 0, .int .u8 0, .int .u32 0, .int .u8 0, .int .u8 0, .int .u32 0, .string ⟨#[]⟩, .int .u32 0, .int .u8 0, .int .u8 0, .int .u8 0, .int .u8 0, .int .u8 0, .int .u8 0, .int .u8 0, .int .u8 0, .int .u8 0, .int .u8 0, .slice none 0 0] : List Value) 0 (msgv M al cl) = msgv M al cl := splice_all _ _ l33'
  have hs2 : splice [Value.int .i64 0, .int .i64 0] 0 [.int .i64 y, .int .i64 f] = [.int .i64 y, .int .i64 f] := splice_all _ _ rfl
  have D2 := (D0.setRow (msgv M al cl)).kept ((Kept.refl (· = w4.heap.size + 1) _).setRow (fun _ => rfl) [Value.int .i64 y, .int .i64 f].toArray) (show ¬ w4.heap.size = w4.heap.size + 1 by omega)
  have F2 := (F1 (msgv M al cl).toArray).setRow [Value.int .i64 y, .int .i64 f]
  have K9 := ((((Kept.refl No w4).alloc (.cells #[.int .u8 0, .int .u8 0, .int .u32 0, .int .u32 0, .int .u32 0, .int .u32 0, .int .u32 0, .int .u8 0, .int .u8 0, .int .u8 0, .int .u8 0, .int .u8 0, .int .u8 0, .int .u8 0, .int .u8 0, .int .u8 0, .int .u32 0, .int .u8 0, .int .u8 0, .int .u32 0, .string ⟨#[]⟩, .int .u32 0, .int .u8 0, .int .u8 0, .int .u8 0, .int .u8 0, .int .u8 0, .int .u8 0, .int .u8 0, .int .u8 0, .int .u8 0, .int .u8 0, .slice none 0 0] 42)).alloc (.cells #[.int .i64 0, .int .i64 0] 46)).setRow (g := w4.heap.size) (fun h => absurd h (Nat.lt_irrefl _)) (msgv M al cl).toArray).setRow (g := w4.heap.size + 1) (fun h => absurd h (by omega)) [Value.int .i64 y, .int .i64 f].toArray
  have sD := D2.seg0
  have sF := F2.seg0
  have cF := F2.cell 1
  simp only [List.getElem?_cons_succ, List.getElem?_cons_zero] at cF
  have hgf := eqGuard_fault
  rcases hone with ⟨rfl, rfl, henc, hmay⟩ | ⟨hy, h17, hfl, rfl⟩
  · have hf0 : ((0 : Nat) : Int) = 0 := rfl
    simp only [hf0] at *
    clear hf0
    have heq := eqlFaultN' 0 0 fun _ => rfl
    have HE := Lib.hid (show ∀ w', Kept No w4 w' → Calls Tryd.prog 8 #[.agg (msgv M al cl).toArray] w' fun e w'' => ∃ ae ce, e = .returned (.tuple #[.slice ae n ce, .int .i64 0]) ∧ Owns w'' 5 1 ae n ce (bcells b) ∧ Kept No w' w'' from fun w' k => by
      have h := encode_calls (w := w') (ad := al) (c := cl) M gl.wf gl.sm (ol.rd.keptNo k) (At.ofOwns ol k)
      exact h.mono fun e w'' hp => by
        rw [EncPost, hmay, henc, hn] at hp
        obtain ⟨ae, ce, h1, h2, h3, _⟩ := hp
        exact ⟨ae, ce, h1, h2, h3⟩)
    have HM := Lib.hid (show ∀ w', Kept No w4 w' → Calls Tryd.prog 10 #[.agg (msgv M al cl).toArray] w' fun e w'' => e = .returned (.bool true) ∧ Kept No w' w'' from fun w' k => hmay ▸ mMay_calls (w := w') (c := cl) M gl.wf gl.sm (ol.rd.keptNo k) (At.ofOwns ol k))
    have HBS := Lib.hid (show ∀ w' ae ce, Owns w' 5 1 ae n ce (bcells b) → Kept No w4 w' → Calls Tryd.prog 13 #[.slice ae n ce, .slice ab n cb] w' fun e w'' => e = .returned (.bool true) ∧ w' = w'' from fun w' ae ce o k => by
      have h := bsame_calls (w := w') b b n n hn hn ae ab ce cb o.rd (hr4.keptNo k)
      rwa [show (b == b) = true by simp] at h)
    clear henc hmay hn hr hr4 ol tl
    go_wp2_with (first
      | (with_reducible refine wpList_st rfl 42 _ _ rfl 33 Tryd.sizeOf42 w4.heap.size 0 rfl (msgv M al cl) rfl l33' _ _ D0 (by decide) hone' ?_; rw [hs1])
      | (with_reducible refine wpList_st rfl 46 _ _ rfl 2 Tryd.sizeOf46 (w4.heap.size + 1) 0 rfl [.int .i64 0, .int .i64 0] rfl rfl _ _ (F1 _) (by decide) hfone ?_; rw [hs2])
      | (with_reducible refine wpList_ld rfl 46 _ rfl Tryd.isAgg46 2 Tryd.sizeOf46 (w4.heap.size + 1) 0 rfl [.int .i64 0, .int .i64 0] rfl sF ?_)
      | (with_reducible refine wpList_ld rfl 42 _ rfl Tryd.isAgg42 33 Tryd.sizeOf42 w4.heap.size 0 rfl (msgv M al cl) l33' sD ?_))
    refine (HE.out _ K9).mono ?_
    rintro _ w5 ⟨ae, ce, rfl, oe, k5⟩
    have K95 := K9.trans k5 fun _ _ h => h
    have sD5 := (D2.kept k5 fun h => h).seg0
    go_wp2_with fail
    refine (HBS.out _ _ _ oe K95).mono ?_
    rintro _ w6 ⟨rfl, rfl⟩
    go_wp2_with (with_reducible refine wpList_ld rfl 42 _ rfl Tryd.isAgg42 33 Tryd.sizeOf42 w4.heap.size 0 rfl (msgv M al cl) l33' sD5 ?_)
    refine (HM.out _ K95).mono ?_
    rintro _ w6 ⟨rfl, k6⟩
    go_wp2_with fail
    refine (HA.out _).mono ?_
    rintro _ w7 ⟨rfl, k7⟩
    go_wp2_with fail
    go_ret
    exact ⟨rfl, ((k4.trans K95 fun _ _ h => h).trans k6 fun _ _ h => h).trans k7 fun _ _ h => h⟩
  · have heq := fun w => eqlFaultN' y f (fun h => absurd h hy) w
    have hd : decide (y = 0) = false := decide_eq_false hy
    simp only [hd] at heq
    clear hd
    have i2 : (0 : Int) ≤ f := by omega
    have i3 : (f : Int) ≤ n := by omega
    have HSame := Lib.hid (show ∀ w', Kept No w4 w' → Calls Tryd.prog 12 #[.agg (msgv (zeroMsg 0) al cl).toArray, .agg #[.int .u8 0, .int .u8 0, .int .u32 0, .int .u32 0, .int .u32 0, .int .u32 0, .int .u32 0, .int .u8 0, .int .u8 0, .int .u8 0, .int .u8 0, .int .u8 0, .int .u8 0, .int .u8 0, .int .u8 0, .int .u8 0, .int .u32 0, .int .u8 0, .int .u8 0, .int .u32 0, .string ⟨#[]⟩, .int .u32 0, .int .u8 0, .int .u8 0, .int .u8 0, .int .u8 0, .int .u8 0, .int .u8 0, .int .u8 0, .int .u8 0, .int .u8 0, .int .u8 0, .slice none 0 0]] w' fun e w'' => e = .returned (.bool true) ∧ Kept No w' w'' from fun w' k => sameM_self (zeroMsg 0) ▸ same_calls (w := w') (zeroMsg 0) (zeroMsg 0) al none cl 0 gl.wf gl.wf gl.sm gl.sm (ol.rd.keptNo k) (Rd.nil _ _) (At.ofOwns ol k) (fun q ⟨_, _, e, _⟩ => nomatch e))
    generalize hz : msgv (zeroMsg 0) al cl = Z at *
    clear hz hn hr hr4 ol tl hy h17 hfl
    go_wp2_with (first
      | (with_reducible refine wpList_st rfl 42 _ _ rfl 33 Tryd.sizeOf42 w4.heap.size 0 rfl Z rfl l33' _ _ D0 (by decide) hone' ?_; rw [hs1])
      | (with_reducible refine wpList_st rfl 46 _ _ rfl 2 Tryd.sizeOf46 (w4.heap.size + 1) 0 rfl [.int .i64 y, .int .i64 f] rfl rfl _ _ (F1 _) (by decide) hfone ?_; rw [hs2])
      | (with_reducible refine wpList_ld rfl 46 _ rfl Tryd.isAgg46 2 Tryd.sizeOf46 (w4.heap.size + 1) 0 rfl [.int .i64 y, .int .i64 f] rfl sF ?_)
      | (with_reducible refine wpList_ld rfl 42 _ rfl Tryd.isAgg42 33 Tryd.sizeOf42 w4.heap.size 0 rfl Z l33' sD ?_))
    refine (HSame.out _ K9).mono ?_
    rintro _ w5 ⟨rfl, k5⟩
    have c5 := (F2.kept k5 fun h => h).cell 1
    simp only [List.getElem?_cons_succ, List.getElem?_cons_zero] at c5
    go_wp2_with fail
    refine (HA.out _).mono ?_
    rintro _ w7 ⟨rfl, k7⟩
    go_wp2_with fail
    go_ret
    exact ⟨rfl, ((k4.trans K9 fun _ _ h => h).trans k5 fun _ _ h => h).trans k7 fun _ _ h => h⟩
end
end Go.Proofs.YtjfmidcaekhhgaaDoor
