/- An Ended's bytes; the law RecOne: walks. Printed by gen_rcv.py. -/
import Derived.Test.YtjfmidcaekhhgaaDoorRcU
import Derived.Test.YtjfmidcaekhhgaaDoorMsU
namespace Go.Proofs.YtjfmidcaekhhgaaDoor
open Go.RowKit Go.PM

/-- An Ended. -/
def endR : PRec := { zeroRec 6 with tx := (1, 2, 3) }
def endB : List UInt8 := [6, 1, 2, 3]
theorem endR_gd : endR.Gd := by
  have h := zeroRec_gd 6 (by decide)
  exact ⟨⟨h.wf.kind, h.wf.n, ⟨by decide, by decide, by decide⟩, h.wf.reg, h.wf.members, h.wf.writes, h.wf.missing, h.wf.key, h.wf.item⟩, h.item, h.each, h.many, h.miss⟩
theorem endR_may : rMay endR = true := by decide +kernel
theorem endR_enc : rEnc endR = endB := by
  show UInt8.ofNat 6 :: Re.puts [.tx] endR = endB
  show UInt8.ofNat 6 :: (([UInt8.ofNat 1] ++ (short 2 ++ short 3)) ++ []) = endB
  rw [short_one (by decide), short_one (by decide)]
  rfl
theorem endR_dec : rDec endB = (endR, 0, 0) := by rw [← endR_enc]; exact rDec_enc endR_gd.wf endR_may

section
variable {w : World}
set_option maxRecDepth 100000 in
set_option maxHeartbeats 2000000 in
theorem ralive_calls : Calls Tryd.prog 14 #[] w fun e w' => e = .returned (.bool true) ∧ Kept No w w' := by
  have HE : Hid (Calls Tryd.prog 17 #[.agg #[.int .u8 6, .int .u32 0, .int .u8 1, .int .u32 2, .int .u32 3, .int .u32 0, .int .u32 0, .int .u64 0, .slice none 0 0, .slice none 0 0, .int .u8 0, .int .u8 0, .int .u8 0, .int .u8 0, .int .u8 0, .int .u8 0, .int .u8 0, .int .u8 0, .int .u32 0, .string ⟨#[]⟩, .int .u32 0, .int .u8 0, .int .u8 0, .int .u8 0, .int .u8 0, .int .u8 0, .int .u8 0, .int .u8 0, .int .u8 0, .int .u8 0, .int .u8 0]] w (REncPost w endR)) := Lib.hid (rencode_calls (aw := none) (cw := 0) (am := none) (cm := 0) endR endR_gd.wf endR_gd.sm (Rd.nil _ _) (Rd.nil _ _) (fun b ⟨_, _, e, _⟩ => nomatch e) (fun b ⟨_, _, e, _⟩ => nomatch e))
  go_enter Tryd.func14, Tryd.ntmps14
  go_wp2_with fail
  refine HE.out.mono ?_
  intro e w1 h1
  unfold REncPost at h1
  rw [if_pos endR_may, endR_enc, show endB.length = 4 from rfl] at h1
  obtain ⟨a, cap, rfl, o1, k1, t1⟩ := h1
  have hc : a = none → cap = 0 := fun e => by rcases o1.row with ⟨_, _, h3⟩ | ⟨_, _, h3, _⟩; exact h3; rw [e] at h3; cases h3
  have HDC := Lib.hid (rdecode_calls (w := w1) endB a cap 4 rfl o1.rd (by decide) hc)
  clear HE
  go_wp2_with fail
  refine HDC.out.mono ?_
  intro e w2 h2
  unfold RDecPost at h2
  rw [endR_dec] at h2
  obtain ⟨aw, cw, am, cm, rfl, ow, om, tw, tm, k2, gl⟩ := h2
  have hf0 : ((0 : Nat) : Int) = 0 := rfl
  simp only [hf0]
  clear hf0
  have o2 := o1.keptNo k2
  have D0 := (Blk.new w2 55 [.int .u8 0, .int .u32 0, .int .u8 0, .int .u32 0, .int .u32 0, .int .u32 0, .int .u32 0, .int .u64 0, .slice none 0 0, .slice none 0 0, .int .u8 0, .int .u8 0, .int .u8 0, .int .u8 0, .int .u8 0, .int .u8 0, .int .u8 0, .int .u8 0, .int .u32 0, .string ⟨#[]⟩, .int .u32 0, .int .u8 0, .int .u8 0, .int .u8 0, .int .u8 0, .int .u8 0, .int .u8 0, .int .u8 0, .int .u8 0, .int .u8 0, .int .u8 0]).alloc (.cells #[.int .i64 0, .int .i64 0] 46)
  have F0 := Blk.new' (w := w2.alloc (.cells #[.int .u8 0, .int .u32 0, .int .u8 0, .int .u32 0, .int .u32 0, .int .u32 0, .int .u32 0, .int .u64 0, .slice none 0 0, .slice none 0 0, .int .u8 0, .int .u8 0, .int .u8 0, .int .u8 0, .int .u8 0, .int .u8 0, .int .u8 0, .int .u8 0, .int .u32 0, .string ⟨#[]⟩, .int .u32 0, .int .u8 0, .int .u8 0, .int .u8 0, .int .u8 0, .int .u8 0, .int .u8 0, .int .u8 0, .int .u8 0, .int .u8 0, .int .u8 0] 55)) (g := w2.heap.size + 1) (by rw [World.size_alloc]) 46 [.int .i64 0, .int .i64 0]
  have l31 : (recv endR aw cw am cm).length = 31 := rfl
  have hone := recv_one endR aw cw am cm
  have hfone : ∀ u ∈ [Value.int .i64 0, .int .i64 0], u.oneCell' = true := fun u hu => by
    simp only [List.mem_cons, List.not_mem_nil, or_false] at hu; rcases hu with rfl | rfl <;> rfl
  have F1 := fun cs => F0.kept ((Kept.refl (· = w2.heap.size) _).setRow (fun _ => rfl) cs) (show ¬ w2.heap.size + 1 = w2.heap.size by omega)
  have hs1 : splice ([.int .u8 0, .int .u32 0, .int .u8 0, .int .u32 0, .int .u32 0, .int .u32 0, .int .u32 0, .int .u64 0, .slice none 0 0, .slice none 0 0, .int .u8 0, .int .u8 0, .int .u8 0, .int .u8 0, .int .u8 0, .int .u8 0, .int .u8 0, .int .u8 0, .int .u32 0, .string ⟨#[]⟩, .int .u32 0, .int .u8 0, .int .u8 0, .int .u8 0, .int .u8 0, .int .u8 0, .int .u8 0, .int .u8 0, .int .u8 0, .int .u8 0, .int .u8 0] : List Value) 0 (recv endR aw cw am cm) = recv endR aw cw am cm := splice_all _ _ rfl
  have hs2 : splice [Value.int .i64 0, .int .i64 0] 0 [.int .i64 0, .int .i64 0] = [.int .i64 0, .int .i64 0] := splice_all _ _ rfl
  clear HDC
  go_wp2_with (first
    | (with_reducible refine wpList_st rfl 55 (.tmp 3) _ rfl 31 Tryd.sizeOf55 w2.heap.size 0 rfl (recv endR aw cw am cm) rfl l31 _ _ D0 (by decide) hone ?_; rw [hs1])
    | (with_reducible refine wpList_st rfl 46 (.tmp 4) _ rfl 2 Tryd.sizeOf46 (w2.heap.size + 1) 0 rfl [.int .i64 0, .int .i64 0] rfl rfl _ _ (F1 _) (by decide) hfone ?_; rw [hs2]))
  have D2 := (((D0.setRow (recv endR aw cw am cm)).kept ((Kept.refl (· = w2.heap.size + 1) _).setRow (fun _ => rfl) [Value.int .i64 0, .int .i64 0].toArray) (show ¬ w2.heap.size = w2.heap.size + 1 by omega)).alloc (.cells #[.int .u8 6, .int .u8 1, .int .u8 2, .int .u8 3] 5))
  have F2 := (((F1 (recv endR aw cw am cm).toArray).setRow [Value.int .i64 0, .int .i64 0]).alloc (.cells #[.int .u8 6, .int .u8 1, .int .u8 2, .int .u8 3] 5))
  have K9 := ((((((Kept.refl No w2).alloc (.cells #[.int .u8 0, .int .u32 0, .int .u8 0, .int .u32 0, .int .u32 0, .int .u32 0, .int .u32 0, .int .u64 0, .slice none 0 0, .slice none 0 0, .int .u8 0, .int .u8 0, .int .u8 0, .int .u8 0, .int .u8 0, .int .u8 0, .int .u8 0, .int .u8 0, .int .u32 0, .string ⟨#[]⟩, .int .u32 0, .int .u8 0, .int .u8 0, .int .u8 0, .int .u8 0, .int .u8 0, .int .u8 0, .int .u8 0, .int .u8 0, .int .u8 0, .int .u8 0] 55)).alloc (.cells #[.int .i64 0, .int .i64 0] 46)).setRow (g := w2.heap.size) (fun h => absurd h (Nat.lt_irrefl _)) (recv endR aw cw am cm).toArray).setRow (g := w2.heap.size + 1) (fun h => absurd h (by omega)) [Value.int .i64 0, .int .i64 0].toArray).alloc (.cells #[.int .u8 6, .int .u8 1, .int .u8 2, .int .u8 3] 5))
  have hsz : (((((w2.alloc (.cells #[.int .u8 0, .int .u32 0, .int .u8 0, .int .u32 0, .int .u32 0, .int .u32 0, .int .u32 0, .int .u64 0, .slice none 0 0, .slice none 0 0, .int .u8 0, .int .u8 0, .int .u8 0, .int .u8 0, .int .u8 0, .int .u8 0, .int .u8 0, .int .u8 0, .int .u32 0, .string ⟨#[]⟩, .int .u32 0, .int .u8 0, .int .u8 0, .int .u8 0, .int .u8 0, .int .u8 0, .int .u8 0, .int .u8 0, .int .u8 0, .int .u8 0, .int .u8 0] 55)).alloc (.cells #[.int .i64 0, .int .i64 0] 46)).setRow w2.heap.size (recv endR aw cw am cm).toArray).setRow (w2.heap.size + 1) [Value.int .i64 0, .int .i64 0].toArray)).heap.size = w2.heap.size + 1 + 1 := by
    rw [size_setRow, size_setRow, World.size_alloc, World.size_alloc]
  have Y9 := Blk.new' (w := ((((w2.alloc (.cells #[.int .u8 0, .int .u32 0, .int .u8 0, .int .u32 0, .int .u32 0, .int .u32 0, .int .u32 0, .int .u64 0, .slice none 0 0, .slice none 0 0, .int .u8 0, .int .u8 0, .int .u8 0, .int .u8 0, .int .u8 0, .int .u8 0, .int .u8 0, .int .u8 0, .int .u32 0, .string ⟨#[]⟩, .int .u32 0, .int .u8 0, .int .u8 0, .int .u8 0, .int .u8 0, .int .u8 0, .int .u8 0, .int .u8 0, .int .u8 0, .int .u8 0, .int .u8 0] 55)).alloc (.cells #[.int .i64 0, .int .i64 0] 46)).setRow w2.heap.size (recv endR aw cw am cm).toArray).setRow (w2.heap.size + 1) [Value.int .i64 0, .int .i64 0].toArray)) (g := w2.heap.size + 1 + 1) hsz.symm 5 (bcells endB)
  have c0 := (D2.cell 0).trans (show (recv endR aw cw am cm)[0]? = some (.int .u8 6) from rfl)
  have c3 := (D2.cell 3).trans (show (recv endR aw cw am cm)[3]? = some (.int .u32 2) from rfl)
  have sF := F2.seg0
  have heq := fun w => eqlFaultN 0 0 (fun _ => rfl) w
  have hgf := eqGuard_fault
  have HBS := Lib.hid (bsame_calls endB endB 4 4 rfl rfl a (some ⟨w2.heap.size + 1 + 1, 0, none⟩) cap 4 (o2.rd.keptNo K9) (Rd.ofBlk' Y9))
  refine HBS.out.mono ?_
  rintro _ w9 ⟨rfl, rfl⟩
  rw [show (endB == endB) = true from rfl]
  have KK9 := (k1.trans k2 fun _ _ h => h).trans K9 fun _ _ h => h
  clear HBS Y9 hsz
  go_wp2_with (with_reducible refine wpList_ld rfl 46 (.tmp 4) rfl Tryd.isAgg46 2 Tryd.sizeOf46 (w2.heap.size + 1) 0 rfl [.int .i64 0, .int .i64 0] rfl sF ?_)
  go_ret
  exact ⟨rfl, KK9⟩

set_option maxRecDepth 100000 in
set_option maxHeartbeats 2000000 in
theorem recOne_calls (b : List UInt8) (n : Nat) (hn : b.length = n) (ab : Option Addr) (cb : Nat) (hr : Rd w ab (bcells b)) (hc : ab = none → cb = 0) :
    Calls Tryd.prog 5 #[.slice ab n cb] w fun e w' => e = .returned (.bool true) ∧ Kept No w w' := by
  have HA := Lib.hid fun w => ralive_calls (w := w)
  by_cases hbig : 10000 < n
  · have i1 : (10000 : Int) < n := by omega
    clear hn hr
    go_enter Tryd.func5, Tryd.ntmps5
    go_wp2_with fail
    refine (HA.out _).mono ?_
    rintro _ w2 ⟨rfl, k2⟩
    go_wp2_with fail
    go_ret
    exact ⟨rfl, k2⟩
  have i1 : (n : Int) ≤ 10000 := by omega
  have HDC := rdecode_calls (w := w) b ab cb n hn hr (by omega) hc
  have hone := rDec_one b
  unfold RDecPost at HDC
  obtain ⟨M, y, f, hM⟩ : ∃ M y f, rDec b = (M, y, f) := ⟨_, _, _, rfl⟩
  rw [hM] at HDC hone
  simp only at HDC hone
  have HDC' := Lib.hid HDC
  clear HDC hM hbig
  go_enter Tryd.func5, Tryd.ntmps5
  go_wp2_with fail
  refine HDC'.out.mono ?_
  rintro _ w4 ⟨aw, cw, am, cm, rfl, ow, om, tw, tm, k4, gl⟩
  clear HDC'
  have hr4 := hr.keptNo k4
  have l31' := recv_length gl.wf aw cw am cm
  have hone' := recv_one M aw cw am cm
  have hfone : ∀ u ∈ [Value.int .i64 y, .int .i64 f], u.oneCell' = true := fun u hu => by
    simp only [List.mem_cons, List.not_mem_nil, or_false] at hu; rcases hu with rfl | rfl <;> rfl
  have D0 := (Blk.new w4 55 [.int .u8 0, .int .u32 0, .int .u8 0, .int .u32 0, .int .u32 0, .int .u32 0, .int .u32 0, .int .u64 0, .slice none 0 0, .slice none 0 0, .int .u8 0, .int .u8 0, .int .u8 0, .int .u8 0, .int .u8 0, .int .u8 0, .int .u8 0, .int .u8 0, .int .u32 0, .string ⟨#[]⟩, .int .u32 0, .int .u8 0, .int .u8 0, .int .u8 0, .int .u8 0, .int .u8 0, .int .u8 0, .int .u8 0, .int .u8 0, .int .u8 0, .int .u8 0]).alloc (.cells #[.int .i64 0, .int .i64 0] 46)
  have F0 := Blk.new' (w := w4.alloc (.cells #[.int .u8 0, .int .u32 0, .int .u8 0, .int .u32 0, .int .u32 0, .int .u32 0, .int .u32 0, .int .u64 0, .slice none 0 0, .slice none 0 0, .int .u8 0, .int .u8 0, .int .u8 0, .int .u8 0, .int .u8 0, .int .u8 0, .int .u8 0, .int .u8 0, .int .u32 0, .string ⟨#[]⟩, .int .u32 0, .int .u8 0, .int .u8 0, .int .u8 0, .int .u8 0, .int .u8 0, .int .u8 0, .int .u8 0, .int .u8 0, .int .u8 0, .int .u8 0] 55)) (g := w4.heap.size + 1) (by rw [World.size_alloc]) 46 [.int .i64 0, .int .i64 0]
  have F1 := fun cs => F0.kept ((Kept.refl (· = w4.heap.size) _).setRow (fun _ => rfl) cs) (show ¬ w4.heap.size + 1 = w4.heap.size by omega)
  have hs1 : splice ([.int .u8 0, .int .u32 0, .int .u8 0, .int .u32 0, .int .u32 0, .int .u32 0, .int .u32 0, .int .u64 0, .slice none 0 0, .slice none 0 0, .int .u8 0, .int .u8 0, .int .u8 0, .int .u8 0, .int .u8 0, .int .u8 0, .int .u8 0, .int .u8 0, .int .u32 0, .string ⟨#[]⟩, .int .u32 0, .int .u8 0, .int .u8 0, .int .u8 0, .int .u8 0, .int .u8 0, .int .u8 0, .int .u8 0, .int .u8 0, .int .u8 0, .int .u8 0] : List Value) 0 (recv M aw cw am cm) = recv M aw cw am cm := splice_all _ _ l31'
  have hs2 : splice [Value.int .i64 0, .int .i64 0] 0 [.int .i64 y, .int .i64 f] = [.int .i64 y, .int .i64 f] := splice_all _ _ rfl
  have D2 := (D0.setRow (recv M aw cw am cm)).kept ((Kept.refl (· = w4.heap.size + 1) _).setRow (fun _ => rfl) [Value.int .i64 y, .int .i64 f].toArray) (show ¬ w4.heap.size = w4.heap.size + 1 by omega)
  have F2 := (F1 (recv M aw cw am cm).toArray).setRow [Value.int .i64 y, .int .i64 f]
  have K9 := ((((Kept.refl No w4).alloc (.cells #[.int .u8 0, .int .u32 0, .int .u8 0, .int .u32 0, .int .u32 0, .int .u32 0, .int .u32 0, .int .u64 0, .slice none 0 0, .slice none 0 0, .int .u8 0, .int .u8 0, .int .u8 0, .int .u8 0, .int .u8 0, .int .u8 0, .int .u8 0, .int .u8 0, .int .u32 0, .string ⟨#[]⟩, .int .u32 0, .int .u8 0, .int .u8 0, .int .u8 0, .int .u8 0, .int .u8 0, .int .u8 0, .int .u8 0, .int .u8 0, .int .u8 0, .int .u8 0] 55)).alloc (.cells #[.int .i64 0, .int .i64 0] 46)).setRow (g := w4.heap.size) (fun h => absurd h (Nat.lt_irrefl _)) (recv M aw cw am cm).toArray).setRow (g := w4.heap.size + 1) (fun h => absurd h (by omega)) [Value.int .i64 y, .int .i64 f].toArray
  have sD := D2.seg0
  have sF := F2.seg0
  have cF := F2.cell 1
  simp only [List.getElem?_cons_succ, List.getElem?_cons_zero] at cF
  have hgf := eqGuard_fault
  rcases hone with ⟨rfl, rfl, henc, hmay⟩ | ⟨hy, h17, hfl, rfl⟩
  · have hf0 : ((0 : Nat) : Int) = 0 := rfl
    simp only [hf0] at *
    clear hf0
    have heq := eqlFaultN' 0 0 fun _ => rfl
    have HE := Lib.hid (show ∀ w', Kept No w4 w' → Calls Tryd.prog 17 #[.agg (recv M aw cw am cm).toArray] w' fun e w'' => ∃ ae ce, e = .returned (.tuple #[.slice ae n ce, .int .i64 0]) ∧ Owns w'' 5 1 ae n ce (bcells b) ∧ Kept No w' w'' from fun w' k => by
      have h := rencode_calls (w := w') (aw := aw) (cw := cw) (am := am) (cm := cm) M gl.wf gl.sm (ow.rd.keptNo k) (om.rd.keptNo k) (At.ofOwns ow k) (At.ofOwns om k)
      exact h.mono fun e w'' hp => by
        rw [REncPost, hmay, henc, hn] at hp
        obtain ⟨ae, ce, h1, h2, h3, _⟩ := hp
        exact ⟨ae, ce, h1, h2, h3⟩)
    have HM := Lib.hid (show ∀ w', Kept No w4 w' → Calls Tryd.prog 18 #[.agg (recv M aw cw am cm).toArray] w' fun e w'' => e = .returned (.bool true) ∧ Kept No w' w'' from fun w' k => hmay ▸ rMay_calls (w := w') (cw := cw) (cm := cm) M gl.wf gl.sm (ow.rd.keptNo k) (om.rd.keptNo k) (At.ofOwns ow k) (At.ofOwns om k))
    have HBS := Lib.hid (show ∀ w' ae ce, Owns w' 5 1 ae n ce (bcells b) → Kept No w4 w' → Calls Tryd.prog 13 #[.slice ae n ce, .slice ab n cb] w' fun e w'' => e = .returned (.bool true) ∧ w' = w'' from fun w' ae ce o k => by
      have h := bsame_calls (w := w') b b n n hn hn ae ab ce cb o.rd (hr4.keptNo k)
      rwa [show (b == b) = true by simp] at h)
    clear henc hmay hn hr hr4 ow om tw tm
    go_wp2_with (first
      | (with_reducible refine wpList_st rfl 55 _ _ rfl 31 Tryd.sizeOf55 w4.heap.size 0 rfl (recv M aw cw am cm) rfl l31' _ _ D0 (by decide) hone' ?_; rw [hs1])
      | (with_reducible refine wpList_st rfl 46 _ _ rfl 2 Tryd.sizeOf46 (w4.heap.size + 1) 0 rfl [.int .i64 0, .int .i64 0] rfl rfl _ _ (F1 _) (by decide) hfone ?_; rw [hs2])
      | (with_reducible refine wpList_ld rfl 46 _ rfl Tryd.isAgg46 2 Tryd.sizeOf46 (w4.heap.size + 1) 0 rfl [.int .i64 0, .int .i64 0] rfl sF ?_)
      | (with_reducible refine wpList_ld rfl 55 _ rfl Tryd.isAgg55 31 Tryd.sizeOf55 w4.heap.size 0 rfl (recv M aw cw am cm) l31' sD ?_))
    refine (HE.out _ K9).mono ?_
    rintro _ w5 ⟨ae, ce, rfl, oe, k5⟩
    have K95 := K9.trans k5 fun _ _ h => h
    have sD5 := (D2.kept k5 fun h => h).seg0
    go_wp2_with fail
    refine (HBS.out _ _ _ oe K95).mono ?_
    rintro _ w6 ⟨rfl, rfl⟩
    go_wp2_with (with_reducible refine wpList_ld rfl 55 _ rfl Tryd.isAgg55 31 Tryd.sizeOf55 w4.heap.size 0 rfl (recv M aw cw am cm) l31' sD5 ?_)
    refine (HM.out _ K95).mono ?_
    rintro _ w6 ⟨rfl, k6⟩
    go_wp2_with fail
    refine (HA.out _).mono ?_
    rintro _ w7 ⟨rfl, k7⟩
    go_wp2_with fail
    go_ret
    exact ⟨rfl, ((k4.trans K95 fun _ _ h => h).trans k6 fun _ _ h => h).trans k7 fun _ _ h => h⟩
  · have heq := fun w => eqlFaultN' y f (fun h => absurd h hy) w
    have hd : decide (y = 0) = false := decide_eq_false hy
    simp only [hd] at heq
    clear hd
    have i2 : (0 : Int) ≤ f := by omega
    have i3 : (f : Int) ≤ n := by omega
    have HSame := Lib.hid (show ∀ w', Kept No w4 w' → Calls Tryd.prog 16 #[.agg (recv (zeroRec 0) aw cw am cm).toArray, .agg #[.int .u8 0, .int .u32 0, .int .u8 0, .int .u32 0, .int .u32 0, .int .u32 0, .int .u32 0, .int .u64 0, .slice none 0 0, .slice none 0 0, .int .u8 0, .int .u8 0, .int .u8 0, .int .u8 0, .int .u8 0, .int .u8 0, .int .u8 0, .int .u8 0, .int .u32 0, .string ⟨#[]⟩, .int .u32 0, .int .u8 0, .int .u8 0, .int .u8 0, .int .u8 0, .int .u8 0, .int .u8 0, .int .u8 0, .int .u8 0, .int .u8 0, .int .u8 0]] w' fun e w'' => e = .returned (.bool true) ∧ Kept No w' w'' from fun w' k => sameR_self (zeroRec 0) ▸ rsame_calls (w := w') (zeroRec 0) (zeroRec 0) aw am none none cw cm 0 0 gl.wf gl.wf gl.sm gl.sm (ow.rd.keptNo k) (om.rd.keptNo k) (Rd.nil _ _) (Rd.nil _ _))
    generalize hz : recv (zeroRec 0) aw cw am cm = Z at *
    clear hz hn hr hr4 ow om tw tm hy h17 hfl
    go_wp2_with (first
      | (with_reducible refine wpList_st rfl 55 _ _ rfl 31 Tryd.sizeOf55 w4.heap.size 0 rfl Z rfl l31' _ _ D0 (by decide) hone' ?_; rw [hs1])
      | (with_reducible refine wpList_st rfl 46 _ _ rfl 2 Tryd.sizeOf46 (w4.heap.size + 1) 0 rfl [.int .i64 y, .int .i64 f] rfl rfl _ _ (F1 _) (by decide) hfone ?_; rw [hs2])
      | (with_reducible refine wpList_ld rfl 46 _ rfl Tryd.isAgg46 2 Tryd.sizeOf46 (w4.heap.size + 1) 0 rfl [.int .i64 y, .int .i64 f] rfl sF ?_)
      | (with_reducible refine wpList_ld rfl 55 _ rfl Tryd.isAgg55 31 Tryd.sizeOf55 w4.heap.size 0 rfl Z l31' sD ?_))
    refine (HSame.out _ K9).mono ?_
    rintro _ w5 ⟨rfl, k5⟩
    have c5 := (F2.kept k5 fun h => h).cell 1
    simp only [List.getElem?_cons_succ, List.getElem?_cons_zero] at c5
    go_wp2_with fail
    refine (HA.out _).mono ?_
    rintro _ w7 ⟨rfl, k7⟩
    go_wp2_with fail
    go_ret
    exact ⟨rfl, ((k4.trans K9 fun _ _ h => h).trans k5 fun _ _ h => h).trans k7 fun _ _ h => h⟩
end
end Go.Proofs.YtjfmidcaekhhgaaDoor
