/- An Ended's bytes: a walk. Printed by gen_rcv.py (the first part of RcV, for seats without RecOne). -/
import Derived.Test.YtjfmidcaekhhgaaGreatDoorRcU
import Derived.Test.YtjfmidcaekhhgaaGreatDoorMsAl
namespace Go.Proofs.YtjfmidcaekhhgaaGreatDoor
open Go.RowKit Go.PM

/-- An Ended. -/
def endR : PRec := { zeroRec 6 with tx := (1, 2, 3) }
def endB : List UInt8 := [6, 1, 2, 3]
theorem endR_gd : endR.Gd := by
  have h := zeroRec_gd 6 (by decide)
  exact ⟨⟨h.wf.kind, h.wf.n, ⟨by decide, by decide, by decide⟩, h.wf.reg, h.wf.members, h.wf.writes, h.wf.missing, h.wf.key, h.wf.item⟩, h.item, h.each, h.many, h.miss⟩
theorem endR_may : rMay endR = true := by decide +kernel
theorem endR_enc : rEnc endR = endB := by
  show UInt8.ofNat 6 :: Re.puts [.tx] endR = endB
  show UInt8.ofNat 6 :: (([UInt8.ofNat 1] ++ (short 2 ++ short 3)) ++ []) = endB
  rw [short_one (by decide), short_one (by decide)]
  rfl
theorem endR_dec : rDec endB = (endR, 0, 0) := by rw [← endR_enc]; exact rDec_enc endR_gd.wf endR_may

section
variable {w : World}
set_option maxRecDepth 100000 in
set_option maxHeartbeats 2000000 in
theorem ralive_calls : Calls Tryz.prog 15 #[] w fun e w' => e = .returned (.bool true) ∧ Kept No w w' := by
  have HE : Hid (Calls Tryz.prog 16 #[.agg #[.int .u8 6, .int .u32 0, .int .u8 1, .int .u32 2, .int .u32 3, .int .u32 0, .int .u32 0, .int .u64 0, .slice none 0 0, .slice none 0 0, .int .u8 0, .int .u8 0, .int .u8 0, .int .u8 0, .int .u8 0, .int .u8 0, .int .u8 0, .int .u8 0, .int .u32 0, .string ⟨#[]⟩, .int .u32 0, .int .u8 0, .int .u8 0, .int .u8 0, .int .u8 0, .int .u8 0, .int .u8 0, .int .u8 0, .int .u8 0, .int .u8 0, .int .u8 0]] w (REncPost w endR)) := Lib.hid (rencode_calls (aw := none) (cw := 0) (am := none) (cm := 0) endR endR_gd.wf endR_gd.sm (Rd.nil _ _) (Rd.nil _ _) (fun b ⟨_, _, e, _⟩ => nomatch e) (fun b ⟨_, _, e, _⟩ => nomatch e))
  go_enter Tryz.func15, Tryz.ntmps15
  go_wp2_with fail
  refine HE.out.mono ?_
  intro e w1 h1
  unfold REncPost at h1
  rw [if_pos endR_may, endR_enc, show endB.length = 4 from rfl] at h1
  obtain ⟨a, cap, rfl, o1, k1, t1⟩ := h1
  have hc : a = none → cap = 0 := fun e => by rcases o1.row with ⟨_, _, h3⟩ | ⟨_, _, h3, _⟩; exact h3; rw [e] at h3; cases h3
  have HDC := Lib.hid (rdecode_calls (w := w1) endB a cap 4 rfl o1.rd (by decide) hc)
  clear HE
  go_wp2_with fail
  refine HDC.out.mono ?_
  intro e w2 h2
  unfold RDecPost at h2
  rw [endR_dec] at h2
  obtain ⟨aw, cw, am, cm, rfl, ow, om, tw, tm, k2, gl⟩ := h2
  have hf0 : ((0 : Nat) : Int) = 0 := rfl
  simp only [hf0]
  clear hf0
  have o2 := o1.keptNo k2
  have D0 := (Blk.new w2 53 [.int .u8 0, .int .u32 0, .int .u8 0, .int .u32 0, .int .u32 0, .int .u32 0, .int .u32 0, .int .u64 0, .slice none 0 0, .slice none 0 0, .int .u8 0, .int .u8 0, .int .u8 0, .int .u8 0, .int .u8 0, .int .u8 0, .int .u8 0, .int .u8 0, .int .u32 0, .string ⟨#[]⟩, .int .u32 0, .int .u8 0, .int .u8 0, .int .u8 0, .int .u8 0, .int .u8 0, .int .u8 0, .int .u8 0, .int .u8 0, .int .u8 0, .int .u8 0]).alloc (.cells #[.int .i64 0, .int .i64 0] 65)
  have F0 := Blk.new' (w := w2.alloc (.cells #[.int .u8 0, .int .u32 0, .int .u8 0, .int .u32 0, .int .u32 0, .int .u32 0, .int .u32 0, .int .u64 0, .slice none 0 0, .slice none 0 0, .int .u8 0, .int .u8 0, .int .u8 0, .int .u8 0, .int .u8 0, .int .u8 0, .int .u8 0, .int .u8 0, .int .u32 0, .string ⟨#[]⟩, .int .u32 0, .int .u8 0, .int .u8 0, .int .u8 0, .int .u8 0, .int .u8 0, .int .u8 0, .int .u8 0, .int .u8 0, .int .u8 0, .int .u8 0] 53)) (g := w2.heap.size + 1) (by rw [World.size_alloc]) 65 [.int .i64 0, .int .i64 0]
  have l31 : (recv endR aw cw am cm).length = 31 := rfl
  have hone := recv_one endR aw cw am cm
  have hfone : ∀ u ∈ [Value.int .i64 0, .int .i64 0], u.oneCell' = true := fun u hu => by
    simp only [List.mem_cons, List.not_mem_nil, or_false] at hu; rcases hu with rfl | rfl <;> rfl
  have F1 := fun cs => F0.kept ((Kept.refl (· = w2.heap.size) _).setRow (fun _ => rfl) cs) (show ¬ w2.heap.size + 1 = w2.heap.size by omega)
  have hs1 : splice ([.int .u8 0, .int .u32 0, .int .u8 0, .int .u32 0, .int .u32 0, .int .u32 0, .int .u32 0, .int .u64 0, .slice none 0 0, .slice none 0 0, .int .u8 0, .int .u8 0, .int .u8 0, .int .u8 0, .int .u8 0, .int .u8 0, .int .u8 0, .int .u8 0, .int .u32 0, .string ⟨#[]⟩, .int .u32 0, .int .u8 0, .int .u8 0, .int .u8 0, .int .u8 0, .int .u8 0, .int .u8 0, .int .u8 0, .int .u8 0, .int .u8 0, .int .u8 0] : List Value) 0 (recv endR aw cw am cm) = recv endR aw cw am cm := splice_all _ _ rfl
  have hs2 : splice [Value.int .i64 0, .int .i64 0] 0 [.int .i64 0, .int .i64 0] = [.int .i64 0, .int .i64 0] := splice_all _ _ rfl
  clear HDC
  go_wp2_with (first
    | (with_reducible refine wpList_st rfl 53 (.tmp 3) _ rfl 31 Tryz.sizeOf53 w2.heap.size 0 rfl (recv endR aw cw am cm) rfl l31 _ _ D0 (by decide) hone ?_; rw [hs1])
    | (with_reducible refine wpList_st rfl 65 (.tmp 4) _ rfl 2 Tryz.sizeOf65 (w2.heap.size + 1) 0 rfl [.int .i64 0, .int .i64 0] rfl rfl _ _ (F1 _) (by decide) hfone ?_; rw [hs2]))
  have D2 := (((D0.setRow (recv endR aw cw am cm)).kept ((Kept.refl (· = w2.heap.size + 1) _).setRow (fun _ => rfl) [Value.int .i64 0, .int .i64 0].toArray) (show ¬ w2.heap.size = w2.heap.size + 1 by omega)).alloc (.cells #[.int .u8 6, .int .u8 1, .int .u8 2, .int .u8 3] 5))
  have F2 := (((F1 (recv endR aw cw am cm).toArray).setRow [Value.int .i64 0, .int .i64 0]).alloc (.cells #[.int .u8 6, .int .u8 1, .int .u8 2, .int .u8 3] 5))
  have K9 := ((((((Kept.refl No w2).alloc (.cells #[.int .u8 0, .int .u32 0, .int .u8 0, .int .u32 0, .int .u32 0, .int .u32 0, .int .u32 0, .int .u64 0, .slice none 0 0, .slice none 0 0, .int .u8 0, .int .u8 0, .int .u8 0, .int .u8 0, .int .u8 0, .int .u8 0, .int .u8 0, .int .u8 0, .int .u32 0, .string ⟨#[]⟩, .int .u32 0, .int .u8 0, .int .u8 0, .int .u8 0, .int .u8 0, .int .u8 0, .int .u8 0, .int .u8 0, .int .u8 0, .int .u8 0, .int .u8 0] 53)).alloc (.cells #[.int .i64 0, .int .i64 0] 65)).setRow (g := w2.heap.size) (fun h => absurd h (Nat.lt_irrefl _)) (recv endR aw cw am cm).toArray).setRow (g := w2.heap.size + 1) (fun h => absurd h (by omega)) [Value.int .i64 0, .int .i64 0].toArray).alloc (.cells #[.int .u8 6, .int .u8 1, .int .u8 2, .int .u8 3] 5))
  have hsz : (((((w2.alloc (.cells #[.int .u8 0, .int .u32 0, .int .u8 0, .int .u32 0, .int .u32 0, .int .u32 0, .int .u32 0, .int .u64 0, .slice none 0 0, .slice none 0 0, .int .u8 0, .int .u8 0, .int .u8 0, .int .u8 0, .int .u8 0, .int .u8 0, .int .u8 0, .int .u8 0, .int .u32 0, .string ⟨#[]⟩, .int .u32 0, .int .u8 0, .int .u8 0, .int .u8 0, .int .u8 0, .int .u8 0, .int .u8 0, .int .u8 0, .int .u8 0, .int .u8 0, .int .u8 0] 53)).alloc (.cells #[.int .i64 0, .int .i64 0] 65)).setRow w2.heap.size (recv endR aw cw am cm).toArray).setRow (w2.heap.size + 1) [Value.int .i64 0, .int .i64 0].toArray)).heap.size = w2.heap.size + 1 + 1 := by
    rw [size_setRow, size_setRow, World.size_alloc, World.size_alloc]
  have Y9 := Blk.new' (w := ((((w2.alloc (.cells #[.int .u8 0, .int .u32 0, .int .u8 0, .int .u32 0, .int .u32 0, .int .u32 0, .int .u32 0, .int .u64 0, .slice none 0 0, .slice none 0 0, .int .u8 0, .int .u8 0, .int .u8 0, .int .u8 0, .int .u8 0, .int .u8 0, .int .u8 0, .int .u8 0, .int .u32 0, .string ⟨#[]⟩, .int .u32 0, .int .u8 0, .int .u8 0, .int .u8 0, .int .u8 0, .int .u8 0, .int .u8 0, .int .u8 0, .int .u8 0, .int .u8 0, .int .u8 0] 53)).alloc (.cells #[.int .i64 0, .int .i64 0] 65)).setRow w2.heap.size (recv endR aw cw am cm).toArray).setRow (w2.heap.size + 1) [Value.int .i64 0, .int .i64 0].toArray)) (g := w2.heap.size + 1 + 1) hsz.symm 5 (bcells endB)
  have c0 := (D2.cell 0).trans (show (recv endR aw cw am cm)[0]? = some (.int .u8 6) from rfl)
  have c3 := (D2.cell 3).trans (show (recv endR aw cw am cm)[3]? = some (.int .u32 2) from rfl)
  have sF := F2.seg0
  have heq := fun w => eqlFaultN 0 0 (fun _ => rfl) w
  have hgf := eqGuard_fault
  have HBS := Lib.hid (bsame_calls endB endB 4 4 rfl rfl a (some ⟨w2.heap.size + 1 + 1, 0, none⟩) cap 4 (o2.rd.keptNo K9) (Rd.ofBlk' Y9))
  refine HBS.out.mono ?_
  rintro _ w9 ⟨rfl, rfl⟩
  rw [show (endB == endB) = true from rfl]
  have KK9 := (k1.trans k2 fun _ _ h => h).trans K9 fun _ _ h => h
  clear HBS Y9 hsz
  go_wp2_with (with_reducible refine wpList_ld rfl 65 (.tmp 4) rfl Tryz.isAgg65 2 Tryz.sizeOf65 (w2.heap.size + 1) 0 rfl [.int .i64 0, .int .i64 0] rfl sF ?_)
  go_ret
  exact ⟨rfl, KK9⟩

end
end Go.Proofs.YtjfmidcaekhhgaaGreatDoor
