/- Bytes compared; an Ack's bytes: walks. Which messages are too long: a walk. A message of the document's package as one of msg's: a walk. Printed by gen_mst.py. -/
import Derived.Test.YtjfmidcaekhhgaaGreatDoorMsQ
namespace Go.Proofs.YtjfmidcaekhhgaaGreatDoor
open Go.RowKit Go.PM

section
variable {w : World}
set_option maxHeartbeats 400000 in
theorem bsame_calls (x y : List UInt8) (n m : Nat) (hn : x.length = n) (hm : y.length = m) (a b : Option Addr) (c d : Nat) (hr : Rd w a (bcells x)) (hs : Rd w b (bcells y)) :
    Calls Tryz.prog 13 #[.slice a n c, .slice b m d] w fun e w' => e = .returned (.bool (x == y)) ∧ w = w' := by
  go_enter Tryz.func13, Tryz.ntmps13
  go_wp2_with (first
    | (with_reducible refine wpList_conv_bytes_n rfl 38 9 (.tmp 5) rfl 5 Tryz.cu_bytes Tryz.cu_byte Tryz.cu_string a n c x hn rfl hr ?_)
    | (with_reducible refine wpList_conv_bytes_n rfl 38 9 (.tmp 7) rfl 5 Tryz.cu_bytes Tryz.cu_byte Tryz.cu_string b m d y hm rfl hs ?_))
  go_ret
  refine ⟨?_, rfl⟩
  first
    | rfl
    | (congr 2; simp)

/-- An Ack. -/
def ackM : PMsg := { zeroMsg 8 with tx := (1, 2, 3) }
def ackB : List UInt8 := [8, 1, 2, 3]
theorem short_one {n : Nat} (h : n < 128) : short n = [UInt8.ofNat n] := short_small h
theorem ackM_gd : ackM.Gd := by
  have h := zeroMsg_gd 8 (by decide)
  exact ⟨⟨h.wf.kind, ⟨by decide, by decide, by decide⟩, h.wf.time, h.wf.reg, h.wf.key, h.wf.mode, h.wf.no, h.wf.why, h.wf.yes, h.wf.item, h.wf.writes⟩, h.item, h.each, h.many⟩
theorem ackM_may : mMay ackM = true := by decide +kernel
theorem ackM_enc : mEnc ackM = ackB := by
  show UInt8.ofNat 8 :: Fd.puts [.tx] ackM = ackB
  show UInt8.ofNat 8 :: (([UInt8.ofNat 1] ++ (short 2 ++ short 3)) ++ []) = ackB
  rw [short_one (by decide), short_one (by decide)]
  rfl
theorem ackM_dec : mDec ackB = (ackM, 0, 0) := by rw [← ackM_enc]; exact mDec_enc ackM_gd.wf ackM_may

theorem eqlFaultN (y f : Nat) (h : y = 0 → f = 0) (w : World) : (binOp .eql 65 (.agg #[.int .i64 y, .int .i64 f]) (.agg #[.int .i64 0, .int .i64 0])).run Tryz.prog w = .ok (.bool (decide (y = 0))) w := by
  rw [run_eql_struct, eqFault y f h w]
  simp
theorem eqGuard_fault : Tryz.prog.eqGuardType Tryz.prog.depth 65 = false := by kernel_rfl
set_option maxRecDepth 100000 in
set_option maxHeartbeats 2000000 in
theorem alive_calls : Calls Tryz.prog 9 #[] w fun e w' => e = .returned (.bool true) ∧ Kept No w w' := by
  have HE : Hid (Calls Tryz.prog 10 #[.agg #[.int .u8 8, .int .u8 1, .int .u32 2, .int .u32 3, .int .u32 0, .int .u32 0, .int .u32 0, .int .u8 0, .int .u8 0, .int .u8 0, .int .u8 0, .int .u8 0, .int .u8 0, .int .u8 0, .int .u8 0, .int .u8 0, .int .u32 0, .int .u8 0, .int .u8 0, .int .u32 0, .string ⟨#[]⟩, .int .u32 0, .int .u8 0, .int .u8 0, .int .u8 0, .int .u8 0, .int .u8 0, .int .u8 0, .int .u8 0, .int .u8 0, .int .u8 0, .int .u8 0, .slice none 0 0]] w (EncPost w ackM)) := Lib.hid (encode_calls (ad := none) (c := 0) ackM ackM_gd.wf ackM_gd.sm (Rd.nil _ _) (fun b ⟨_, _, e, _⟩ => nomatch e))
  go_enter Tryz.func9, Tryz.ntmps9
  go_wp2_with fail
  refine HE.out.mono ?_
  intro e w1 h1
  unfold EncPost at h1
  rw [if_pos ackM_may, ackM_enc, show ackB.length = 4 from rfl] at h1
  obtain ⟨a, cap, rfl, o1, k1, t1⟩ := h1
  have hc : a = none → cap = 0 := fun e => by rcases o1.row with ⟨_, _, h3⟩ | ⟨_, _, h3, _⟩; exact h3; rw [e] at h3; cases h3
  have HDC := Lib.hid (decode_calls (w := w1) ackB a cap 4 rfl o1.rd (by decide) hc)
  clear HE
  go_wp2_with fail
  refine HDC.out.mono ?_
  intro e w2 h2
  unfold DecPost at h2
  rw [ackM_dec] at h2
  obtain ⟨al, cl, rfl, ol, tl, k2, gl⟩ := h2
  have hf0 : ((0 : Nat) : Int) = 0 := rfl
  simp only [hf0]
  clear hf0
  have o2 := o1.keptNo k2
  have D0 := (Blk.new w2 42 [.int .u8 0, .int .u8 0, .int .u32 0, .int .u32 0, .int .u32 0, .int .u32 0, .int .u32 0, .int .u8 0, .int .u8 0, .int .u8 0, .int .u8 0, .int .u8 0, .int .u8 0, .int .u8 0, .int .u8 0, .int .u8 0, .int .u32 0, .int .u8 0, .int .u8 0, .int .u32 0, .string ⟨#[]⟩, .int .u32 0, .int .u8 0, .int .u8 0, .int .u8 0, .int .u8 0, .int .u8 0, .int .u8 0, .int .u8 0, .int .u8 0, .int .u8 0, .int .u8 0, .slice none 0 0]).alloc (.cells #[.int .i64 0, .int .i64 0] 65)
  have F0 := Blk.new' (w := w2.alloc (.cells #[.int .u8 0, .int .u8 0, .int .u32 0, .int .u32 0, .int .u32 0, .int .u32 0, .int .u32 0, .int .u8 0, .int .u8 0, .int .u8 0, .int .u8 0, .int .u8 0, .int .u8 0, .int .u8 0, .int .u8 0, .int .u8 0, .int .u32 0, .int .u8 0, .int .u8 0, .int .u32 0, .string ⟨#[]⟩, .int .u32 0, .int .u8 0, .int .u8 0, .int .u8 0, .int .u8 0, .int .u8 0, .int .u8 0, .int .u8 0, .int .u8 0, .int .u8 0, .int .u8 0, .slice none 0 0] 42)) (g := w2.heap.size + 1) (by rw [World.size_alloc]) 65 [.int .i64 0, .int .i64 0]
  have l33 : (msgv ackM al cl).length = 33 := rfl
  have hone := msgv_one ackM al cl
  have hfone : ∀ u ∈ [Value.int .i64 0, .int .i64 0], u.oneCell' = true := fun u hu => by
    simp only [List.mem_cons, List.not_mem_nil, or_false] at hu; rcases hu with rfl | rfl <;> rfl
  have F1 := fun cs => F0.kept ((Kept.refl (· = w2.heap.size) _).setRow (fun _ => rfl) cs) (show ¬ w2.heap.size + 1 = w2.heap.size by omega)
  have hs1 : splice ([.int .u8 0, .int .u8 0, .int .u32 0, .int .u32 0, .int .u32 0, .int .u32 0, .int .u32 0, .int .u8 0, .int .u8 0, .int .u8 0, .int .u8 0, .int .u8 0, .int .u8 0, .int .u8 0, .int .u8 0, .int .u8 0, .int .u32 0, .int .u8 0, .int .u8 0, .int .u32 0, .string ⟨#[]⟩, .int .u32 0, .int .u8 0, .int .u8 0, .int .u8 0, .int .u8 0, .int .u8 0, .int .u8 0, .int .u8 0, .int .u8 0, .int .u8 0, .int .u8 0, .slice none 0 0] : List Value) 0 (msgv ackM al cl) = msgv ackM al cl := splice_all _ _ rfl
  have hs2 : splice [Value.int .i64 0, .int .i64 0] 0 [.int .i64 0, .int .i64 0] = [.int .i64 0, .int .i64 0] := splice_all _ _ rfl
  clear HDC
  go_wp2_with (first
    | (with_reducible refine wpList_st rfl 42 (.tmp 3) _ rfl 33 Tryz.sizeOf42 w2.heap.size 0 rfl (msgv ackM al cl) rfl l33 _ _ D0 (by decide) hone ?_; rw [hs1])
    | (with_reducible refine wpList_st rfl 65 (.tmp 4) _ rfl 2 Tryz.sizeOf65 (w2.heap.size + 1) 0 rfl [.int .i64 0, .int .i64 0] rfl rfl _ _ (F1 _) (by decide) hfone ?_; rw [hs2]))
  have D2 := (((D0.setRow (msgv ackM al cl)).kept ((Kept.refl (· = w2.heap.size + 1) _).setRow (fun _ => rfl) [Value.int .i64 0, .int .i64 0].toArray) (show ¬ w2.heap.size = w2.heap.size + 1 by omega)).alloc (.cells #[.int .u8 8, .int .u8 1, .int .u8 2, .int .u8 3] 5))
  have F2 := (((F1 (msgv ackM al cl).toArray).setRow [Value.int .i64 0, .int .i64 0]).alloc (.cells #[.int .u8 8, .int .u8 1, .int .u8 2, .int .u8 3] 5))
  have K9 := ((((((Kept.refl No w2).alloc (.cells #[.int .u8 0, .int .u8 0, .int .u32 0, .int .u32 0, .int .u32 0, .int .u32 0, .int .u32 0, .int .u8 0, .int .u8 0, .int .u8 0, .int .u8 0, .int .u8 0, .int .u8 0, .int .u8 0, .int .u8 0, .int .u8 0, .int .u32 0, .int .u8 0, .int .u8 0, .int .u32 0, .string ⟨#[]⟩, .int .u32 0, .int .u8 0, .int .u8 0, .int .u8 0, .int .u8 0, .int .u8 0, .int .u8 0, .int .u8 0, .int .u8 0, .int .u8 0, .int .u8 0, .slice none 0 0] 42)).alloc (.cells #[.int .i64 0, .int .i64 0] 65)).setRow (g := w2.heap.size) (fun h => absurd h (Nat.lt_irrefl _)) (msgv ackM al cl).toArray).setRow (g := w2.heap.size + 1) (fun h => absurd h (by omega)) [Value.int .i64 0, .int .i64 0].toArray).alloc (.cells #[.int .u8 8, .int .u8 1, .int .u8 2, .int .u8 3] 5))
  have hsz : (((((w2.alloc (.cells #[.int .u8 0, .int .u8 0, .int .u32 0, .int .u32 0, .int .u32 0, .int .u32 0, .int .u32 0, .int .u8 0, .int .u8 0, .int .u8 0, .int .u8 0, .int .u8 0, .int .u8 0, .int .u8 0, .int .u8 0, .int .u8 0, .int .u32 0, .int .u8 0, .int .u8 0, .int .u32 0, .string ⟨#[]⟩, .int .u32 0, .int .u8 0, .int .u8 0, .int .u8 0, .int .u8 0, .int .u8 0, .int .u8 0, .int .u8 0, .int .u8 0, .int .u8 0, .int .u8 0, .slice none 0 0] 42)).alloc (.cells #[.int .i64 0, .int .i64 0] 65)).setRow w2.heap.size (msgv ackM al cl).toArray).setRow (w2.heap.size + 1) [Value.int .i64 0, .int .i64 0].toArray)).heap.size = w2.heap.size + 1 + 1 := by
    rw [size_setRow, size_setRow, World.size_alloc, World.size_alloc]
  have Y9 := Blk.new' (w := ((((w2.alloc (.cells #[.int .u8 0, .int .u8 0, .int .u32 0, .int .u32 0, .int .u32 0, .int .u32 0, .int .u32 0, .int .u8 0, .int .u8 0, .int .u8 0, .int .u8 0, .int .u8 0, .int .u8 0, .int .u8 0, .int .u8 0, .int .u8 0, .int .u32 0, .int .u8 0, .int .u8 0, .int .u32 0, .string ⟨#[]⟩, .int .u32 0, .int .u8 0, .int .u8 0, .int .u8 0, .int .u8 0, .int .u8 0, .int .u8 0, .int .u8 0, .int .u8 0, .int .u8 0, .int .u8 0, .slice none 0 0] 42)).alloc (.cells #[.int .i64 0, .int .i64 0] 65)).setRow w2.heap.size (msgv ackM al cl).toArray).setRow (w2.heap.size + 1) [Value.int .i64 0, .int .i64 0].toArray)) (g := w2.heap.size + 1 + 1) hsz.symm 5 (bcells ackB)
  have c0 := (D2.cell 0).trans (show (msgv ackM al cl)[0]? = some (.int .u8 8) from rfl)
  have c3 := (D2.cell 3).trans (show (msgv ackM al cl)[3]? = some (.int .u32 3) from rfl)
  have sF := F2.seg0
  have heq := fun w => eqlFaultN 0 0 (fun _ => rfl) w
  have hgf := eqGuard_fault
  have HBS := Lib.hid (bsame_calls ackB ackB 4 4 rfl rfl a (some ⟨w2.heap.size + 1 + 1, 0, none⟩) cap 4 (o2.rd.keptNo K9) (Rd.ofBlk' Y9))
  refine HBS.out.mono ?_
  rintro _ w9 ⟨rfl, rfl⟩
  rw [show (ackB == ackB) = true from rfl]
  have KK9 := (k1.trans k2 fun _ _ h => h).trans K9 fun _ _ h => h
  clear HBS Y9 hsz
  go_wp2_with (with_reducible refine wpList_ld rfl 65 (.tmp 4) rfl Tryz.isAgg65 2 Tryz.sizeOf65 (w2.heap.size + 1) 0 rfl [.int .i64 0, .int .i64 0] rfl sF ?_)
  go_ret
  exact ⟨rfl, KK9⟩
end
end Go.Proofs.YtjfmidcaekhhgaaGreatDoor

namespace Go.Proofs.YtjfmidcaekhhgaaGreatDoor
open Go.RowKit Go.PM

def longTo (m : PMsg) (k : Nat) : Nat := (m.writes.take k).foldl (fun n x => n + min x.2.2.1.length 10000) m.item.2.1.length
def longB (m : PMsg) : Bool := decide (10000 < longTo m (min m.writes.length 40)) || decide (40 < m.writes.length)
theorem longTo_step (m : PMsg) (k : Nat) (h : k < m.writes.length) : longTo m (k + 1) = longTo m k + min m.writes[k].2.2.1.length 10000 := by
  unfold longTo
  rw [List.take_succ_eq_append_getElem h, List.foldl_append]
  rfl
theorem longTo_le (m : PMsg) (k : Nat) (h : k ≤ m.writes.length) : longTo m k ≤ m.item.2.1.length + k * 10000 := by
  induction k with
  | zero => simp [longTo]
  | succ k ih =>
    rw [longTo_step m k h]
    have := ih (by omega)
    omega
theorem Ms.val {w : World} {T : TypeId} {g : Nat} {m : PMsg} {a : Option Addr} {c : Nat} (h : Ms w T g m a c) : w.cell? ⟨g, 20, none⟩ = some (.string ⟨m.item.2.1.toArray⟩) := (h.cell15 5).trans rfl
section
variable {w : World}
def LoRel (w0 : World) (T : TypeId) (g : Nat) (m : PMsg) (a : Option Addr) (c : Nat) (n i : Value) (wr : World) : Prop :=
  ∃ k : Nat, k ≤ min m.writes.length 40 ∧ i = .int .i64 k ∧ n = .int .i64 (longTo m k) ∧ Ms wr T g m a c ∧ Kept No w0 wr
set_option maxRecDepth 100000 in
set_option maxHeartbeats 1000000 in
theorem mlong_calls (m : PMsg) (hm : m.Wf) (hs : m.Sm) (a : Option Addr) (c : Nat) (hr : Rd w a (pwsv m.writes)) (hat : ∀ b, At a b → b < w.heap.size) (hc : m.writes.length ≤ c) :
    Calls Tryz.prog 8 #[.agg (msgv m a c).toArray] w fun e w' => e = .returned (.bool (longB m)) ∧ Kept No w w' := by
  have B0 := Blk.new w 35 (msgv m a c)
  have K0 := (Kept.refl No w).alloc (.cells (msgv m a c).toArray 35)
  have M0 : Ms (w.alloc (.cells (msgv m a c).toArray 35)) 35 w.heap.size m a c := ⟨B0, hr.keptNo K0, fun b hb => by rw [World.size_alloc]; exact Nat.lt_succ_of_lt (hat b hb), hm, hs⟩
  have c20 := M0.val
  have c32 := M0.writes
  go_enter Tryz.func8, Tryz.ntmps8
  go_wp2
  go_loopw [3, 5, 18] (fun n _ i wr => LoRel w 35 w.heap.size m a c n i wr) (fun _ _ i _ => min m.writes.length 40 - (intOf i).toNat)
  case atStart => exact ⟨0, by omega, rfl, rfl, M0, K0⟩
  case round =>
    obtain ⟨k, hk, rfl, rfl, hM, hkk⟩ := hrel
    by_cases hlt : k < min m.writes.length 40
    · have i0 : (0 : Int) ≤ k := by omega
      have hltw : k < m.writes.length := by omega
      have i1 : (k : Int) < ((min (m.writes.length : Int) 40).toNat : Nat) := by omega
      have i2 : (k : Int) < max (min (m.writes.length : Int) 40) 0 := by omega
      obtain ⟨x, hx⟩ : ∃ x, m.writes[k] = x := ⟨_, rfl⟩
      have wx : wfPW x := hx ▸ hm.writes _ (List.getElem_mem hltw)
      have vx := hx ▸ hs.each _ (List.getElem_mem hltw)
      have xl := pwv_length wx
      have fa := flat_at pwv 21 m.writes (fun y hy => pwv_length (hm.writes y hy)) k hltw
      rw [hx] at fa
      obtain ⟨b, o, rfl, hbl⟩ := hM.rd.addr (by
        have : pwv x ≠ [] := fun e => by rw [e] at xl; simp at xl
        cases e : pwsv m.writes with
        | nil => unfold pwsv at e; rw [e] at fa; simp at fa; exact absurd fa this
        | cons y z => simp)
      have sg : Seg wr b (o + k * 21) (pwv x) := (Seg.ofRd hM.rd).sub (k * 21) _ (by rw [xl]; exact fa)
      have K1 := (Kept.refl No wr).alloc (.cells (pwv x).toArray 69)
      have B1 := Blk.new wr 69 (pwv x)
      have hst := longTo_step m k hltw
      have hle := longTo_le m k (by omega)
      have hsi := hs.item
      rw [hx] at hst
      have cv := (B1.cell 9).trans (show (pwv x)[9]? = some (.string ⟨x.2.2.1.toArray⟩) by rw [pwv, List.getElem?_append_right (by rw [bcells_length, wx.1]; omega), bcells_length, wx.1]; rfl)
      clear fa hx B0 K0 M0 B1 c20 c32
      go_wp2_with (first
        | (with_reducible refine wpList_ld rfl 69 _ rfl Tryz.isAgg69 21 Tryz.sizeOf69 b (o + k * 21) rfl (pwv x) xl sg ?_)
        | (with_reducible refine wpList_st_last rfl 69 _ _ rfl 21 Tryz.sizeOf69 wr.heap.size rfl rfl (pwv x) rfl xl _ _ rfl (pwv_one x) ?_))
      refine ⟨⟨k + 1, by omega, by go_num, by rw [hst]; go_num, hM.keptNo K1, hkk.trans K1 fun _ _ h => h⟩, by simp [intOf]; omega⟩
    · have hkN : k = min m.writes.length 40 := by omega
      subst hkN
      have j1 : max (min (m.writes.length : Int) 40) 0 ≤ ((min m.writes.length 40 : Nat) : Int) := by omega
      have c32 := hM.writes
      have B9 := hM
      clear B0 K0 M0 c20
      by_cases h1 : (10000 : Int) < (longTo m (min m.writes.length 40) : Nat)
      · have hB : longB m = true := by unfold longB; simp only [Bool.or_eq_true, decide_eq_true_eq]; left; omega
        have HB := Lib.hid hB
        clear hB
        go_wp2
        go_ret
        exact ⟨by rw [HB.out]; rfl, hkk⟩
      · have h2 : (longTo m (min m.writes.length 40) : Int) ≤ 10000 := by omega
        have hB : longB m = decide ((40 : Int) < m.writes.length) := by
          unfold longB
          rw [decide_eq_false (show ¬ 10000 < longTo m (min m.writes.length 40) by omega), Bool.false_or]
          exact decide_eq_decide.2 (by omega)
        have HB := Lib.hid hB
        clear hB h1
        go_wp2
        go_ret
        refine ⟨?_, hkk⟩
        rw [HB.out]
        show Ending.returned (.bool (decide ((10000 : Int) < (longTo m (min m.writes.length 40) : Nat)) || decide ((40 : Int) < m.writes.length))) = _
        rw [decide_eq_false (by omega), Bool.false_or]
end
end Go.Proofs.YtjfmidcaekhhgaaGreatDoor

namespace Go.Proofs.YtjfmidcaekhhgaaGreatDoor
open Go.RowKit Go.PM

theorem msgv_eq (m : PMsg) (h : m.Wf) (a : Option Addr) (c : Nat) : msgv m a c = [.int .u8 m.kind, .int .u8 m.tx.1, .int .u32 m.tx.2.1, .int .u32 m.tx.2.2, .int .u32 m.time, .int .u32 m.reg.1, .int .u32 m.reg.2, .int .u8 (vsOf m.key 0), .int .u8 (vsOf m.key 1), .int .u8 (vsOf m.key 2), .int .u8 (vsOf m.key 3), .int .u8 (vsOf m.key 4), .int .u8 (vsOf m.key 5), .int .u8 (vsOf m.key 6), .int .u8 (vsOf m.key 7), .int .u8 m.mode, .int .u32 m.no, .int .u8 m.why, .int .u8 m.yes, .int .u32 m.item.1, .string ⟨m.item.2.1.toArray⟩, .int .u32 m.item.2.2.1, .int .u8 m.item.2.2.2.1, .int .u8 m.item.2.2.2.2.1, .int .u8 (vsOf m.item.2.2.2.2.2 0), .int .u8 (vsOf m.item.2.2.2.2.2 1), .int .u8 (vsOf m.item.2.2.2.2.2 2), .int .u8 (vsOf m.item.2.2.2.2.2 3), .int .u8 (vsOf m.item.2.2.2.2.2 4), .int .u8 (vsOf m.item.2.2.2.2.2 5), .int .u8 (vsOf m.item.2.2.2.2.2 6), .int .u8 (vsOf m.item.2.2.2.2.2 7), .slice a m.writes.length c] := by
  have h1 := congrArg Array.toList (up_eq m.key h.key)
  have h2 := congrArg Array.toList (up_eq m.item.2.2.2.2.2 h.item.2.2.2.2)
  simp only at h1 h2
  simp only [msgv, txv, regv, itemv, cfgv, cfgc, ← h1, ← h2, List.cons_append, List.nil_append]
section
variable {w : World}
set_option maxRecDepth 100000 in
set_option maxHeartbeats 1000000 in
theorem theirs_calls (m : PMsg) (hm : m.Wf) (a : Option Addr) (c : Nat) :
    Calls Tryz.prog 11 #[.agg (msgv m a c).toArray] w fun e w' => e = .returned (.agg (msgv m a c).toArray) ∧ Kept No w w' := by
  have B0 := (Blk.new w 35 (msgv m a c)).alloc (.cells #[.int .u8 0, .int .u8 0, .int .u32 0, .int .u32 0, .int .u32 0, .int .u32 0, .int .u32 0, .int .u8 0, .int .u8 0, .int .u8 0, .int .u8 0, .int .u8 0, .int .u8 0, .int .u8 0, .int .u8 0, .int .u8 0, .int .u32 0, .int .u8 0, .int .u8 0, .int .u32 0, .string ⟨#[]⟩, .int .u32 0, .int .u8 0, .int .u8 0, .int .u8 0, .int .u8 0, .int .u8 0, .int .u8 0, .int .u8 0, .int .u8 0, .int .u8 0, .int .u8 0, .slice none 0 0] 42)
  have B1 := Blk.new' (w := w.alloc (.cells (msgv m a c).toArray 35)) (g := w.heap.size + 1) (by rw [World.size_alloc]) 42 [.int .u8 0, .int .u8 0, .int .u32 0, .int .u32 0, .int .u32 0, .int .u32 0, .int .u32 0, .int .u8 0, .int .u8 0, .int .u8 0, .int .u8 0, .int .u8 0, .int .u8 0, .int .u8 0, .int .u8 0, .int .u8 0, .int .u32 0, .int .u8 0, .int .u8 0, .int .u32 0, .string ⟨#[]⟩, .int .u32 0, .int .u8 0, .int .u8 0, .int .u8 0, .int .u8 0, .int .u8 0, .int .u8 0, .int .u8 0, .int .u8 0, .int .u8 0, .int .u8 0, .slice none 0 0]
  have KK := ((Kept.refl No w).alloc (.cells (msgv m a c).toArray 35)).alloc (.cells #[.int .u8 0, .int .u8 0, .int .u32 0, .int .u32 0, .int .u32 0, .int .u32 0, .int .u32 0, .int .u8 0, .int .u8 0, .int .u8 0, .int .u8 0, .int .u8 0, .int .u8 0, .int .u8 0, .int .u8 0, .int .u8 0, .int .u32 0, .int .u8 0, .int .u8 0, .int .u32 0, .string ⟨#[]⟩, .int .u32 0, .int .u8 0, .int .u8 0, .int .u8 0, .int .u8 0, .int .u8 0, .int .u8 0, .int .u8 0, .int .u8 0, .int .u8 0, .int .u8 0, .slice none 0 0] 42)
  have hfl := msgv_eq m hm a c
  have c0 := (B0.cell 0).trans (show (msgv m a c)[0]? = some (.int .u8 m.kind) by rw [hfl]; rfl)
  have c1 := (B0.cell 1).trans (show (msgv m a c)[1]? = some (.int .u8 m.tx.1) by rw [hfl]; rfl)
  have c2 := (B0.cell 2).trans (show (msgv m a c)[2]? = some (.int .u32 m.tx.2.1) by rw [hfl]; rfl)
  have c3 := (B0.cell 3).trans (show (msgv m a c)[3]? = some (.int .u32 m.tx.2.2) by rw [hfl]; rfl)
  have c4 := (B0.cell 4).trans (show (msgv m a c)[4]? = some (.int .u32 m.time) by rw [hfl]; rfl)
  have c5 := (B0.cell 5).trans (show (msgv m a c)[5]? = some (.int .u32 m.reg.1) by rw [hfl]; rfl)
  have c6 := (B0.cell 6).trans (show (msgv m a c)[6]? = some (.int .u32 m.reg.2) by rw [hfl]; rfl)
  have c7 := (B0.cell 7).trans (show (msgv m a c)[7]? = some (.int .u8 (vsOf m.key 0)) by rw [hfl]; rfl)
  have c8 := (B0.cell 8).trans (show (msgv m a c)[8]? = some (.int .u8 (vsOf m.key 1)) by rw [hfl]; rfl)
  have c9 := (B0.cell 9).trans (show (msgv m a c)[9]? = some (.int .u8 (vsOf m.key 2)) by rw [hfl]; rfl)
  have c10 := (B0.cell 10).trans (show (msgv m a c)[10]? = some (.int .u8 (vsOf m.key 3)) by rw [hfl]; rfl)
  have c11 := (B0.cell 11).trans (show (msgv m a c)[11]? = some (.int .u8 (vsOf m.key 4)) by rw [hfl]; rfl)
  have c12 := (B0.cell 12).trans (show (msgv m a c)[12]? = some (.int .u8 (vsOf m.key 5)) by rw [hfl]; rfl)
  have c13 := (B0.cell 13).trans (show (msgv m a c)[13]? = some (.int .u8 (vsOf m.key 6)) by rw [hfl]; rfl)
  have c14 := (B0.cell 14).trans (show (msgv m a c)[14]? = some (.int .u8 (vsOf m.key 7)) by rw [hfl]; rfl)
  have c15 := (B0.cell 15).trans (show (msgv m a c)[15]? = some (.int .u8 m.mode) by rw [hfl]; rfl)
  have c16 := (B0.cell 16).trans (show (msgv m a c)[16]? = some (.int .u32 m.no) by rw [hfl]; rfl)
  have c17 := (B0.cell 17).trans (show (msgv m a c)[17]? = some (.int .u8 m.why) by rw [hfl]; rfl)
  have c18 := (B0.cell 18).trans (show (msgv m a c)[18]? = some (.int .u8 m.yes) by rw [hfl]; rfl)
  have c19 := (B0.cell 19).trans (show (msgv m a c)[19]? = some (.int .u32 m.item.1) by rw [hfl]; rfl)
  have c20 := (B0.cell 20).trans (show (msgv m a c)[20]? = some (.string ⟨m.item.2.1.toArray⟩) by rw [hfl]; rfl)
  have c21 := (B0.cell 21).trans (show (msgv m a c)[21]? = some (.int .u32 m.item.2.2.1) by rw [hfl]; rfl)
  have c22 := (B0.cell 22).trans (show (msgv m a c)[22]? = some (.int .u8 m.item.2.2.2.1) by rw [hfl]; rfl)
  have c23 := (B0.cell 23).trans (show (msgv m a c)[23]? = some (.int .u8 m.item.2.2.2.2.1) by rw [hfl]; rfl)
  have c24 := (B0.cell 24).trans (show (msgv m a c)[24]? = some (.int .u8 (vsOf m.item.2.2.2.2.2 0)) by rw [hfl]; rfl)
  have c25 := (B0.cell 25).trans (show (msgv m a c)[25]? = some (.int .u8 (vsOf m.item.2.2.2.2.2 1)) by rw [hfl]; rfl)
  have c26 := (B0.cell 26).trans (show (msgv m a c)[26]? = some (.int .u8 (vsOf m.item.2.2.2.2.2 2)) by rw [hfl]; rfl)
  have c27 := (B0.cell 27).trans (show (msgv m a c)[27]? = some (.int .u8 (vsOf m.item.2.2.2.2.2 3)) by rw [hfl]; rfl)
  have c28 := (B0.cell 28).trans (show (msgv m a c)[28]? = some (.int .u8 (vsOf m.item.2.2.2.2.2 4)) by rw [hfl]; rfl)
  have c29 := (B0.cell 29).trans (show (msgv m a c)[29]? = some (.int .u8 (vsOf m.item.2.2.2.2.2 5)) by rw [hfl]; rfl)
  have c30 := (B0.cell 30).trans (show (msgv m a c)[30]? = some (.int .u8 (vsOf m.item.2.2.2.2.2 6)) by rw [hfl]; rfl)
  have c31 := (B0.cell 31).trans (show (msgv m a c)[31]? = some (.int .u8 (vsOf m.item.2.2.2.2.2 7)) by rw [hfl]; rfl)
  have c32 := (B0.cell 32).trans (show (msgv m a c)[32]? = some (.slice a m.writes.length c) by rw [hfl]; rfl)
  have hfold : #[Value.int .u8 m.kind, .int .u8 m.tx.1, .int .u32 m.tx.2.1, .int .u32 m.tx.2.2, .int .u32 m.time, .int .u32 m.reg.1, .int .u32 m.reg.2, .int .u8 (vsOf m.key 0), .int .u8 (vsOf m.key 1), .int .u8 (vsOf m.key 2), .int .u8 (vsOf m.key 3), .int .u8 (vsOf m.key 4), .int .u8 (vsOf m.key 5), .int .u8 (vsOf m.key 6), .int .u8 (vsOf m.key 7), .int .u8 m.mode, .int .u32 m.no, .int .u8 m.why, .int .u8 m.yes, .int .u32 m.item.1, .string ⟨m.item.2.1.toArray⟩, .int .u32 m.item.2.2.1, .int .u8 m.item.2.2.2.1, .int .u8 m.item.2.2.2.2.1, .int .u8 (vsOf m.item.2.2.2.2.2 0), .int .u8 (vsOf m.item.2.2.2.2.2 1), .int .u8 (vsOf m.item.2.2.2.2.2 2), .int .u8 (vsOf m.item.2.2.2.2.2 3), .int .u8 (vsOf m.item.2.2.2.2.2 4), .int .u8 (vsOf m.item.2.2.2.2.2 5), .int .u8 (vsOf m.item.2.2.2.2.2 6), .int .u8 (vsOf m.item.2.2.2.2.2 7), .slice a m.writes.length c] = (msgv m a c).toArray := by rw [hfl]
  have l33 := msgv_length hm a c
  have hone := msgv_one m a c
  have S9 := (B1.setRow (splice [.int .u8 0, .int .u8 0, .int .u32 0, .int .u32 0, .int .u32 0, .int .u32 0, .int .u32 0, .int .u8 0, .int .u8 0, .int .u8 0, .int .u8 0, .int .u8 0, .int .u8 0, .int .u8 0, .int .u8 0, .int .u8 0, .int .u32 0, .int .u8 0, .int .u8 0, .int .u32 0, .string ⟨#[]⟩, .int .u32 0, .int .u8 0, .int .u8 0, .int .u8 0, .int .u8 0, .int .u8 0, .int .u8 0, .int .u8 0, .int .u8 0, .int .u8 0, .int .u8 0, .slice none 0 0] 0 (msgv m a c))).seg0
  have hsp : splice ([.int .u8 0, .int .u8 0, .int .u32 0, .int .u32 0, .int .u32 0, .int .u32 0, .int .u32 0, .int .u8 0, .int .u8 0, .int .u8 0, .int .u8 0, .int .u8 0, .int .u8 0, .int .u8 0, .int .u8 0, .int .u8 0, .int .u32 0, .int .u8 0, .int .u8 0, .int .u32 0, .string ⟨#[]⟩, .int .u32 0, .int .u8 0, .int .u8 0, .int .u8 0, .int .u8 0, .int .u8 0, .int .u8 0, .int .u8 0, .int .u8 0, .int .u8 0, .int .u8 0, .slice none 0 0] : List Value) 0 (msgv m a c) = msgv m a c := splice_all _ _ (by rw [l33]; rfl)
  rw [hsp] at S9
  clear B0 hfl
  go_enter Tryz.func11, Tryz.ntmps11
  go_wp2_with (with_reducible refine wpList_st rfl 42 _ _ rfl 33 Tryz.sizeOf42 (w.heap.size + 1) 0 rfl (msgv m a c) rfl l33 _ _ B1 (by decide) hone ?_; rw [hsp])
  refine bodyPost_ret (v := .agg (msgv m a c).toArray) (by rw [results_row _ Tryz.results11 _ Tryz.isAgg42 33 Tryz.sizeOf42 (w.heap.size + 1) rfl _ l33 S9]) rfl ?_
  exact ⟨rfl, KK.setRow (fun h => absurd h (by omega)) _⟩
end
end Go.Proofs.YtjfmidcaekhhgaaGreatDoor
