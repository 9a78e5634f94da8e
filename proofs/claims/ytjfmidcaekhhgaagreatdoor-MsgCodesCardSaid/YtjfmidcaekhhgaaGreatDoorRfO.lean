/- The law MsgCodes, as a walk. Printed by gen_rfo.py. -/
import Derived.Test.YtjfmidcaekhhgaaGreatDoorRfN
import Derived.Test.YtjfmidcaekhhgaaGreatDoorMsAl
namespace Go.Proofs.YtjfmidcaekhhgaaGreatDoor
open Go.RowKit Go.PM
section
variable {w : World}
set_option maxRecDepth 100000 in
set_option maxHeartbeats 2000000 in
theorem msgCodes_calls (m : PMsg) (hm : m.Wf) (hs : m.Sm) (a : Option Addr) (c : Nat) (hr : Rd w a (pwsv m.writes)) (hat : ∀ b, At a b → b < w.heap.size) (hc : m.writes.length ≤ c) :
    Calls Tryz.prog 3 #[.agg (msgv m a c).toArray] w fun e w' => e = .returned (.bool true) ∧ Kept No w w' := by
  have B0 := Blk.new w 35 (msgv m a c)
  have K0 := (Kept.refl No w).alloc (.cells (msgv m a c).toArray 35)
  have l33 := msgv_length hm a c
  have hat0 : ∀ b, At a b → b < (w.alloc (.cells (msgv m a c).toArray 35)).heap.size := fun b hb => K0.lt (hat b hb)
  have hr0 := hr.keptNo K0
  have HL := mlong_calls (w := w.alloc (.cells (msgv m a c).toArray 35)) m hm hs a c hr0 hat0 hc
  have s0 := B0.seg0
  have HA := Lib.hid fun w => alive_calls (w := w)
  have HT := Lib.hid fun w => theirs_calls (w := w) m hm a c
  cases hl : longB m
  case true =>
    rw [hl] at HL
    have HL' := Lib.hid HL
    clear HL
    go_enter Tryz.func3, Tryz.ntmps3
    go_wp2_with (with_reducible refine wpList_ld rfl 35 _ rfl Tryz.isAgg35 33 Tryz.sizeOf35 w.heap.size 0 rfl (msgv m a c) l33 s0 ?_)
    refine HL'.out.mono ?_
    rintro _ w1 ⟨rfl, k1⟩
    go_wp2_with fail
    refine (HA.out _).mono ?_
    rintro _ w2 ⟨rfl, k2⟩
    go_wp2_with fail
    go_ret
    exact ⟨rfl, (K0.trans k1 fun _ _ h => h).trans k2 fun _ _ h => h⟩
  case false =>
  rw [hl] at HL
  have HL' := Lib.hid HL
  clear HL
  cases hmay : mMay m
  case false =>
    have HE := Lib.hid (show ∀ w', Kept No w w' → Calls Tryz.prog 10 #[.agg (msgv m a c).toArray] w' fun e w'' => e = .returned (.tuple #[.slice none 0 0, .int .i64 1]) ∧ Kept No w' w'' from fun w' k => by
      have h := encode_calls (w := w') (ad := a) (c := c) m hm hs (hr.keptNo k) fun b hb => k.lt (hat b hb)
      exact h.mono fun e w'' hp => by rw [EncPost, hmay] at hp; exact hp)
    have HR := Lib.hid (show ∀ w', Kept No w w' → Calls Tryz.prog 12 #[.agg (msgv m a c).toArray] w' fun e w'' => e = .returned (.tuple #[.slice none 0 0, .int .i64 1]) ∧ Kept No w' w'' from fun w' k => by
      have h := refEncode_calls (w := w') (ad := a) (c := c) m hm hs (hr.keptNo k) fun b hb => k.lt (hat b hb)
      exact h.mono fun e w'' hp => by rw [EncPost, hmay] at hp; exact hp)
    have HS := Lib.hid (fun w => bsame_calls (w := w) [] [] 0 0 rfl rfl none none 0 0 (Rd.nil _ _) (Rd.nil _ _))
    clear hr hat hr0 hat0
    go_enter Tryz.func3, Tryz.ntmps3
    go_wp2_with (with_reducible refine wpList_ld rfl 35 _ rfl Tryz.isAgg35 33 Tryz.sizeOf35 w.heap.size 0 rfl (msgv m a c) l33 s0 ?_)
    refine HL'.out.mono ?_
    rintro _ w1 ⟨rfl, k1⟩
    have B1 := B0.kept k1 fun h => h
    have s1 := B1.seg0
    have k11 := K0.trans k1 fun _ _ h => h
    go_wp2_with (with_reducible refine wpList_ld rfl 35 _ rfl Tryz.isAgg35 33 Tryz.sizeOf35 w.heap.size 0 rfl (msgv m a c) l33 s1 ?_)
    refine (HT.out _).mono ?_
    rintro _ w2 ⟨rfl, k2⟩
    have k12 := k11.trans k2 fun _ _ h => h
    have B2 := B1.kept k2 fun h => h
    go_wp2_with fail
    refine (HE.out _ k12).mono ?_
    rintro _ w3 ⟨rfl, k3⟩
    have k13 := k12.trans k3 fun _ _ h => h
    have s3 := (B2.kept k3 fun h => h).seg0
    go_wp2_with (with_reducible refine wpList_ld rfl 35 _ rfl Tryz.isAgg35 33 Tryz.sizeOf35 w.heap.size 0 rfl (msgv m a c) l33 s3 ?_)
    refine (HR.out _ k13).mono ?_
    rintro _ w4 ⟨rfl, k4⟩
    have k14 := k13.trans k4 fun _ _ h => h
    go_wp2_with fail
    refine (HS.out _).mono ?_
    rintro _ w5 ⟨rfl, rfl⟩
    go_wp2_with fail
    refine (HA.out _).mono ?_
    rintro _ w6 ⟨rfl, k6⟩
    go_wp2_with fail
    go_ret
    exact ⟨rfl, k14.trans k6 fun _ _ h => h⟩
  case true =>
    have HE := Lib.hid (show ∀ w', Kept No w w' → Calls Tryz.prog 10 #[.agg (msgv m a c).toArray] w' fun e w'' => ∃ ae ce, e = .returned (.tuple #[.slice ae (mEnc m).length ce, .int .i64 0]) ∧ Rd w'' ae (bcells (mEnc m)) ∧ Kept No w' w'' from fun w' k => by
      have h := encode_calls (w := w') (ad := a) (c := c) m hm hs (hr.keptNo k) fun b hb => k.lt (hat b hb)
      exact h.mono fun e w'' hp => by rw [EncPost, hmay, if_pos rfl] at hp; obtain ⟨ae, ce, e1, o1, k1, _⟩ := hp; exact ⟨ae, ce, e1, o1.rd, k1⟩)
    have HR := Lib.hid (show ∀ w', Kept No w w' → Calls Tryz.prog 12 #[.agg (msgv m a c).toArray] w' fun e w'' => ∃ ae ce, e = .returned (.tuple #[.slice ae (mEnc m).length ce, .int .i64 0]) ∧ Rd w'' ae (bcells (mEnc m)) ∧ Kept No w' w'' from fun w' k => by
      have h := refEncode_calls (w := w') (ad := a) (c := c) m hm hs (hr.keptNo k) fun b hb => k.lt (hat b hb)
      exact h.mono fun e w'' hp => by rw [EncPost, hmay, if_pos rfl] at hp; obtain ⟨ae, ce, e1, o1, k1, _⟩ := hp; exact ⟨ae, ce, e1, o1.rd, k1⟩)
    have HS := Lib.hid (fun (w : World) (p q : Option Addr) (c1 c2 : Nat) (h1 : Rd w p (bcells (mEnc m))) (h2 : Rd w q (bcells (mEnc m))) => (show Calls Tryz.prog 13 #[.slice p (mEnc m).length c1, .slice q (mEnc m).length c2] w fun e w' => e = .returned (.bool true) ∧ w = w' from by
      have h := bsame_calls (w := w) (mEnc m) (mEnc m) _ _ rfl rfl p q c1 c2 h1 h2
      rw [beq_self_eq_true] at h; exact h))
    clear hr hat hr0 hat0
    generalize (mEnc m).length = E at *
    generalize bcells (mEnc m) = X at *
    go_enter Tryz.func3, Tryz.ntmps3
    go_wp2_with (with_reducible refine wpList_ld rfl 35 _ rfl Tryz.isAgg35 33 Tryz.sizeOf35 w.heap.size 0 rfl (msgv m a c) l33 s0 ?_)
    refine HL'.out.mono ?_
    rintro _ w1 ⟨rfl, k1⟩
    have B1 := B0.kept k1 fun h => h
    have s1 := B1.seg0
    have k11 := K0.trans k1 fun _ _ h => h
    go_wp2_with (with_reducible refine wpList_ld rfl 35 _ rfl Tryz.isAgg35 33 Tryz.sizeOf35 w.heap.size 0 rfl (msgv m a c) l33 s1 ?_)
    refine (HT.out _).mono ?_
    rintro _ w2 ⟨rfl, k2⟩
    have k12 := k11.trans k2 fun _ _ h => h
    have B2 := B1.kept k2 fun h => h
    go_wp2_with fail
    refine (HE.out _ k12).mono ?_
    rintro _ w3 ⟨ae, ce, rfl, r3, k3⟩
    have k13 := k12.trans k3 fun _ _ h => h
    have s3 := (B2.kept k3 fun h => h).seg0
    go_wp2_with (with_reducible refine wpList_ld rfl 35 _ rfl Tryz.isAgg35 33 Tryz.sizeOf35 w.heap.size 0 rfl (msgv m a c) l33 s3 ?_)
    refine (HR.out _ k13).mono ?_
    rintro _ w4 ⟨be, de, rfl, r4, k4⟩
    have k14 := k13.trans k4 fun _ _ h => h
    go_wp2_with fail
    refine (HS.out _ _ _ _ _ (r3.keptNo k4) r4).mono ?_
    rintro _ w5 ⟨rfl, rfl⟩
    go_wp2_with fail
    refine (HA.out _).mono ?_
    rintro _ w6 ⟨rfl, k6⟩
    go_wp2_with fail
    go_ret
    exact ⟨rfl, k14.trans k6 fun _ _ h => h⟩
end
end Go.Proofs.YtjfmidcaekhhgaaGreatDoor
