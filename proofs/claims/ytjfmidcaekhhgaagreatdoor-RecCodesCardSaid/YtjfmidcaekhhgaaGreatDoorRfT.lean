/- The law RecCodes, as a walk. Printed by gen_rft.py. -/
import Derived.Test.YtjfmidcaekhhgaaGreatDoorRfS
import Derived.Test.YtjfmidcaekhhgaaGreatDoorRcW
namespace Go.Proofs.YtjfmidcaekhhgaaGreatDoor
open Go.RowKit Go.PM
section
variable {w : World}
set_option maxRecDepth 100000 in
set_option maxHeartbeats 2000000 in
theorem recCodes_calls (m : PRec) (hm : m.Wf) (hs : m.Sm) (aw : Option Addr) (cw : Nat) (am : Option Addr) (cm : Nat) (hrw : Rd w aw (pwsv m.writes)) (hrm : Rd w am (ucells m.missing)) (haw : ∀ b, At aw b → b < w.heap.size) (ham : ∀ b, At am b → b < w.heap.size) (hc : m.writes.length ≤ cw) :
    Calls Tryz.prog 4 #[.agg (recv m aw cw am cm).toArray] w fun e w' => e = .returned (.bool true) ∧ Kept No w w' := by
  have B0 := Blk.new w 50 (recv m aw cw am cm)
  have K0 := (Kept.refl No w).alloc (.cells (recv m aw cw am cm).toArray 50)
  have l31 := recv_length hm aw cw am cm
  have HL := rlong_calls (w := w.alloc (.cells (recv m aw cw am cm).toArray 50)) m hm hs aw cw am cm (hrw.keptNo K0) (hrm.keptNo K0) (fun b hb => K0.lt (haw b hb)) (fun b hb => K0.lt (ham b hb)) hc
  have s0 := B0.seg0
  have HA := Lib.hid fun w => ralive_calls (w := w)
  have HT := Lib.hid fun w => rtheirs_calls (w := w) m hm aw cw am cm
  cases hl : rlongB m
  case true =>
    rw [hl] at HL
    have HL' := Lib.hid HL
    clear HL
    go_enter Tryz.func4, Tryz.ntmps4
    go_wp2_with (with_reducible refine wpList_ld rfl 50 _ rfl Tryz.isAgg50 31 Tryz.sizeOf50 w.heap.size 0 rfl (recv m aw cw am cm) l31 s0 ?_)
    refine HL'.out.mono ?_
    rintro _ w1 ⟨rfl, k1⟩
    go_wp2_with fail
    refine (HA.out _).mono ?_
    rintro _ w2 ⟨rfl, k2⟩
    go_wp2_with fail
    go_ret
    exact ⟨rfl, (K0.trans k1 fun _ _ h => h).trans k2 fun _ _ h => h⟩
  case false =>
  rw [hl] at HL
  have HL' := Lib.hid HL
  clear HL
  cases hmay : rMay m
  case false =>
    have HE := Lib.hid (show ∀ w', Kept No w w' → Calls Tryz.prog 16 #[.agg (recv m aw cw am cm).toArray] w' fun e w'' => e = .returned (.tuple #[.slice none 0 0, .int .i64 1]) ∧ Kept No w' w'' from fun w' k => by
      have h := rencode_calls (w := w') (aw := aw) (am := am) (cw := cw) (cm := cm) m hm hs (hrw.keptNo k) (hrm.keptNo k) (fun b hb => k.lt (haw b hb)) fun b hb => k.lt (ham b hb)
      exact h.mono fun e w'' hp => by rw [REncPost, hmay] at hp; exact hp)
    have HR := Lib.hid (show ∀ w', Kept No w w' → Calls Tryz.prog 18 #[.agg (recv m aw cw am cm).toArray] w' fun e w'' => e = .returned (.tuple #[.slice none 0 0, .int .i64 1]) ∧ Kept No w' w'' from fun w' k => by
      have h := refREncode_calls (w := w') m hm hs aw cw am cm (hrw.keptNo k) (hrm.keptNo k) (fun b hb => k.lt (haw b hb)) fun b hb => k.lt (ham b hb)
      exact h.mono fun e w'' hp => by rw [REncPost, hmay] at hp; exact hp)
    have HS := Lib.hid (fun w => bsame_calls (w := w) [] [] 0 0 rfl rfl none none 0 0 (Rd.nil _ _) (Rd.nil _ _))
    clear hrw hrm haw ham
    go_enter Tryz.func4, Tryz.ntmps4
    go_wp2_with (with_reducible refine wpList_ld rfl 50 _ rfl Tryz.isAgg50 31 Tryz.sizeOf50 w.heap.size 0 rfl (recv m aw cw am cm) l31 s0 ?_)
    refine HL'.out.mono ?_
    rintro _ w1 ⟨rfl, k1⟩
    have B1 := B0.kept k1 fun h => h
    have s1 := B1.seg0
    have k11 := K0.trans k1 fun _ _ h => h
    go_wp2_with (with_reducible refine wpList_ld rfl 50 _ rfl Tryz.isAgg50 31 Tryz.sizeOf50 w.heap.size 0 rfl (recv m aw cw am cm) l31 s1 ?_)
    refine (HT.out _).mono ?_
    rintro _ w2 ⟨rfl, k2⟩
    have k12 := k11.trans k2 fun _ _ h => h
    have B2 := B1.kept k2 fun h => h
    go_wp2_with fail
    refine (HE.out _ k12).mono ?_
    rintro _ w3 ⟨rfl, k3⟩
    have k13 := k12.trans k3 fun _ _ h => h
    have s3 := (B2.kept k3 fun h => h).seg0
    go_wp2_with (with_reducible refine wpList_ld rfl 50 _ rfl Tryz.isAgg50 31 Tryz.sizeOf50 w.heap.size 0 rfl (recv m aw cw am cm) l31 s3 ?_)
    refine (HR.out _ k13).mono ?_
    rintro _ w4 ⟨rfl, k4⟩
    have k14 := k13.trans k4 fun _ _ h => h
    go_wp2_with fail
    refine (HS.out _).mono ?_
    rintro _ w5 ⟨rfl, rfl⟩
    go_wp2_with fail
    refine (HA.out _).mono ?_
    rintro _ w6 ⟨rfl, k6⟩
    go_wp2_with fail
    go_ret
    exact ⟨rfl, k14.trans k6 fun _ _ h => h⟩
  case true =>
    have HE := Lib.hid (show ∀ w', Kept No w w' → Calls Tryz.prog 16 #[.agg (recv m aw cw am cm).toArray] w' fun e w'' => ∃ ae ce, e = .returned (.tuple #[.slice ae (rEnc m).length ce, .int .i64 0]) ∧ Rd w'' ae (bcells (rEnc m)) ∧ Kept No w' w'' from fun w' k => by
      have h := rencode_calls (w := w') (aw := aw) (am := am) (cw := cw) (cm := cm) m hm hs (hrw.keptNo k) (hrm.keptNo k) (fun b hb => k.lt (haw b hb)) fun b hb => k.lt (ham b hb)
      exact h.mono fun e w'' hp => by rw [REncPost, hmay, if_pos rfl] at hp; obtain ⟨ae, ce, e1, o1, k1, _⟩ := hp; exact ⟨ae, ce, e1, o1.rd, k1⟩)
    have HR := Lib.hid (show ∀ w', Kept No w w' → Calls Tryz.prog 18 #[.agg (recv m aw cw am cm).toArray] w' fun e w'' => ∃ ae ce, e = .returned (.tuple #[.slice ae (rEnc m).length ce, .int .i64 0]) ∧ Rd w'' ae (bcells (rEnc m)) ∧ Kept No w' w'' from fun w' k => by
      have h := refREncode_calls (w := w') m hm hs aw cw am cm (hrw.keptNo k) (hrm.keptNo k) (fun b hb => k.lt (haw b hb)) fun b hb => k.lt (ham b hb)
      exact h.mono fun e w'' hp => by rw [REncPost, hmay, if_pos rfl] at hp; obtain ⟨ae, ce, e1, o1, k1, _⟩ := hp; exact ⟨ae, ce, e1, o1.rd, k1⟩)
    have HS := Lib.hid (fun (w : World) (p q : Option Addr) (c1 c2 : Nat) (h1 : Rd w p (bcells (rEnc m))) (h2 : Rd w q (bcells (rEnc m))) => (show Calls Tryz.prog 13 #[.slice p (rEnc m).length c1, .slice q (rEnc m).length c2] w fun e w' => e = .returned (.bool true) ∧ w = w' from by
      have h := bsame_calls (w := w) (rEnc m) (rEnc m) _ _ rfl rfl p q c1 c2 h1 h2
      rw [beq_self_eq_true] at h; exact h))
    clear hrw hrm haw ham
    generalize (rEnc m).length = E at *
    generalize bcells (rEnc m) = X at *
    go_enter Tryz.func4, Tryz.ntmps4
    go_wp2_with (with_reducible refine wpList_ld rfl 50 _ rfl Tryz.isAgg50 31 Tryz.sizeOf50 w.heap.size 0 rfl (recv m aw cw am cm) l31 s0 ?_)
    refine HL'.out.mono ?_
    rintro _ w1 ⟨rfl, k1⟩
    have B1 := B0.kept k1 fun h => h
    have s1 := B1.seg0
    have k11 := K0.trans k1 fun _ _ h => h
    go_wp2_with (with_reducible refine wpList_ld rfl 50 _ rfl Tryz.isAgg50 31 Tryz.sizeOf50 w.heap.size 0 rfl (recv m aw cw am cm) l31 s1 ?_)
    refine (HT.out _).mono ?_
    rintro _ w2 ⟨rfl, k2⟩
    have k12 := k11.trans k2 fun _ _ h => h
    have B2 := B1.kept k2 fun h => h
    go_wp2_with fail
    refine (HE.out _ k12).mono ?_
    rintro _ w3 ⟨ae, ce, rfl, r3, k3⟩
    have k13 := k12.trans k3 fun _ _ h => h
    have s3 := (B2.kept k3 fun h => h).seg0
    go_wp2_with (with_reducible refine wpList_ld rfl 50 _ rfl Tryz.isAgg50 31 Tryz.sizeOf50 w.heap.size 0 rfl (recv m aw cw am cm) l31 s3 ?_)
    refine (HR.out _ k13).mono ?_
    rintro _ w4 ⟨be, de, rfl, r4, k4⟩
    have k14 := k13.trans k4 fun _ _ h => h
    go_wp2_with fail
    refine (HS.out _ _ _ _ _ (r3.keptNo k4) r4).mono ?_
    rintro _ w5 ⟨rfl, rfl⟩
    go_wp2_with fail
    refine (HA.out _).mono ?_
    rintro _ w6 ⟨rfl, k6⟩
    go_wp2_with fail
    go_ret
    exact ⟨rfl, k14.trans k6 fun _ _ h => h⟩
end
end Go.Proofs.YtjfmidcaekhhgaaGreatDoor
