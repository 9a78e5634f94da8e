/- The document's Encode of a record: walks. Printed by gen_rfs.py. -/
import Derived.Test.YtjfmidcaekhhgaaGreatDoorRfR
import Derived.Test.YtjfmidcaekhhgaaGreatDoorRWr
import Derived.Test.YtjfmidcaekhhgaaGreatDoorRcQ
namespace Go.Proofs.YtjfmidcaekhhgaaGreatDoor
open Go.RowKit Go.PM

/-- A record and a writer, apart (the document's). -/
structure RcRw (w : World) (b : Nat) (m : PRec) (aw : Option Addr) (cw : Nat) (am : Option Addr) (cm : Nat) (g : Nat) : Prop where
  rc : Rc w 50 b m aw cw am cm
  off : ¬ WrS w 82 g b
  offw : ∀ k, At aw k → ¬ WrS w 82 g k
  offm : ∀ k, At am k → ¬ WrS w 82 g k
theorem RcRw.to {w w' : World} {b g cw cm : Nat} {m : PRec} {aw am : Option Addr} {l : List UInt8} (h : RcRw w b m aw cw am cm g) (k : WrTo w w' 82 g l) : RcRw w' b m aw cw am cm g :=
  ⟨h.rc.kept k.kept h.off h.offw h.offm, k.offs h.off h.rc.box.lt, fun x hx => k.offs (h.offw x hx) (h.rc.ltw x hx), fun x hx => k.offs (h.offm x hx) (h.rc.ltm x hx)⟩
theorem wsplit {a b c : List UInt8} : (a ++ b) ++ c = a ++ (b ++ c) := List.append_assoc _ _ _
def RsRel5 (w0 : World) (b : Nat) (m : PRec) (aw : Option Addr) (cw : Nat) (am : Option Addr) (cm g : Nat) (R : List UInt8) (i : Value) (wr : World) : Prop :=
  ∃ k : Nat, k ≤ m.missing.length ∧ i = .int .i64 k ∧ WrTo w0 wr 82 g (R ++ setC.puts (m.missing.take k)) ∧ RcRw wr b m aw cw am cm g
theorem setPuts_step (l : List Nat) {k x : Nat} (hlt : k < l.length) (hx : l[k] = x) : setC.puts (l.take (k + 1)) = setC.puts (l.take k) ++ short x := by
  rw [List.take_succ_eq_append_getElem hlt, hx]
  unfold Codec.puts
  rw [List.flatMap_append]
  simp [setC, numC]
theorem setPuts_le (l : List Nat) (h : ∀ x ∈ l, x ≤ 255) (k : Nat) : (setC.puts (l.take k)).length ≤ l.length * 2 := by
  have h1 := puts_le setC (l.take k) 2 fun a ha => short_le (k := 1) (Nat.lt_of_le_of_lt (h a (List.mem_of_mem_take ha)) (by decide))
  have h2 : (l.take k).length ≤ l.length := by rw [List.length_take]; omega
  omega
section
variable {w : World}
theorem rEnc_end {w2 wr : World} {m : PRec} {xs : List Value} {T : TypeId} (hmay : rMay m = true) (k2 : Kept No (w.alloc (.cells xs.toArray T)) w2) (hT : WrTo (w2.alloc (.cells #[.slice none 0 0] 82)) wr 82 w2.heap.size (rEnc m)) :
    ∃ a cap, wr.cell? ⟨w2.heap.size, 0, none⟩ = some (.slice a (rEnc m).length cap) ∧ REncPost w m (.returned (.tuple #[.slice a (rEnc m).length cap, .int .i64 0])) wr := by
  have hwr : Wr (w2.alloc (.cells #[.slice none 0 0] 82)) 82 w2.heap.size [] none 0 := ⟨Blk.new w2 82 [.slice none 0 0], Owns.nil _ _ _, fun k ⟨_, _, h, _⟩ => nomatch h⟩
  have hge : w.heap.size ≤ w2.heap.size := by have := k2.size; rw [World.size_alloc] at this; omega
  have k6 := (((Kept.refl No w).alloc (.cells xs.toArray T)).trans k2 fun _ _ h => h).alloc (.cells #[.slice none 0 0] 82)
  obtain ⟨a, cap, hW⟩ := hT.wr
  refine ⟨a, cap, hW.box.cell 0, ?_⟩
  unfold REncPost
  rw [hmay, if_pos rfl]
  refine ⟨a, cap, rfl, hW.own, k6.above hT.kept fun b hb => ?_, fun k hk => ?_⟩
  · rcases (hwr.foot b).1 hb with e | ⟨_, _, e, _⟩
    · omega
    · cases e
  · rcases hT.foot k ((hW.foot k).2 (.inr hk)) with h1 | h1
    · rcases (hwr.foot k).1 h1 with e | ⟨_, _, e, _⟩
      · omega
      · cases e
    · rw [World.size_alloc] at h1; omega
set_option maxRecDepth 100000 in
set_option maxHeartbeats 2000000 in
theorem refREnc_no (m : PRec) (hm : m.Wf) (hs : m.Sm) (hmay : rMay m = false) (aw : Option Addr) (cw : Nat) (am : Option Addr) (cm : Nat) (hrw : Rd w aw (pwsv m.writes)) (hrm : Rd w am (ucells m.missing)) (haw : ∀ b, At aw b → b < w.heap.size) (ham : ∀ b, At am b → b < w.heap.size) :
    Calls Tryz.prog 18 #[.agg (recv m aw cw am cm).toArray] w (REncPost w m) := by
  have B0 := Blk.new w 50 (recv m aw cw am cm)
  have K0 := (Kept.refl No w).alloc (.cells (recv m aw cw am cm).toArray 50)
  have M0 : Rc (w.alloc (.cells (recv m aw cw am cm).toArray 50)) 50 w.heap.size m aw cw am cm := ⟨B0, hrw.keptNo K0, hrm.keptNo K0, fun b hb => K0.lt (haw b hb), fun b hb => K0.lt (ham b hb), hm, hs⟩
  have l31 := recv_length hm aw cw am cm
  have S0 := B0.seg0
  have HM := Lib.hid (refMay_rec (w := (w.alloc (.cells (recv m aw cw am cm).toArray 50))) m hm hs aw cw am cm M0.rdw M0.rdm M0.ltw M0.ltm)
  have HP := Lib.hid (show ∀ e w', (e = .returned (.tuple #[.slice none 0 0, .int .i64 1]) ∧ Kept No w w') → REncPost w m e w' from fun e w' h => by unfold REncPost; rw [hmay, if_neg (by decide)]; exact h)
  rw [hmay] at HM
  clear hrw hrm haw ham M0 hmay
  go_enter Tryz.func18, Tryz.ntmps18
  go_wp2_with (first
    | (with_reducible refine wpList_ld rfl 50 _ rfl Tryz.isAgg50 31 Tryz.sizeOf50 w.heap.size 0 rfl (recv m aw cw am cm) l31 S0 ?_)
    | (go_at_call 28; refine HM.out.mono ?_; rintro _ w2 ⟨rfl, k2⟩))
  go_ret2
  exact HP.out _ _ ⟨rfl, K0.trans k2 fun _ _ h => h⟩
set_option maxRecDepth 100000 in
set_option maxHeartbeats 2000000 in
theorem refREnc_1 (m : PRec) (hm : m.Wf) (hs : m.Sm) (hk : m.kind = 1) (hmay : rMay m = true) (aw : Option Addr) (cw : Nat) (am : Option Addr) (cm : Nat) (hrw : Rd w aw (pwsv m.writes)) (hrm : Rd w am (ucells m.missing)) (haw : ∀ b, At aw b → b < w.heap.size) (ham : ∀ b, At am b → b < w.heap.size) :
    Calls Tryz.prog 18 #[.agg (recv m aw cw am cm).toArray] w (REncPost w m) := by
  have B0 := Blk.new w 50 (recv m aw cw am cm)
  have K0 := (Kept.refl No w).alloc (.cells (recv m aw cw am cm).toArray 50)
  have M0 : Rc (w.alloc (.cells (recv m aw cw am cm).toArray 50)) 50 w.heap.size m aw cw am cm := ⟨B0, hrw.keptNo K0, hrm.keptNo K0, fun b hb => K0.lt (haw b hb), fun b hb => K0.lt (ham b hb), hm, hs⟩
  have l31 := recv_length hm aw cw am cm
  have S0 := B0.seg0
  have HM := Lib.hid (refMay_rec (w := (w.alloc (.cells (recv m aw cw am cm).toArray 50))) m hm hs aw cw am cm M0.rdw M0.rdm M0.ltw M0.ltm)
  have HMY := Lib.hid hmay
  rw [hmay] at HM
  have hkn := hm.kind
  have henc := rEnc_le hm hmay
  obtain ⟨hf1, hf2, hf3⟩ := rMay_fields hm hmay
  have HWr := Lib.hid (fun (w2 : World) (k2 : Kept No (w.alloc (.cells (recv m aw cw am cm).toArray 50)) w2) => (show Wr (w2.alloc (.cells #[.slice none 0 0] 82)) 82 w2.heap.size [] none 0 from
    ⟨Blk.new w2 82 [.slice none 0 0], Owns.nil _ _ _, fun k ⟨_, _, h, _⟩ => nomatch h⟩))
  have HMW := Lib.hid (fun (w2 : World) (k2 : Kept No (w.alloc (.cells (recv m aw cw am cm).toArray 50)) w2) => (show RcRw (w2.alloc (.cells #[.slice none 0 0] 82)) w.heap.size m aw cw am cm w2.heap.size from by
    have h1 := HWr.out w2 k2
    have hm2 := M0.keptNo (k2.alloc (.cells #[.slice none 0 0] 82))
    have hof : ∀ k, k < w2.heap.size → ¬ WrS (w2.alloc (.cells #[.slice none 0 0] 82)) 82 w2.heap.size k := fun k hk hs => by
      rcases (h1.foot k).1 hs with e | ⟨_, _, e, _⟩
      · omega
      · cases e
    exact ⟨hm2, hof _ (k2.lt M0.box.lt), fun k hk => hof _ (k2.lt (M0.ltw k hk)), fun k hk => hof _ (k2.lt (M0.ltm k hk))⟩))
  have he : rEnc m = [UInt8.ofNat 1] ++ short m.n := by unfold rEnc; rw [hk]; simp [rdx, Re.puts]; rfl
  have hn := hm.n
  have HEQ := Lib.hid he
  clear hrw hrm haw ham hmay he
  go_enter Tryz.func18, Tryz.ntmps18
  go_wp2_with (first
    | (with_reducible refine wpList_ld rfl 50 _ rfl Tryz.isAgg50 31 Tryz.sizeOf50 w.heap.size 0 rfl (recv m aw cw am cm) l31 S0 ?_)
    | (go_at_call 28; refine HM.out.mono ?_; rintro _ w2 ⟨rfl, k2⟩; have m2 := HMW.out w2 k2; have c2 := m2.rc.kind; rw [hk] at c2)
    | (go_at_call 38; refine (refByte_calls (HWr.out w2 k2) 1 (by decide) (by simp)).mono ?_; rintro _ w3 ⟨rfl, k3⟩; have m3 := m2.to k3; clear c2; have c3 := m3.rc.kind; rw [hk] at c3; have cn := m3.rc.n_)
    | (go_at_call 41; refine (refNum_calls k3.wr.choose_spec.choose_spec m.n (by omega) (by simp)).mono ?_; rintro _ w4 ⟨rfl, k4⟩; have m4 := m3.to k4; have c4 := m4.rc.kind; rw [hk] at c4; clear c3 cn; obtain ⟨ae, ce, cc, hE⟩ := rEnc_end HMY.out k2 (by rw [HEQ.out]; exact k3.trans k4); have HE := Lib.hid hE; clear hE))
  go_ret2
  exact HE.out
set_option maxRecDepth 100000 in
set_option maxHeartbeats 2000000 in
theorem refREnc_3 (m : PRec) (hm : m.Wf) (hs : m.Sm) (hk : m.kind = 3 ∨ m.kind = 4 ∨ m.kind = 6) (hmay : rMay m = true) (aw : Option Addr) (cw : Nat) (am : Option Addr) (cm : Nat) (hrw : Rd w aw (pwsv m.writes)) (hrm : Rd w am (ucells m.missing)) (haw : ∀ b, At aw b → b < w.heap.size) (ham : ∀ b, At am b → b < w.heap.size) :
    Calls Tryz.prog 18 #[.agg (recv m aw cw am cm).toArray] w (REncPost w m) := by
  have B0 := Blk.new w 50 (recv m aw cw am cm)
  have K0 := (Kept.refl No w).alloc (.cells (recv m aw cw am cm).toArray 50)
  have M0 : Rc (w.alloc (.cells (recv m aw cw am cm).toArray 50)) 50 w.heap.size m aw cw am cm := ⟨B0, hrw.keptNo K0, hrm.keptNo K0, fun b hb => K0.lt (haw b hb), fun b hb => K0.lt (ham b hb), hm, hs⟩
  have l31 := recv_length hm aw cw am cm
  have S0 := B0.seg0
  have HM := Lib.hid (refMay_rec (w := (w.alloc (.cells (recv m aw cw am cm).toArray 50))) m hm hs aw cw am cm M0.rdw M0.rdm M0.ltw M0.ltm)
  have HMY := Lib.hid hmay
  rw [hmay] at HM
  have hkn := hm.kind
  have henc := rEnc_le hm hmay
  obtain ⟨hf1, hf2, hf3⟩ := rMay_fields hm hmay
  have HWr := Lib.hid (fun (w2 : World) (k2 : Kept No (w.alloc (.cells (recv m aw cw am cm).toArray 50)) w2) => (show Wr (w2.alloc (.cells #[.slice none 0 0] 82)) 82 w2.heap.size [] none 0 from
    ⟨Blk.new w2 82 [.slice none 0 0], Owns.nil _ _ _, fun k ⟨_, _, h, _⟩ => nomatch h⟩))
  have HMW := Lib.hid (fun (w2 : World) (k2 : Kept No (w.alloc (.cells (recv m aw cw am cm).toArray 50)) w2) => (show RcRw (w2.alloc (.cells #[.slice none 0 0] 82)) w.heap.size m aw cw am cm w2.heap.size from by
    have h1 := HWr.out w2 k2
    have hm2 := M0.keptNo (k2.alloc (.cells #[.slice none 0 0] 82))
    have hof : ∀ k, k < w2.heap.size → ¬ WrS (w2.alloc (.cells #[.slice none 0 0] 82)) 82 w2.heap.size k := fun k hk hs => by
      rcases (h1.foot k).1 hs with e | ⟨_, _, e, _⟩
      · omega
      · cases e
    exact ⟨hm2, hof _ (k2.lt M0.box.lt), fun k hk => hof _ (k2.lt (M0.ltw k hk)), fun k hk => hof _ (k2.lt (M0.ltm k hk))⟩))
  have he : rEnc m = [UInt8.ofNat m.kind] ++ txC.put m.tx := by unfold rEnc; rcases hk with hk | hk | hk <;> (rw [hk]; simp [rdx, Re.puts]; rfl)
  rcases hk with hk | hk | hk
  · rw [hk] at he
    have HEQ := Lib.hid he
    clear hrw hrm haw ham hmay he
    go_enter Tryz.func18, Tryz.ntmps18
    go_wp2_with (first
      | (with_reducible refine wpList_ld rfl 50 _ rfl Tryz.isAgg50 31 Tryz.sizeOf50 w.heap.size 0 rfl (recv m aw cw am cm) l31 S0 ?_)
      | (go_at_call 28; refine HM.out.mono ?_; rintro _ w2 ⟨rfl, k2⟩; have m2 := HMW.out w2 k2; have c2 := m2.rc.kind; rw [hk] at c2)
      | (go_at_call 38; refine (refByte_calls (HWr.out w2 k2) 3 (by decide) (by simp)).mono ?_; rintro _ w3 ⟨rfl, k3⟩; have m3 := m2.to k3; clear c2; have c3 := m3.rc.kind; rw [hk] at c3; have st := m3.rc.tx)
      | (with_reducible refine wpList_ld rfl 24 _ rfl Tryz.isAgg24 3 Tryz.sizeOf24 w.heap.size 2 rfl (txv m.tx) rfl st ?_)
      | (go_at_call 40; refine (refPutTx_calls k3.wr.choose_spec.choose_spec m.tx hm.tx (by simp)).mono ?_; rintro _ w4 ⟨rfl, k4⟩; have m4 := m3.to k4; have c4 := m4.rc.kind; rw [hk] at c4; clear c3 st; obtain ⟨ae, ce, cc, hE⟩ := rEnc_end HMY.out k2 (by rw [HEQ.out]; exact k3.trans k4); have HE := Lib.hid hE; clear hE))
    go_ret2
    exact HE.out
  · rw [hk] at he
    have HEQ := Lib.hid he
    clear hrw hrm haw ham hmay he
    go_enter Tryz.func18, Tryz.ntmps18
    go_wp2_with (first
      | (with_reducible refine wpList_ld rfl 50 _ rfl Tryz.isAgg50 31 Tryz.sizeOf50 w.heap.size 0 rfl (recv m aw cw am cm) l31 S0 ?_)
      | (go_at_call 28; refine HM.out.mono ?_; rintro _ w2 ⟨rfl, k2⟩; have m2 := HMW.out w2 k2; have c2 := m2.rc.kind; rw [hk] at c2)
      | (go_at_call 38; refine (refByte_calls (HWr.out w2 k2) 4 (by decide) (by simp)).mono ?_; rintro _ w3 ⟨rfl, k3⟩; have m3 := m2.to k3; clear c2; have c3 := m3.rc.kind; rw [hk] at c3; have st := m3.rc.tx)
      | (with_reducible refine wpList_ld rfl 24 _ rfl Tryz.isAgg24 3 Tryz.sizeOf24 w.heap.size 2 rfl (txv m.tx) rfl st ?_)
      | (go_at_call 40; refine (refPutTx_calls k3.wr.choose_spec.choose_spec m.tx hm.tx (by simp)).mono ?_; rintro _ w4 ⟨rfl, k4⟩; have m4 := m3.to k4; have c4 := m4.rc.kind; rw [hk] at c4; clear c3 st; obtain ⟨ae, ce, cc, hE⟩ := rEnc_end HMY.out k2 (by rw [HEQ.out]; exact k3.trans k4); have HE := Lib.hid hE; clear hE))
    go_ret2
    exact HE.out
  · rw [hk] at he
    have HEQ := Lib.hid he
    clear hrw hrm haw ham hmay he
    go_enter Tryz.func18, Tryz.ntmps18
    go_wp2_with (first
      | (with_reducible refine wpList_ld rfl 50 _ rfl Tryz.isAgg50 31 Tryz.sizeOf50 w.heap.size 0 rfl (recv m aw cw am cm) l31 S0 ?_)
      | (go_at_call 28; refine HM.out.mono ?_; rintro _ w2 ⟨rfl, k2⟩; have m2 := HMW.out w2 k2; have c2 := m2.rc.kind; rw [hk] at c2)
      | (go_at_call 38; refine (refByte_calls (HWr.out w2 k2) 6 (by decide) (by simp)).mono ?_; rintro _ w3 ⟨rfl, k3⟩; have m3 := m2.to k3; clear c2; have c3 := m3.rc.kind; rw [hk] at c3; have st := m3.rc.tx)
      | (with_reducible refine wpList_ld rfl 24 _ rfl Tryz.isAgg24 3 Tryz.sizeOf24 w.heap.size 2 rfl (txv m.tx) rfl st ?_)
      | (go_at_call 40; refine (refPutTx_calls k3.wr.choose_spec.choose_spec m.tx hm.tx (by simp)).mono ?_; rintro _ w4 ⟨rfl, k4⟩; have m4 := m3.to k4; have c4 := m4.rc.kind; rw [hk] at c4; clear c3 st; obtain ⟨ae, ce, cc, hE⟩ := rEnc_end HMY.out k2 (by rw [HEQ.out]; exact k3.trans k4); have HE := Lib.hid hE; clear hE))
    go_ret2
    exact HE.out
set_option maxRecDepth 100000 in
set_option maxHeartbeats 2000000 in
theorem refREnc_7 (m : PRec) (hm : m.Wf) (hs : m.Sm) (hk : m.kind = 7) (hmay : rMay m = true) (aw : Option Addr) (cw : Nat) (am : Option Addr) (cm : Nat) (hrw : Rd w aw (pwsv m.writes)) (hrm : Rd w am (ucells m.missing)) (haw : ∀ b, At aw b → b < w.heap.size) (ham : ∀ b, At am b → b < w.heap.size) :
    Calls Tryz.prog 18 #[.agg (recv m aw cw am cm).toArray] w (REncPost w m) := by
  have B0 := Blk.new w 50 (recv m aw cw am cm)
  have K0 := (Kept.refl No w).alloc (.cells (recv m aw cw am cm).toArray 50)
  have M0 : Rc (w.alloc (.cells (recv m aw cw am cm).toArray 50)) 50 w.heap.size m aw cw am cm := ⟨B0, hrw.keptNo K0, hrm.keptNo K0, fun b hb => K0.lt (haw b hb), fun b hb => K0.lt (ham b hb), hm, hs⟩
  have l31 := recv_length hm aw cw am cm
  have S0 := B0.seg0
  have HM := Lib.hid (refMay_rec (w := (w.alloc (.cells (recv m aw cw am cm).toArray 50))) m hm hs aw cw am cm M0.rdw M0.rdm M0.ltw M0.ltm)
  have HMY := Lib.hid hmay
  rw [hmay] at HM
  have hkn := hm.kind
  have henc := rEnc_le hm hmay
  obtain ⟨hf1, hf2, hf3⟩ := rMay_fields hm hmay
  have HWr := Lib.hid (fun (w2 : World) (k2 : Kept No (w.alloc (.cells (recv m aw cw am cm).toArray 50)) w2) => (show Wr (w2.alloc (.cells #[.slice none 0 0] 82)) 82 w2.heap.size [] none 0 from
    ⟨Blk.new w2 82 [.slice none 0 0], Owns.nil _ _ _, fun k ⟨_, _, h, _⟩ => nomatch h⟩))
  have HMW := Lib.hid (fun (w2 : World) (k2 : Kept No (w.alloc (.cells (recv m aw cw am cm).toArray 50)) w2) => (show RcRw (w2.alloc (.cells #[.slice none 0 0] 82)) w.heap.size m aw cw am cm w2.heap.size from by
    have h1 := HWr.out w2 k2
    have hm2 := M0.keptNo (k2.alloc (.cells #[.slice none 0 0] 82))
    have hof : ∀ k, k < w2.heap.size → ¬ WrS (w2.alloc (.cells #[.slice none 0 0] 82)) 82 w2.heap.size k := fun k hk hs => by
      rcases (h1.foot k).1 hs with e | ⟨_, _, e, _⟩
      · omega
      · cases e
    exact ⟨hm2, hof _ (k2.lt M0.box.lt), fun k hk => hof _ (k2.lt (M0.ltw k hk)), fun k hk => hof _ (k2.lt (M0.ltm k hk))⟩))
  have he : rEnc m = ([UInt8.ofNat 7] ++ m.key) ++ itemC.put m.item := by unfold rEnc; rw [hk]; simp [rdx, Re.puts]; rfl
  have li := itemv_length hm.item
  have lk : (bcells m.key).length = 8 := by rw [bcells_length, hm.key]
  have hk8 := hm.key
  have hiv : m.item.2.1.length ≤ 64 := (hf2 .item (by rw [hk]; simp [rdx])).2.1
  have HEQ := Lib.hid he
  clear hrw hrm haw ham hmay he
  go_enter Tryz.func18, Tryz.ntmps18
  go_wp2_with (first
    | (with_reducible refine wpList_ld rfl 50 _ rfl Tryz.isAgg50 31 Tryz.sizeOf50 w.heap.size 0 rfl (recv m aw cw am cm) l31 S0 ?_)
    | (go_at_call 28; refine HM.out.mono ?_; rintro _ w2 ⟨rfl, k2⟩; have m2 := HMW.out w2 k2; have c2 := m2.rc.kind; rw [hk] at c2)
    | (go_at_call 38; refine (refByte_calls (HWr.out w2 k2) 7 (by decide) (by simp)).mono ?_; rintro _ w3 ⟨rfl, k3⟩; have m3 := m2.to k3; clear c2; have c3 := m3.rc.kind; rw [hk] at c3; have sk := m3.rc.key)
    | (with_reducible refine wpList_ld rfl 28 _ rfl Tryz.isAgg28 8 Tryz.sizeOf28 w.heap.size 10 rfl (bcells m.key) lk sk ?_)
    | (go_at_call 43; refine (refKey_calls k3.wr.choose_spec.choose_spec m.key hm.key (by simp)).mono ?_; rintro _ w4 ⟨rfl, k4⟩; have m4 := m3.to k4; have si := m4.rc.item; have c4 := m4.rc.kind; rw [hk] at c4; clear c3 sk)
    | (with_reducible refine wpList_ld rfl 32 _ rfl Tryz.isAgg32 13 Tryz.sizeOf32 w.heap.size 18 rfl (itemv m.item) li si ?_)
    | (go_at_call 44; refine (refPutItem_calls k4.wr.choose_spec.choose_spec m.item hm.item (by simp only [List.length_append, List.length_cons, List.length_nil]; omega)).mono ?_; rintro _ w5 ⟨rfl, k5⟩; have m5 := m4.to k5; have c5 := m5.rc.kind; rw [hk] at c5; clear c4 si; obtain ⟨ae, ce, cc, hE⟩ := rEnc_end HMY.out k2 (by rw [HEQ.out]; exact (k3.trans k4).trans k5); have HE := Lib.hid hE; clear hE))
  go_ret2
  exact HE.out
set_option maxRecDepth 100000 in
set_option maxHeartbeats 2000000 in
theorem refREnc_2 (m : PRec) (hm : m.Wf) (hs : m.Sm) (hk : m.kind = 2) (hmay : rMay m = true) (aw : Option Addr) (cw : Nat) (am : Option Addr) (cm : Nat) (hrw : Rd w aw (pwsv m.writes)) (hrm : Rd w am (ucells m.missing)) (haw : ∀ b, At aw b → b < w.heap.size) (ham : ∀ b, At am b → b < w.heap.size) :
    Calls Tryz.prog 18 #[.agg (recv m aw cw am cm).toArray] w (REncPost w m) := by
  have B0 := Blk.new w 50 (recv m aw cw am cm)
  have K0 := (Kept.refl No w).alloc (.cells (recv m aw cw am cm).toArray 50)
  have M0 : Rc (w.alloc (.cells (recv m aw cw am cm).toArray 50)) 50 w.heap.size m aw cw am cm := ⟨B0, hrw.keptNo K0, hrm.keptNo K0, fun b hb => K0.lt (haw b hb), fun b hb => K0.lt (ham b hb), hm, hs⟩
  have l31 := recv_length hm aw cw am cm
  have S0 := B0.seg0
  have HM := Lib.hid (refMay_rec (w := (w.alloc (.cells (recv m aw cw am cm).toArray 50))) m hm hs aw cw am cm M0.rdw M0.rdm M0.ltw M0.ltm)
  have HMY := Lib.hid hmay
  rw [hmay] at HM
  have hkn := hm.kind
  have henc := rEnc_le hm hmay
  obtain ⟨hf1, hf2, hf3⟩ := rMay_fields hm hmay
  have HWr := Lib.hid (fun (w2 : World) (k2 : Kept No (w.alloc (.cells (recv m aw cw am cm).toArray 50)) w2) => (show Wr (w2.alloc (.cells #[.slice none 0 0] 82)) 82 w2.heap.size [] none 0 from
    ⟨Blk.new w2 82 [.slice none 0 0], Owns.nil _ _ _, fun k ⟨_, _, h, _⟩ => nomatch h⟩))
  have HMW := Lib.hid (fun (w2 : World) (k2 : Kept No (w.alloc (.cells (recv m aw cw am cm).toArray 50)) w2) => (show RcRw (w2.alloc (.cells #[.slice none 0 0] 82)) w.heap.size m aw cw am cm w2.heap.size from by
    have h1 := HWr.out w2 k2
    have hm2 := M0.keptNo (k2.alloc (.cells #[.slice none 0 0] 82))
    have hof : ∀ k, k < w2.heap.size → ¬ WrS (w2.alloc (.cells #[.slice none 0 0] 82)) 82 w2.heap.size k := fun k hk hs => by
      rcases (h1.foot k).1 hs with e | ⟨_, _, e, _⟩
      · omega
      · cases e
    exact ⟨hm2, hof _ (k2.lt M0.box.lt), fun k hk => hof _ (k2.lt (M0.ltw k hk)), fun k hk => hof _ (k2.lt (M0.ltm k hk))⟩))
  have he : rEnc m = (([UInt8.ofNat 2] ++ txC.put m.tx) ++ regC.put m.reg) ++ writesC.put m.writes := by unfold rEnc; rw [hk]; simp [rdx, Re.puts]; rfl
  have ht := txC_le (hf2 .tx (by rw [hk]; simp [rdx]))
  have hr := regC_le (hf2 .reg (by rw [hk]; simp [rdx]))
  have hww := writesC_le (hf2 .writes (by rw [hk]; simp [rdx]))
  have h16 : m.writes.length ≤ 16 := (hf2 .writes (by rw [hk]; simp [rdx])).1
  have ht : (txC.put m.tx).length ≤ 11 := ht
  have hr : (regC.put m.reg).length ≤ 10 := hr
  have hww : (writesC.put m.writes).length ≤ 1521 := hww
  have HEQ := Lib.hid he
  clear hrw hrm haw ham hmay he
  go_enter Tryz.func18, Tryz.ntmps18
  go_wp2_with (first
    | (with_reducible refine wpList_ld rfl 50 _ rfl Tryz.isAgg50 31 Tryz.sizeOf50 w.heap.size 0 rfl (recv m aw cw am cm) l31 S0 ?_)
    | (go_at_call 28; refine HM.out.mono ?_; rintro _ w2 ⟨rfl, k2⟩; have m2 := HMW.out w2 k2; have c2 := m2.rc.kind; rw [hk] at c2)
    | (go_at_call 38; refine (refByte_calls (HWr.out w2 k2) 2 (by decide) (by simp)).mono ?_; rintro _ w3 ⟨rfl, k3⟩; have m3 := m2.to k3; clear c2; have c3 := m3.rc.kind; rw [hk] at c3; have st := m3.rc.tx)
    | (with_reducible refine wpList_ld rfl 24 _ rfl Tryz.isAgg24 3 Tryz.sizeOf24 w.heap.size 2 rfl (txv m.tx) rfl st ?_)
    | (go_at_call 40; refine (refPutTx_calls k3.wr.choose_spec.choose_spec m.tx hm.tx (by simp)).mono ?_; rintro _ w4 ⟨rfl, k4⟩; have m4 := m3.to k4; have c4 := m4.rc.kind; rw [hk] at c4; have sr := m4.rc.reg; clear c3 st)
    | (with_reducible refine wpList_ld rfl 26 _ rfl Tryz.isAgg26 2 Tryz.sizeOf26 w.heap.size 5 rfl (regv m.reg) rfl sr ?_)
    | (go_at_call 42; refine (refPutReg_calls k4.wr.choose_spec.choose_spec m.reg hm.reg (by simp only [List.length_append, List.length_cons, List.length_nil]; omega)).mono ?_; rintro _ w5 ⟨rfl, k5⟩; have m5 := m4.to k5; have c5 := m5.rc.kind; rw [hk] at c5; have c58 := m5.rc.writes; clear c4 sr)
    | (go_at_call 45; refine (refPutWrites_calls k5.wr.choose_spec.choose_spec m.writes m.writes.length rfl aw cw hm.writes m5.rc.rdw (fun x hx => ⟨m5.rc.ltw x hx, m5.offw x hx⟩) (by simp only [List.length_append, List.length_cons, List.length_nil]; omega) (by omega)).mono ?_; rintro _ w6 ⟨rfl, k6⟩; have m6 := m5.to k6; have c6 := m6.rc.kind; rw [hk] at c6; clear c5 c58; obtain ⟨ae, ce, cc, hE⟩ := rEnc_end HMY.out k2 (by rw [HEQ.out]; exact ((k3.trans k4).trans k5).trans k6); have HE := Lib.hid hE; clear hE))
  go_ret2
  exact HE.out
set_option maxRecDepth 100000 in
set_option maxHeartbeats 2000000 in
theorem refREnc_5 (m : PRec) (hm : m.Wf) (hs : m.Sm) (hk : m.kind = 5) (hmay : rMay m = true) (aw : Option Addr) (cw : Nat) (am : Option Addr) (cm : Nat) (hrw : Rd w aw (pwsv m.writes)) (hrm : Rd w am (ucells m.missing)) (haw : ∀ b, At aw b → b < w.heap.size) (ham : ∀ b, At am b → b < w.heap.size) :
    Calls Tryz.prog 18 #[.agg (recv m aw cw am cm).toArray] w (REncPost w m) := by
  have B0 := Blk.new w 50 (recv m aw cw am cm)
  have K0 := (Kept.refl No w).alloc (.cells (recv m aw cw am cm).toArray 50)
  have M0 : Rc (w.alloc (.cells (recv m aw cw am cm).toArray 50)) 50 w.heap.size m aw cw am cm := ⟨B0, hrw.keptNo K0, hrm.keptNo K0, fun b hb => K0.lt (haw b hb), fun b hb => K0.lt (ham b hb), hm, hs⟩
  have l31 := recv_length hm aw cw am cm
  have S0 := B0.seg0
  have HM := Lib.hid (refMay_rec (w := (w.alloc (.cells (recv m aw cw am cm).toArray 50))) m hm hs aw cw am cm M0.rdw M0.rdm M0.ltw M0.ltm)
  have HMY := Lib.hid hmay
  rw [hmay] at HM
  have hkn := hm.kind
  have henc := rEnc_le hm hmay
  obtain ⟨hf1, hf2, hf3⟩ := rMay_fields hm hmay
  have HWr := Lib.hid (fun (w2 : World) (k2 : Kept No (w.alloc (.cells (recv m aw cw am cm).toArray 50)) w2) => (show Wr (w2.alloc (.cells #[.slice none 0 0] 82)) 82 w2.heap.size [] none 0 from
    ⟨Blk.new w2 82 [.slice none 0 0], Owns.nil _ _ _, fun k ⟨_, _, h, _⟩ => nomatch h⟩))
  have HMW := Lib.hid (fun (w2 : World) (k2 : Kept No (w.alloc (.cells (recv m aw cw am cm).toArray 50)) w2) => (show RcRw (w2.alloc (.cells #[.slice none 0 0] 82)) w.heap.size m aw cw am cm w2.heap.size from by
    have h1 := HWr.out w2 k2
    have hm2 := M0.keptNo (k2.alloc (.cells #[.slice none 0 0] 82))
    have hof : ∀ k, k < w2.heap.size → ¬ WrS (w2.alloc (.cells #[.slice none 0 0] 82)) 82 w2.heap.size k := fun k hk hs => by
      rcases (h1.foot k).1 hs with e | ⟨_, _, e, _⟩
      · omega
      · cases e
    exact ⟨hm2, hof _ (k2.lt M0.box.lt), fun k hk => hof _ (k2.lt (M0.ltw k hk)), fun k hk => hof _ (k2.lt (M0.ltm k hk))⟩))
  have he : rEnc m = ((([UInt8.ofNat 5] ++ txC.put m.tx) ++ short m.members) ++ writesC.put m.writes) ++ setC.puts m.missing := by unfold rEnc; rw [hk]; simp [rdx, Re.puts]; rfl
  have ht := txC_le (hf2 .tx (by rw [hk]; simp [rdx]))
  have hb3 := hf2 .both (by rw [hk]; simp [rdx])
  have hww := writesC_le hb3.1
  have h16 : m.writes.length ≤ 16 := hb3.1.1
  have hmi : m.missing.length = m.writes.length := hb3.2.1
  have hms : ∀ x ∈ m.missing, x ≤ 255 := hb3.2.2
  have hme : m.members ≤ 255 := hf2 .members (by rw [hk]; simp [rdx])
  have hsh : (short m.members).length ≤ 2 := short_le (k := 1) (Nat.lt_of_le_of_lt hme (by decide))
  have ht : (txC.put m.tx).length ≤ 11 := ht
  have hww : (writesC.put m.writes).length ≤ 1521 := hww
  have hsp := fun k => setPuts_le m.missing hms k
  have HEQ := Lib.hid he
  clear hrw hrm haw ham hmay he
  go_enter Tryz.func18, Tryz.ntmps18
  go_wp2_with (first
    | (with_reducible refine wpList_ld rfl 50 _ rfl Tryz.isAgg50 31 Tryz.sizeOf50 w.heap.size 0 rfl (recv m aw cw am cm) l31 S0 ?_)
    | (go_at_call 28; refine HM.out.mono ?_; rintro _ w2 ⟨rfl, k2⟩; have m2 := HMW.out w2 k2; have c2 := m2.rc.kind; rw [hk] at c2)
    | (go_at_call 38; refine (refByte_calls (HWr.out w2 k2) 5 (by decide) (by simp)).mono ?_; rintro _ w3 ⟨rfl, k3⟩; have m3 := m2.to k3; clear c2; have c3 := m3.rc.kind; rw [hk] at c3; have st := m3.rc.tx)
    | (with_reducible refine wpList_ld rfl 24 _ rfl Tryz.isAgg24 3 Tryz.sizeOf24 w.heap.size 2 rfl (txv m.tx) rfl st ?_)
    | (go_at_call 40; refine (refPutTx_calls k3.wr.choose_spec.choose_spec m.tx hm.tx (by simp)).mono ?_; rintro _ w4 ⟨rfl, k4⟩; have m4 := m3.to k4; have c4 := m4.rc.kind; rw [hk] at c4; have c47 := m4.rc.members; clear c3 st)
    | (go_at_call 41; refine (refNum_calls k4.wr.choose_spec.choose_spec m.members (by omega) (by simp only [List.length_append, List.length_cons, List.length_nil]; omega)).mono ?_; rintro _ w5 ⟨rfl, k5⟩; have m5 := m4.to k5; have c5 := m5.rc.kind; rw [hk] at c5; have c58 := m5.rc.writes; clear c4 c47)
    | (go_at_call 45; refine (refPutWrites_calls k5.wr.choose_spec.choose_spec m.writes m.writes.length rfl aw cw hm.writes m5.rc.rdw (fun x hx => ⟨m5.rc.ltw x hx, m5.offw x hx⟩) (by simp only [List.length_append, List.length_cons, List.length_nil]; omega) (by omega)).mono ?_; rintro _ w6 ⟨rfl, k6⟩; have m6 := m5.to k6; have c6 := m6.rc.kind; rw [hk] at c6; clear c5 c58))
  have hT6 : WrTo (w2.alloc (.cells #[.slice none 0 0] 82)) w6 82 w2.heap.size ((([UInt8.ofNat 5] ++ txC.put m.tx) ++ short m.members) ++ writesC.put m.writes) := ((k3.trans k4).trans k5).trans k6
  have HEND := Lib.hid (fun (wr : World) (hT : WrTo (w2.alloc (.cells #[.slice none 0 0] 82)) wr 82 w2.heap.size (rEnc m)) => rEnc_end HMY.out k2 hT)
  clear HM HWr HMW S0 B0 M0 l31 k3 k4 k5 m2 m3 m4 m5 k2 HMY
  generalize hRR : ((([UInt8.ofNat 5] ++ txC.put m.tx) ++ short m.members) ++ writesC.put m.writes) = R at *
  have hRl : R.length ≤ 1600 := by rw [← hRR]; simp only [List.length_append, List.length_cons, List.length_nil]; omega
  clear hRR
  generalize w2.heap.size = g at *
  generalize (w2.alloc (.cells #[.slice none 0 0] 82)) = w0 at *
  go_loopw [5] (fun i wr => RsRel5 w0 w.heap.size m aw cw am cm g R i wr) (fun i _ => m.missing.length - (intOf i).toNat)
  case atStart => exact ⟨0, Nat.zero_le _, rfl, by rw [List.take_zero]; simpa [Codec.puts] using hT6, m6⟩
  case round =>
    clear hT6 m6
    obtain ⟨k, hkl, rfl, hT, hM⟩ := hrel
    have c9 := hM.rc.missing
    have hsp := hsp k
    by_cases hlt : k < m.missing.length
    · have i0 : (0 : Int) ≤ k := by omega
      have i1 : (k : Int) < m.missing.length := by omega
      obtain ⟨x, hx⟩ : ∃ x, m.missing[k] = x := ⟨_, rfl⟩
      have hux : (ucells m.missing)[k]? = some (.int .u64 x) := by simp [ucells, hlt, hx]
      obtain ⟨bm, om, eam, cx⟩ := hM.rc.rdm k _ hux
      have hmem : x ∈ m.missing := hx ▸ List.getElem_mem hlt
      have xlt := hms x hmem
      subst eam
      have HNX := Lib.hid (setPuts_step m.missing hlt hx)
      obtain ⟨al, cap, hW⟩ := hT.wr
      have HC := Lib.hid (refNum_calls hW x (by omega) (by rw [List.length_append]; omega))
      have HFIN := Lib.hid (show ∀ (wq : World) (i : Value), i = .int .i64 ((k + 1 : Nat) : Int) → WrTo wr wq 82 g ((R ++ setC.puts (m.missing.take k)) ++ short x) → RsRel5 w0 w.heap.size m aw cw (some ⟨bm, om, none⟩) cm g R i wq from
        fun wq i h0 h1 => ⟨k + 1, hlt, h0, by rw [HNX.out, ← List.append_assoc]; exact hT.trans h1, hM.to h1⟩)
      clear hux hmem hW hx HNX hT hM HEND
      go_wp2_with (go_at_call 41; refine HC.out.mono ?_; rintro _ w7 ⟨rfl, k7⟩)
      exact ⟨HFIN.out _ _ (by go_num) k7, by simp [intOf]; omega⟩
    · have i1 : (m.missing.length : Int) ≤ k := by omega
      rw [List.take_of_length_le (by omega)] at hT
      obtain ⟨ae, ce, cc, hE⟩ := HEND.out _ (by rw [HEQ.out]; exact hT)
      have HE := Lib.hid hE
      clear hE HEND hT hM HEQ
      generalize (rEnc m).length = E at *
      go_wp2
      go_ret2
      exact HE.out
theorem refREncode_calls (m : PRec) (hm : m.Wf) (hs : m.Sm) (aw : Option Addr) (cw : Nat) (am : Option Addr) (cm : Nat) (hrw : Rd w aw (pwsv m.writes)) (hrm : Rd w am (ucells m.missing)) (haw : ∀ b, At aw b → b < w.heap.size) (ham : ∀ b, At am b → b < w.heap.size) :
    Calls Tryz.prog 18 #[.agg (recv m aw cw am cm).toArray] w (REncPost w m) := by
  cases hmay : rMay m
  · exact refREnc_no m hm hs hmay aw cw am cm hrw hrm haw ham
  · rcases kind_cases m.kind with h | h | h | h | h | h
    · exact refREnc_1 m hm hs h hmay aw cw am cm hrw hrm haw ham
    · exact refREnc_2 m hm hs h hmay aw cw am cm hrw hrm haw ham
    · exact refREnc_3 m hm hs h hmay aw cw am cm hrw hrm haw ham
    · exact refREnc_5 m hm hs h hmay aw cw am cm hrw hrm haw ham
    · exact refREnc_7 m hm hs h hmay aw cw am cm hrw hrm haw ham
    · exact absurd h (rMay_fields hm hmay).1
end
end Go.Proofs.YtjfmidcaekhhgaaGreatDoor
