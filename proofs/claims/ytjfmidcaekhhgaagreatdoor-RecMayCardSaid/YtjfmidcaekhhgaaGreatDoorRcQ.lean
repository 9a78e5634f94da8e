/- How the fields of a record are written; Encode of a record: walks. Printed by gen_rcq.py. -/
import Derived.Test.YtjfmidcaekhhgaaGreatDoorRcO
import Derived.Test.YtjfmidcaekhhgaaGreatDoorMsPut
namespace Go.Proofs.YtjfmidcaekhhgaaGreatDoor
open Go.RowKit Go.PM

/-- A record and a writer, apart. -/
structure RcWr (w : World) (b : Nat) (m : PRec) (aw : Option Addr) (cw : Nat) (am : Option Addr) (cm : Nat) (g : Nat) : Prop where
  rc : Rc w 53 b m aw cw am cm
  off : ¬ WrS w 73 g b
  offw : ∀ k, At aw k → ¬ WrS w 73 g k
  offm : ∀ k, At am k → ¬ WrS w 73 g k
/-- How a field is written. -/
def rfPut (m : PRec) (f : Nat) : List UInt8 :=
  if f = 0 then short m.n else if f = 1 then txC.put m.tx else if f = 2 then regC.put m.reg else if f = 3 then short m.members else if f = 4 then writesC.put m.writes else if f = 5 then setC.puts m.missing else if f = 6 then m.key else itemC.put m.item
theorem rEnc_eq (m : PRec) : rEnc m = UInt8.ofNat m.kind :: (rfx m.kind).flatMap (rfPut m) := by
  unfold rEnc
  congr 1
  rcases rdx_cases m.kind with h | h | h | h | h | h | h | h
  · rw [h, rfx_nil h]; rfl
  all_goals
    rw [h]
    simp [rdx, rfx, Re.puts, Re.put, Re.c, Re.of, rfPut, countC, numC, setC, keyC, bothC]
section
variable {w w' : World} {b g cw cm cap : Nat} {m : PRec} {aw am a : Option Addr} {l l' : List UInt8}
theorem RcWr.to (h : RcWr w b m aw cw am cm g) (k : WrTo w w' 73 g l) : RcWr w' b m aw cw am cm g :=
  ⟨h.rc.kept k.kept h.off h.offw h.offm, k.offs h.off h.rc.box.lt, fun x hx => k.offs (h.offw x hx) (h.rc.ltw x hx), fun x hx => k.offs (h.offm x hx) (h.rc.ltm x hx)⟩
set_option maxRecDepth 100000 in
set_option maxHeartbeats 400000 in
theorem rput_n (h : Wr w 73 g l a cap) (hm : RcWr w b m aw cw am cm g) (_hmay : rfMay m 0 = true) (hl : l.length ≤ 549755813888) :
    Calls Tryz.prog 47 #[.pointer (some ⟨b, 0, none⟩), .pointer (some ⟨g, 0, none⟩), .int .i64 0] w fun e w' => e = .returned (.tuple #[]) ∧ WrTo w w' 73 g (l ++ short m.n) := by
  have hM := hm.rc
  have c0 := hM.n_
  have t0 := hM.wf.n
  have t1 : ((m.n : Nat) : Int) < 4294967296 := by omega
  have HC := Lib.hid (wnum_calls h m.n (by omega) (by omega))
  clear h hm hM
  go_enter Tryz.func47, Tryz.ntmps47
  go_wp2_with ((go_at_call 79; refine HC.out.mono ?_; rintro _ w2 ⟨rfl, k2⟩))
  go_end0
  exact ⟨rfl, k2⟩
set_option maxRecDepth 100000 in
set_option maxHeartbeats 400000 in
theorem rput_tx (h : Wr w 73 g l a cap) (hm : RcWr w b m aw cw am cm g) (_hmay : rfMay m 1 = true) (hl : l.length ≤ 549755813888) :
    Calls Tryz.prog 47 #[.pointer (some ⟨b, 0, none⟩), .pointer (some ⟨g, 0, none⟩), .int .i64 1] w fun e w' => e = .returned (.tuple #[]) ∧ WrTo w w' 73 g (l ++ txC.put m.tx) := by
  have hM := hm.rc
  have sg := hM.tx
  have HC := Lib.hid (putTx_calls h m.tx hM.wf.tx (by omega))
  clear h hm hM
  go_enter Tryz.func47, Tryz.ntmps47
  go_wp2_with (first
    | (with_reducible refine wpList_ld rfl 24 _ rfl Tryz.isAgg24 3 Tryz.sizeOf24 b 2 rfl (txv m.tx) rfl sg ?_)
    | (go_at_call 78; refine HC.out.mono ?_; rintro _ w2 ⟨rfl, k2⟩))
  go_end0
  exact ⟨rfl, k2⟩
set_option maxRecDepth 100000 in
set_option maxHeartbeats 400000 in
theorem rput_reg (h : Wr w 73 g l a cap) (hm : RcWr w b m aw cw am cm g) (_hmay : rfMay m 2 = true) (hl : l.length ≤ 549755813888) :
    Calls Tryz.prog 47 #[.pointer (some ⟨b, 0, none⟩), .pointer (some ⟨g, 0, none⟩), .int .i64 2] w fun e w' => e = .returned (.tuple #[]) ∧ WrTo w w' 73 g (l ++ regC.put m.reg) := by
  have hM := hm.rc
  have sg := hM.reg
  have HC := Lib.hid (putReg_calls h m.reg hM.wf.reg (by omega))
  clear h hm hM
  go_enter Tryz.func47, Tryz.ntmps47
  go_wp2_with (first
    | (with_reducible refine wpList_ld rfl 26 _ rfl Tryz.isAgg26 2 Tryz.sizeOf26 b 5 rfl (regv m.reg) rfl sg ?_)
    | (go_at_call 80; refine HC.out.mono ?_; rintro _ w2 ⟨rfl, k2⟩))
  go_end0
  exact ⟨rfl, k2⟩
set_option maxRecDepth 100000 in
set_option maxHeartbeats 400000 in
theorem rput_members (h : Wr w 73 g l a cap) (hm : RcWr w b m aw cw am cm g) (_hmay : rfMay m 3 = true) (hl : l.length ≤ 549755813888) :
    Calls Tryz.prog 47 #[.pointer (some ⟨b, 0, none⟩), .pointer (some ⟨g, 0, none⟩), .int .i64 3] w fun e w' => e = .returned (.tuple #[]) ∧ WrTo w w' 73 g (l ++ short m.members) := by
  have hM := hm.rc
  have c0 := hM.members
  have HC := Lib.hid (wnum_calls h m.members hM.wf.members (by omega))
  clear h hm hM
  go_enter Tryz.func47, Tryz.ntmps47
  go_wp2_with ((go_at_call 79; refine HC.out.mono ?_; rintro _ w2 ⟨rfl, k2⟩))
  go_end0
  exact ⟨rfl, k2⟩
set_option maxRecDepth 100000 in
set_option maxHeartbeats 400000 in
theorem rput_writes (h : Wr w 73 g l a cap) (hm : RcWr w b m aw cw am cm g) (hmay : rfMay m 4 = true) (hl : l.length ≤ 549755813888) :
    Calls Tryz.prog 47 #[.pointer (some ⟨b, 0, none⟩), .pointer (some ⟨g, 0, none⟩), .int .i64 4] w fun e w' => e = .returned (.tuple #[]) ∧ WrTo w w' 73 g (l ++ writesC.put m.writes) := by
  have hM := hm.rc
  have c0 := hM.writes
  have hmw : writesMay m.writes = true := by have h2 := hmay; simp only [rfMay, someMay] at h2; simp at h2; exact h2.2
  have hle : (writesC.put m.writes).length ≤ 1521 := writesC_le (writesMay_may hM.wf.writes hmw)
  have h16 : m.writes.length ≤ 16 := by have h2 := hmw; unfold writesMay at h2; rw [Bool.and_eq_true, decide_eq_true_eq] at h2; exact h2.2
  have HC := Lib.hid (putWrites_calls h m.writes m.writes.length rfl aw cw hM.wf.writes hM.rdw (fun x hx => ⟨hM.ltw x hx, hm.offw x hx⟩) (by omega) (by omega))
  clear h hm hM
  go_enter Tryz.func47, Tryz.ntmps47
  go_wp2_with ((go_at_call 83; refine HC.out.mono ?_; rintro _ w2 ⟨rfl, k2⟩))
  go_end0
  exact ⟨rfl, k2⟩
set_option maxRecDepth 100000 in
set_option maxHeartbeats 400000 in
theorem rput_key (h : Wr w 73 g l a cap) (hm : RcWr w b m aw cw am cm g) (_hmay : rfMay m 6 = true) (hl : l.length ≤ 549755813888) :
    Calls Tryz.prog 47 #[.pointer (some ⟨b, 0, none⟩), .pointer (some ⟨g, 0, none⟩), .int .i64 6] w fun e w' => e = .returned (.tuple #[]) ∧ WrTo w w' 73 g (l ++ m.key) := by
  have hM := hm.rc
  have sg := hM.key
  have l8 : (bcells m.key).length = 8 := by rw [bcells_length, hM.wf.key]
  have HC := Lib.hid (wkey_calls h m.key hM.wf.key (by omega))
  clear h hm hM
  go_enter Tryz.func47, Tryz.ntmps47
  go_wp2_with (first
    | (with_reducible refine wpList_ld rfl 28 _ rfl Tryz.isAgg28 8 Tryz.sizeOf28 b 10 rfl (bcells m.key) l8 sg ?_)
    | (go_at_call 81; refine HC.out.mono ?_; rintro _ w2 ⟨rfl, k2⟩))
  go_end0
  exact ⟨rfl, k2⟩
set_option maxRecDepth 100000 in
set_option maxHeartbeats 400000 in
theorem rput_item (h : Wr w 73 g l a cap) (hm : RcWr w b m aw cw am cm g) (hmay : rfMay m 7 = true) (hl : l.length ≤ 549755813888) :
    Calls Tryz.prog 47 #[.pointer (some ⟨b, 0, none⟩), .pointer (some ⟨g, 0, none⟩), .int .i64 7] w fun e w' => e = .returned (.tuple #[]) ∧ WrTo w w' 73 g (l ++ itemC.put m.item) := by
  have hM := hm.rc
  have sg := hM.item
  have l13 := itemv_length hM.wf.item
  have hv := (itemMay_may hM.wf.item (show itemMay m.item = true from hmay)).2.1
  have hv : m.item.2.1.length ≤ 64 := hv
  have HC := Lib.hid (putItem_calls h m.item hM.wf.item (by omega))
  clear h hm hM
  go_enter Tryz.func47, Tryz.ntmps47
  go_wp2_with (first
    | (with_reducible refine wpList_ld rfl 32 _ rfl Tryz.isAgg32 13 Tryz.sizeOf32 b 18 rfl (itemv m.item) l13 sg ?_)
    | (go_at_call 82; refine HC.out.mono ?_; rintro _ w2 ⟨rfl, k2⟩))
  go_end0
  exact ⟨rfl, k2⟩
def PuRel (w0 : World) (b : Nat) (m : PRec) (aw : Option Addr) (cw : Nat) (am : Option Addr) (cm g : Nat) (l : List UInt8) (i : Value) (wr : World) : Prop :=
  ∃ k : Nat, k ≤ m.missing.length ∧ i = .int .i64 k ∧ WrTo w0 wr 73 g (l ++ setC.puts (m.missing.take k)) ∧ RcWr wr b m aw cw am cm g
theorem set_puts_le (xs : List Nat) (h : ∀ x ∈ xs, x < 18446744073709551616) : (setC.puts xs).length ≤ xs.length * 10 :=
  puts_le setC xs 10 fun a ha => short_le (k := 9) (Nat.lt_of_lt_of_le (h a ha) (by decide))
set_option maxRecDepth 100000 in
set_option maxHeartbeats 1000000 in
theorem rput_missing (h : Wr w 73 g l a cap) (hm : RcWr w b m aw cw am cm g) (h16 : m.missing.length ≤ 16) (hl : l.length ≤ 549755813888) :
    Calls Tryz.prog 47 #[.pointer (some ⟨b, 0, none⟩), .pointer (some ⟨g, 0, none⟩), .int .i64 5] w fun e w' => e = .returned (.tuple #[]) ∧ WrTo w w' 73 g (l ++ setC.puts m.missing) := by
  have c0 := hm.rc.missing
  have hwf := hm.rc.wf.missing
  have k0 : WrTo w w 73 g (l ++ setC.puts (m.missing.take 0)) := by
    have := h.no (Kept.refl No w)
    simpa [Codec.puts] using this
  clear h
  go_enter Tryz.func47, Tryz.ntmps47
  go_wp2_with fail
  go_loopw [7, 63] (fun _ i wr => PuRel w b m aw cw am cm g l i wr) (fun _ i _ => m.missing.length - (intOf i).toNat)
  case atStart => exact ⟨0, by omega, rfl, k0, hm⟩
  case round =>
    clear k0 hm c0
    obtain ⟨k, hk, rfl, hv, hm⟩ := hrel
    by_cases hlt : k < m.missing.length
    · have i1 : (k : Int) < m.missing.length := by omega
      have i0 : (0 : Int) ≤ k := by omega
      obtain ⟨x, hx⟩ : ∃ x, m.missing[k] = x := ⟨_, rfl⟩
      have hxw : x < 18446744073709551616 := hx ▸ hwf _ (List.getElem_mem hlt)
      obtain ⟨bb, oo, rfl, hc⟩ := hm.rc.rdm k (.int .u64 x) (by simp [ucells, hlt, hx])
      have hple := set_puts_le (m.missing.take k) fun y hy => hwf y (List.mem_of_mem_take hy)
      rw [List.length_take] at hple
      have HC := Lib.hid (wnum_calls hv.wr.choose_spec.choose_spec x hxw (by rw [List.length_append]; omega))
      have HT := Lib.hid (show setC.puts (m.missing.take (k + 1)) = setC.puts (m.missing.take k) ++ short x by
        rw [List.take_succ_eq_append_getElem hlt, hx]
        simp [Codec.puts, setC, numC])
      clear hx hple hxw
      go_wp2_with (go_at_call 79; refine HC.out.mono ?_; rintro _ w2 ⟨rfl, k2⟩)
      exact ⟨⟨k + 1, by omega, by go_num, by rw [HT.out, ← List.append_assoc]; exact hv.trans k2, hm.to k2⟩, by simp [intOf]; omega⟩
    · obtain rfl : m.missing.length = k := by omega
      rw [List.take_length] at hv
      go_wp2
      go_end0
      exact ⟨rfl, hv⟩

theorem rputf_calls (h : Wr w 73 g l a cap) (hm : RcWr w b m aw cw am cm g) (f : Nat) (hf : f < 8) (hmay : rfMay m f = true) (h16 : m.missing.length ≤ 16) (hl : l.length ≤ 549755813888) :
    Calls Tryz.prog 47 #[.pointer (some ⟨b, 0, none⟩), .pointer (some ⟨g, 0, none⟩), .int .i64 f] w fun e w' => e = .returned (.tuple #[]) ∧ WrTo w w' 73 g (l ++ rfPut m f) := by
  have hc : f = 0 ∨ f = 1 ∨ f = 2 ∨ f = 3 ∨ f = 4 ∨ f = 5 ∨ f = 6 ∨ f = 7 := by omega
  rcases hc with rfl | rfl | rfl | rfl | rfl | rfl | rfl | rfl
  · exact rput_n h hm hmay hl
  · exact rput_tx h hm hmay hl
  · exact rput_reg h hm hmay hl
  · exact rput_members h hm hmay hl
  · exact rput_writes h hm hmay hl
  · exact rput_missing h hm h16 hl
  · exact rput_key h hm hmay hl
  · exact rput_item h hm hmay hl

/-- What holds of a record that may be. -/
theorem rMay_parts {m : PRec} (_hw : m.Wf) (h : rMay m = true) : (∀ f ∈ rfx m.kind, rfMay m f = true) ∧ m.missing.length ≤ 16 ∧ rdx m.kind ≠ [] := by
  have h0 := h
  rw [rMay_eq, Bool.and_eq_true, List.all_eq_true, decide_eq_true_eq] at h
  obtain ⟨h1, h2⟩ := h
  refine ⟨fun f hf => ?_, ?_, fun e => h2 (rfx_nil e)⟩
  · have := h1 f (List.mem_range.2 (rfx_lt _ f hf))
    unfold rfOk at this
    rwa [if_pos hf] at this
  · have h5 := h1 5 (by decide)
    unfold rfOk at h5
    by_cases hin : 5 ∈ rfx m.kind
    · rw [if_pos hin] at h5
      have hk : 4 ∈ rfx m.kind := by
        rcases rdx_cases m.kind with e | e | e | e | e | e | e | e
        · rw [rfx_nil e] at hin; cases hin
        all_goals (rw [e] at hin ⊢; revert hin; decide)
      have h4 := h1 4 (by decide)
      unfold rfOk at h4
      rw [if_pos hk] at h4
      simp only [rfMay, someMay, missMay] at h4 h5
      simp at h4 h5
      have h3 := h4.2
      unfold writesMay at h3
      rw [Bool.and_eq_true, decide_eq_true_eq] at h3
      rw [h5.1]; exact h3.2
    · rw [if_neg hin] at h5
      simp only [rfZero] at h5
      simp at h5
      rw [h5]; decide
theorem rfPuts_le {m : PRec} (hw : m.Wf) (h : rMay m = true) (k : Nat) : (((rfx m.kind).take k).flatMap (rfPut m)).length ≤ 4096 := by
  have h1 := rEnc_le hw h
  rw [rEnc_eq, List.length_cons] at h1
  have h2 : ((rfx m.kind).flatMap (rfPut m)).length = (((rfx m.kind).take k).flatMap (rfPut m)).length + (((rfx m.kind).drop k).flatMap (rfPut m)).length := by
    rw [← List.length_append, ← List.flatMap_append, List.take_append_drop]
  omega

def EnRel (w0 : World) (b : Nat) (m : PRec) (aw : Option Addr) (cw : Nat) (am : Option Addr) (cm g : Nat) (l : List UInt8) (af : Option Addr) (i : Value) (wr : World) : Prop :=
  ∃ k : Nat, k ≤ (rfx m.kind).length ∧ i = .int .i64 k ∧ WrTo w0 wr 73 g (l ++ ((rfx m.kind).take k).flatMap (rfPut m)) ∧ RcWr wr b m aw cw am cm g ∧ Rd wr af (icells (rfx m.kind)) ∧ (∀ x, At af x → x < wr.heap.size ∧ ¬ WrS wr 73 g x)
/-- What Encode of a record answers. -/
def REncPost (w : World) (m : PRec) (e : Ending) (w' : World) : Prop :=
  if rMay m = true then ∃ a cap, e = .returned (.tuple #[.slice a (rEnc m).length cap, .int .i64 0]) ∧ Owns w' 5 1 a (rEnc m).length cap (bcells (rEnc m)) ∧ Kept No w w' ∧ ∀ k, At a k → w.heap.size ≤ k
  else e = .returned (.tuple #[.slice none 0 0, .int .i64 1]) ∧ Kept No w w'

set_option maxRecDepth 100000 in
set_option maxHeartbeats 1000000 in
theorem rencode_calls (m : PRec) (hm : m.Wf) (hs : m.Sm) (hrw : Rd w aw (pwsv m.writes)) (hrm : Rd w am (ucells m.missing)) (haw : ∀ b, At aw b → b < w.heap.size) (ham : ∀ b, At am b → b < w.heap.size) :
    Calls Tryz.prog 16 #[.agg (recv m aw cw am cm).toArray] w (REncPost w m) := by
  have B0 := Blk.new w 53 (recv m aw cw am cm)
  have K0 := (Kept.refl No w).alloc (.cells (recv m aw cw am cm).toArray 53)
  have M0 : Rc (w.alloc (.cells (recv m aw cw am cm).toArray 53)) 53 w.heap.size m aw cw am cm := ⟨B0, hrw.keptNo K0, hrm.keptNo K0, fun b hb => K0.lt (haw b hb), fun b hb => K0.lt (ham b hb), hm, hs⟩
  have l31 := recv_length hm aw cw am cm
  have S0 := B0.seg0
  have HM := Lib.hid (rMay_calls (w := w.alloc (.cells (recv m aw cw am cm).toArray 53)) (cw := cw) (cm := cm) m hm hs M0.rdw M0.rdm M0.ltw M0.ltm)
  cases hmay : rMay m
  · have HP : ∀ e w', (e = .returned (.tuple #[.slice none 0 0, .int .i64 1]) ∧ Kept No w w') → REncPost w m e w' := fun e w' h => by unfold REncPost; rw [hmay, if_neg (by decide)]; exact h
    have HP := Lib.hid HP
    rw [hmay] at HM
    clear hrw hrm haw ham M0 hmay
    go_enter Tryz.func16, Tryz.ntmps16
    go_wp2_with (first
      | (with_reducible refine wpList_ld rfl 53 _ rfl Tryz.isAgg53 31 Tryz.sizeOf53 w.heap.size 0 rfl (recv m aw cw am cm) l31 S0 ?_)
      | (go_at_call 27; refine HM.out.mono ?_; rintro _ w2 ⟨rfl, k2⟩))
    go_ret2
    exact HP.out _ _ ⟨rfl, K0.trans k2 fun _ _ h => h⟩
  · have HP : ∀ e w', (∃ a cap, e = .returned (.tuple #[.slice a (rEnc m).length cap, .int .i64 0]) ∧ Owns w' 5 1 a (rEnc m).length cap (bcells (rEnc m)) ∧ Kept No w w' ∧ ∀ k, At a k → w.heap.size ≤ k) → REncPost w m e w' := fun e w' h => by unfold REncPost; rw [hmay, if_pos rfl]; exact h
    have HP := Lib.hid HP
    rw [hmay] at HM
    have hk := hm.kind
    have henc := rEnc_le hm hmay
    obtain ⟨hfm, h16, hne⟩ := rMay_parts hm hmay
    have HE := Lib.hid (show [UInt8.ofNat m.kind] ++ (rfx m.kind).flatMap (rfPut m) = rEnc m from (rEnc_eq m).symm)
    have HLE := Lib.hid (rfPuts_le hm hmay)
    have HFM := Lib.hid hfm
    have HWr := Lib.hid (fun (w2 : World) (k2 : Kept No (w.alloc (.cells (recv m aw cw am cm).toArray 53)) w2) => (show Wr (w2.alloc (.cells #[.slice none 0 0] 73)) 73 w2.heap.size [] none 0 from
      ⟨Blk.new w2 73 [.slice none 0 0], Owns.nil _ _ _, fun k ⟨_, _, h, _⟩ => nomatch h⟩))
    have HMW := Lib.hid (fun (w2 : World) (k2 : Kept No (w.alloc (.cells (recv m aw cw am cm).toArray 53)) w2) => (show RcWr (w2.alloc (.cells #[.slice none 0 0] 73)) w.heap.size m aw cw am cm w2.heap.size from by
      have h1 := HWr.out w2 k2
      have hm2 := M0.keptNo (k2.alloc (.cells #[.slice none 0 0] 73))
      have hof : ∀ k, k < w2.heap.size → ¬ WrS (w2.alloc (.cells #[.slice none 0 0] 73)) 73 w2.heap.size k := fun k hk hs => by
        rcases (h1.foot k).1 hs with e | ⟨_, _, e, _⟩
        · omega
        · cases e
      exact ⟨hm2, hof _ (k2.lt M0.box.lt), fun k hk => hof _ (k2.lt (M0.ltw k hk)), fun k hk => hof _ (k2.lt (M0.ltm k hk))⟩))
    have hb8 : (rfx m.kind).length ≤ 8 := by
      rcases rdx_cases m.kind with h | h | h | h | h | h | h | h
      · rw [rfx_nil h]; decide
      all_goals (rw [h]; decide)
    have hlen8 : ((rfx m.kind).length : Int) ≤ 8 := by omega
    have HF := Lib.hid (fun w => rfields_calls (w := w) m.kind)
    clear hrw hrm haw ham hmay hfm hne henc
    go_enter Tryz.func16, Tryz.ntmps16
    go_wp2_with (first
      | (with_reducible refine wpList_ld rfl 53 _ rfl Tryz.isAgg53 31 Tryz.sizeOf53 w.heap.size 0 rfl (recv m aw cw am cm) l31 S0 ?_)
      | (go_at_call 27; refine HM.out.mono ?_; rintro _ w2 ⟨rfl, k2⟩; have m2 := HMW.out w2 k2; have c2 := m2.rc.kind)
      | (go_at_call 33; refine (wbyte_calls (HWr.out w2 k2) m.kind hk (by simp)).mono ?_; rintro _ w3 ⟨rfl, k3⟩; have m3 := m2.to k3; clear c2; have c3 := m3.rc.kind)
      | (go_at_call 46; refine (HF.out _).mono ?_; rintro _ w4 ⟨af, rfl, rf, k4, lf, _⟩; clear c3))
    rw [List.nil_append] at k3
    have hw4 := k3.wr.choose_spec.choose_spec.no k4
    have m4 : RcWr w4 w.heap.size m aw cw am cm w2.heap.size := m3.to hw4
    have f4 : ∀ x, At af x → x < w4.heap.size ∧ ¬ WrS w4 73 w2.heap.size x := fun x hx => ⟨(lf x hx).2, k3.wr.choose_spec.choose_spec.fresh k4 (lf x hx).1⟩
    go_loopw [6, 17] (fun _ i wr => EnRel w3 w.heap.size m aw cw am cm w2.heap.size [UInt8.ofNat m.kind] af i wr) (fun _ i _ => (rfx m.kind).length - (intOf i).toNat)
    case atStart => exact ⟨0, by omega, rfl, by simpa using hw4, m4, rf, f4⟩
    case round =>
      clear m4 f4 rf
      obtain ⟨k, hk', rfl, hv, hmk, rfk, fk⟩ := hrel
      by_cases hlt : k < (rfx m.kind).length
      · have i1 : (k : Int) < (rfx m.kind).length := by omega
        have i0 : (0 : Int) ≤ k := by omega
        obtain ⟨x, hx⟩ : ∃ x, (rfx m.kind)[k] = x := ⟨_, rfl⟩
        have hxm : x ∈ rfx m.kind := hx ▸ List.getElem_mem hlt
        obtain ⟨bb, oo, rfl, hc⟩ := rfk k (.int .i64 x) (by simp [icells, hlt, hx])
        have hle := HLE.out k
        have HC := Lib.hid (rputf_calls hv.wr.choose_spec.choose_spec hmk x (rfx_lt _ x hxm) (HFM.out x hxm) h16 (by rw [List.length_append, List.length_singleton]; omega))
        have HT := Lib.hid (show ((rfx m.kind).take (k + 1)).flatMap (rfPut m) = ((rfx m.kind).take k).flatMap (rfPut m) ++ rfPut m x by
          rw [List.take_succ_eq_append_getElem hlt, hx]
          simp)
        clear hx hxm hle
        go_wp2_with (go_at_call 47; refine HC.out.mono ?_; rintro _ w5 ⟨rfl, k5⟩)
        refine ⟨⟨k + 1, by omega, by go_num, by rw [HT.out, ← List.append_assoc]; exact hv.trans k5, hmk.to k5, rfk.kept k5.kept fun y hy => (fk y hy).2, fun y hy => ⟨k5.kept.lt (fk y hy).1, k5.offs (fk y hy).2 (fk y hy).1⟩⟩, by simp [intOf]; omega⟩
      · obtain rfl : (rfx m.kind).length = k := by omega
        rw [List.take_length, HE.out] at hv
        go_wp2_with (go_at_call 37; refine (wbytes_calls hv.wr.choose_spec.choose_spec (by have := HLE.out 8; rw [← HE.out, List.length_append, List.length_singleton]; rw [List.take_of_length_le hb8] at this; omega)).mono ?_; rintro _ w5 ⟨a5, c5, rfl, o5, k5, t5⟩)
        go_ret2
        have hwr := HWr.out w2 k2
        have hge : w.heap.size ≤ w2.heap.size := by have := k2.size; rw [World.size_alloc] at this; omega
        have k6 := ((K0.trans k2 fun _ _ h => h).alloc (.cells #[.slice none 0 0] 73)).above (k3.trans hv).kept fun b hb => by
          rcases (hwr.foot b).1 hb with e | ⟨_, _, e, _⟩
          · omega
          · cases e
        refine HP.out _ _ ⟨a5, c5, ?_, o5, k6.trans k5 fun _ _ h => h, fun x hx => Nat.le_trans k6.size (t5 x hx)⟩
        rw [← HE.out]; rfl
end
end Go.Proofs.YtjfmidcaekhhgaaGreatDoor
