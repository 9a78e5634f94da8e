/- How the fields of a message are read, as walks. Printed by gen_msl.py. The reading of a message's fields, one behind another, as a walk. -/
import Derived.Test.YtjfmidcaekhhgaaGreatDoorIdG
import Derived.Test.YtjfmidcaekhhgaaGreatDoorMsPut
namespace Go.Proofs.YtjfmidcaekhhgaaGreatDoor
open Go.RowKit Go.PM

theorem noItem_wf1 : wfItem noItem := noItem_wf0
theorem key8 {m : PMsg} (h : m.Wf) : m.key.length = 8 := h.key
section
variable (m : PMsg) (a : Option Addr) (c : Nat)
theorem msgv_tx (x : PTx) : splice (msgv m a c) 1 (txv x) = msgv { m with tx := x } a c := rfl
theorem msgv_time (x : Nat) : (msgv m a c).set 4 (.int .u32 x) = msgv { m with time := x } a c := rfl
theorem msgv_reg (x : PReg) : splice (msgv m a c) 5 (regv x) = msgv { m with reg := x } a c := rfl
theorem msgv_key (h : m.Wf) (x : List UInt8) (hx : x.length = 8) : splice (msgv m a c) 7 (bcells x) = msgv { m with key := x } a c := by
  have hk := h.key
  clear h
  obtain ⟨kind, tx, time, reg, key, mode, no, why, yes, item, writes⟩ := m
  simp only at hk
  obtain ⟨b0, b1, b2, b3, b4, b5, b6, b7, rfl⟩ := list8 key hk
  obtain ⟨c0, c1, c2, c3, c4, c5, c6, c7, rfl⟩ := list8 x hx
  rfl
theorem msgv_mode (h : m.Wf) (x : Nat) : (msgv m a c).set 15 (.int .u8 x) = msgv { m with mode := x } a c := by
  have hk := h.key
  clear h
  obtain ⟨kind, tx, time, reg, key, mode, no, why, yes, item, writes⟩ := m
  simp only at hk
  obtain ⟨b0, b1, b2, b3, b4, b5, b6, b7, rfl⟩ := list8 key hk
  rfl
theorem msgv_no (h : m.Wf) (x : Nat) : (msgv m a c).set 16 (.int .u32 x) = msgv { m with no := x } a c := by
  have hk := h.key
  clear h
  obtain ⟨kind, tx, time, reg, key, mode, no, why, yes, item, writes⟩ := m
  simp only at hk
  obtain ⟨b0, b1, b2, b3, b4, b5, b6, b7, rfl⟩ := list8 key hk
  rfl
theorem msgv_why (h : m.Wf) (x : Nat) : (msgv m a c).set 17 (.int .u8 x) = msgv { m with why := x } a c := by
  have hk := h.key
  clear h
  obtain ⟨kind, tx, time, reg, key, mode, no, why, yes, item, writes⟩ := m
  simp only at hk
  obtain ⟨b0, b1, b2, b3, b4, b5, b6, b7, rfl⟩ := list8 key hk
  rfl
theorem msgv_yes (h : m.Wf) (x : Nat) : (msgv m a c).set 18 (.int .u8 x) = msgv { m with yes := x } a c := by
  have hk := h.key
  clear h
  obtain ⟨kind, tx, time, reg, key, mode, no, why, yes, item, writes⟩ := m
  simp only at hk
  obtain ⟨b0, b1, b2, b3, b4, b5, b6, b7, rfl⟩ := list8 key hk
  rfl
theorem msgv_item (h : m.Wf) (x : PItem) (hx : wfItem x) : splice (msgv m a c) 19 (itemv x) = msgv { m with item := x } a c := by
  have hk := h.key
  have hi := h.item
  clear h
  obtain ⟨kind, tx, time, reg, key, mode, no, why, yes, ⟨e, t, e1, e2, e3, u⟩, writes⟩ := m
  obtain ⟨e', t', e1', e2', e3', u'⟩ := x
  simp only at hk
  obtain ⟨b0, b1, b2, b3, b4, b5, b6, b7, rfl⟩ := list8 key hk
  obtain ⟨c0, c1, c2, c3, c4, c5, c6, c7, rfl⟩ := list8 u hi.2.2.2.2
  obtain ⟨d0, d1, d2, d3, d4, d5, d6, d7, rfl⟩ := list8 u' hx.2.2.2.2
  rfl
theorem msgv_writes (h : m.Wf) (l : List PW) (a' : Option Addr) (c' : Nat) : (msgv m a c).set 32 (.slice a' l.length c') = msgv { m with writes := l } a' c' := by
  have hk := h.key
  have hi := h.item
  clear h
  obtain ⟨kind, tx, time, reg, key, mode, no, why, yes, ⟨e, t, e1, e2, e3, u⟩, writes⟩ := m
  simp only at hk
  obtain ⟨b0, b1, b2, b3, b4, b5, b6, b7, rfl⟩ := list8 key hk
  obtain ⟨c0, c1, c2, c3, c4, c5, c6, c7, rfl⟩ := list8 u hi.2.2.2.2
  rfl
end

theorem cell15_of {m : PMsg} (hw : m.Wf) (a : Option Addr) (c : Nat) (k : Nat) : (msgv m a c)[15 + k]? = (.int .u8 m.mode :: .int .u32 m.no :: .int .u8 m.why :: .int .u8 m.yes :: (itemv m.item ++ [.slice a m.writes.length c]) : List Value)[k]? := by
  have hk : (bcells m.key).length = 8 := by rw [bcells_length, hw.key]
  rw [show 15 + k = (k + 8 + 2 + 1 + 3) + 1 by omega]
  simp only [msgv, List.getElem?_cons_succ]
  rw [List.getElem?_append_right (by rw [txv_length]; omega), txv_length, show k + 8 + 2 + 1 + 3 - 3 = (k + 8 + 2) + 1 by omega, List.getElem?_cons_succ,
    List.getElem?_append_right (by rw [regv_length]; omega), regv_length, List.getElem?_append_right (by omega), hk]
  congr 1
theorem cell32_of {m : PMsg} (hw : m.Wf) (a : Option Addr) (c : Nat) : (msgv m a c)[32]? = some (.slice a m.writes.length c) := by
  have := cell15_of hw a c 17
  rw [this]
  have hi := itemv_length hw.item
  rw [show (17 : Nat) = 13 + 1 + 1 + 1 + 1 by omega]
  simp only [List.getElem?_cons_succ]
  rw [List.getElem?_append_right (by omega), hi]
  rfl

/-- What reading a field makes of a message. -/
def GetPost (w : World) (b g : Nat) (f : Fd) (m : PMsg) (s : PR) (a : Option Addr) (c : Nat) (al : Option Addr) (capl : Nat) (e : Ending) (w' : World) : Prop :=
  e = .returned (.tuple #[]) ∧ Rdr w' g (f.c.get s).2 a c ∧ Kept (fun k => k = b ∨ k = g) w w' ∧ ∃ al' capl', Blk w' b 42 (msgv (f.set m (f.c.get s).1) al' capl') ∧
    (f ≠ .writes → al' = al ∧ capl' = capl) ∧ (f = .writes → WOwn w w' g (f.set m (f.c.get s).1).writes al' capl')
section
variable {w w' : World} {b g c capl : Nat} {m : PMsg} {s : PR} {al a : Option Addr}
theorem getTx_eq {y : PTx} {t : PR} (e : txC.get s = (y, t)) (h : Rdr w g s a c) :
    Calls Tryz.prog 107 #[.pointer (some ⟨g, 0, none⟩)] w fun e w' => e = .returned (.agg (txv y).toArray) ∧ Kept (· = g) w w' ∧ Rdr w' g t a c := by
  have := getTx_calls h; rw [e] at this; exact this
theorem getReg_eq {y : PReg} {t : PR} (e : regC.get s = (y, t)) (h : Rdr w g s a c) :
    Calls Tryz.prog 108 #[.pointer (some ⟨g, 0, none⟩)] w fun e w' => e = .returned (.agg (regv y).toArray) ∧ Kept (· = g) w w' ∧ Rdr w' g t a c := by
  have := getReg_calls h; rw [e] at this; exact this
theorem kept_bg {w1 w2 : World} (k : Kept (· = g) w w1) (k2 : Kept (· = b) w1 w2) : Kept (fun k => k = b ∨ k = g) w w2 :=
  (k.mono fun _ _ h => .inr h).trans k2 fun _ _ h => .inl h
set_option maxRecDepth 100000 in
set_option maxHeartbeats 400000 in
theorem get_tx (hR : Rdr w g s a c) (hb : Blk w b 42 (msgv m al capl)) (hw : m.Wf) (hbg : b ≠ g) (hba : ∀ q, At a q → q ≠ b) :
    Calls Tryz.prog 76 #[.pointer (some ⟨b, 0, none⟩), .pointer (some ⟨g, 0, none⟩), .int .u64 1] w (GetPost w b g .tx m s a c al capl) := by
  obtain ⟨y, t, e1⟩ : ∃ y t, txC.get s = (y, t) := ⟨_, _, rfl⟩
  have HP := Lib.hid (show ∀ e w', (e = .returned (.tuple #[]) ∧ Rdr w' g t a c ∧ Kept (fun k => k = b ∨ k = g) w w' ∧ Blk w' b 42 (msgv (Fd.set .tx m y) al capl)) → GetPost w b g .tx m s a c al capl e w' from fun e w' ⟨h1, h2, h3, h4⟩ => by
    have hq : Fd.c .tx = txC := rfl
    have hr : (txC).get s = (y, t) := e1
    refine ⟨h1, ?_, h3, al, capl, ?_, fun _ => ⟨rfl, rfl⟩, fun h => nomatch h⟩
    · show Rdr w' g ((txC).get s).2 a c
      rw [hr]; exact h2
    · show Blk w' b _ (msgv (Fd.set .tx m ((txC).get s).1) al capl)
      rw [hr]; exact h4)
  have n1 : ¬ b = g := hbg
  have HC := Lib.hid (getTx_eq e1 hR)
  have hone := txv_one y
  have hxl : (txv y).length = 3 := rfl
  have hsp := msgv_tx m al capl y
  have hml : 1 + 3 ≤ (msgv m al capl).length := by rw [msgv_length hw]; decide
  clear e1 hR
  go_enter Tryz.func76, Tryz.ntmps76
  go_wp2_with (first
    | (go_at_call 107; refine HC.out.mono ?_; rintro _ w2 ⟨rfl, k2, r2⟩; have b2 := hb.kept k2 n1)
    | (with_reducible refine wpList_st rfl 24 _ _ rfl 3 Tryz.sizeOf24 b 1 rfl (txv y) rfl hxl _ _ b2 hml hone ?_; rw [hsp]))
  go_end0
  have b3 := b2.setRow (splice (msgv m al capl) 1 (txv y))
  rw [hsp] at b3
  exact HP.out _ _ ⟨rfl, r2.setRowOther hbg hba _, kept_bg k2 ((Kept.refl (· = b) _).setRow (fun _ => rfl) _), b3⟩

set_option maxRecDepth 100000 in
set_option maxHeartbeats 400000 in
theorem get_reg (hR : Rdr w g s a c) (hb : Blk w b 42 (msgv m al capl)) (hw : m.Wf) (hbg : b ≠ g) (hba : ∀ q, At a q → q ≠ b) :
    Calls Tryz.prog 76 #[.pointer (some ⟨b, 0, none⟩), .pointer (some ⟨g, 0, none⟩), .int .u64 4] w (GetPost w b g .reg m s a c al capl) := by
  obtain ⟨y, t, e1⟩ : ∃ y t, regC.get s = (y, t) := ⟨_, _, rfl⟩
  have HP := Lib.hid (show ∀ e w', (e = .returned (.tuple #[]) ∧ Rdr w' g t a c ∧ Kept (fun k => k = b ∨ k = g) w w' ∧ Blk w' b 42 (msgv (Fd.set .reg m y) al capl)) → GetPost w b g .reg m s a c al capl e w' from fun e w' ⟨h1, h2, h3, h4⟩ => by
    have hq : Fd.c .reg = regC := rfl
    have hr : (regC).get s = (y, t) := e1
    refine ⟨h1, ?_, h3, al, capl, ?_, fun _ => ⟨rfl, rfl⟩, fun h => nomatch h⟩
    · show Rdr w' g ((regC).get s).2 a c
      rw [hr]; exact h2
    · show Blk w' b _ (msgv (Fd.set .reg m ((regC).get s).1) al capl)
      rw [hr]; exact h4)
  have n1 : ¬ b = g := hbg
  have HC := Lib.hid (getReg_eq e1 hR)
  have hone := regv_one y
  have hxl : (regv y).length = 2 := rfl
  have hsp := msgv_reg m al capl y
  have hml : 5 + 2 ≤ (msgv m al capl).length := by rw [msgv_length hw]; decide
  clear e1 hR
  go_enter Tryz.func76, Tryz.ntmps76
  go_wp2_with (first
    | (go_at_call 108; refine HC.out.mono ?_; rintro _ w2 ⟨rfl, k2, r2⟩; have b2 := hb.kept k2 n1)
    | (with_reducible refine wpList_st rfl 26 _ _ rfl 2 Tryz.sizeOf26 b 5 rfl (regv y) rfl hxl _ _ b2 hml hone ?_; rw [hsp]))
  go_end0
  have b3 := b2.setRow (splice (msgv m al capl) 5 (regv y))
  rw [hsp] at b3
  exact HP.out _ _ ⟨rfl, r2.setRowOther hbg hba _, kept_bg k2 ((Kept.refl (· = b) _).setRow (fun _ => rfl) _), b3⟩

set_option maxRecDepth 100000 in
set_option maxHeartbeats 400000 in
theorem get_key (hR : Rdr w g s a c) (hb : Blk w b 42 (msgv m al capl)) (hw : m.Wf) (hbg : b ≠ g) (hba : ∀ q, At a q → q ≠ b) :
    Calls Tryz.prog 76 #[.pointer (some ⟨b, 0, none⟩), .pointer (some ⟨g, 0, none⟩), .int .u64 8] w (GetPost w b g .key m s a c al capl) := by
  obtain ⟨y, t, e1⟩ : ∃ y t, s.key = (y, t) := ⟨_, _, rfl⟩
  have HP := Lib.hid (show ∀ e w', (e = .returned (.tuple #[]) ∧ Rdr w' g t a c ∧ Kept (fun k => k = b ∨ k = g) w w' ∧ Blk w' b 42 (msgv (Fd.set .key m y) al capl)) → GetPost w b g .key m s a c al capl e w' from fun e w' ⟨h1, h2, h3, h4⟩ => by
    have hq : Fd.c .key = keyC := rfl
    have hr : (keyC).get s = (y, t) := e1
    refine ⟨h1, ?_, h3, al, capl, ?_, fun _ => ⟨rfl, rfl⟩, fun h => nomatch h⟩
    · show Rdr w' g ((keyC).get s).2 a c
      rw [hr]; exact h2
    · show Blk w' b _ (msgv (Fd.set .key m ((keyC).get s).1) al capl)
      rw [hr]; exact h4)
  have n1 : ¬ b = g := hbg
  have HC := Lib.hid (rkey_eq e1 hR)
  have hyl : y.length = 8 := by have := PR.key_length s; rw [e1] at this; exact this
  have hone := bcells_one y
  have hxl : (bcells y).length = 8 := by rw [bcells_length, hyl]
  have hsp := msgv_key m al capl hw y hyl
  have hml : 7 + 8 ≤ (msgv m al capl).length := by rw [msgv_length hw]; decide
  clear e1 hR
  go_enter Tryz.func76, Tryz.ntmps76
  go_wp2_with (first
    | (go_at_call 110; refine HC.out.mono ?_; rintro _ w2 ⟨rfl, k2, r2⟩; have b2 := hb.kept k2 n1)
    | (with_reducible refine wpList_st rfl 28 _ _ rfl 8 Tryz.sizeOf28 b 7 rfl (bcells y) rfl hxl _ _ b2 hml hone ?_; rw [hsp]))
  go_end0
  have b3 := b2.setRow (splice (msgv m al capl) 7 (bcells y))
  rw [hsp] at b3
  exact HP.out _ _ ⟨rfl, r2.setRowOther hbg hba _, kept_bg k2 ((Kept.refl (· = b) _).setRow (fun _ => rfl) _), b3⟩

set_option maxRecDepth 100000 in
set_option maxHeartbeats 400000 in
theorem get_item (hR : Rdr w g s a c) (hb : Blk w b 42 (msgv m al capl)) (hw : m.Wf) (hbg : b ≠ g) (hba : ∀ q, At a q → q ≠ b) :
    Calls Tryz.prog 76 #[.pointer (some ⟨b, 0, none⟩), .pointer (some ⟨g, 0, none⟩), .int .u64 256] w (GetPost w b g .item m s a c al capl) := by
  obtain ⟨y, t, e1⟩ : ∃ y t, itemC.get s = (y, t) := ⟨_, _, rfl⟩
  have HP := Lib.hid (show ∀ e w', (e = .returned (.tuple #[]) ∧ Rdr w' g t a c ∧ Kept (fun k => k = b ∨ k = g) w w' ∧ Blk w' b 42 (msgv (Fd.set .item m y) al capl)) → GetPost w b g .item m s a c al capl e w' from fun e w' ⟨h1, h2, h3, h4⟩ => by
    have hq : Fd.c .item = itemC := rfl
    have hr : (itemC).get s = (y, t) := e1
    refine ⟨h1, ?_, h3, al, capl, ?_, fun _ => ⟨rfl, rfl⟩, fun h => nomatch h⟩
    · show Rdr w' g ((itemC).get s).2 a c
      rw [hr]; exact h2
    · show Blk w' b _ (msgv (Fd.set .item m ((itemC).get s).1) al capl)
      rw [hr]; exact h4)
  have n1 : ¬ b = g := hbg
  have HC := Lib.hid (getItem_eq e1 hR)
  have hyw : wfItem y := by have := (itemC_wf s).1; rw [e1] at this; exact this
  have hone := itemv_one y
  have hxl : (itemv y).length = 13 := itemv_length hyw
  have hsp := msgv_item m al capl hw y hyw
  have hml : 19 + 13 ≤ (msgv m al capl).length := by rw [msgv_length hw]; decide
  clear e1 hR
  go_enter Tryz.func76, Tryz.ntmps76
  go_wp2_with (first
    | (go_at_call 111; refine HC.out.mono ?_; rintro _ w2 ⟨rfl, k2, r2⟩; have b2 := hb.kept k2 n1)
    | (with_reducible refine wpList_st rfl 32 _ _ rfl 13 Tryz.sizeOf32 b 19 rfl (itemv y) rfl hxl _ _ b2 hml hone ?_; rw [hsp]))
  go_end0
  have b3 := b2.setRow (splice (msgv m al capl) 19 (itemv y))
  rw [hsp] at b3
  exact HP.out _ _ ⟨rfl, r2.setRowOther hbg hba _, kept_bg k2 ((Kept.refl (· = b) _).setRow (fun _ => rfl) _), b3⟩

set_option maxRecDepth 100000 in
set_option maxHeartbeats 400000 in
theorem get_time (hR : Rdr w g s a c) (hb : Blk w b 42 (msgv m al capl)) (_hw : m.Wf) (hbg : b ≠ g) (hba : ∀ q, At a q → q ≠ b) :
    Calls Tryz.prog 76 #[.pointer (some ⟨b, 0, none⟩), .pointer (some ⟨g, 0, none⟩), .int .u64 2] w (GetPost w b g .time m s a c al capl) := by
  obtain ⟨y, t, e1⟩ : ∃ y t, s.num maxC = (y, t) := ⟨_, _, rfl⟩
  have HP := Lib.hid (show ∀ e w', (e = .returned (.tuple #[]) ∧ Rdr w' g t a c ∧ Kept (fun k => k = b ∨ k = g) w w' ∧ Blk w' b 42 (msgv (Fd.set .time m y) al capl)) → GetPost w b g .time m s a c al capl e w' from fun e w' ⟨h1, h2, h3, h4⟩ => by
    have hq : Fd.c .time = countC := rfl
    have hr : (countC).get s = (y, t) := e1
    refine ⟨h1, ?_, h3, al, capl, ?_, fun _ => ⟨rfl, rfl⟩, fun h => nomatch h⟩
    · show Rdr w' g ((countC).get s).2 a c
      rw [hr]; exact h2
    · show Blk w' b _ (msgv (Fd.set .time m ((countC).get s).1) al capl)
      rw [hr]; exact h4)
  have n1 : ¬ b = g := hbg
  have HC := Lib.hid (rnum_eq (most := 2147483647) e1 (by decide) hR)
  have hy : y ≤ 2147483647 := by have := PR.num_le s maxC; rw [e1] at this; exact this
  have hy' : (y : Int) ≤ 2147483647 := by omega
  have hset := msgv_time m al capl y
  have hcell : (msgv m al capl)[4]? = some (.int .u32 m.time) := rfl
  clear e1 hR
  go_enter Tryz.func76, Tryz.ntmps76
  go_wp2_with (go_at_call 106; refine HC.out.mono ?_; rintro _ w2 ⟨rfl, k2, r2⟩; have b2 := hb.kept k2 n1; have c2 := (b2.cell 4).trans hcell; have f2 := b2.frozen 4)
  go_end0
  have b3 := b2.set 4 (.int .u32 (y : Nat))
  rw [hset] at b3
  exact HP.out _ _ ⟨rfl, r2.setOther hbg hba _ _, kept_bg k2 ((Kept.refl (· = b) _).setCell (fun _ => rfl) _), b3⟩

set_option maxRecDepth 100000 in
set_option maxHeartbeats 400000 in
theorem get_no (hR : Rdr w g s a c) (hb : Blk w b 42 (msgv m al capl)) (hw : m.Wf) (hbg : b ≠ g) (hba : ∀ q, At a q → q ≠ b) :
    Calls Tryz.prog 76 #[.pointer (some ⟨b, 0, none⟩), .pointer (some ⟨g, 0, none⟩), .int .u64 32] w (GetPost w b g .no m s a c al capl) := by
  obtain ⟨y, t, e1⟩ : ∃ y t, s.num maxC = (y, t) := ⟨_, _, rfl⟩
  have HP := Lib.hid (show ∀ e w', (e = .returned (.tuple #[]) ∧ Rdr w' g t a c ∧ Kept (fun k => k = b ∨ k = g) w w' ∧ Blk w' b 42 (msgv (Fd.set .no m y) al capl)) → GetPost w b g .no m s a c al capl e w' from fun e w' ⟨h1, h2, h3, h4⟩ => by
    have hq : Fd.c .no = countC := rfl
    have hr : (countC).get s = (y, t) := e1
    refine ⟨h1, ?_, h3, al, capl, ?_, fun _ => ⟨rfl, rfl⟩, fun h => nomatch h⟩
    · show Rdr w' g ((countC).get s).2 a c
      rw [hr]; exact h2
    · show Blk w' b _ (msgv (Fd.set .no m ((countC).get s).1) al capl)
      rw [hr]; exact h4)
  have n1 : ¬ b = g := hbg
  have HC := Lib.hid (rnum_eq (most := 2147483647) e1 (by decide) hR)
  have hy : y ≤ 2147483647 := by have := PR.num_le s maxC; rw [e1] at this; exact this
  have hy' : (y : Int) ≤ 2147483647 := by omega
  have hset := msgv_no m al capl hw y
  have hcell : (msgv m al capl)[16]? = some (.int .u32 m.no) := cell15_of hw al capl 1
  clear e1 hR
  go_enter Tryz.func76, Tryz.ntmps76
  go_wp2_with (go_at_call 106; refine HC.out.mono ?_; rintro _ w2 ⟨rfl, k2, r2⟩; have b2 := hb.kept k2 n1; have c2 := (b2.cell 16).trans hcell; have f2 := b2.frozen 16)
  go_end0
  have b3 := b2.set 16 (.int .u32 (y : Nat))
  rw [hset] at b3
  exact HP.out _ _ ⟨rfl, r2.setOther hbg hba _ _, kept_bg k2 ((Kept.refl (· = b) _).setCell (fun _ => rfl) _), b3⟩

set_option maxRecDepth 100000 in
set_option maxHeartbeats 400000 in
theorem get_why (hR : Rdr w g s a c) (hb : Blk w b 42 (msgv m al capl)) (hw : m.Wf) (hbg : b ≠ g) (hba : ∀ q, At a q → q ≠ b) :
    Calls Tryz.prog 76 #[.pointer (some ⟨b, 0, none⟩), .pointer (some ⟨g, 0, none⟩), .int .u64 64] w (GetPost w b g .why m s a c al capl) := by
  obtain ⟨y, t, e1⟩ : ∃ y t, s.num 17 = (y, t) := ⟨_, _, rfl⟩
  have HP := Lib.hid (show ∀ e w', (e = .returned (.tuple #[]) ∧ Rdr w' g t a c ∧ Kept (fun k => k = b ∨ k = g) w w' ∧ Blk w' b 42 (msgv (Fd.set .why m y) al capl)) → GetPost w b g .why m s a c al capl e w' from fun e w' ⟨h1, h2, h3, h4⟩ => by
    have hq : Fd.c .why = numC 17 (by decide) := rfl
    have hr : (numC 17 (by decide)).get s = (y, t) := e1
    refine ⟨h1, ?_, h3, al, capl, ?_, fun _ => ⟨rfl, rfl⟩, fun h => nomatch h⟩
    · show Rdr w' g ((numC 17 (by decide)).get s).2 a c
      rw [hr]; exact h2
    · show Blk w' b _ (msgv (Fd.set .why m ((numC 17 (by decide)).get s).1) al capl)
      rw [hr]; exact h4)
  have n1 : ¬ b = g := hbg
  have HC := Lib.hid (rnum_eq (most := 17) e1 (by decide) hR)
  have hy : y ≤ 17 := by have := PR.num_le s 17; rw [e1] at this; exact this
  have hy' : (y : Int) ≤ 17 := by omega
  have hset := msgv_why m al capl hw y
  have hcell : (msgv m al capl)[17]? = some (.int .u8 m.why) := cell15_of hw al capl 2
  clear e1 hR
  go_enter Tryz.func76, Tryz.ntmps76
  go_wp2_with (go_at_call 106; refine HC.out.mono ?_; rintro _ w2 ⟨rfl, k2, r2⟩; have b2 := hb.kept k2 n1; have c2 := (b2.cell 17).trans hcell; have f2 := b2.frozen 17)
  go_end0
  have b3 := b2.set 17 (.int .u8 (y : Nat))
  rw [hset] at b3
  exact HP.out _ _ ⟨rfl, r2.setOther hbg hba _ _, kept_bg k2 ((Kept.refl (· = b) _).setCell (fun _ => rfl) _), b3⟩

set_option maxRecDepth 100000 in
set_option maxHeartbeats 400000 in
theorem get_mode (hR : Rdr w g s a c) (hb : Blk w b 42 (msgv m al capl)) (hw : m.Wf) (hbg : b ≠ g) (hba : ∀ q, At a q → q ≠ b) :
    Calls Tryz.prog 76 #[.pointer (some ⟨b, 0, none⟩), .pointer (some ⟨g, 0, none⟩), .int .u64 16] w (GetPost w b g .mode m s a c al capl) := by
  obtain ⟨y, t, e1⟩ : ∃ y t, s.byte = (y, t) := ⟨_, _, rfl⟩
  have HP := Lib.hid (show ∀ e w', (e = .returned (.tuple #[]) ∧ Rdr w' g t a c ∧ Kept (fun k => k = b ∨ k = g) w w' ∧ Blk w' b 42 (msgv (Fd.set .mode m y) al capl)) → GetPost w b g .mode m s a c al capl e w' from fun e w' ⟨h1, h2, h3, h4⟩ => by
    have hq : Fd.c .mode = byteC := rfl
    have hr : (byteC).get s = (y, t) := e1
    refine ⟨h1, ?_, h3, al, capl, ?_, fun _ => ⟨rfl, rfl⟩, fun h => nomatch h⟩
    · show Rdr w' g ((byteC).get s).2 a c
      rw [hr]; exact h2
    · show Blk w' b _ (msgv (Fd.set .mode m ((byteC).get s).1) al capl)
      rw [hr]; exact h4)
  have n1 : ¬ b = g := hbg
  have HC := Lib.hid (rbyte_eq e1 hR)
  have hset := msgv_mode m al capl hw y
  have hcell : (msgv m al capl)[15]? = some (.int .u8 m.mode) := cell15_of hw al capl 0
  clear e1 hR
  go_enter Tryz.func76, Tryz.ntmps76
  go_wp2_with (go_at_call 71; refine HC.out.mono ?_; rintro _ w2 ⟨rfl, k2, r2⟩; have b2 := hb.kept k2 n1; have c2 := (b2.cell 15).trans hcell; have f2 := b2.frozen 15)
  go_end0
  have b3 := b2.set 15 (.int .u8 (y : Nat))
  rw [hset] at b3
  exact HP.out _ _ ⟨rfl, r2.setOther hbg hba _ _, kept_bg k2 ((Kept.refl (· = b) _).setCell (fun _ => rfl) _), b3⟩

set_option maxRecDepth 100000 in
set_option maxHeartbeats 400000 in
theorem get_yes (hR : Rdr w g s a c) (hb : Blk w b 42 (msgv m al capl)) (hw : m.Wf) (hbg : b ≠ g) (hba : ∀ q, At a q → q ≠ b) :
    Calls Tryz.prog 76 #[.pointer (some ⟨b, 0, none⟩), .pointer (some ⟨g, 0, none⟩), .int .u64 128] w (GetPost w b g .yes m s a c al capl) := by
  obtain ⟨y, t, e1⟩ : ∃ y t, s.byte = (y, t) := ⟨_, _, rfl⟩
  have HP := Lib.hid (show ∀ e w', (e = .returned (.tuple #[]) ∧ Rdr w' g t a c ∧ Kept (fun k => k = b ∨ k = g) w w' ∧ Blk w' b 42 (msgv (Fd.set .yes m y) al capl)) → GetPost w b g .yes m s a c al capl e w' from fun e w' ⟨h1, h2, h3, h4⟩ => by
    have hq : Fd.c .yes = byteC := rfl
    have hr : (byteC).get s = (y, t) := e1
    refine ⟨h1, ?_, h3, al, capl, ?_, fun _ => ⟨rfl, rfl⟩, fun h => nomatch h⟩
    · show Rdr w' g ((byteC).get s).2 a c
      rw [hr]; exact h2
    · show Blk w' b _ (msgv (Fd.set .yes m ((byteC).get s).1) al capl)
      rw [hr]; exact h4)
  have n1 : ¬ b = g := hbg
  have HC := Lib.hid (rbyte_eq e1 hR)
  have hset := msgv_yes m al capl hw y
  have hcell : (msgv m al capl)[18]? = some (.int .u8 m.yes) := cell15_of hw al capl 3
  clear e1 hR
  go_enter Tryz.func76, Tryz.ntmps76
  go_wp2_with (go_at_call 71; refine HC.out.mono ?_; rintro _ w2 ⟨rfl, k2, r2⟩; have b2 := hb.kept k2 n1; have c2 := (b2.cell 18).trans hcell; have f2 := b2.frozen 18)
  go_end0
  have b3 := b2.set 18 (.int .u8 (y : Nat))
  rw [hset] at b3
  exact HP.out _ _ ⟨rfl, r2.setOther hbg hba _ _, kept_bg k2 ((Kept.refl (· = b) _).setCell (fun _ => rfl) _), b3⟩

set_option maxRecDepth 100000 in
set_option maxHeartbeats 400000 in
theorem get_writes (hR : Rdr w g s a c) (hb : Blk w b 42 (msgv m al capl)) (hw : m.Wf) (hbg : b ≠ g) (hba : ∀ q, At a q → q ≠ b) :
    Calls Tryz.prog 76 #[.pointer (some ⟨b, 0, none⟩), .pointer (some ⟨g, 0, none⟩), .int .u64 512] w (GetPost w b g .writes m s a c al capl) := by
  have HC := Lib.hid (getWrites_calls hR)
  have n1 : ¬ b = g := hbg
  have hset := fun a' c' => msgv_writes m al capl hw (writesC.get s).1 a' c'
  have hcell := cell32_of hw al capl
  have hblt := hb.lt
  have HP := Lib.hid (show ∀ e w', (∃ al' capl', e = .returned (.tuple #[]) ∧ Rdr w' g (writesC.get s).2 a c ∧ Kept (fun k => k = b ∨ k = g) w w' ∧ Blk w' b 42 (msgv (Fd.set .writes m (writesC.get s).1) al' capl') ∧ WOwn w w' g (writesC.get s).1 al' capl') → GetPost w b g .writes m s a c al capl e w' from fun e w' ⟨al', capl', h1, h2, h3, h4, h5⟩ => ⟨h1, h2, h3, al', capl', h4, fun h => absurd rfl h, fun _ => h5⟩)
  clear hR
  have HSET := Lib.hid hset
  clear hset
  go_enter Tryz.func76, Tryz.ntmps76
  go_wp2_with (go_at_call 109; refine HC.out.mono ?_; rintro _ w2 ⟨a2, cap2, rfl, o2, k2, r2⟩; have b2 := hb.kept k2 n1; have c2 := (b2.cell 32).trans hcell; have f2 := b2.frozen 32)
  go_end0
  have b3 := b2.set 32 (.slice a2 (writesC.get s).1.length cap2)
  rw [HSET.out] at b3
  exact HP.out _ _ ⟨a2, cap2, rfl, r2.setOther hbg hba _ _, kept_bg k2 ((Kept.refl (· = b) _).setCell (fun _ => rfl) _), b3, o2.own.kept ((Kept.refl (· = b) _).setCell (fun _ => rfl) _) (fun q hq e => by have := o2.new q hq; omega), o2.new⟩

theorem mget_calls (hR : Rdr w g s a c) (hb : Blk w b 42 (msgv m al capl)) (hw : m.Wf) (hbg : b ≠ g) (hba : ∀ q, At a q → q ≠ b) (f : Fd) :
    Calls Tryz.prog 76 #[.pointer (some ⟨b, 0, none⟩), .pointer (some ⟨g, 0, none⟩), .int .u64 (f.num : Nat)] w (GetPost w b g f m s a c al capl) := by
  cases f
  · exact get_tx hR hb hw hbg hba
  · exact get_time hR hb hw hbg hba
  · exact get_reg hR hb hw hbg hba
  · exact get_key hR hb hw hbg hba
  · exact get_mode hR hb hw hbg hba
  · exact get_no hR hb hw hbg hba
  · exact get_why hR hb hw hbg hba
  · exact get_yes hR hb hw hbg hba
  · exact get_item hR hb hw hbg hba
  · exact get_writes hR hb hw hbg hba
end
end Go.Proofs.YtjfmidcaekhhgaaGreatDoor

namespace Go.Proofs.YtjfmidcaekhhgaaGreatDoor
open Go.RowKit Go.PM

/-- What holds of every message that is read. -/
structure PMsg.Gd (m : PMsg) : Prop where
  wf : m.Wf
  item : m.item.2.1.length ≤ 64
  each : ∀ x ∈ m.writes, x.2.2.1.length ≤ 64
  many : m.writes.length ≤ 16
theorem PMsg.Gd.sm {m : PMsg} (h : m.Gd) : m.Sm := ⟨by have := h.item; omega, fun x hx => by have := h.each x hx; omega, by have := h.many; omega⟩
theorem zeroMsg_wf (k : Nat) (hk : k < 256) : (zeroMsg k).Wf where
  kind := hk
  tx := show wfTx (0, 0, 0) from ⟨by decide, by decide, by decide⟩
  time := show 0 < 4294967296 by decide
  reg := show wfReg (0, 0) from ⟨by decide, by decide⟩
  key := rfl
  mode := show 0 < 256 by decide
  no := show 0 < 4294967296 by decide
  why := show 0 < 256 by decide
  yes := show 0 < 256 by decide
  item := noItem_wf0
  writes := fun x hx => nomatch hx
theorem zeroMsg_gd (k : Nat) (hk : k < 256) : (zeroMsg k).Gd := ⟨zeroMsg_wf k hk, Nat.zero_le _, (fun _x hx => nomatch hx), Nat.zero_le _⟩
theorem txC_wf (s : PR) : wfTx (txC.get s).1 := by
  obtain ⟨n, s1, e1⟩ : ∃ y t, s.byte = (y, t) := ⟨_, _, rfl⟩
  obtain ⟨i, s2, e2⟩ : ∃ y t, s1.num maxC = (y, t) := ⟨_, _, rfl⟩
  obtain ⟨j, s3, e3⟩ : ∃ y t, s2.num maxC = (y, t) := ⟨_, _, rfl⟩
  have h1 := PR.byte_lt s
  have h2 := count_wf s1
  have h3 := count_wf s2
  rw [e1] at h1
  rw [e2] at h2
  rw [e3] at h3
  have : txC.get s = (orTx s3 (n, i, j), s3) := by
    have h1 : txC.get s = (orTx ((s.byte.2.num maxC).2.num maxC).2 (s.byte.1, (s.byte.2.num maxC).1, ((s.byte.2.num maxC).2.num maxC).1), ((s.byte.2.num maxC).2.num maxC).2) := rfl
    rw [h1]; simp only [e1, e2, e3]
  rw [this]
  unfold orTx
  split
  · exact ⟨h1, h2, h3⟩
  · exact ⟨by simp, by simp, by simp⟩
theorem regC_wf (s : PR) : wfReg (regC.get s).1 := by
  obtain ⟨i, s2, e2⟩ : ∃ y t, s.num maxC = (y, t) := ⟨_, _, rfl⟩
  obtain ⟨j, s3, e3⟩ : ∃ y t, s2.num maxC = (y, t) := ⟨_, _, rfl⟩
  have h2 := count_wf s
  have h3 := count_wf s2
  rw [e2] at h2
  rw [e3] at h3
  have : regC.get s = (orReg s3 (i, j), s3) := by
    have h1 : regC.get s = (orReg ((s.num maxC).2.num maxC).2 ((s.num maxC).1, ((s.num maxC).2.num maxC).1), ((s.num maxC).2.num maxC).2) := rfl
    rw [h1]; simp only [e2, e3]
  rw [this]
  unfold orReg
  split
  · exact ⟨h2, h3⟩
  · exact ⟨by simp, by simp⟩
theorem writesC_wf (s : PR) : (∀ x ∈ (writesC.get s).1, wfPW x ∧ x.2.2.1.length ≤ 64) ∧ (writesC.get s).1.length ≤ 16 := by
  obtain ⟨n, s1, e1⟩ : ∃ y t, s.num 16 = (y, t) := ⟨_, _, rfl⟩
  have hn16 : n ≤ 16 := by have := PR.num_le s 16; rw [e1] at this; exact this
  have : writesC.get s = (if (writeC.getN n s1).2.why = 0 then (writeC.getN n s1).1 else [], (writeC.getN n s1).2) := by
    simp only [writesC, Codec.many, e1]
  rw [this]
  simp only
  split
  · exact ⟨getN_all writeC _ writeC_wf n s1, by rw [Codec.getN_length]; exact hn16⟩
  · exact ⟨fun x hx => (nomatch hx), Nat.zero_le _⟩
theorem Fd.get_gd (f : Fd) {m : PMsg} (h : m.Gd) (s : PR) : (f.set m (f.c.get s).1).Gd := by
  obtain ⟨⟨w1, w2, w3, w4, w5, w6, w7, w8, w9, w10, w11⟩, h2, h3, h4⟩ := h
  cases f
  · show PMsg.Gd { m with tx := (txC.get s).1 }
    have h := txC_wf s
    generalize txC.get s = X at *
    exact ⟨⟨w1, h, w3, w4, w5, w6, w7, w8, w9, w10, w11⟩, h2, h3, h4⟩
  · show PMsg.Gd { m with time := (s.num maxC).1 }
    have h := count_wf s
    generalize s.num maxC = X at *
    exact ⟨⟨w1, w2, h, w4, w5, w6, w7, w8, w9, w10, w11⟩, h2, h3, h4⟩
  · show PMsg.Gd { m with reg := (regC.get s).1 }
    have h := regC_wf s
    generalize regC.get s = X at *
    exact ⟨⟨w1, w2, w3, h, w5, w6, w7, w8, w9, w10, w11⟩, h2, h3, h4⟩
  · show PMsg.Gd { m with key := s.key.1 }
    have h := PR.key_length s
    generalize s.key = X at *
    exact ⟨⟨w1, w2, w3, w4, h, w6, w7, w8, w9, w10, w11⟩, h2, h3, h4⟩
  · show PMsg.Gd { m with mode := s.byte.1 }
    have h := PR.byte_lt s
    generalize s.byte = X at *
    exact ⟨⟨w1, w2, w3, w4, w5, h, w7, w8, w9, w10, w11⟩, h2, h3, h4⟩
  · show PMsg.Gd { m with no := (s.num maxC).1 }
    have h := count_wf s
    generalize s.num maxC = X at *
    exact ⟨⟨w1, w2, w3, w4, w5, w6, h, w8, w9, w10, w11⟩, h2, h3, h4⟩
  · show PMsg.Gd { m with why := (s.num 17).1 }
    have h := PR.num_le s 17
    generalize s.num 17 = X at *
    exact ⟨⟨w1, w2, w3, w4, w5, w6, w7, by show X.1 < 256; omega, w9, w10, w11⟩, h2, h3, h4⟩
  · show PMsg.Gd { m with yes := s.byte.1 }
    have h := PR.byte_lt s
    generalize s.byte = X at *
    exact ⟨⟨w1, w2, w3, w4, w5, w6, w7, w8, h, w10, w11⟩, h2, h3, h4⟩
  · show PMsg.Gd { m with item := (itemC.get s).1 }
    have h := itemC_wf s
    generalize itemC.get s = X at *
    exact ⟨⟨w1, w2, w3, w4, w5, w6, w7, w8, w9, h.1, w11⟩, h.2, h3, h4⟩
  · show PMsg.Gd { m with writes := (writesC.get s).1 }
    have h := writesC_wf s
    generalize writesC.get s = X at *
    exact ⟨⟨w1, w2, w3, w4, w5, w6, w7, w8, w9, w10, fun x hx => (h.1 x hx).1⟩, h2, fun x hx => (h.1 x hx).2, h.2⟩
theorem Fd.set_writes (f : Fd) (hf : f ≠ .writes) (m : PMsg) (x : f.T) : (f.set m x).writes = m.writes := by
  cases f <;> first | rfl | exact absurd rfl hf

section
variable {w : World} {b g c capl : Nat} {m : PMsg} {s : PR} {al a : Option Addr}
set_option maxHeartbeats 400000 in
theorem decFn_calls {p : Nat} {TP : TypeId} (hp : Blk w p TP [.pointer (some ⟨g, 0, none⟩)]) (hR : Rdr w g s a c) (hb : Blk w b 42 (msgv m al capl)) (hw : m.Wf) (hbg : b ≠ g) (hba : ∀ q, At a q → q ≠ b) (f : Fd) :
    Calls Tryz.prog 75 #[.int .u64 (f.num : Nat), .pointer (some ⟨b, 0, none⟩), .pointer (some ⟨p, 0, none⟩)] w (GetPost w b g f m s a c al capl) := by
  have HC := Lib.hid (mget_calls hR hb hw hbg hba f)
  have c0 : w.cell? ⟨p, 0, none⟩ = some (.pointer (some ⟨g, 0, none⟩)) := hp.cell 0
  have HP := Lib.hid (show ∀ e w', GetPost w b g f m s a c al capl e w' → GetPost w b g f m s a c al capl e w' from fun _ _ h => h)
  clear hR hb hp
  generalize f.num = n at *
  go_enter Tryz.func75, Tryz.ntmps75
  go_wp2_with (go_at_call 76; refine HC.out.mono ?_; rintro _ w2 ⟨rfl, k2⟩)
  go_end0
  exact HP.out _ _ ⟨rfl, k2⟩

def EdRel (w0 : World) (b g p : Nat) (TP : TypeId) (k : Nat) (s0 : PR) (a : Option Addr) (c : Nat) (f : Value) (wr : World) : Prop :=
  ∃ (i : Nat) (al : Option Addr) (capl : Nat), i ≤ 10 ∧ f = .int .u64 ((2 ^ i : Nat) : Int) ∧ Rdr wr g (Fd.gets (idxTo k i) (zeroMsg k, s0)).2 a c ∧ Blk wr b 42 (msgv (Fd.gets (idxTo k i) (zeroMsg k, s0)).1 al capl) ∧
    Blk wr p TP [.pointer (some ⟨g, 0, none⟩)] ∧ Kept (fun k => k = b ∨ k = g) w0 wr ∧ WOwn w0 wr g (Fd.gets (idxTo k i) (zeroMsg k, s0)).1.writes al capl ∧ (Fd.gets (idxTo k i) (zeroMsg k, s0)).1.Gd
/-- What each makes of a message and its reader. -/
def EdPost (w : World) (b g : Nat) (k : Nat) (s0 : PR) (a : Option Addr) (c : Nat) (e : Ending) (w' : World) : Prop :=
  ∃ (al : Option Addr) (capl : Nat), e = .returned (.tuple #[]) ∧ Rdr w' g (Fd.gets (idx k) (zeroMsg k, s0)).2 a c ∧ Blk w' b 42 (msgv (Fd.gets (idx k) (zeroMsg k, s0)).1 al capl) ∧
    Kept (fun k => k = b ∨ k = g) w w' ∧ WOwn w w' g (Fd.gets (idx k) (zeroMsg k, s0)).1.writes al capl ∧ (Fd.gets (idx k) (zeroMsg k, s0)).1.Gd
theorem Fd.gets_to (k i : Nat) (x : PMsg × PR) : Fd.gets (idxTo k (i + 1)) x = if Fd.at_ i ∈ idx k then (Fd.at_ i).get (Fd.gets (idxTo k i) x) else Fd.gets (idxTo k i) x := by
  simp only [idxTo, Fd.gets, List.foldl_append]
  split <;> rfl

set_option maxRecDepth 100000 in
set_option maxHeartbeats 1000000 in
theorem each_dec {p : Nat} {TP : TypeId} (k : Nat) (hk : k < 256) (hp : Blk w p TP [.pointer (some ⟨g, 0, none⟩)]) (hR : Rdr w g s a c) (hb : Blk w b 42 (msgv (zeroMsg k) none 0)) (hbg : b ≠ g) (hba : ∀ q, At a q → q ≠ b) (hpb : p ≠ b) (hpg : p ≠ g) :
    Calls Tryz.prog 34 #[.int .u8 k, .func (.func 75) #[] #[.pointer (some ⟨b, 0, none⟩), .pointer (some ⟨p, 0, none⟩)]] w (EdPost w b g k s a c) := by
  have HF := Lib.hid (fun w => fields_calls (w := w) k hk)
  have hbl := hb.lt
  have hgl := hR.box.lt
  have HP := Lib.hid (show ∀ e w', EdPost w b g k s a c e w' → EdPost w b g k s a c e w' from fun _ _ h => h)
  go_enter Tryz.func34, Tryz.ntmps34
  go_wp2_with (go_at_call 48; refine (HF.out _).mono ?_; rintro _ _ ⟨rfl, rfl⟩)
  go_loopw [5] (fun f wr => EdRel w b g p TP k s a c f wr) (fun f _ => logOf f)
  case atStart => exact ⟨0, none, 0, by omega, rfl, hR, hb, hp, Kept.refl _ _, ⟨Owns.nil _ _ _, fun q ⟨_, _, e, _⟩ => nomatch e⟩, zeroMsg_gd k hk⟩
  case round =>
    clear hp hR hb
    obtain ⟨i, al, capl, hi, rfl, hR, hb, hp, hK, hO, hG⟩ := hrel
    have hnew := hO.new
    have offs : ∀ q, At al q → ¬ (q = b ∨ q = g) := fun q hq e => by have := hnew q hq; omega
    by_cases hlt : i < 10
    · have hn := Fd.at_n hlt
      have hand := mask_and k (Fd.at_ i)
      have hpow : 2 ^ i = (Fd.at_ i).num := by unfold Fd.num; rw [hn]
      have hle : (Fd.at_ i).num ≤ 512 := by cases Fd.at_ i <;> decide
      have hpos : 0 < (Fd.at_ i).num := by cases Fd.at_ i <;> decide
      have hnext : 2 ^ (i + 1) = 2 * (Fd.at_ i).num := by rw [Nat.pow_succ, hpow, Nat.mul_comm]
      have HE := Lib.hid (decFn_calls hp hR hb hG.wf hbg hba (Fd.at_ i))
      have hto := Fd.gets_to k i (zeroMsg k, s)
      have hgd := (Fd.at_ i).get_gd hG (Fd.gets (idxTo k i) (zeroMsg k, s)).2
      have hsw := fun h => (Fd.at_ i).set_writes h (Fd.gets (idxTo k i) (zeroMsg k, s)).1
      rw [hpow]
      generalize hF : (Fd.at_ i) = F at *
      generalize hX : Fd.gets (idxTo k i) (zeroMsg k, s) = X at *
      generalize hN : F.num = N at *
      have l1 : (N : Int) < 1024 := by omega
      have hval : (N : Int) * 2 = ((2 ^ (i + 1) : Nat) : Int) := by rw [hnext]; omega
      have HV := Lib.hid hval
      have hlog : logOf (.int .u64 ((N : Int) * 2)) < logOf (.int .u64 (N : Int)) := by simp only [logOf, intOf]; omega
      have HL := Lib.hid hlog
      have HTO := Lib.hid hto
      clear hval hlog hnext hF hpow hto
      by_cases hin : F ∈ idx k
      · rw [if_pos hin] at hand HTO
        have hne : ((N : Int) == 0) = false := beq_eq_false_iff_ne.2 (by omega)
        clear hin hX hN
        go_wp2_with (go_at_call 75; refine HE.out.mono ?_; rintro _ w2 ⟨rfl, r2, k2, al2, cap2, b2, e1, e2⟩)
        have hK2 := hK.trans k2 fun _ _ h => h
        have hO2 : WOwn w w2 g (F.set X.1 (F.c.get X.2).1).writes al2 cap2 := by
          by_cases hf : F = .writes
          · obtain ⟨o1, o2⟩ := e2 hf
            exact ⟨o1, fun q hq => Nat.le_trans hK.size (o2 q hq)⟩
          · obtain ⟨rfl, rfl⟩ := e1 hf
            have := hsw hf (F.c.get X.2).1
            rw [this]
            exact ⟨hO.own.kept k2 offs, hnew⟩
        exact ⟨⟨i + 1, al2, cap2, by omega, by rw [HV.out], by rw [HTO.out]; exact r2, by rw [HTO.out]; exact b2, hp.kept k2 (fun h => h.elim hpb hpg), hK2, by rw [HTO.out]; exact hO2, by rw [HTO.out]; exact hgd⟩, HL.out⟩
      · rw [if_neg hin] at hand HTO
        clear hin
        go_wp2
        exact ⟨⟨i + 1, al, capl, by omega, by rw [HV.out], by rw [HTO.out]; exact hR, by rw [HTO.out]; exact hb, hp, hK, by rw [HTO.out]; exact hO, by rw [HTO.out]; exact hG⟩, HL.out⟩
    · obtain rfl : i = 10 := by omega
      rw [idxTo_all] at hR hb hO hG
      go_wp2
      go_end0
      exact HP.out _ _ ⟨al, capl, rfl, hR, hb, hK, hO, hG⟩
end
end Go.Proofs.YtjfmidcaekhhgaaGreatDoor
