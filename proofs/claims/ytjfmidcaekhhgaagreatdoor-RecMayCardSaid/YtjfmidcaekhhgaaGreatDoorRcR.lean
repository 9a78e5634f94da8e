/- How the fields of a record are read, as walks. Printed by gen_rcr.py. -/
import Derived.Test.YtjfmidcaekhhgaaGreatDoorRcQ
import Derived.Test.YtjfmidcaekhhgaaGreatDoorMsGet
namespace Go.Proofs.YtjfmidcaekhhgaaGreatDoor
open Go.RowKit Go.PM

theorem Tryz.cu_u64s : Tryz.prog.underlying 48 = some (.slice 47) := by kernel_rfl
theorem Tryz.cinf_u64 : (Tryz.prog.info? 47).map (fun i => (i.zero, i.size, i.bytes)) = some (some (.int .u64 0), 1, 8) := by kernel_rfl
/-- Reading one field of a record. -/
def rfGet : Nat → PRec × PR → PRec × PR
  | 0, x => ({ x.1 with n := (x.2.num maxC).1 }, (x.2.num maxC).2)
  | 1, x => ({ x.1 with tx := (txC.get x.2).1 }, (txC.get x.2).2)
  | 2, x => ({ x.1 with reg := (regC.get x.2).1 }, (regC.get x.2).2)
  | 3, x => ({ x.1 with members := (x.2.num 255).1 }, (x.2.num 255).2)
  | 4, x => ({ x.1 with writes := (writesC.get x.2).1 }, (writesC.get x.2).2)
  | 5, x => ({ x.1 with missing := (setC.getN x.1.writes.length x.2).1 }, (setC.getN x.1.writes.length x.2).2)
  | 6, x => ({ x.1 with key := x.2.key.1 }, x.2.key.2)
  | 7, x => ({ x.1 with item := (itemC.get x.2).1 }, (itemC.get x.2).2)
  | _, x => x
theorem rfGet_item (m : PRec) (s : PR) : rfGet 7 (m, s) = ({ m with item := (itemC.get s).1 }, (itemC.get s).2) := by
  generalize hX : itemC.get s = X
  simp only [rfGet, hX]
def rfGets (l : List Nat) (x : PRec × PR) : PRec × PR := l.foldl (fun x f => rfGet f x) x
theorem rfGets_eq (k : Nat) (x : PRec × PR) : rfGets (rfx k) x = Re.gets (rdx k) x := by
  rcases rdx_cases k with h | h | h | h | h | h | h | h
  · rw [h, rfx_nil h]; rfl
  all_goals
    subst h
    obtain ⟨r, s⟩ := x
    simp only [rfGets, Re.gets, rfx, rdx]
    simp [rfGet, Re.get, Re.set, Re.c, countC, numC, setC, keyC, bothC]
theorem rfGets_snoc (l : List Nat) (f : Nat) (x : PRec × PR) : rfGets (l ++ [f]) x = rfGet f (rfGets l x) := by simp [rfGets]

/-- A record whose parts are short. -/
structure PRec.Gd (m : PRec) : Prop where
  wf : m.Wf
  item : m.item.2.1.length ≤ 64
  each : ∀ x ∈ m.writes, x.2.2.1.length ≤ 64
  many : m.writes.length ≤ 16
  miss : m.missing.length ≤ 16
theorem PRec.Gd.sm {m : PRec} (h : m.Gd) : m.Sm := ⟨by have := h.item; omega, fun x hx => by have := h.each x hx; omega, by have := h.many; omega, by have := h.miss; omega⟩
theorem zeroRec_gd (k : Nat) (hk : k < 256) : (zeroRec k).Gd :=
  ⟨⟨hk, (show (0 : Nat) < 4294967296 by decide), (show wfTx (0, 0, 0) from ⟨by decide, by decide, by decide⟩), (show wfReg (0, 0) from ⟨by decide, by decide⟩), (show (0 : Nat) < 18446744073709551616 by decide), (fun _x hx => nomatch hx), (fun _x hx => nomatch hx), rfl, noItem_wf⟩, Nat.zero_le _, (fun _x hx => nomatch hx), Nat.zero_le _, Nat.zero_le _⟩
theorem set_all (n : Nat) (s : PR) : ∀ x ∈ (setC.getN n s).1, x < 18446744073709551616 := getN_all setC (fun x => x < 18446744073709551616) (fun s => Nat.lt_of_le_of_lt (PR.num_le s 255) (by decide)) n s
theorem rfGet_gd (f : Nat) (hf : f < 8) {m : PRec} (h : m.Gd) (s : PR) : (rfGet f (m, s)).1.Gd := by
  obtain ⟨⟨w1, w2, w3, w4, w5, w6, w7, w8, w9⟩, h2, h3, h4, h5⟩ := h
  have hc : f = 0 ∨ f = 1 ∨ f = 2 ∨ f = 3 ∨ f = 4 ∨ f = 5 ∨ f = 6 ∨ f = 7 := by omega
  rcases hc with rfl | rfl | rfl | rfl | rfl | rfl | rfl | rfl
  · show PRec.Gd { m with n := (s.num maxC).1 }
    have h := count_wf s
    generalize s.num maxC = X at *
    exact ⟨⟨w1, h, w3, w4, w5, w6, w7, w8, w9⟩, h2, h3, h4, h5⟩
  · show PRec.Gd { m with tx := (txC.get s).1 }
    have h := txC_wf s
    generalize txC.get s = X at *
    exact ⟨⟨w1, w2, h, w4, w5, w6, w7, w8, w9⟩, h2, h3, h4, h5⟩
  · show PRec.Gd { m with reg := (regC.get s).1 }
    have h := regC_wf s
    generalize regC.get s = X at *
    exact ⟨⟨w1, w2, w3, h, w5, w6, w7, w8, w9⟩, h2, h3, h4, h5⟩
  · show PRec.Gd { m with members := (s.num 255).1 }
    have h := PR.num_le s 255
    generalize s.num 255 = X at *
    exact ⟨⟨w1, w2, w3, w4, by show X.1 < _; omega, w6, w7, w8, w9⟩, h2, h3, h4, h5⟩
  · show PRec.Gd { m with writes := (writesC.get s).1 }
    have h := writesC_wf s
    generalize writesC.get s = X at *
    exact ⟨⟨w1, w2, w3, w4, w5, fun x hx => (h.1 x hx).1, w7, w8, w9⟩, h2, fun x hx => (h.1 x hx).2, h.2, h5⟩
  · show PRec.Gd { m with missing := (setC.getN m.writes.length s).1 }
    exact ⟨⟨w1, w2, w3, w4, w5, w6, set_all _ _, w8, w9⟩, h2, h3, h4, by show (setC.getN m.writes.length s).1.length ≤ 16; rw [Codec.getN_length]; exact h4⟩
  · show PRec.Gd { m with key := s.key.1 }
    have h := PR.key_length s
    generalize s.key = X at *
    exact ⟨⟨w1, w2, w3, w4, w5, w6, w7, h, w9⟩, h2, h3, h4, h5⟩
  · rw [rfGet_item]
    have h := itemC_wf s
    generalize itemC.get s = X at *
    exact ⟨⟨w1, w2, w3, w4, w5, w6, w7, w8, h.1⟩, h.2, h3, h4, h5⟩

section
variable (m : PRec) (aw : Option Addr) (cw : Nat) (am : Option Addr) (cm : Nat)
theorem recv_n (x : Nat) : (recv m aw cw am cm).set 1 (.int .u32 x) = recv { m with n := x } aw cw am cm := rfl
theorem recv_tx (x : PTx) : splice (recv m aw cw am cm) 2 (txv x) = recv { m with tx := x } aw cw am cm := rfl
theorem recv_reg (x : PReg) : splice (recv m aw cw am cm) 5 (regv x) = recv { m with reg := x } aw cw am cm := rfl
theorem recv_members (x : Nat) : (recv m aw cw am cm).set 7 (.int .u64 x) = recv { m with members := x } aw cw am cm := rfl
theorem recv_writes (l : List PW) (a' : Option Addr) (c' : Nat) : (recv m aw cw am cm).set 8 (.slice a' l.length c') = recv { m with writes := l } a' c' am cm := rfl
theorem recv_missing (l : List Nat) (a' : Option Addr) (c' : Nat) : (recv m aw cw am cm).set 9 (.slice a' l.length c') = recv { m with missing := l } aw cw a' c' := rfl
theorem recv_key (h : m.Wf) (x : List UInt8) (hx : x.length = 8) : splice (recv m aw cw am cm) 10 (bcells x) = recv { m with key := x } aw cw am cm := by
  have hk := h.key
  clear h
  obtain ⟨kind, n, tx, reg, members, writes, missing, key, item⟩ := m
  simp only at hk
  obtain ⟨b0, b1, b2, b3, b4, b5, b6, b7, rfl⟩ := list8 key hk
  obtain ⟨c0, c1, c2, c3, c4, c5, c6, c7, rfl⟩ := list8 x hx
  rfl
theorem recv_item (h : m.Wf) (x : PItem) (hx : wfItem x) : splice (recv m aw cw am cm) 18 (itemv x) = recv { m with item := x } aw cw am cm := by
  have hk := h.key
  have hi := h.item
  clear h
  obtain ⟨kind, n, tx, reg, members, writes, missing, key, ⟨e, t, e1, e2, e3, u⟩⟩ := m
  obtain ⟨e', t', e1', e2', e3', u'⟩ := x
  simp only at hk
  obtain ⟨b0, b1, b2, b3, b4, b5, b6, b7, rfl⟩ := list8 key hk
  obtain ⟨c0, c1, c2, c3, c4, c5, c6, c7, rfl⟩ := list8 u hi.2.2.2.2
  obtain ⟨d0, d1, d2, d3, d4, d5, d6, d7, rfl⟩ := list8 u' hx.2.2.2.2
  rfl
end
/-- Sets in an array of its own. -/
structure UOwn (w0 w : World) (l : List Nat) (al : Option Addr) (capl : Nat) : Prop where
  own : Owns w 47 1 al l.length capl (ucells l)
  new : ∀ b, At al b → w0.heap.size ≤ b
/-- What reading a field makes of a record. -/
def RGetPost (w : World) (b g f : Nat) (m : PRec) (s : PR) (a : Option Addr) (c : Nat) (aw : Option Addr) (cw : Nat) (am : Option Addr) (cm : Nat) (e : Ending) (w' : World) : Prop :=
  e = .returned (.tuple #[]) ∧ Rdr w' g (rfGet f (m, s)).2 a c ∧ Kept (fun k => k = b ∨ k = g) w w' ∧ ∃ aw' cw' am' cm', Blk w' b 53 (recv (rfGet f (m, s)).1 aw' cw' am' cm') ∧
    (f ≠ 4 → aw' = aw ∧ cw' = cw) ∧ (f = 4 → WOwn w w' g (rfGet f (m, s)).1.writes aw' cw') ∧ (f ≠ 5 → am' = am ∧ cm' = cm) ∧ (f = 5 → UOwn w w' (rfGet f (m, s)).1.missing am' cm')
section
variable {w w' : World} {b g c cw cm : Nat} {m : PRec} {s : PR} {aw am a : Option Addr}
set_option maxRecDepth 100000 in
set_option maxHeartbeats 400000 in
theorem rget_n (hR : Rdr w g s a c) (hb : Blk w b 53 (recv m aw cw am cm)) (_hw : m.Wf) (hbg : b ≠ g) (hba : ∀ q, At a q → q ≠ b) :
    Calls Tryz.prog 72 #[.pointer (some ⟨b, 0, none⟩), .pointer (some ⟨g, 0, none⟩), .int .i64 0] w (RGetPost w b g 0 m s a c aw cw am cm) := by
  obtain ⟨y, t, e1⟩ : ∃ y t, s.num maxC = (y, t) := ⟨_, _, rfl⟩
  have HP := Lib.hid (show ∀ e w', (e = .returned (.tuple #[]) ∧ Rdr w' g t a c ∧ Kept (fun k => k = b ∨ k = g) w w' ∧ Blk w' b 53 (recv { m with n := y } aw cw am cm)) → RGetPost w b g 0 m s a c aw cw am cm e w' from fun e w' ⟨h1, h2, h3, h4⟩ => by
    have hq : rfGet 0 (m, s) = ({ m with n := y }, t) := by
      show (({ m with n := (s.num maxC).1 } : PRec), (s.num maxC).2) = _
      rw [e1]
    unfold RGetPost
    rw [hq]
    exact ⟨h1, h2, h3, aw, cw, am, cm, h4, fun _ => ⟨rfl, rfl⟩, (fun h => absurd h (by decide)), fun _ => ⟨rfl, rfl⟩, (fun h => absurd h (by decide))⟩)
  have n1 : ¬ b = g := hbg
  have HC := Lib.hid (rnum_eq (most := 2147483647) e1 (by decide) hR)
  have hy : y ≤ 2147483647 := by have := PR.num_le s maxC; rw [e1] at this; exact this
  have hy' : (y : Int) ≤ 2147483647 := by omega
  have hset := recv_n m aw cw am cm y
  have hcell : (recv m aw cw am cm)[1]? = some (.int .u32 m.n) := rfl
  clear e1 hR
  go_enter Tryz.func72, Tryz.ntmps72
  go_wp2_with (go_at_call 106; refine HC.out.mono ?_; rintro _ w2 ⟨rfl, k2, r2⟩; have b2 := hb.kept k2 n1; have c2 := (b2.cell 1).trans hcell; have f2 := b2.frozen 1)
  go_end0
  have b3 := b2.set 1 (.int .u32 (y : Nat))
  rw [hset] at b3
  exact HP.out _ _ ⟨rfl, r2.setOther hbg hba _ _, kept_bg k2 ((Kept.refl (· = b) _).setCell (fun _ => rfl) _), b3⟩

set_option maxRecDepth 100000 in
set_option maxHeartbeats 400000 in
theorem rget_tx (hR : Rdr w g s a c) (hb : Blk w b 53 (recv m aw cw am cm)) (hw : m.Wf) (hbg : b ≠ g) (hba : ∀ q, At a q → q ≠ b) :
    Calls Tryz.prog 72 #[.pointer (some ⟨b, 0, none⟩), .pointer (some ⟨g, 0, none⟩), .int .i64 1] w (RGetPost w b g 1 m s a c aw cw am cm) := by
  obtain ⟨y, t, e1⟩ : ∃ y t, txC.get s = (y, t) := ⟨_, _, rfl⟩
  have HP := Lib.hid (show ∀ e w', (e = .returned (.tuple #[]) ∧ Rdr w' g t a c ∧ Kept (fun k => k = b ∨ k = g) w w' ∧ Blk w' b 53 (recv { m with tx := y } aw cw am cm)) → RGetPost w b g 1 m s a c aw cw am cm e w' from fun e w' ⟨h1, h2, h3, h4⟩ => by
    have hq : rfGet 1 (m, s) = ({ m with tx := y }, t) := by
      show (({ m with tx := (txC.get s).1 } : PRec), (txC.get s).2) = _
      rw [e1]
    unfold RGetPost
    rw [hq]
    exact ⟨h1, h2, h3, aw, cw, am, cm, h4, fun _ => ⟨rfl, rfl⟩, (fun h => absurd h (by decide)), fun _ => ⟨rfl, rfl⟩, (fun h => absurd h (by decide))⟩)
  have n1 : ¬ b = g := hbg
  have HC := Lib.hid (getTx_eq e1 hR)
  have hone := txv_one y
  have hxl : (txv y).length = 3 := rfl
  have hsp := recv_tx m aw cw am cm y
  have hml : 2 + 3 ≤ (recv m aw cw am cm).length := by rw [recv_length hw]; decide
  clear e1 hR
  go_enter Tryz.func72, Tryz.ntmps72
  go_wp2_with (first
    | (go_at_call 107; refine HC.out.mono ?_; rintro _ w2 ⟨rfl, k2, r2⟩; have b2 := hb.kept k2 n1)
    | (with_reducible refine wpList_st rfl 24 _ _ rfl 3 Tryz.sizeOf24 b 2 rfl (txv y) rfl hxl _ _ b2 hml hone ?_; rw [hsp]))
  go_end0
  have b3 := b2.setRow (splice (recv m aw cw am cm) 2 (txv y))
  rw [hsp] at b3
  exact HP.out _ _ ⟨rfl, r2.setRowOther hbg hba _, kept_bg k2 ((Kept.refl (· = b) _).setRow (fun _ => rfl) _), b3⟩

set_option maxRecDepth 100000 in
set_option maxHeartbeats 400000 in
theorem rget_reg (hR : Rdr w g s a c) (hb : Blk w b 53 (recv m aw cw am cm)) (hw : m.Wf) (hbg : b ≠ g) (hba : ∀ q, At a q → q ≠ b) :
    Calls Tryz.prog 72 #[.pointer (some ⟨b, 0, none⟩), .pointer (some ⟨g, 0, none⟩), .int .i64 2] w (RGetPost w b g 2 m s a c aw cw am cm) := by
  obtain ⟨y, t, e1⟩ : ∃ y t, regC.get s = (y, t) := ⟨_, _, rfl⟩
  have HP := Lib.hid (show ∀ e w', (e = .returned (.tuple #[]) ∧ Rdr w' g t a c ∧ Kept (fun k => k = b ∨ k = g) w w' ∧ Blk w' b 53 (recv { m with reg := y } aw cw am cm)) → RGetPost w b g 2 m s a c aw cw am cm e w' from fun e w' ⟨h1, h2, h3, h4⟩ => by
    have hq : rfGet 2 (m, s) = ({ m with reg := y }, t) := by
      show (({ m with reg := (regC.get s).1 } : PRec), (regC.get s).2) = _
      rw [e1]
    unfold RGetPost
    rw [hq]
    exact ⟨h1, h2, h3, aw, cw, am, cm, h4, fun _ => ⟨rfl, rfl⟩, (fun h => absurd h (by decide)), fun _ => ⟨rfl, rfl⟩, (fun h => absurd h (by decide))⟩)
  have n1 : ¬ b = g := hbg
  have HC := Lib.hid (getReg_eq e1 hR)
  have hone := regv_one y
  have hxl : (regv y).length = 2 := rfl
  have hsp := recv_reg m aw cw am cm y
  have hml : 5 + 2 ≤ (recv m aw cw am cm).length := by rw [recv_length hw]; decide
  clear e1 hR
  go_enter Tryz.func72, Tryz.ntmps72
  go_wp2_with (first
    | (go_at_call 108; refine HC.out.mono ?_; rintro _ w2 ⟨rfl, k2, r2⟩; have b2 := hb.kept k2 n1)
    | (with_reducible refine wpList_st rfl 26 _ _ rfl 2 Tryz.sizeOf26 b 5 rfl (regv y) rfl hxl _ _ b2 hml hone ?_; rw [hsp]))
  go_end0
  have b3 := b2.setRow (splice (recv m aw cw am cm) 5 (regv y))
  rw [hsp] at b3
  exact HP.out _ _ ⟨rfl, r2.setRowOther hbg hba _, kept_bg k2 ((Kept.refl (· = b) _).setRow (fun _ => rfl) _), b3⟩

set_option maxRecDepth 100000 in
set_option maxHeartbeats 400000 in
theorem rget_members (hR : Rdr w g s a c) (hb : Blk w b 53 (recv m aw cw am cm)) (_hw : m.Wf) (hbg : b ≠ g) (hba : ∀ q, At a q → q ≠ b) :
    Calls Tryz.prog 72 #[.pointer (some ⟨b, 0, none⟩), .pointer (some ⟨g, 0, none⟩), .int .i64 3] w (RGetPost w b g 3 m s a c aw cw am cm) := by
  obtain ⟨y, t, e1⟩ : ∃ y t, s.num 255 = (y, t) := ⟨_, _, rfl⟩
  have HP := Lib.hid (show ∀ e w', (e = .returned (.tuple #[]) ∧ Rdr w' g t a c ∧ Kept (fun k => k = b ∨ k = g) w w' ∧ Blk w' b 53 (recv { m with members := y } aw cw am cm)) → RGetPost w b g 3 m s a c aw cw am cm e w' from fun e w' ⟨h1, h2, h3, h4⟩ => by
    have hq : rfGet 3 (m, s) = ({ m with members := y }, t) := by
      show (({ m with members := (s.num 255).1 } : PRec), (s.num 255).2) = _
      rw [e1]
    unfold RGetPost
    rw [hq]
    exact ⟨h1, h2, h3, aw, cw, am, cm, h4, fun _ => ⟨rfl, rfl⟩, (fun h => absurd h (by decide)), fun _ => ⟨rfl, rfl⟩, (fun h => absurd h (by decide))⟩)
  have n1 : ¬ b = g := hbg
  have HC := Lib.hid (rnum_eq (most := 255) e1 (by decide) hR)
  have hy : y ≤ 255 := by have := PR.num_le s 255; rw [e1] at this; exact this
  have hy' : (y : Int) ≤ 255 := by omega
  have hset := recv_members m aw cw am cm y
  have hcell : (recv m aw cw am cm)[7]? = some (.int .u64 m.members) := rfl
  clear e1 hR
  go_enter Tryz.func72, Tryz.ntmps72
  go_wp2_with (go_at_call 106; refine HC.out.mono ?_; rintro _ w2 ⟨rfl, k2, r2⟩; have b2 := hb.kept k2 n1; have c2 := (b2.cell 7).trans hcell; have f2 := b2.frozen 7)
  go_end0
  have b3 := b2.set 7 (.int .u64 (y : Nat))
  rw [hset] at b3
  exact HP.out _ _ ⟨rfl, r2.setOther hbg hba _ _, kept_bg k2 ((Kept.refl (· = b) _).setCell (fun _ => rfl) _), b3⟩

set_option maxRecDepth 100000 in
set_option maxHeartbeats 400000 in
theorem rget_key (hR : Rdr w g s a c) (hb : Blk w b 53 (recv m aw cw am cm)) (hw : m.Wf) (hbg : b ≠ g) (hba : ∀ q, At a q → q ≠ b) :
    Calls Tryz.prog 72 #[.pointer (some ⟨b, 0, none⟩), .pointer (some ⟨g, 0, none⟩), .int .i64 6] w (RGetPost w b g 6 m s a c aw cw am cm) := by
  obtain ⟨y, t, e1⟩ : ∃ y t, s.key = (y, t) := ⟨_, _, rfl⟩
  have HP := Lib.hid (show ∀ e w', (e = .returned (.tuple #[]) ∧ Rdr w' g t a c ∧ Kept (fun k => k = b ∨ k = g) w w' ∧ Blk w' b 53 (recv { m with key := y } aw cw am cm)) → RGetPost w b g 6 m s a c aw cw am cm e w' from fun e w' ⟨h1, h2, h3, h4⟩ => by
    have hq : rfGet 6 (m, s) = ({ m with key := y }, t) := by
      show (({ m with key := (s.key).1 } : PRec), (s.key).2) = _
      rw [e1]
    unfold RGetPost
    rw [hq]
    exact ⟨h1, h2, h3, aw, cw, am, cm, h4, fun _ => ⟨rfl, rfl⟩, (fun h => absurd h (by decide)), fun _ => ⟨rfl, rfl⟩, (fun h => absurd h (by decide))⟩)
  have n1 : ¬ b = g := hbg
  have HC := Lib.hid (rkey_eq e1 hR)
  have hyl : y.length = 8 := by have := PR.key_length s; rw [e1] at this; exact this
  have hone := bcells_one y
  have hxl : (bcells y).length = 8 := by rw [bcells_length, hyl]
  have hsp := recv_key m aw cw am cm hw y hyl
  have hml : 10 + 8 ≤ (recv m aw cw am cm).length := by rw [recv_length hw]; decide
  clear e1 hR
  go_enter Tryz.func72, Tryz.ntmps72
  go_wp2_with (first
    | (go_at_call 110; refine HC.out.mono ?_; rintro _ w2 ⟨rfl, k2, r2⟩; have b2 := hb.kept k2 n1)
    | (with_reducible refine wpList_st rfl 28 _ _ rfl 8 Tryz.sizeOf28 b 10 rfl (bcells y) rfl hxl _ _ b2 hml hone ?_; rw [hsp]))
  go_end0
  have b3 := b2.setRow (splice (recv m aw cw am cm) 10 (bcells y))
  rw [hsp] at b3
  exact HP.out _ _ ⟨rfl, r2.setRowOther hbg hba _, kept_bg k2 ((Kept.refl (· = b) _).setRow (fun _ => rfl) _), b3⟩

set_option maxRecDepth 100000 in
set_option maxHeartbeats 400000 in
theorem rget_item (hR : Rdr w g s a c) (hb : Blk w b 53 (recv m aw cw am cm)) (hw : m.Wf) (hbg : b ≠ g) (hba : ∀ q, At a q → q ≠ b) :
    Calls Tryz.prog 72 #[.pointer (some ⟨b, 0, none⟩), .pointer (some ⟨g, 0, none⟩), .int .i64 7] w (RGetPost w b g 7 m s a c aw cw am cm) := by
  obtain ⟨y, t, e1⟩ : ∃ y t, itemC.get s = (y, t) := ⟨_, _, rfl⟩
  have HP := Lib.hid (show ∀ e w', (e = .returned (.tuple #[]) ∧ Rdr w' g t a c ∧ Kept (fun k => k = b ∨ k = g) w w' ∧ Blk w' b 53 (recv { m with item := y } aw cw am cm)) → RGetPost w b g 7 m s a c aw cw am cm e w' from fun e w' ⟨h1, h2, h3, h4⟩ => by
    have hq : rfGet 7 (m, s) = ({ m with item := y }, t) := by
      rw [rfGet_item]
      rw [e1]
    unfold RGetPost
    rw [hq]
    exact ⟨h1, h2, h3, aw, cw, am, cm, h4, fun _ => ⟨rfl, rfl⟩, (fun h => absurd h (by decide)), fun _ => ⟨rfl, rfl⟩, (fun h => absurd h (by decide))⟩)
  have n1 : ¬ b = g := hbg
  have HC := Lib.hid (getItem_eq e1 hR)
  have hyw : wfItem y := by have := (itemC_wf s).1; rw [e1] at this; exact this
  have hone := itemv_one y
  have hxl : (itemv y).length = 13 := itemv_length hyw
  have hsp := recv_item m aw cw am cm hw y hyw
  have hml : 18 + 13 ≤ (recv m aw cw am cm).length := by rw [recv_length hw]; decide
  clear e1 hR
  go_enter Tryz.func72, Tryz.ntmps72
  go_wp2_with (first
    | (go_at_call 111; refine HC.out.mono ?_; rintro _ w2 ⟨rfl, k2, r2⟩; have b2 := hb.kept k2 n1)
    | (with_reducible refine wpList_st rfl 32 _ _ rfl 13 Tryz.sizeOf32 b 18 rfl (itemv y) rfl hxl _ _ b2 hml hone ?_; rw [hsp]))
  go_end0
  have b3 := b2.setRow (splice (recv m aw cw am cm) 18 (itemv y))
  rw [hsp] at b3
  exact HP.out _ _ ⟨rfl, r2.setRowOther hbg hba _, kept_bg k2 ((Kept.refl (· = b) _).setRow (fun _ => rfl) _), b3⟩

set_option maxRecDepth 100000 in
set_option maxHeartbeats 400000 in
theorem rget_writes (hR : Rdr w g s a c) (hb : Blk w b 53 (recv m aw cw am cm)) (hbg : b ≠ g) (hba : ∀ q, At a q → q ≠ b) :
    Calls Tryz.prog 72 #[.pointer (some ⟨b, 0, none⟩), .pointer (some ⟨g, 0, none⟩), .int .i64 4] w (RGetPost w b g 4 m s a c aw cw am cm) := by
  have HC := Lib.hid (getWrites_calls hR)
  have n1 : ¬ b = g := hbg
  have HSET := Lib.hid (fun a' c' => recv_writes m aw cw am cm (writesC.get s).1 a' c')
  have hcell : (recv m aw cw am cm)[8]? = some (.slice aw m.writes.length cw) := rfl
  have hblt := hb.lt
  have HP := Lib.hid (show ∀ e w', (∃ aw' cw', e = .returned (.tuple #[]) ∧ Rdr w' g (writesC.get s).2 a c ∧ Kept (fun k => k = b ∨ k = g) w w' ∧ Blk w' b 53 (recv { m with writes := (writesC.get s).1 } aw' cw' am cm) ∧ WOwn w w' g (writesC.get s).1 aw' cw') → RGetPost w b g 4 m s a c aw cw am cm e w' from fun e w' ⟨aw', cw', h1, h2, h3, h4, h5⟩ =>
    ⟨h1, h2, h3, aw', cw', am, cm, h4, fun h => absurd rfl h, fun _ => h5, fun _ => ⟨rfl, rfl⟩, (fun h => absurd h (by decide))⟩)
  clear hR
  go_enter Tryz.func72, Tryz.ntmps72
  go_wp2_with (go_at_call 109; refine HC.out.mono ?_; rintro _ w2 ⟨a2, cap2, rfl, o2, k2, r2⟩; have b2 := hb.kept k2 n1; have c2 := (b2.cell 8).trans hcell; have f2 := b2.frozen 8)
  go_end0
  have b3 := b2.set 8 (.slice a2 (writesC.get s).1.length cap2)
  rw [HSET.out] at b3
  exact HP.out _ _ ⟨a2, cap2, rfl, r2.setOther hbg hba _ _, kept_bg k2 ((Kept.refl (· = b) _).setCell (fun _ => rfl) _), b3, o2.own.kept ((Kept.refl (· = b) _).setCell (fun _ => rfl) _) (fun q hq e => by have := o2.new q hq; omega), o2.new⟩

theorem setC_eq {s t : PR} {y : Nat} (e : s.num 255 = (y, t)) : setC.get s = (y, t) := e
theorem ucells_snoc (l : List Nat) (x : Nat) : ucells (l ++ [x]) = ucells l ++ [.int .u64 x] := by simp [ucells]
def GmRel (w0 : World) (b g : Nat) (m : PRec) (s : PR) (a : Option Addr) (c : Nat) (aw : Option Addr) (cw : Nat) (n : Nat) (i : Value) (wr : World) : Prop :=
  ∃ (k : Nat) (am : Option Addr) (cm : Nat), k ≤ n ∧ i = .int .i64 k ∧ Rdr wr g (setC.getN k s).2 a c ∧ Blk wr b 53 (recv { m with missing := (setC.getN k s).1 } aw cw am cm) ∧ UOwn w0 wr (setC.getN k s).1 am cm ∧ Kept (fun k => k = b ∨ k = g) w0 wr
set_option maxRecDepth 100000 in
set_option maxHeartbeats 1000000 in
theorem rget_missing (hR : Rdr w g s a c) (hb : Blk w b 53 (recv m aw cw none 0)) (h0 : m.missing = []) (h16 : m.writes.length ≤ 16) (hbg : b ≠ g) (hba : ∀ q, At a q → q ≠ b) :
    Calls Tryz.prog 72 #[.pointer (some ⟨b, 0, none⟩), .pointer (some ⟨g, 0, none⟩), .int .i64 5] w (RGetPost w b g 5 m s a c aw cw none 0) := by
  obtain ⟨i0, hi0, hz0, hz1, hz2⟩ := info_parts Tryz.cinf_u64
  have n1 : ¬ b = g := hbg
  have hblt := hb.lt
  have hglt := hR.box.lt
  have hat := hR.lt
  have HP := Lib.hid (show ∀ e w', (∃ am' cm', e = .returned (.tuple #[]) ∧ Rdr w' g (setC.getN m.writes.length s).2 a c ∧ Kept (fun k => k = b ∨ k = g) w w' ∧ Blk w' b 53 (recv { m with missing := (setC.getN m.writes.length s).1 } aw cw am' cm') ∧ UOwn w w' (setC.getN m.writes.length s).1 am' cm') → RGetPost w b g 5 m s a c aw cw none 0 e w' from fun e w' ⟨am', cm', h1, h2, h3, h4, h5⟩ =>
    ⟨h1, h2, h3, aw, cw, am', cm', h4, fun _ => ⟨rfl, rfl⟩, (fun h => absurd h (by decide)), (fun h => absurd rfl h), fun _ => h5⟩)
  have c8 : w.cell? ⟨b, 8, none⟩ = some (.slice aw m.writes.length cw) := hb.cell 8
  have b0 : Blk w b 53 (recv { m with missing := (setC.getN 0 s).1 } aw cw none 0) := by
    have e : ({ m with missing := (setC.getN 0 s).1 } : PRec) = m := by
      obtain ⟨kind, n, tx, reg, members, writes, missing, key, item⟩ := m
      simp only at h0
      subst h0; rfl
    rw [e]; exact hb
  go_enter Tryz.func72, Tryz.ntmps72
  go_wp2_with fail
  go_loopw [6, 56] (fun _ i wr => GmRel w b g m s a c aw cw m.writes.length i wr) (fun _ i _ => m.writes.length - (intOf i).toNat)
  case atStart => exact ⟨0, none, 0, by omega, rfl, hR, b0, ⟨Owns.nil _ _ _, fun q ⟨_, _, e, _⟩ => nomatch e⟩, Kept.refl _ _⟩
  case round =>
    clear b0 hb hR c8 h0
    obtain ⟨k, am, cm, hk, rfl, hR, hb, hu, hkk⟩ := hrel
    by_cases hlt : k < m.writes.length
    · have i1 : (k : Int) < m.writes.length := by omega
      have i0' : (0 : Int) ≤ k := by omega
      obtain ⟨y, t, e1⟩ : ∃ y t, (setC.getN k s).2.num 255 = (y, t) := ⟨_, _, rfl⟩
      have hstep : setC.getN (k + 1) s = ((setC.getN k s).1 ++ [y], t) := by rw [getN_snoc, setC_eq e1]
      have hlen : (setC.getN k s).1.length = k := Codec.getN_length _ _ _
      have HC := Lib.hid (rnum_eq (most := 255) e1 (by decide) hR)
      have hown := hu.own
      rw [hlen] at hown
      have hnew := hu.new
      have hall := set_all k s
      have HST := Lib.hid hstep
      have HLEN := Lib.hid hlen
      have HSZ := hkk.size
      generalize hL : (setC.getN k s).1 = L at *
      have hcell : (recv { m with missing := L } aw cw am cm)[9]? = some (.slice am k cm) := by rw [← HLEN.out]; rfl
      have hmg : ∀ q, At am q → q ≠ g := fun q hq e => by have := hnew q hq; omega
      have hmb : ∀ q, At am q → q ≠ b := fun q hq e => by have := hnew q hq; omega
      have hkm : k + 1 ≤ 16 := by omega
      have HLT := Lib.hid hlt
      have HHAT := Lib.hid hat
      clear e1 hstep hlen hu hR hall hL hk hlt
      go_wp2_with (first
        | (go_at_call 106; refine HC.out.mono ?_; rintro _ w2 ⟨rfl, k2, r2⟩; have b2 := hb.kept k2 n1; have c2 := (b2.cell 9).trans hcell; have o2 := (hown.kept k2 hmg).keptNo ((Kept.refl No w2).alloc (.cells #[.int .u64 (y : Nat)] 47)); have y2 := Rd.ofBlk' (Blk.new w2 47 [.int .u64 (y : Nat)]); have b2a := b2.alloc (.cells #[.int .u64 (y : Nat)] 47); have r2a := r2.keptNo ((Kept.refl No w2).alloc (.cells #[.int .u64 (y : Nat)] 47)))
        | (at_builtin; go_must (refine wpList_onto rfl (.tmp 64) (.tmp 66) 48 rfl 47 i0 _ 1 8 Tryz.cu_u64s hi0 hz0 hz1 hz2 rfl (by decide) am k cm (ucells L) rfl o2 (some ⟨w2.heap.size, 0, none⟩) 1 1 [.int .u64 (y : Nat)] rfl (fun h => nomatch h) rfl y2 (fun u hu => by rw [List.mem_singleton.1 hu]; rfl) (by unfold maxLen; omega) (by omega) ?_; intro a3 cap3 w3 hap3; have b3 := b2a.kept hap3.kept (fun hq => hmb b hq rfl); have c3 := (b3.cell 9).trans hcell; have f3 := b3.frozen 9)))
      have b4 := b3.set 9 (.slice a3 (k + 1) cap3)
      have hset : (recv { m with missing := L } aw cw am cm).set 9 (.slice a3 (k + 1) cap3) = recv { m with missing := L ++ [y] } aw cw a3 cap3 := by
        have := recv_missing { m with missing := L } aw cw am cm (L ++ [y]) a3 cap3
        rw [List.length_append, HLEN.out] at this
        exact this
      rw [hset] at b4
      have hsz2 : w.heap.size ≤ w2.heap.size := Nat.le_trans HSZ k2.size
      have hnew3 : ∀ q, At a3 q → w.heap.size ≤ q := fun q hq => (hap3.at_ q hq).elim (hnew q) fun h => by rw [World.size_alloc] at h; omega
      have r3 := r2a.kept hap3.kept (fun hq => hmg g hq rfl) (fun q hq hq2 => by have := HHAT.out q hq; have := hnew q hq2; omega)
      have r4 := r3.setOther hbg hba 9 (.slice a3 (k + 1) cap3)
      have o4 := hap3.own.kept ((Kept.refl (· = b) _).setCell (a := ⟨b, 9, none⟩) (fun _ => rfl) (.slice a3 (k + 1) cap3)) (fun q hq e => by have := hnew3 q hq; omega)
      have kk := (((hkk.trans k2 fun q _ h => .inr h).alloc (.cells #[.int .u64 (y : Nat)] 47)).trans hap3.kept (fun q hq h => absurd (hnew q h) (by omega))).setCell (a := ⟨b, 9, none⟩) (fun _ => .inl rfl) (.slice a3 (k + 1) cap3)
      refine ⟨⟨k + 1, a3, cap3, HLT.out, by go_num, ?_, ?_, ⟨?_, ?_⟩, kk⟩, by have := HLT.out; simp [intOf]; omega⟩
      · rw [HST.out]; exact r4
      · rw [HST.out]; exact b4
      · rw [HST.out, List.length_append, HLEN.out, ucells_snoc]; exact o4
      · exact hnew3
    · obtain rfl : m.writes.length = k := by omega
      go_wp2
      go_end0
      exact HP.out _ _ ⟨am, cm, rfl, hR, hkk, hb, hu⟩

theorem rgetf_calls (hR : Rdr w g s a c) (hb : Blk w b 53 (recv m aw cw am cm)) (hw : m.Wf) (h16 : m.writes.length ≤ 16) (hbg : b ≠ g) (hba : ∀ q, At a q → q ≠ b) (f : Nat) (hf : f < 8) (h5 : f = 5 → m.missing = [] ∧ am = none ∧ cm = 0) :
    Calls Tryz.prog 72 #[.pointer (some ⟨b, 0, none⟩), .pointer (some ⟨g, 0, none⟩), .int .i64 f] w (RGetPost w b g f m s a c aw cw am cm) := by
  have hc : f = 0 ∨ f = 1 ∨ f = 2 ∨ f = 3 ∨ f = 4 ∨ f = 5 ∨ f = 6 ∨ f = 7 := by omega
  rcases hc with rfl | rfl | rfl | rfl | rfl | rfl | rfl | rfl
  · exact rget_n hR hb hw hbg hba
  · exact rget_tx hR hb hw hbg hba
  · exact rget_reg hR hb hw hbg hba
  · exact rget_members hR hb hw hbg hba
  · exact rget_writes hR hb hbg hba
  · obtain ⟨h0, rfl, rfl⟩ := h5 rfl
    exact rget_missing hR hb h0 h16 hbg hba
  · exact rget_key hR hb hw hbg hba
  · exact rget_item hR hb hw hbg hba
end
end Go.Proofs.YtjfmidcaekhhgaaGreatDoor
