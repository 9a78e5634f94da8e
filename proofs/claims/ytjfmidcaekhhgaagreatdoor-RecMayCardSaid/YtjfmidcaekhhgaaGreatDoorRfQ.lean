/- The document's kept of a record: a walk. Printed by gen_rfq.py. -/
import Derived.Test.YtjfmidcaekhhgaaGreatDoorRfI
import Derived.Test.YtjfmidcaekhhgaaGreatDoorRcR
namespace Go.Proofs.YtjfmidcaekhhgaaGreatDoor
open Go.RowKit Go.PM

/-- A record with its kind's fields alone. -/
def keptR (m : PRec) : PRec :=
  if m.kind = 1 then { zeroRec 1 with n := m.n }
  else if m.kind = 2 then { zeroRec 2 with tx := m.tx, reg := m.reg, writes := m.writes }
  else if m.kind = 3 ∨ m.kind = 4 ∨ m.kind = 6 then { zeroRec m.kind with tx := m.tx }
  else if m.kind = 5 then { zeroRec 5 with tx := m.tx, members := m.members, writes := m.writes, missing := m.missing }
  else if m.kind = 7 then { zeroRec 7 with key := m.key, item := m.item }
  else zeroRec 0
def KrPost (w : World) (m : PRec) (aw am : Option Addr) (e : Ending) (w' : World) : Prop :=
  ∃ aw' cw' am' cm', e = .returned (.agg (recv (keptR m) aw' cw' am' cm').toArray) ∧ (∀ wq, Rd wq aw (pwsv m.writes) → Rd wq aw' (pwsv (keptR m).writes)) ∧ (∀ wq, Rd wq am (ucells m.missing) → Rd wq am' (ucells (keptR m).missing)) ∧ Kept No w w'
theorem build_rrec0 (w : World) : (Instr.build 50 #[]).run Tryz.prog w = .ok (.agg (recv (zeroRec 0) none 0 none 0).toArray) w := by
  simp only [recv, zeroRec, txv, regv, noItem, noCfg, zeros8, itemv, cfgv, cfgc, bcells, List.map_cons, List.map_nil, List.cons_append, List.nil_append]
  go_simp
theorem build_rrec1 (m : PRec) (w : World) : (Instr.build 50 #[(0, .int .u8 1), (1, .int .u32 m.n)]).run Tryz.prog w = .ok (.agg (recv { zeroRec 1 with n := m.n } none 0 none 0).toArray) w := by
  simp only [recv, zeroRec, txv, regv, noItem, noCfg, zeros8, itemv, cfgv, cfgc, bcells, List.map_cons, List.map_nil, List.cons_append, List.nil_append]
  go_simp
theorem build_rrec2 (m : PRec) (aw : Option Addr) (cw : Nat) (w : World) : (Instr.build 50 #[(0, .int .u8 2), (2, .agg (txv m.tx).toArray), (3, .agg (regv m.reg).toArray), (5, .slice aw m.writes.length cw)]).run Tryz.prog w = .ok (.agg (recv { zeroRec 2 with tx := m.tx, reg := m.reg, writes := m.writes } aw cw none 0).toArray) w := by
  simp only [recv, zeroRec, txv, regv, noItem, noCfg, zeros8, itemv, cfgv, cfgc, bcells, List.map_cons, List.map_nil, List.cons_append, List.nil_append]
  go_simp
theorem build_rrec3 (k : Nat) (m : PRec) (w : World) : (Instr.build 50 #[(0, .int .u8 k), (2, .agg (txv m.tx).toArray)]).run Tryz.prog w = .ok (.agg (recv { zeroRec k with tx := m.tx } none 0 none 0).toArray) w := by
  simp only [recv, zeroRec, txv, regv, noItem, noCfg, zeros8, itemv, cfgv, cfgc, bcells, List.map_cons, List.map_nil, List.cons_append, List.nil_append]
  go_simp
theorem build_rrec5 (m : PRec) (aw : Option Addr) (cw : Nat) (am : Option Addr) (cm : Nat) (w : World) : (Instr.build 50 #[(0, .int .u8 5), (2, .agg (txv m.tx).toArray), (4, .int .u64 m.members), (5, .slice aw m.writes.length cw), (6, .slice am m.missing.length cm)]).run Tryz.prog w = .ok (.agg (recv { zeroRec 5 with tx := m.tx, members := m.members, writes := m.writes, missing := m.missing } aw cw am cm).toArray) w := by
  simp only [recv, zeroRec, txv, regv, noItem, noCfg, zeros8, itemv, cfgv, cfgc, bcells, List.map_cons, List.map_nil, List.cons_append, List.nil_append]
  go_simp
theorem build_rrec7 (m : PRec) (hm : m.Wf) (w : World) : (Instr.build 50 #[(0, .int .u8 7), (7, .agg (bcells m.key).toArray), (8, .agg (itemv m.item).toArray)]).run Tryz.prog w = .ok (.agg (recv { zeroRec 7 with key := m.key, item := m.item } none 0 none 0).toArray) w := by
  have hk := hm.key
  have hi := hm.item
  clear hm
  obtain ⟨kind, n, tx, reg, members, writes, missing, key, ⟨e, t, e1, e2, e3, u⟩⟩ := m
  simp only at hk
  obtain ⟨b0, b1, b2, b3, b4, b5, b6, b7, rfl⟩ := list8 key hk
  obtain ⟨c0, c1, c2, c3, c4, c5, c6, c7, rfl⟩ := list8 u hi.2.2.2.2
  simp only [recv, zeroRec, txv, regv, noItem, noCfg, zeros8, itemv, cfgv, cfgc, bcells, List.map_cons, List.map_nil, List.cons_append, List.nil_append]
  go_simp
section
variable {w : World}
set_option maxRecDepth 100000 in
set_option maxHeartbeats 1000000 in
theorem refKeptR_1 (m : PRec) (_hm : m.Wf) (hk : m.kind = 1) (aw : Option Addr) (cw : Nat) (am : Option Addr) (cm : Nat) :
    Calls Tryz.prog 65 #[.agg (recv m aw cw am cm).toArray] w (KrPost w m aw am) := by
  have B1 := (Blk.new w 50 (recv m aw cw am cm)).alloc (.cells #[.int .u8 0, .int .u32 0, .int .u8 0, .int .u32 0, .int .u32 0, .int .u32 0, .int .u32 0, .int .u64 0, .slice none 0 0, .slice none 0 0, .int .u8 0, .int .u8 0, .int .u8 0, .int .u8 0, .int .u8 0, .int .u8 0, .int .u8 0, .int .u8 0, .int .u32 0, .string ⟨#[]⟩, .int .u32 0, .int .u8 0, .int .u8 0, .int .u8 0, .int .u8 0, .int .u8 0, .int .u8 0, .int .u8 0, .int .u8 0, .int .u8 0, .int .u8 0] 50)
  have B2 := Blk.new' (w := w.alloc (.cells (recv m aw cw am cm).toArray 50)) (g := w.heap.size + 1) (by rw [World.size_alloc]) 50 [.int .u8 0, .int .u32 0, .int .u8 0, .int .u32 0, .int .u32 0, .int .u32 0, .int .u32 0, .int .u64 0, .slice none 0 0, .slice none 0 0, .int .u8 0, .int .u8 0, .int .u8 0, .int .u8 0, .int .u8 0, .int .u8 0, .int .u8 0, .int .u8 0, .int .u32 0, .string ⟨#[]⟩, .int .u32 0, .int .u8 0, .int .u8 0, .int .u8 0, .int .u8 0, .int .u8 0, .int .u8 0, .int .u8 0, .int .u8 0, .int .u8 0, .int .u8 0]
  have K2 := ((Kept.refl No w).alloc (.cells (recv m aw cw am cm).toArray 50)).alloc (.cells #[.int .u8 0, .int .u32 0, .int .u8 0, .int .u32 0, .int .u32 0, .int .u32 0, .int .u32 0, .int .u64 0, .slice none 0 0, .slice none 0 0, .int .u8 0, .int .u8 0, .int .u8 0, .int .u8 0, .int .u8 0, .int .u8 0, .int .u8 0, .int .u8 0, .int .u32 0, .string ⟨#[]⟩, .int .u32 0, .int .u8 0, .int .u8 0, .int .u8 0, .int .u8 0, .int .u8 0, .int .u8 0, .int .u8 0, .int .u8 0, .int .u8 0, .int .u8 0] 50)
  have c0 := (B1.cell 0).trans (show (recv m aw cw am cm)[0]? = some (.int .u8 m.kind) from rfl)
  have hR : keptR m = { zeroRec 1 with n := m.n } := by unfold keptR; rw [if_pos hk]
  have HP := Lib.hid (show ∀ w', Kept No w w' → KrPost w m aw am (.returned (.agg (recv ({ zeroRec 1 with n := m.n }) none 0 none 0).toArray)) w' from fun w' k => by
    refine ⟨_, _, _, _, by rw [hR], fun wq h => ?_, fun wq h => ?_, k⟩
    · rw [hR]; exact Rd.nil _ _
    · rw [hR]; exact Rd.nil _ _)
  have c1 := (B1.cell 1).trans (show (recv m aw cw am cm)[1]? = some (.int .u32 m.n) from rfl)
  have hbk := fun w => build_rrec1 m w
  have hxl : (recv ({ zeroRec 1 with n := m.n }) none 0 none 0).length = 31 := by simp [recv, zeroRec, txv, regv, zeros8, noItem, noCfg, itemv, cfgv, cfgc]
  have hone := recv_one ({ zeroRec 1 with n := m.n }) none 0 none 0
  rw [hk] at c0
  clear hR hk
  have hsp : splice [.int .u8 0, .int .u32 0, .int .u8 0, .int .u32 0, .int .u32 0, .int .u32 0, .int .u32 0, .int .u64 0, .slice none 0 0, .slice none 0 0, .int .u8 0, .int .u8 0, .int .u8 0, .int .u8 0, .int .u8 0, .int .u8 0, .int .u8 0, .int .u8 0, .int .u32 0, .string ⟨#[]⟩, .int .u32 0, .int .u8 0, .int .u8 0, .int .u8 0, .int .u8 0, .int .u8 0, .int .u8 0, .int .u8 0, .int .u8 0, .int .u8 0, .int .u8 0] 0 (recv ({ zeroRec 1 with n := m.n }) none 0 none 0) = recv ({ zeroRec 1 with n := m.n }) none 0 none 0 := splice_all _ _ hxl
  have hfit : 0 + 31 ≤ ([.int .u8 0, .int .u32 0, .int .u8 0, .int .u32 0, .int .u32 0, .int .u32 0, .int .u32 0, .int .u64 0, .slice none 0 0, .slice none 0 0, .int .u8 0, .int .u8 0, .int .u8 0, .int .u8 0, .int .u8 0, .int .u8 0, .int .u8 0, .int .u8 0, .int .u32 0, .string ⟨#[]⟩, .int .u32 0, .int .u8 0, .int .u8 0, .int .u8 0, .int .u8 0, .int .u8 0, .int .u8 0, .int .u8 0, .int .u8 0, .int .u8 0, .int .u8 0] : List Value).length := by decide
  have hb4 := (B2.setRow (recv ({ zeroRec 1 with n := m.n }) none 0 none 0)).seg0
  generalize recv ({ zeroRec 1 with n := m.n }) none 0 none 0 = R at *
  go_enter Tryz.func65, Tryz.ntmps65
  go_wp2_with (first
    | (with_reducible refine Go.PM.wpList_build rfl 50 _ rfl #[(0, .int .u8 1), (1, .int .u32 m.n)] (by first | rfl | with_unfolding_all rfl | (simp only; first | rfl | with_unfolding_all rfl)) (.agg R.toArray) (hbk _) ?_)
    | (with_reducible refine wpList_st rfl 50 _ _ rfl 31 Tryz.sizeOf50 (w.heap.size + 1) 0 rfl R rfl hxl _ _ B2 hfit hone ?_; rw [hsp]))
  refine bodyPost_ret (v := .agg R.toArray) (by rw [results_row _ Tryz.results65 _ Tryz.isAgg50 31 Tryz.sizeOf50 (w.heap.size + 1) rfl _ hxl hb4]) rfl ?_
  exact HP.out _ (K2.setRow (fun h => absurd h (by omega)) _)
set_option maxRecDepth 100000 in
set_option maxHeartbeats 1000000 in
theorem refKeptR_2 (m : PRec) (_hm : m.Wf) (hk : m.kind = 2) (aw : Option Addr) (cw : Nat) (am : Option Addr) (cm : Nat) :
    Calls Tryz.prog 65 #[.agg (recv m aw cw am cm).toArray] w (KrPost w m aw am) := by
  have B1 := (Blk.new w 50 (recv m aw cw am cm)).alloc (.cells #[.int .u8 0, .int .u32 0, .int .u8 0, .int .u32 0, .int .u32 0, .int .u32 0, .int .u32 0, .int .u64 0, .slice none 0 0, .slice none 0 0, .int .u8 0, .int .u8 0, .int .u8 0, .int .u8 0, .int .u8 0, .int .u8 0, .int .u8 0, .int .u8 0, .int .u32 0, .string ⟨#[]⟩, .int .u32 0, .int .u8 0, .int .u8 0, .int .u8 0, .int .u8 0, .int .u8 0, .int .u8 0, .int .u8 0, .int .u8 0, .int .u8 0, .int .u8 0] 50)
  have B2 := Blk.new' (w := w.alloc (.cells (recv m aw cw am cm).toArray 50)) (g := w.heap.size + 1) (by rw [World.size_alloc]) 50 [.int .u8 0, .int .u32 0, .int .u8 0, .int .u32 0, .int .u32 0, .int .u32 0, .int .u32 0, .int .u64 0, .slice none 0 0, .slice none 0 0, .int .u8 0, .int .u8 0, .int .u8 0, .int .u8 0, .int .u8 0, .int .u8 0, .int .u8 0, .int .u8 0, .int .u32 0, .string ⟨#[]⟩, .int .u32 0, .int .u8 0, .int .u8 0, .int .u8 0, .int .u8 0, .int .u8 0, .int .u8 0, .int .u8 0, .int .u8 0, .int .u8 0, .int .u8 0]
  have K2 := ((Kept.refl No w).alloc (.cells (recv m aw cw am cm).toArray 50)).alloc (.cells #[.int .u8 0, .int .u32 0, .int .u8 0, .int .u32 0, .int .u32 0, .int .u32 0, .int .u32 0, .int .u64 0, .slice none 0 0, .slice none 0 0, .int .u8 0, .int .u8 0, .int .u8 0, .int .u8 0, .int .u8 0, .int .u8 0, .int .u8 0, .int .u8 0, .int .u32 0, .string ⟨#[]⟩, .int .u32 0, .int .u8 0, .int .u8 0, .int .u8 0, .int .u8 0, .int .u8 0, .int .u8 0, .int .u8 0, .int .u8 0, .int .u8 0, .int .u8 0] 50)
  have c0 := (B1.cell 0).trans (show (recv m aw cw am cm)[0]? = some (.int .u8 m.kind) from rfl)
  have hR : keptR m = { zeroRec 2 with tx := m.tx, reg := m.reg, writes := m.writes } := by unfold keptR; rw [if_neg (by omega), if_pos hk]
  have HP := Lib.hid (show ∀ w', Kept No w w' → KrPost w m aw am (.returned (.agg (recv ({ zeroRec 2 with tx := m.tx, reg := m.reg, writes := m.writes }) aw cw none 0).toArray)) w' from fun w' k => by
    refine ⟨_, _, _, _, by rw [hR], fun wq h => ?_, fun wq h => ?_, k⟩
    · rw [hR]; exact h
    · rw [hR]; exact Rd.nil _ _)
  have st : Seg _ w.heap.size 2 (txv m.tx) := B1.seg 2 _ (by simp [recv, txv])
  have sr : Seg _ w.heap.size 5 (regv m.reg) := B1.seg 5 _ (by simp [recv, txv, regv])
  have c8 := (B1.cell 8).trans (show (recv m aw cw am cm)[8]? = some (.slice aw m.writes.length cw) from rfl)
  have hbk := fun w => build_rrec2 m aw cw w
  have hxl : (recv ({ zeroRec 2 with tx := m.tx, reg := m.reg, writes := m.writes }) aw cw none 0).length = 31 := by simp [recv, zeroRec, txv, regv, zeros8, noItem, noCfg, itemv, cfgv, cfgc]
  have hone := recv_one ({ zeroRec 2 with tx := m.tx, reg := m.reg, writes := m.writes }) aw cw none 0
  rw [hk] at c0
  clear hR hk
  have hsp : splice [.int .u8 0, .int .u32 0, .int .u8 0, .int .u32 0, .int .u32 0, .int .u32 0, .int .u32 0, .int .u64 0, .slice none 0 0, .slice none 0 0, .int .u8 0, .int .u8 0, .int .u8 0, .int .u8 0, .int .u8 0, .int .u8 0, .int .u8 0, .int .u8 0, .int .u32 0, .string ⟨#[]⟩, .int .u32 0, .int .u8 0, .int .u8 0, .int .u8 0, .int .u8 0, .int .u8 0, .int .u8 0, .int .u8 0, .int .u8 0, .int .u8 0, .int .u8 0] 0 (recv ({ zeroRec 2 with tx := m.tx, reg := m.reg, writes := m.writes }) aw cw none 0) = recv ({ zeroRec 2 with tx := m.tx, reg := m.reg, writes := m.writes }) aw cw none 0 := splice_all _ _ hxl
  have hfit : 0 + 31 ≤ ([.int .u8 0, .int .u32 0, .int .u8 0, .int .u32 0, .int .u32 0, .int .u32 0, .int .u32 0, .int .u64 0, .slice none 0 0, .slice none 0 0, .int .u8 0, .int .u8 0, .int .u8 0, .int .u8 0, .int .u8 0, .int .u8 0, .int .u8 0, .int .u8 0, .int .u32 0, .string ⟨#[]⟩, .int .u32 0, .int .u8 0, .int .u8 0, .int .u8 0, .int .u8 0, .int .u8 0, .int .u8 0, .int .u8 0, .int .u8 0, .int .u8 0, .int .u8 0] : List Value).length := by decide
  have hb4 := (B2.setRow (recv ({ zeroRec 2 with tx := m.tx, reg := m.reg, writes := m.writes }) aw cw none 0)).seg0
  generalize recv ({ zeroRec 2 with tx := m.tx, reg := m.reg, writes := m.writes }) aw cw none 0 = R at *
  go_enter Tryz.func65, Tryz.ntmps65
  go_wp2_with (first
    | (with_reducible refine wpList_ld rfl 24 _ rfl Tryz.isAgg24 3 Tryz.sizeOf24 w.heap.size 2 rfl (txv m.tx) rfl st ?_)
    | (with_reducible refine wpList_ld rfl 26 _ rfl Tryz.isAgg26 2 Tryz.sizeOf26 w.heap.size 5 rfl (regv m.reg) rfl sr ?_)
    | (with_reducible refine Go.PM.wpList_build rfl 50 _ rfl #[(0, .int .u8 2), (2, .agg (txv m.tx).toArray), (3, .agg (regv m.reg).toArray), (5, .slice aw m.writes.length cw)] (by first | rfl | with_unfolding_all rfl | (simp only; first | rfl | with_unfolding_all rfl)) (.agg R.toArray) (hbk _) ?_)
    | (with_reducible refine wpList_st rfl 50 _ _ rfl 31 Tryz.sizeOf50 (w.heap.size + 1) 0 rfl R rfl hxl _ _ B2 hfit hone ?_; rw [hsp]))
  refine bodyPost_ret (v := .agg R.toArray) (by rw [results_row _ Tryz.results65 _ Tryz.isAgg50 31 Tryz.sizeOf50 (w.heap.size + 1) rfl _ hxl hb4]) rfl ?_
  exact HP.out _ (K2.setRow (fun h => absurd h (by omega)) _)
set_option maxRecDepth 100000 in
set_option maxHeartbeats 1000000 in
theorem refKeptR_3 (m : PRec) (_hm : m.Wf) (hk : m.kind = 3 ∨ m.kind = 4 ∨ m.kind = 6) (aw : Option Addr) (cw : Nat) (am : Option Addr) (cm : Nat) :
    Calls Tryz.prog 65 #[.agg (recv m aw cw am cm).toArray] w (KrPost w m aw am) := by
  have B1 := (Blk.new w 50 (recv m aw cw am cm)).alloc (.cells #[.int .u8 0, .int .u32 0, .int .u8 0, .int .u32 0, .int .u32 0, .int .u32 0, .int .u32 0, .int .u64 0, .slice none 0 0, .slice none 0 0, .int .u8 0, .int .u8 0, .int .u8 0, .int .u8 0, .int .u8 0, .int .u8 0, .int .u8 0, .int .u8 0, .int .u32 0, .string ⟨#[]⟩, .int .u32 0, .int .u8 0, .int .u8 0, .int .u8 0, .int .u8 0, .int .u8 0, .int .u8 0, .int .u8 0, .int .u8 0, .int .u8 0, .int .u8 0] 50)
  have B2 := Blk.new' (w := w.alloc (.cells (recv m aw cw am cm).toArray 50)) (g := w.heap.size + 1) (by rw [World.size_alloc]) 50 [.int .u8 0, .int .u32 0, .int .u8 0, .int .u32 0, .int .u32 0, .int .u32 0, .int .u32 0, .int .u64 0, .slice none 0 0, .slice none 0 0, .int .u8 0, .int .u8 0, .int .u8 0, .int .u8 0, .int .u8 0, .int .u8 0, .int .u8 0, .int .u8 0, .int .u32 0, .string ⟨#[]⟩, .int .u32 0, .int .u8 0, .int .u8 0, .int .u8 0, .int .u8 0, .int .u8 0, .int .u8 0, .int .u8 0, .int .u8 0, .int .u8 0, .int .u8 0]
  have K2 := ((Kept.refl No w).alloc (.cells (recv m aw cw am cm).toArray 50)).alloc (.cells #[.int .u8 0, .int .u32 0, .int .u8 0, .int .u32 0, .int .u32 0, .int .u32 0, .int .u32 0, .int .u64 0, .slice none 0 0, .slice none 0 0, .int .u8 0, .int .u8 0, .int .u8 0, .int .u8 0, .int .u8 0, .int .u8 0, .int .u8 0, .int .u8 0, .int .u32 0, .string ⟨#[]⟩, .int .u32 0, .int .u8 0, .int .u8 0, .int .u8 0, .int .u8 0, .int .u8 0, .int .u8 0, .int .u8 0, .int .u8 0, .int .u8 0, .int .u8 0] 50)
  have c0 := (B1.cell 0).trans (show (recv m aw cw am cm)[0]? = some (.int .u8 m.kind) from rfl)
  have hR : keptR m = { zeroRec m.kind with tx := m.tx } := by unfold keptR; rw [if_neg (by omega), if_neg (by omega), if_pos hk]
  have HP := Lib.hid (show ∀ w', Kept No w w' → KrPost w m aw am (.returned (.agg (recv ({ zeroRec m.kind with tx := m.tx }) none 0 none 0).toArray)) w' from fun w' k => by
    refine ⟨_, _, _, _, by rw [hR], fun wq h => ?_, fun wq h => ?_, k⟩
    · rw [hR]; exact Rd.nil _ _
    · rw [hR]; exact Rd.nil _ _)
  have st : Seg _ w.heap.size 2 (txv m.tx) := B1.seg 2 _ (by simp [recv, txv])
  have hbk := fun w => build_rrec3 m.kind m w
  have hxl : (recv ({ zeroRec m.kind with tx := m.tx }) none 0 none 0).length = 31 := by simp [recv, zeroRec, txv, regv, zeros8, noItem, noCfg, itemv, cfgv, cfgc]
  have hone := recv_one ({ zeroRec m.kind with tx := m.tx }) none 0 none 0
  clear hR
  have hsp : splice [.int .u8 0, .int .u32 0, .int .u8 0, .int .u32 0, .int .u32 0, .int .u32 0, .int .u32 0, .int .u64 0, .slice none 0 0, .slice none 0 0, .int .u8 0, .int .u8 0, .int .u8 0, .int .u8 0, .int .u8 0, .int .u8 0, .int .u8 0, .int .u8 0, .int .u32 0, .string ⟨#[]⟩, .int .u32 0, .int .u8 0, .int .u8 0, .int .u8 0, .int .u8 0, .int .u8 0, .int .u8 0, .int .u8 0, .int .u8 0, .int .u8 0, .int .u8 0] 0 (recv ({ zeroRec m.kind with tx := m.tx }) none 0 none 0) = recv ({ zeroRec m.kind with tx := m.tx }) none 0 none 0 := splice_all _ _ hxl
  have hfit : 0 + 31 ≤ ([.int .u8 0, .int .u32 0, .int .u8 0, .int .u32 0, .int .u32 0, .int .u32 0, .int .u32 0, .int .u64 0, .slice none 0 0, .slice none 0 0, .int .u8 0, .int .u8 0, .int .u8 0, .int .u8 0, .int .u8 0, .int .u8 0, .int .u8 0, .int .u8 0, .int .u32 0, .string ⟨#[]⟩, .int .u32 0, .int .u8 0, .int .u8 0, .int .u8 0, .int .u8 0, .int .u8 0, .int .u8 0, .int .u8 0, .int .u8 0, .int .u8 0, .int .u8 0] : List Value).length := by decide
  have hb4 := (B2.setRow (recv ({ zeroRec m.kind with tx := m.tx }) none 0 none 0)).seg0
  generalize hRR : recv ({ zeroRec m.kind with tx := m.tx }) none 0 none 0 = R at *
  clear hRR
  rcases hk with hk | hk | hk <;> rw [hk] at c0 hbk <;> clear hk
  · go_enter Tryz.func65, Tryz.ntmps65
    go_wp2_with (first
      | (with_reducible refine wpList_ld rfl 24 _ rfl Tryz.isAgg24 3 Tryz.sizeOf24 w.heap.size 2 rfl (txv m.tx) rfl st ?_)
      | (with_reducible refine Go.PM.wpList_build rfl 50 _ rfl #[(0, .int .u8 3), (2, .agg (txv m.tx).toArray)] (by first | rfl | with_unfolding_all rfl | (simp only; first | rfl | with_unfolding_all rfl)) (.agg R.toArray) (hbk _) ?_)
      | (with_reducible refine wpList_st rfl 50 _ _ rfl 31 Tryz.sizeOf50 (w.heap.size + 1) 0 rfl R rfl hxl _ _ B2 hfit hone ?_; rw [hsp]))
    refine bodyPost_ret (v := .agg R.toArray) (by rw [results_row _ Tryz.results65 _ Tryz.isAgg50 31 Tryz.sizeOf50 (w.heap.size + 1) rfl _ hxl hb4]) rfl ?_
    exact HP.out _ (K2.setRow (fun h => absurd h (by omega)) _)
  · go_enter Tryz.func65, Tryz.ntmps65
    go_wp2_with (first
      | (with_reducible refine wpList_ld rfl 24 _ rfl Tryz.isAgg24 3 Tryz.sizeOf24 w.heap.size 2 rfl (txv m.tx) rfl st ?_)
      | (with_reducible refine Go.PM.wpList_build rfl 50 _ rfl #[(0, .int .u8 4), (2, .agg (txv m.tx).toArray)] (by first | rfl | with_unfolding_all rfl | (simp only; first | rfl | with_unfolding_all rfl)) (.agg R.toArray) (hbk _) ?_)
      | (with_reducible refine wpList_st rfl 50 _ _ rfl 31 Tryz.sizeOf50 (w.heap.size + 1) 0 rfl R rfl hxl _ _ B2 hfit hone ?_; rw [hsp]))
    refine bodyPost_ret (v := .agg R.toArray) (by rw [results_row _ Tryz.results65 _ Tryz.isAgg50 31 Tryz.sizeOf50 (w.heap.size + 1) rfl _ hxl hb4]) rfl ?_
    exact HP.out _ (K2.setRow (fun h => absurd h (by omega)) _)
  · go_enter Tryz.func65, Tryz.ntmps65
    go_wp2_with (first
      | (with_reducible refine wpList_ld rfl 24 _ rfl Tryz.isAgg24 3 Tryz.sizeOf24 w.heap.size 2 rfl (txv m.tx) rfl st ?_)
      | (with_reducible refine Go.PM.wpList_build rfl 50 _ rfl #[(0, .int .u8 6), (2, .agg (txv m.tx).toArray)] (by first | rfl | with_unfolding_all rfl | (simp only; first | rfl | with_unfolding_all rfl)) (.agg R.toArray) (hbk _) ?_)
      | (with_reducible refine wpList_st rfl 50 _ _ rfl 31 Tryz.sizeOf50 (w.heap.size + 1) 0 rfl R rfl hxl _ _ B2 hfit hone ?_; rw [hsp]))
    refine bodyPost_ret (v := .agg R.toArray) (by rw [results_row _ Tryz.results65 _ Tryz.isAgg50 31 Tryz.sizeOf50 (w.heap.size + 1) rfl _ hxl hb4]) rfl ?_
    exact HP.out _ (K2.setRow (fun h => absurd h (by omega)) _)
set_option maxRecDepth 100000 in
set_option maxHeartbeats 1000000 in
theorem refKeptR_5 (m : PRec) (_hm : m.Wf) (hk : m.kind = 5) (aw : Option Addr) (cw : Nat) (am : Option Addr) (cm : Nat) :
    Calls Tryz.prog 65 #[.agg (recv m aw cw am cm).toArray] w (KrPost w m aw am) := by
  have B1 := (Blk.new w 50 (recv m aw cw am cm)).alloc (.cells #[.int .u8 0, .int .u32 0, .int .u8 0, .int .u32 0, .int .u32 0, .int .u32 0, .int .u32 0, .int .u64 0, .slice none 0 0, .slice none 0 0, .int .u8 0, .int .u8 0, .int .u8 0, .int .u8 0, .int .u8 0, .int .u8 0, .int .u8 0, .int .u8 0, .int .u32 0, .string ⟨#[]⟩, .int .u32 0, .int .u8 0, .int .u8 0, .int .u8 0, .int .u8 0, .int .u8 0, .int .u8 0, .int .u8 0, .int .u8 0, .int .u8 0, .int .u8 0] 50)
  have B2 := Blk.new' (w := w.alloc (.cells (recv m aw cw am cm).toArray 50)) (g := w.heap.size + 1) (by rw [World.size_alloc]) 50 [.int .u8 0, .int .u32 0, .int .u8 0, .int .u32 0, .int .u32 0, .int .u32 0, .int .u32 0, .int .u64 0, .slice none 0 0, .slice none 0 0, .int .u8 0, .int .u8 0, .int .u8 0, .int .u8 0, .int .u8 0, .int .u8 0, .int .u8 0, .int .u8 0, .int .u32 0, .string ⟨#[]⟩, .int .u32 0, .int .u8 0, .int .u8 0, .int .u8 0, .int .u8 0, .int .u8 0, .int .u8 0, .int .u8 0, .int .u8 0, .int .u8 0, .int .u8 0]
  have K2 := ((Kept.refl No w).alloc (.cells (recv m aw cw am cm).toArray 50)).alloc (.cells #[.int .u8 0, .int .u32 0, .int .u8 0, .int .u32 0, .int .u32 0, .int .u32 0, .int .u32 0, .int .u64 0, .slice none 0 0, .slice none 0 0, .int .u8 0, .int .u8 0, .int .u8 0, .int .u8 0, .int .u8 0, .int .u8 0, .int .u8 0, .int .u8 0, .int .u32 0, .string ⟨#[]⟩, .int .u32 0, .int .u8 0, .int .u8 0, .int .u8 0, .int .u8 0, .int .u8 0, .int .u8 0, .int .u8 0, .int .u8 0, .int .u8 0, .int .u8 0] 50)
  have c0 := (B1.cell 0).trans (show (recv m aw cw am cm)[0]? = some (.int .u8 m.kind) from rfl)
  have hR : keptR m = { zeroRec 5 with tx := m.tx, members := m.members, writes := m.writes, missing := m.missing } := by unfold keptR; rw [if_neg (by omega), if_neg (by omega), if_neg (by omega), if_pos hk]
  have HP := Lib.hid (show ∀ w', Kept No w w' → KrPost w m aw am (.returned (.agg (recv ({ zeroRec 5 with tx := m.tx, members := m.members, writes := m.writes, missing := m.missing }) aw cw am cm).toArray)) w' from fun w' k => by
    refine ⟨_, _, _, _, by rw [hR], fun wq h => ?_, fun wq h => ?_, k⟩
    · rw [hR]; exact h
    · rw [hR]; exact h)
  have st : Seg _ w.heap.size 2 (txv m.tx) := B1.seg 2 _ (by simp [recv, txv])
  have c8 := (B1.cell 8).trans (show (recv m aw cw am cm)[8]? = some (.slice aw m.writes.length cw) from rfl)
  have c9 := (B1.cell 9).trans (show (recv m aw cw am cm)[9]? = some (.slice am m.missing.length cm) from rfl)
  have c7 := (B1.cell 7).trans (show (recv m aw cw am cm)[7]? = some (.int .u64 m.members) from rfl)
  have hbk := fun w => build_rrec5 m aw cw am cm w
  have hxl : (recv ({ zeroRec 5 with tx := m.tx, members := m.members, writes := m.writes, missing := m.missing }) aw cw am cm).length = 31 := by simp [recv, zeroRec, txv, regv, zeros8, noItem, noCfg, itemv, cfgv, cfgc]
  have hone := recv_one ({ zeroRec 5 with tx := m.tx, members := m.members, writes := m.writes, missing := m.missing }) aw cw am cm
  rw [hk] at c0
  clear hR hk
  have hsp : splice [.int .u8 0, .int .u32 0, .int .u8 0, .int .u32 0, .int .u32 0, .int .u32 0, .int .u32 0, .int .u64 0, .slice none 0 0, .slice none 0 0, .int .u8 0, .int .u8 0, .int .u8 0, .int .u8 0, .int .u8 0, .int .u8 0, .int .u8 0, .int .u8 0, .int .u32 0, .string ⟨#[]⟩, .int .u32 0, .int .u8 0, .int .u8 0, .int .u8 0, .int .u8 0, .int .u8 0, .int .u8 0, .int .u8 0, .int .u8 0, .int .u8 0, .int .u8 0] 0 (recv ({ zeroRec 5 with tx := m.tx, members := m.members, writes := m.writes, missing := m.missing }) aw cw am cm) = recv ({ zeroRec 5 with tx := m.tx, members := m.members, writes := m.writes, missing := m.missing }) aw cw am cm := splice_all _ _ hxl
  have hfit : 0 + 31 ≤ ([.int .u8 0, .int .u32 0, .int .u8 0, .int .u32 0, .int .u32 0, .int .u32 0, .int .u32 0, .int .u64 0, .slice none 0 0, .slice none 0 0, .int .u8 0, .int .u8 0, .int .u8 0, .int .u8 0, .int .u8 0, .int .u8 0, .int .u8 0, .int .u8 0, .int .u32 0, .string ⟨#[]⟩, .int .u32 0, .int .u8 0, .int .u8 0, .int .u8 0, .int .u8 0, .int .u8 0, .int .u8 0, .int .u8 0, .int .u8 0, .int .u8 0, .int .u8 0] : List Value).length := by decide
  have hb4 := (B2.setRow (recv ({ zeroRec 5 with tx := m.tx, members := m.members, writes := m.writes, missing := m.missing }) aw cw am cm)).seg0
  generalize recv ({ zeroRec 5 with tx := m.tx, members := m.members, writes := m.writes, missing := m.missing }) aw cw am cm = R at *
  go_enter Tryz.func65, Tryz.ntmps65
  go_wp2_with (first
    | (with_reducible refine wpList_ld rfl 24 _ rfl Tryz.isAgg24 3 Tryz.sizeOf24 w.heap.size 2 rfl (txv m.tx) rfl st ?_)
    | (with_reducible refine Go.PM.wpList_build rfl 50 _ rfl #[(0, .int .u8 5), (2, .agg (txv m.tx).toArray), (4, .int .u64 m.members), (5, .slice aw m.writes.length cw), (6, .slice am m.missing.length cm)] (by first | rfl | with_unfolding_all rfl | (simp only; first | rfl | with_unfolding_all rfl)) (.agg R.toArray) (hbk _) ?_)
    | (with_reducible refine wpList_st rfl 50 _ _ rfl 31 Tryz.sizeOf50 (w.heap.size + 1) 0 rfl R rfl hxl _ _ B2 hfit hone ?_; rw [hsp]))
  refine bodyPost_ret (v := .agg R.toArray) (by rw [results_row _ Tryz.results65 _ Tryz.isAgg50 31 Tryz.sizeOf50 (w.heap.size + 1) rfl _ hxl hb4]) rfl ?_
  exact HP.out _ (K2.setRow (fun h => absurd h (by omega)) _)
set_option maxRecDepth 100000 in
set_option maxHeartbeats 1000000 in
theorem refKeptR_7 (m : PRec) (hm : m.Wf) (hk : m.kind = 7) (aw : Option Addr) (cw : Nat) (am : Option Addr) (cm : Nat) :
    Calls Tryz.prog 65 #[.agg (recv m aw cw am cm).toArray] w (KrPost w m aw am) := by
  have B1 := (Blk.new w 50 (recv m aw cw am cm)).alloc (.cells #[.int .u8 0, .int .u32 0, .int .u8 0, .int .u32 0, .int .u32 0, .int .u32 0, .int .u32 0, .int .u64 0, .slice none 0 0, .slice none 0 0, .int .u8 0, .int .u8 0, .int .u8 0, .int .u8 0, .int .u8 0, .int .u8 0, .int .u8 0, .int .u8 0, .int .u32 0, .string ⟨#[]⟩, .int .u32 0, .int .u8 0, .int .u8 0, .int .u8 0, .int .u8 0, .int .u8 0, .int .u8 0, .int .u8 0, .int .u8 0, .int .u8 0, .int .u8 0] 50)
  have B2 := Blk.new' (w := w.alloc (.cells (recv m aw cw am cm).toArray 50)) (g := w.heap.size + 1) (by rw [World.size_alloc]) 50 [.int .u8 0, .int .u32 0, .int .u8 0, .int .u32 0, .int .u32 0, .int .u32 0, .int .u32 0, .int .u64 0, .slice none 0 0, .slice none 0 0, .int .u8 0, .int .u8 0, .int .u8 0, .int .u8 0, .int .u8 0, .int .u8 0, .int .u8 0, .int .u8 0, .int .u32 0, .string ⟨#[]⟩, .int .u32 0, .int .u8 0, .int .u8 0, .int .u8 0, .int .u8 0, .int .u8 0, .int .u8 0, .int .u8 0, .int .u8 0, .int .u8 0, .int .u8 0]
  have K2 := ((Kept.refl No w).alloc (.cells (recv m aw cw am cm).toArray 50)).alloc (.cells #[.int .u8 0, .int .u32 0, .int .u8 0, .int .u32 0, .int .u32 0, .int .u32 0, .int .u32 0, .int .u64 0, .slice none 0 0, .slice none 0 0, .int .u8 0, .int .u8 0, .int .u8 0, .int .u8 0, .int .u8 0, .int .u8 0, .int .u8 0, .int .u8 0, .int .u32 0, .string ⟨#[]⟩, .int .u32 0, .int .u8 0, .int .u8 0, .int .u8 0, .int .u8 0, .int .u8 0, .int .u8 0, .int .u8 0, .int .u8 0, .int .u8 0, .int .u8 0] 50)
  have c0 := (B1.cell 0).trans (show (recv m aw cw am cm)[0]? = some (.int .u8 m.kind) from rfl)
  have hR : keptR m = { zeroRec 7 with key := m.key, item := m.item } := by unfold keptR; rw [if_neg (by omega), if_neg (by omega), if_neg (by omega), if_neg (by omega), if_pos hk]
  have HP := Lib.hid (show ∀ w', Kept No w w' → KrPost w m aw am (.returned (.agg (recv ({ zeroRec 7 with key := m.key, item := m.item }) none 0 none 0).toArray)) w' from fun w' k => by
    refine ⟨_, _, _, _, by rw [hR], fun wq h => ?_, fun wq h => ?_, k⟩
    · rw [hR]; exact Rd.nil _ _
    · rw [hR]; exact Rd.nil _ _)
  have sk : Seg _ w.heap.size 10 (bcells m.key) := B1.seg 10 _ (by simp [recv, txv, regv])
  have li := itemv_length hm.item
  have lk : (bcells m.key).length = 8 := by rw [bcells_length, hm.key]
  have si : Seg _ w.heap.size 18 (itemv m.item) := B1.seg 18 _ (by simp [recv, txv, regv, li, hm.key]; exact List.take_of_length_le (by omega))
  have hbk := fun w => build_rrec7 m hm w
  have hxl : (recv ({ zeroRec 7 with key := m.key, item := m.item }) none 0 none 0).length = 31 := by simp [recv, zeroRec, txv, regv, zeros8, noItem, noCfg, itemv, cfgv, cfgc, hm.key]; have := hm.item.2.2.2.2; omega
  have hone := recv_one ({ zeroRec 7 with key := m.key, item := m.item }) none 0 none 0
  rw [hk] at c0
  clear hR hk
  have hsp : splice [.int .u8 0, .int .u32 0, .int .u8 0, .int .u32 0, .int .u32 0, .int .u32 0, .int .u32 0, .int .u64 0, .slice none 0 0, .slice none 0 0, .int .u8 0, .int .u8 0, .int .u8 0, .int .u8 0, .int .u8 0, .int .u8 0, .int .u8 0, .int .u8 0, .int .u32 0, .string ⟨#[]⟩, .int .u32 0, .int .u8 0, .int .u8 0, .int .u8 0, .int .u8 0, .int .u8 0, .int .u8 0, .int .u8 0, .int .u8 0, .int .u8 0, .int .u8 0] 0 (recv ({ zeroRec 7 with key := m.key, item := m.item }) none 0 none 0) = recv ({ zeroRec 7 with key := m.key, item := m.item }) none 0 none 0 := splice_all _ _ hxl
  have hfit : 0 + 31 ≤ ([.int .u8 0, .int .u32 0, .int .u8 0, .int .u32 0, .int .u32 0, .int .u32 0, .int .u32 0, .int .u64 0, .slice none 0 0, .slice none 0 0, .int .u8 0, .int .u8 0, .int .u8 0, .int .u8 0, .int .u8 0, .int .u8 0, .int .u8 0, .int .u8 0, .int .u32 0, .string ⟨#[]⟩, .int .u32 0, .int .u8 0, .int .u8 0, .int .u8 0, .int .u8 0, .int .u8 0, .int .u8 0, .int .u8 0, .int .u8 0, .int .u8 0, .int .u8 0] : List Value).length := by decide
  have hb4 := (B2.setRow (recv ({ zeroRec 7 with key := m.key, item := m.item }) none 0 none 0)).seg0
  clear hm
  generalize recv ({ zeroRec 7 with key := m.key, item := m.item }) none 0 none 0 = R at *
  go_enter Tryz.func65, Tryz.ntmps65
  go_wp2_with (first
    | (with_reducible refine wpList_ld rfl 28 _ rfl Tryz.isAgg28 8 Tryz.sizeOf28 w.heap.size 10 rfl (bcells m.key) lk sk ?_)
    | (with_reducible refine wpList_ld rfl 32 _ rfl Tryz.isAgg32 13 Tryz.sizeOf32 w.heap.size 18 rfl (itemv m.item) li si ?_)
    | (with_reducible refine Go.PM.wpList_build rfl 50 _ rfl #[(0, .int .u8 7), (7, .agg (bcells m.key).toArray), (8, .agg (itemv m.item).toArray)] (by first | rfl | with_unfolding_all rfl | (simp only; first | rfl | with_unfolding_all rfl)) (.agg R.toArray) (hbk _) ?_)
    | (with_reducible refine wpList_st rfl 50 _ _ rfl 31 Tryz.sizeOf50 (w.heap.size + 1) 0 rfl R rfl hxl _ _ B2 hfit hone ?_; rw [hsp]))
  refine bodyPost_ret (v := .agg R.toArray) (by rw [results_row _ Tryz.results65 _ Tryz.isAgg50 31 Tryz.sizeOf50 (w.heap.size + 1) rfl _ hxl hb4]) rfl ?_
  exact HP.out _ (K2.setRow (fun h => absurd h (by omega)) _)
set_option maxRecDepth 100000 in
set_option maxHeartbeats 1000000 in
theorem refKeptR_0 (m : PRec) (_hm : m.Wf) (hk : rdx m.kind = []) (aw : Option Addr) (cw : Nat) (am : Option Addr) (cm : Nat) :
    Calls Tryz.prog 65 #[.agg (recv m aw cw am cm).toArray] w (KrPost w m aw am) := by
  have B1 := (Blk.new w 50 (recv m aw cw am cm)).alloc (.cells #[.int .u8 0, .int .u32 0, .int .u8 0, .int .u32 0, .int .u32 0, .int .u32 0, .int .u32 0, .int .u64 0, .slice none 0 0, .slice none 0 0, .int .u8 0, .int .u8 0, .int .u8 0, .int .u8 0, .int .u8 0, .int .u8 0, .int .u8 0, .int .u8 0, .int .u32 0, .string ⟨#[]⟩, .int .u32 0, .int .u8 0, .int .u8 0, .int .u8 0, .int .u8 0, .int .u8 0, .int .u8 0, .int .u8 0, .int .u8 0, .int .u8 0, .int .u8 0] 50)
  have B2 := Blk.new' (w := w.alloc (.cells (recv m aw cw am cm).toArray 50)) (g := w.heap.size + 1) (by rw [World.size_alloc]) 50 [.int .u8 0, .int .u32 0, .int .u8 0, .int .u32 0, .int .u32 0, .int .u32 0, .int .u32 0, .int .u64 0, .slice none 0 0, .slice none 0 0, .int .u8 0, .int .u8 0, .int .u8 0, .int .u8 0, .int .u8 0, .int .u8 0, .int .u8 0, .int .u8 0, .int .u32 0, .string ⟨#[]⟩, .int .u32 0, .int .u8 0, .int .u8 0, .int .u8 0, .int .u8 0, .int .u8 0, .int .u8 0, .int .u8 0, .int .u8 0, .int .u8 0, .int .u8 0]
  have K2 := ((Kept.refl No w).alloc (.cells (recv m aw cw am cm).toArray 50)).alloc (.cells #[.int .u8 0, .int .u32 0, .int .u8 0, .int .u32 0, .int .u32 0, .int .u32 0, .int .u32 0, .int .u64 0, .slice none 0 0, .slice none 0 0, .int .u8 0, .int .u8 0, .int .u8 0, .int .u8 0, .int .u8 0, .int .u8 0, .int .u8 0, .int .u8 0, .int .u32 0, .string ⟨#[]⟩, .int .u32 0, .int .u8 0, .int .u8 0, .int .u8 0, .int .u8 0, .int .u8 0, .int .u8 0, .int .u8 0, .int .u8 0, .int .u8 0, .int .u8 0] 50)
  have c0 := (B1.cell 0).trans (show (recv m aw cw am cm)[0]? = some (.int .u8 m.kind) from rfl)
  obtain ⟨h1, h2, h3, h4, h5, h6, h7⟩ := rfx_none hk
  have hR : keptR m = zeroRec 0 := by unfold keptR; rw [if_neg h1, if_neg h2, if_neg (by omega), if_neg h5, if_neg h7]
  have HP := Lib.hid (show ∀ w', Kept No w w' → KrPost w m aw am (.returned (.agg (recv (zeroRec 0) none 0 none 0).toArray)) w' from fun w' k => by
    refine ⟨_, _, _, _, by rw [hR], fun wq h => ?_, fun wq h => ?_, k⟩
    · rw [hR]; exact Rd.nil _ _
    · rw [hR]; exact Rd.nil _ _)
  have hbk := fun w => build_rrec0 w
  have hxl : (recv (zeroRec 0) none 0 none 0).length = 31 := by simp [recv, zeroRec, txv, regv, zeros8, noItem, noCfg, itemv, cfgv, cfgc]
  have hone := recv_one (zeroRec 0) none 0 none 0
  clear hR
  have q1 : ((m.kind : Int) == 1) = false := beq_eq_false_iff_ne.2 (by omega)
  have q2 : ((m.kind : Int) == 2) = false := beq_eq_false_iff_ne.2 (by omega)
  have q3 : ((m.kind : Int) == 3) = false := beq_eq_false_iff_ne.2 (by omega)
  have q4 : ((m.kind : Int) == 4) = false := beq_eq_false_iff_ne.2 (by omega)
  have q5 : ((m.kind : Int) == 5) = false := beq_eq_false_iff_ne.2 (by omega)
  have q6 : ((m.kind : Int) == 6) = false := beq_eq_false_iff_ne.2 (by omega)
  have q7 : ((m.kind : Int) == 7) = false := beq_eq_false_iff_ne.2 (by omega)
  clear h1 h2 h3 h4 h5 h6 h7 hk
  have hsp : splice [.int .u8 0, .int .u32 0, .int .u8 0, .int .u32 0, .int .u32 0, .int .u32 0, .int .u32 0, .int .u64 0, .slice none 0 0, .slice none 0 0, .int .u8 0, .int .u8 0, .int .u8 0, .int .u8 0, .int .u8 0, .int .u8 0, .int .u8 0, .int .u8 0, .int .u32 0, .string ⟨#[]⟩, .int .u32 0, .int .u8 0, .int .u8 0, .int .u8 0, .int .u8 0, .int .u8 0, .int .u8 0, .int .u8 0, .int .u8 0, .int .u8 0, .int .u8 0] 0 (recv (zeroRec 0) none 0 none 0) = recv (zeroRec 0) none 0 none 0 := splice_all _ _ hxl
  have hfit : 0 + 31 ≤ ([.int .u8 0, .int .u32 0, .int .u8 0, .int .u32 0, .int .u32 0, .int .u32 0, .int .u32 0, .int .u64 0, .slice none 0 0, .slice none 0 0, .int .u8 0, .int .u8 0, .int .u8 0, .int .u8 0, .int .u8 0, .int .u8 0, .int .u8 0, .int .u8 0, .int .u32 0, .string ⟨#[]⟩, .int .u32 0, .int .u8 0, .int .u8 0, .int .u8 0, .int .u8 0, .int .u8 0, .int .u8 0, .int .u8 0, .int .u8 0, .int .u8 0, .int .u8 0] : List Value).length := by decide
  have hb4 := (B2.setRow (recv (zeroRec 0) none 0 none 0)).seg0
  generalize recv (zeroRec 0) none 0 none 0 = R at *
  go_enter Tryz.func65, Tryz.ntmps65
  go_wp2_with (first
    | (with_reducible refine Go.PM.wpList_build rfl 50 _ rfl #[] (by first | rfl | with_unfolding_all rfl | (simp only; first | rfl | with_unfolding_all rfl)) (.agg R.toArray) (hbk _) ?_)
    | (with_reducible refine wpList_st rfl 50 _ _ rfl 31 Tryz.sizeOf50 (w.heap.size + 1) 0 rfl R rfl hxl _ _ B2 hfit hone ?_; rw [hsp]))
  refine bodyPost_ret (v := .agg R.toArray) (by rw [results_row _ Tryz.results65 _ Tryz.isAgg50 31 Tryz.sizeOf50 (w.heap.size + 1) rfl _ hxl hb4]) rfl ?_
  exact HP.out _ (K2.setRow (fun h => absurd h (by omega)) _)
theorem refKeptR_calls (m : PRec) (hm : m.Wf) (aw : Option Addr) (cw : Nat) (am : Option Addr) (cm : Nat) :
    Calls Tryz.prog 65 #[.agg (recv m aw cw am cm).toArray] w (KrPost w m aw am) := by
  rcases rdx_cases m.kind with h | h | h | h | h | h | h | h
  · exact refKeptR_0 m hm h aw cw am cm
  · exact refKeptR_1 m hm h aw cw am cm
  · exact refKeptR_2 m hm h aw cw am cm
  · exact refKeptR_3 m hm (.inl h) aw cw am cm
  · exact refKeptR_3 m hm (.inr (.inl h)) aw cw am cm
  · exact refKeptR_5 m hm h aw cw am cm
  · exact refKeptR_3 m hm (.inr (.inr h)) aw cw am cm
  · exact refKeptR_7 m hm h aw cw am cm
end
end Go.Proofs.YtjfmidcaekhhgaaGreatDoor
