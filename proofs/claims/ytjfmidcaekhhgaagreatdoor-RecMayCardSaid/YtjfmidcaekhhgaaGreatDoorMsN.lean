/- Decode of a message, as a walk. Printed by gen_msn.py. -/
import Derived.Test.YtjfmidcaekhhgaaGreatDoorMsGet
import Derived.Deep.CutBlock
namespace Go.PM
open Go.RowKit
theorem results_row2 {P : Program} {w : World} (fn : Func) {p u : Tmp} {ty tu : TypeId} (h : fn.results = #[.cell p ty, .cell u tu]) (tmps : Array Value) (ha : ∀ w, (isAgg ty).run P w = .ok true w) (n : Nat) (hs : ∀ w, (sizeOf ty).run P w = .ok n w) (g : Nat) (hp : tmps.getD p undef = .pointer (some ⟨g, 0, none⟩)) (xs : List Value) (hl : xs.length = n) (hr : Seg w g 0 xs)
    (hb : ∀ w, (isAgg tu).run P w = .ok true w) (n' : Nat) (hs' : ∀ w, (sizeOf tu).run P w = .ok n' w) (g' : Nat) (hp' : tmps.getD u undef = .pointer (some ⟨g', 0, none⟩)) (ys : List Value) (hl' : ys.length = n') (hr' : Seg w g' 0 ys) :
    (results fn tmps).run P w = .ok (.tuple #[.agg xs.toArray, .agg ys.toArray]) w := by
  have h1 : tmps[p]?.getD undef = .pointer (some ⟨g, 0, none⟩) := by simpa using hp
  have h2 : tmps[u]?.getD undef = .pointer (some ⟨g', 0, none⟩) := by simpa using hp'
  simp [results, h, h1, h2, asAddr, run_loadVar_seg ty ha n hs g 0 xs hl hr, run_loadVar_seg tu hb n' hs' g' 0 ys hl' hr']
end Go.PM
namespace Go.Proofs.YtjfmidcaekhhgaaGreatDoor
open Go.RowKit Go.PM

theorem build_msg (k : Nat) (w : World) : (Instr.build 42 #[(0, .int .u8 k)]).run Tryz.prog w = .ok (.agg (msgv (zeroMsg k) none 0).toArray) w := by
  simp only [msgv, zeroMsg, txv, regv, noItem, noCfg, zeros8, itemv, cfgv, cfgc, bcells, List.map_cons, List.map_nil, List.cons_append, List.nil_append]
  go_simp
theorem build_msg0 (w : World) : (Instr.build 42 #[]).run Tryz.prog w = .ok (.agg (msgv (zeroMsg 0) none 0).toArray) w := by
  simp only [msgv, zeroMsg, txv, regv, noItem, noCfg, zeros8, itemv, cfgv, cfgc, bcells, List.map_cons, List.map_nil, List.cons_append, List.nil_append]
  go_simp

/-- What Decode answers. -/
def DecPost (w : World) (b : List UInt8) (e : Ending) (w' : World) : Prop :=
  ∃ al capl, e = .returned (.tuple #[.agg (msgv (mDec b).1 al capl).toArray, .agg #[.int .i64 (mDec b).2.1, .int .i64 (mDec b).2.2]]) ∧ Owns w' 69 21 al (mDec b).1.writes.length capl (pwsv (mDec b).1.writes) ∧
    (∀ q, At al q → w.heap.size ≤ q) ∧ Kept No w w' ∧ (mDec b).1.Gd
theorem dec_err {w w' : World} {b : List UInt8} {y f : Nat} (h : mDec b = (zeroMsg 0, y, f)) (k : Kept No w w') : DecPost w b (.returned (.tuple #[.agg (msgv (zeroMsg 0) none 0).toArray, .agg #[.int .i64 y, .int .i64 f]])) w' := by
  unfold DecPost
  rw [h]
  exact ⟨none, 0, rfl, Owns.nil _ _ _, (fun q ⟨_, _, e, _⟩ => nomatch e), k, zeroMsg_gd 0 (by decide)⟩

theorem fin_two {W : World} {p : Nat} {TM TF : TypeId} {z f xs ys : List Value} (m : Blk W p TM z) (fb : Blk W (p + 1) TF f) (hx : xs.length = z.length) (hy : ys.length = f.length) :
    Seg ((W.setRow p (splice z 0 xs).toArray).setRow (p + 1) (splice f 0 ys).toArray) p 0 xs ∧ Seg ((W.setRow p (splice z 0 xs).toArray).setRow (p + 1) (splice f 0 ys).toArray) (p + 1) 0 ys := by
  rw [splice_all _ _ hx, splice_all _ _ hy]
  exact ⟨((m.setRow xs).kept ((Kept.refl (· = p + 1) _).setRow (fun _ => rfl) _) (by omega)).seg0, ((fb.kept ((Kept.refl (· = p) _).setRow (fun _ => rfl) _) (by omega)).setRow ys).seg0⟩
theorem fin_kept {w W : World} {p : Nat} (k : Kept No w W) (hp : p = w.heap.size) (A B : Array Value) : Kept No w ((W.setRow p A).setRow (p + 1) B) := by
  subst hp
  exact (k.setRow (fun h => absurd h (Nat.lt_irrefl _)) _).setRow (fun h => absurd h (by omega)) _
section
variable {w : World}
set_option maxRecDepth 100000 in
set_option maxHeartbeats 4000000 in
theorem decode_calls (b : List UInt8) (ab : Option Addr) (cb n : Nat) (hn : b.length = n) (hr : Rd w ab (bcells b)) (hl : n ≤ 1099511627776) (hc : ab = none → cb = 0) :
    Calls Tryz.prog 32 #[.slice ab n cb] w (DecPost w b) := by
  obtain ⟨k, s0, e0⟩ : ∃ y t, (PR.new b).byte = (y, t) := ⟨_, _, rfl⟩
  have hk : k < 256 := by have := PR.byte_lt (PR.new b); rw [e0] at this; exact this
  have HD := Lib.hid (show mDec b = mGo k s0 by unfold mDec; rw [e0])
  have hz33 : (msgv (zeroMsg 0) none 0).length = 33 := rfl
  have hk33 : (msgv (zeroMsg k) none 0).length = 33 := rfl
  have hzfit : 0 + 33 ≤ (msgv (zeroMsg 0) none 0).length := by rw [hz33]; decide
  have hzone := msgv_one (zeroMsg 0) none 0
  have hkone := msgv_one (zeroMsg k) none 0
  have hbz := fun w => build_msg0 w
  have hbk := fun w => build_msg k w
  have hspz : splice (msgv (zeroMsg 0) none 0) 0 (msgv (zeroMsg 0) none 0) = msgv (zeroMsg 0) none 0 := splice_all _ _ rfl
  have HB := Lib.hid e0
  have K0 := ((Kept.refl No w).alloc (.cells #[.int .u8 0, .int .u8 0, .int .u32 0, .int .u32 0, .int .u32 0, .int .u32 0, .int .u32 0, .int .u8 0, .int .u8 0, .int .u8 0, .int .u8 0, .int .u8 0, .int .u8 0, .int .u8 0, .int .u8 0, .int .u8 0, .int .u32 0, .int .u8 0, .int .u8 0, .int .u32 0, .string ⟨#[]⟩, .int .u32 0, .int .u8 0, .int .u8 0, .int .u8 0, .int .u8 0, .int .u8 0, .int .u8 0, .int .u8 0, .int .u8 0, .int .u8 0, .int .u8 0, .slice none 0 0] 42)).alloc (.cells #[.int .i64 0, .int .i64 0] 65)
  have M0 : Blk ((w.alloc (.cells #[.int .u8 0, .int .u8 0, .int .u32 0, .int .u32 0, .int .u32 0, .int .u32 0, .int .u32 0, .int .u8 0, .int .u8 0, .int .u8 0, .int .u8 0, .int .u8 0, .int .u8 0, .int .u8 0, .int .u8 0, .int .u8 0, .int .u32 0, .int .u8 0, .int .u8 0, .int .u32 0, .string ⟨#[]⟩, .int .u32 0, .int .u8 0, .int .u8 0, .int .u8 0, .int .u8 0, .int .u8 0, .int .u8 0, .int .u8 0, .int .u8 0, .int .u8 0, .int .u8 0, .slice none 0 0] 42)).alloc (.cells #[.int .i64 0, .int .i64 0] 65)) w.heap.size 42 (msgv (zeroMsg 0) none 0) := (Blk.new w 42 [.int .u8 0, .int .u8 0, .int .u32 0, .int .u32 0, .int .u32 0, .int .u32 0, .int .u32 0, .int .u8 0, .int .u8 0, .int .u8 0, .int .u8 0, .int .u8 0, .int .u8 0, .int .u8 0, .int .u8 0, .int .u8 0, .int .u32 0, .int .u8 0, .int .u8 0, .int .u32 0, .string ⟨#[]⟩, .int .u32 0, .int .u8 0, .int .u8 0, .int .u8 0, .int .u8 0, .int .u8 0, .int .u8 0, .int .u8 0, .int .u8 0, .int .u8 0, .int .u8 0, .slice none 0 0]).alloc _
  have F0 := Blk.new' (w := w.alloc (.cells #[.int .u8 0, .int .u8 0, .int .u32 0, .int .u32 0, .int .u32 0, .int .u32 0, .int .u32 0, .int .u8 0, .int .u8 0, .int .u8 0, .int .u8 0, .int .u8 0, .int .u8 0, .int .u8 0, .int .u8 0, .int .u8 0, .int .u32 0, .int .u8 0, .int .u8 0, .int .u32 0, .string ⟨#[]⟩, .int .u32 0, .int .u8 0, .int .u8 0, .int .u8 0, .int .u8 0, .int .u8 0, .int .u8 0, .int .u8 0, .int .u8 0, .int .u8 0, .int .u8 0, .slice none 0 0] 42)) (g := w.heap.size + 1) (by rw [World.size_alloc]) 65 [.int .i64 0, .int .i64 0]
  have HNEW := Lib.hid (rnew_calls (w := (w.alloc (.cells #[.int .u8 0, .int .u8 0, .int .u32 0, .int .u32 0, .int .u32 0, .int .u32 0, .int .u32 0, .int .u8 0, .int .u8 0, .int .u8 0, .int .u8 0, .int .u8 0, .int .u8 0, .int .u8 0, .int .u8 0, .int .u8 0, .int .u32 0, .int .u8 0, .int .u8 0, .int .u32 0, .string ⟨#[]⟩, .int .u32 0, .int .u8 0, .int .u8 0, .int .u8 0, .int .u8 0, .int .u8 0, .int .u8 0, .int .u8 0, .int .u8 0, .int .u8 0, .int .u8 0, .slice none 0 0] 42)).alloc (.cells #[.int .i64 0, .int .i64 0] 65)) b ab cb n hn (hr.keptNo K0) hl hc)
  clear hr e0
  go_enter Tryz.func32, Tryz.ntmps32
  go_wp2_with fail
  refine HNEW.out.mono ?_
  rintro _ w1 ⟨g, a, c, rfl, r1, k1, hg⟩
  have M1 := M0.kept k1 (fun h => h)
  have F1 := F0.kept k1 (fun h => h)
  have K1 := K0.trans k1 fun _ _ h => h
  have hsz := K0.size
  have hs2 : ((w.alloc (.cells #[.int .u8 0, .int .u8 0, .int .u32 0, .int .u32 0, .int .u32 0, .int .u32 0, .int .u32 0, .int .u8 0, .int .u8 0, .int .u8 0, .int .u8 0, .int .u8 0, .int .u8 0, .int .u8 0, .int .u8 0, .int .u8 0, .int .u32 0, .int .u8 0, .int .u8 0, .int .u32 0, .string ⟨#[]⟩, .int .u32 0, .int .u8 0, .int .u8 0, .int .u8 0, .int .u8 0, .int .u8 0, .int .u8 0, .int .u8 0, .int .u8 0, .int .u8 0, .int .u8 0, .slice none 0 0] 42)).alloc (.cells #[.int .i64 0, .int .i64 0] 65)).heap.size = w.heap.size + 2 := by rw [World.size_alloc, World.size_alloc]
  have hgw : w.heap.size + 2 ≤ g := hs2 ▸ hg
  clear HNEW M0 F0 k1 K0 hs2 hsz hg
  have kk1 := (Kept.refl No w1).alloc (.cells #[.pointer (some ⟨g, 0, none⟩)] 113)
  have HBY := Lib.hid (rbyte_eq HB.out (r1.keptNo kk1))
  have P1 := Blk.new w1 113 [.pointer (some ⟨g, 0, none⟩)]
  have np : w1.heap.size ≠ g := Nat.ne_of_gt r1.box.lt
  have h1lt := M1.lt
  have f1lt := F1.lt
  have r1lt := r1.lt
  have g1lt := r1.box.lt
  go_wp2_with fail
  refine HBY.out.mono ?_
  rintro _ w2 ⟨rfl, k2, r2⟩
  have M2 := (M1.kept kk1 (fun h => h)).kept k2 (show ¬ w.heap.size = g by omega)
  have F2 := (F1.kept kk1 (fun h => h)).kept k2 (show ¬ w.heap.size + 1 = g by omega)
  have P2 := P1.kept k2 np
  have K2 : Kept No w w2 := (K1.alloc (.cells #[.pointer (some ⟨g, 0, none⟩)] 113)).trans k2 fun q hq e => by have h0 : q = g := e; exact absurd hq (by omega)
  clear M1 F1 P1 k2 K1 HBY
  have kk2 := (Kept.refl No w2).alloc (.cells (msgv (zeroMsg k) none 0).toArray 42)
  have D2 := Blk.new w2 42 (msgv (zeroMsg k) none 0)
  have M3 := M2.kept kk2 (fun h => h)
  have F3 := F2.kept kk2 (fun h => h)
  have P3 := P2.kept kk2 (fun h => h)
  have R3 := r2.keptNo kk2
  have K3 := K2.trans kk2 fun _ _ h => h
  have c3 : (w2.alloc (.cells (msgv (zeroMsg k) none 0).toArray 42)).cell? ⟨w1.heap.size, 0, none⟩ = some (.pointer (some ⟨g, 0, none⟩)) := P3.cell 0
  go_wp2_with (first
    | (with_reducible refine wpList_build rfl 42 _ rfl #[(0, .int .u8 k)] (by simp only [List.map_toArray, List.map_cons, List.map_nil]; rfl) (.agg (msgv (zeroMsg k) none 0).toArray) (hbk _) ?_)
    | (with_reducible refine wpList_st_last rfl 42 _ _ rfl 33 Tryz.sizeOf42 _ rfl rfl (msgv (zeroMsg k) none 0) rfl hk33 _ _ rfl hkone ?_))
  have HF := Lib.hid (rfault_calls R3)
  have hfone : ∀ y f : Nat, ∀ u ∈ [Value.int .i64 (y : Int), .int .i64 (f : Int)], u.oneCell' = true := fun y f u hu => by
    simp only [List.mem_cons, List.not_mem_nil, or_false] at hu; rcases hu with rfl | rfl <;> rfl
  by_cases hy0 : s0.why = 0
  case neg =>
    have HE := Lib.hid (show mDec b = (zeroMsg 0, s0.why, s0.fat) by rw [HD.out]; unfold mGo; rw [if_neg hy0])
    have hne := neqFault s0.why s0.fat r2.ok.none
    rw [decide_eq_true (show ¬ s0.why = 0 from hy0)] at hne
    have hfone := hfone s0.why s0.fat
    generalize s0.why = Y at *
    generalize s0.fat = F at *
    clear hy0 HD HB r2 R3
    go_wp2_with (go_at_call 74; refine HF.out.mono ?_; rintro _ w3 ⟨rfl, k3⟩)
    have M4 := (M3.kept k3 (fun h => h)).alloc (.cells #[.int .i64 (Y : Nat), .int .i64 (F : Nat)] 65)
    have F4 := (F3.kept k3 (fun h => h)).alloc (.cells #[.int .i64 (Y : Nat), .int .i64 (F : Nat)] 65)
    have X4 := Blk.new w3 65 [.int .i64 (Y : Nat), .int .i64 (F : Nat)]
    have K4 := (K3.trans k3 fun _ _ h => h).alloc (.cells #[.int .i64 (Y : Nat), .int .i64 (F : Nat)] 65)
    have h3lt := (M3.kept k3 (fun h => h)).lt
    have f3lt := (F3.kept k3 (fun h => h)).lt
    have M5 : Blk (w3.alloc (.cells #[.int .i64 (Y : Nat), .int .i64 (F : Nat)] 65)).drew w.heap.size 42 (msgv (zeroMsg 0) none 0) := M4
    have F5 : Blk (w3.alloc (.cells #[.int .i64 (Y : Nat), .int .i64 (F : Nat)] 65)).drew (w.heap.size + 1) 65 [.int .i64 0, .int .i64 0] := F4
    have X5 : Blk (w3.alloc (.cells #[.int .i64 (Y : Nat), .int .i64 (F : Nat)] 65)).drew w3.heap.size 65 [.int .i64 (Y : Nat), .int .i64 (F : Nat)] := X4
    have hF0 := X5.seg0
    have X6 := fun cs => X5.kept ((Kept.refl (· = w.heap.size) _).setRow (fun _ => rfl) cs) (show ¬ w3.heap.size = w.heap.size by omega)
    have F6 := fun cs => F5.kept ((Kept.refl (· = w.heap.size) _).setRow (fun _ => rfl) cs) (show ¬ w.heap.size + 1 = w.heap.size by omega)
    have X7 := fun cs ds => (X6 cs).kept ((Kept.refl (· = w.heap.size + 1) _).setRow (fun _ => rfl) ds) (show ¬ w3.heap.size = w.heap.size + 1 by omega)
    refine wp_region_held_drew (S := fun w' => Seg w' w3.heap.size 0 [.int .i64 (Y : Nat), .int .i64 (F : Nat)]) (by kernel_rfl) (hF0) (fun hHeld => ?_)
    refine wpAnyH_take (i := 0) (oi := _) (v := ?_) rfl (by kernel_rfl) (by kernel_rfl) (by kernel_rfl) (fun _ _ _ h => h) (Or.inl ⟨by rfl, ?_⟩) (by assumption) ?_
    rotate_left
    · intro wv hSw; refine build_val 42 ?ba1 ?bb1 #[] ?bc1 (.agg (msgv (zeroMsg 0) none 0).toArray) (hbz wv); (case bb1 => rfl); (case bc1 => simp)
    (try simp only [List.getElem_toArray, List.getElem_cons_zero, Act.put, List.setIfInBounds_toArray, List.set_cons_zero, List.set_cons_succ])
    refine wpAnyH_take (i := 1) (oi := _) (v := ?_) rfl (by kernel_rfl) (by kernel_rfl) (by kernel_rfl) (fun _ _ _ h => h) (Or.inl ⟨by rfl, ?_⟩) (by assumption) ?_
    rotate_left
    · intro wv hSw; refine ld_val 65 ?lx1 ?l11 Tryz.isAgg65 2 Tryz.sizeOf65 w3.heap.size 0 ?l21 [.int .i64 (Y : Nat), .int .i64 (F : Nat)] rfl (hSw); (case l11 => rfl); (case l21 => rfl)
    (try simp only [List.getElem_toArray, List.getElem_cons_zero, List.getElem_cons_succ, Act.put, List.setIfInBounds_toArray, List.set_cons_zero, List.set_cons_succ])
    refine wpAnyH_ready (rs := [2]) (by kernel_rfl) (by simp) ?_
    refine AllReadyH.cons (o := _) rfl (fun K hK => ?_) AllReadyH.nil
    rw [if_pos (by rfl)]
    refine wp_st 42 ?sa1 ?sb1 ?sc1 33 Tryz.sizeOf42 w.heap.size 0 ?sd1 (msgv (zeroMsg 0) none 0) ?se1 hz33 _ _ M5 hzfit hzone ?_; (case sc1 => rfl); (case sd1 => rfl); (case se1 => rfl)
    refine hK.out _ _ ((X6 _).seg0) (fun hHeld => ?_)
    clear hK K
    (try simp only [List.getElem_toArray, List.getElem_cons_zero, List.getElem_cons_succ, Act.put])
    refine wpAnyH_ready (rs := [3]) (by kernel_rfl) (by simp) ?_
    refine AllReadyH.cons (o := _) rfl (fun K hK => ?_) AllReadyH.nil
    rw [if_pos (by rfl)]
    refine wp_st 65 ?ta1 ?tb1 ?tc1 2 Tryz.sizeOf65 (w.heap.size + 1) 0 ?td1 [.int .i64 (Y : Nat), .int .i64 (F : Nat)] ?te1 rfl _ _ (F6 _) (by decide) hfone ?_; (case tc1 => rfl); (case td1 => rfl); (case te1 => rfl)
    refine hK.out _ _ ((X7 _ _).seg0) (fun hHeld => ?_)
    clear hK K
    (try simp only [List.getElem_toArray, List.getElem_cons_zero, List.getElem_cons_succ, Act.put])
    refine wpAnyH_done (by kernel_rfl) ?_ _
    go_wp2
    obtain ⟨y1, y2⟩ := fin_two M5 F5 (xs := msgv (zeroMsg 0) none 0) (ys := [.int .i64 (Y : Nat), .int .i64 (F : Nat)]) hz33 rfl
    refine bodyPost_ret (v := .tuple #[.agg (msgv (zeroMsg 0) none 0).toArray, .agg ([.int .i64 (Y : Nat), .int .i64 (F : Nat)] : List Value).toArray]) (by rw [results_row2 _ Tryz.results32 _ Tryz.isAgg42 33 Tryz.sizeOf42 w.heap.size rfl _ hz33 y1 Tryz.isAgg65 2 Tryz.sizeOf65 (w.heap.size + 1) rfl _ rfl y2]) rfl ?_
    exact dec_err HE.out (fin_kept K4.drew rfl _ _)
  case pos =>
    have HF2 := Lib.hid (fault_none R3 hy0)
    have hne := neqFault 0 0 fun _ => rfl
    rw [decide_eq_false (fun h => h rfl)] at hne
    have HD2 := Lib.hid (show mDec b = if idx k = [] then (zeroMsg 0, 3, 0) else mFin (Fd.gets (idx k) (zeroMsg k, s0)) by rw [HD.out]; unfold mGo; rw [if_pos hy0])
    have HFI := Lib.hid (fun w => fields_calls (w := w) k hk)
    have hmf : ∀ (fn : Fn) (first cap : Array Value) (w : World), (Instr.makeFunc fn first cap).run Tryz.prog w = .ok (.func fn first cap) w := fun _ _ _ _ => rfl
    have hF2fit : 0 + 2 ≤ [Value.int .i64 0, .int .i64 0].length := by decide
    have hone3 : ∀ u ∈ [Value.int .i64 3, .int .i64 0], u.oneCell' = true := hfone 3 0
    have hone0 : ∀ u ∈ [Value.int .i64 0, .int .i64 0], u.oneCell' = true := hfone 0 0
    have n52 : ¬ w2.heap.size = g := by have := r2.box.lt; omega
    have n42 : ¬ w1.heap.size = w2.heap.size := by have := P2.lt; omega
    have a5 : ∀ q, At a q → q ≠ w2.heap.size := fun q hq e => by have := r2.lt q hq; omega
    have A5 := Lib.hid a5
    have h1 : w.heap.size + 1 < w2.heap.size := F2.lt
    have g2lt : g < w2.heap.size := r2.box.lt
    clear a5 r2 M2 F2 P2 K2 kk2 HD HB
    by_cases hx : idx k = []
    · have HE := Lib.hid (show mDec b = (zeroMsg 0, 3, 0) by rw [HD2.out, if_pos hx])
      rw [mask_none hx] at HFI
      clear HD2 hx hy0
      go_wp2_with (first
        | (go_at_call 74; refine HF2.out.mono ?_; rintro _ w3 ⟨rfl, k3⟩; have D4 := (D2.kept k3 (fun h => h)).alloc (.cells #[.int .i64 0, .int .i64 0] 65); have c4 : (w3.alloc (.cells #[.int .i64 0, .int .i64 0] 65)).cell? ⟨w2.heap.size, 0, none⟩ = some (.int .u8 k) := D4.cell 0; have M4 := (M3.kept k3 (fun h => h)).alloc (.cells #[.int .i64 0, .int .i64 0] 65); have F4 := (F3.kept k3 (fun h => h)).alloc (.cells #[.int .i64 0, .int .i64 0] 65); have F6 := fun cs => F4.kept ((Kept.refl (· = w.heap.size) _).setRow (fun _ => rfl) cs) (show ¬ w.heap.size + 1 = w.heap.size by omega))
        | (go_at_call 48; refine (HFI.out _).mono ?_; rintro _ _ ⟨rfl, rfl⟩)
        | (with_reducible refine wpList_build rfl 42 _ rfl #[] (by simp) (.agg (msgv (zeroMsg 0) none 0).toArray) (hbz _) ?_)
        | (with_reducible refine wpList_st rfl 42 (.tmp 2) _ rfl 33 Tryz.sizeOf42 w.heap.size 0 rfl (msgv (zeroMsg 0) none 0) rfl hz33 _ _ M4 hzfit hzone ?_)
        | (with_reducible refine wpList_st rfl 65 (.tmp 3) _ rfl 2 Tryz.sizeOf65 (w.heap.size + 1) 0 rfl [.int .i64 3, .int .i64 0] rfl rfl _ _ (F6 _) hF2fit hone3 ?_))
      have K4 := (K3.trans k3 fun _ _ h => h).alloc (.cells #[.int .i64 0, .int .i64 0] 65)
      obtain ⟨y1, y2⟩ := fin_two M4 F4 (xs := msgv (zeroMsg 0) none 0) (ys := [.int .i64 3, .int .i64 0]) hz33 rfl
      refine bodyPost_ret (v := .tuple #[.agg (msgv (zeroMsg 0) none 0).toArray, .agg ([.int .i64 3, .int .i64 0] : List Value).toArray]) (by rw [results_row2 _ Tryz.results32 _ Tryz.isAgg42 33 Tryz.sizeOf42 w.heap.size rfl _ hz33 y1 Tryz.isAgg65 2 Tryz.sizeOf65 (w.heap.size + 1) rfl _ rfl y2]) rfl ?_
      exact dec_err HE.out (fin_kept K4 rfl _ _)
    · have HD3 := Lib.hid (show mDec b = mFin (Fd.gets (idx k) (zeroMsg k, s0)) by rw [HD2.out, if_neg hx])
      have hm0 : ((mask k : Int) == 0) = false := beq_eq_false_iff_ne.2 (by have := mt (idx_zero k).2 hx; omega)
      have HEACH := Lib.hid (fun (W : World) hp (hR : Rdr W g s0 a c) hb => each_dec (w := W) (b := w2.heap.size) (p := w1.heap.size) (TP := 113) (s := s0) k hk hp hR hb n52 A5.out n42 np)
      generalize mask k = MK at *
      clear HD2 hx hy0
      go_wp2_with (first
        | (go_at_call 74; refine HF2.out.mono ?_; rintro _ w3 ⟨rfl, k3⟩; have D4 := (D2.kept k3 (fun h => h)).alloc (.cells #[.int .i64 0, .int .i64 0] 65); have c4 : (w3.alloc (.cells #[.int .i64 0, .int .i64 0] 65)).cell? ⟨w2.heap.size, 0, none⟩ = some (.int .u8 k) := D4.cell 0; have P4 := (P3.kept k3 (fun h => h)).alloc (.cells #[.int .i64 0, .int .i64 0] 65); have R4 := (R3.keptNo k3).keptNo ((Kept.refl No w3).alloc (.cells #[.int .i64 0, .int .i64 0] 65)))
        | (go_at_call 48; refine (HFI.out _).mono ?_; rintro _ _ ⟨rfl, rfl⟩)
        | (go_at_call 34; refine (HEACH.out _ P4 R4 D4).mono ?_; rintro _ w5 ⟨al, capl, rfl, r5, b5, k5, o5, gd⟩; have P5 := P4.kept k5 (fun h => h.elim n42 np); have c5 : w5.cell? ⟨w1.heap.size, 0, none⟩ = some (.pointer (some ⟨g, 0, none⟩)) := P5.cell 0)
        | fail)
      obtain ⟨X, hX⟩ : ∃ X, Fd.gets (idx k) (zeroMsg k, s0) = X := ⟨_, rfl⟩
      rw [hX] at r5 b5 o5 gd HD3
      have h4sz : w.heap.size ≤ (w3.alloc (.cells #[.int .i64 0, .int .i64 0] 65)).heap.size := ((K3.trans k3 fun _ _ h => h).alloc (.cells #[.int .i64 0, .int .i64 0] 65)).size
      have hnew := o5.new
      have h0w2 : w.heap.size < w2.heap.size := by omega
      have noff : ∀ q, q < w.heap.size + 2 → ¬ (q = w2.heap.size ∨ q = g) := fun q hq e => by omega
      have M5 := ((M3.kept k3 (fun h => h)).alloc (.cells #[.int .i64 0, .int .i64 0] 65)).kept k5 (noff _ (by omega))
      have F5 := ((F3.kept k3 (fun h => h)).alloc (.cells #[.int .i64 0, .int .i64 0] 65)).kept k5 (noff _ (by omega))
      have K5 : Kept No w w5 := ((K3.trans k3 fun _ _ h => h).alloc (.cells #[.int .i64 0, .int .i64 0] 65)).trans k5 fun q hq e => noff q (by omega) e
      have own5 := o5.own
      have gal : ∀ q, At al q → ¬ q = g := fun q hq e => by
        have h1 := hnew q hq
        have h2 := (R4.box.lt)
        omega
      have own_off : ∀ q, At al q → q ≠ w.heap.size ∧ q ≠ w.heap.size + 1 := fun q hq => by
        have h1 := hnew q hq
        have h2 : w.heap.size + 1 < (w3.alloc (.cells #[.int .i64 0, .int .i64 0] 65)).heap.size := ((F3.kept k3 (fun h => h)).alloc (.cells #[.int .i64 0, .int .i64 0] 65)).lt
        omega
      have wal : ∀ q, At al q → w.heap.size ≤ q := fun q hq => Nat.le_trans h4sz (hnew q hq)
      clear hX hnew HEACH HFI D4 c4 P4 R4 k5 k3 R3 M3 F3 P3 D2 K3 c3 HF HF2
      by_cases hz : X.2.end_.why = 0
      case neg =>
        have HE := Lib.hid (show mDec b = (zeroMsg 0, X.2.end_.why, X.2.end_.fat) by rw [HD3.out]; unfold mFin; rw [if_neg hz])
        have HEN := Lib.hid (rend_calls r5)
        have hne := neqFault X.2.end_.why X.2.end_.fat (PR.end_ok r5.ok).none
        rw [decide_eq_true (show ¬ X.2.end_.why = 0 from hz)] at hne
        have hfone := hfone X.2.end_.why X.2.end_.fat
        generalize X.2.end_.why = Y at *
        generalize X.2.end_.fat = F at *
        clear hz HD3
        go_wp2_with (go_at_call 73; refine HEN.out.mono ?_; rintro _ w6 ⟨rfl, k6, r6⟩)
        have M6 := M5.kept k6 (show ¬ w.heap.size = g by omega)
        have F6' := F5.kept k6 (show ¬ w.heap.size + 1 = g by omega)
        have K6 : Kept No w w6 := K5.trans k6 fun q hq e => by have h0 : q = g := e; exact absurd hq (by omega)
        have X4 := Blk.new w6 65 [.int .i64 (Y : Nat), .int .i64 (F : Nat)]
        have h3lt := M6.lt
        have f3lt := F6'.lt
        have M7 : Blk (w6.alloc (.cells #[.int .i64 (Y : Nat), .int .i64 (F : Nat)] 65)).drew w.heap.size 42 (msgv (zeroMsg 0) none 0) := M6.alloc _
        have F7 : Blk (w6.alloc (.cells #[.int .i64 (Y : Nat), .int .i64 (F : Nat)] 65)).drew (w.heap.size + 1) 65 [.int .i64 0, .int .i64 0] := F6'.alloc _
        have X5 : Blk (w6.alloc (.cells #[.int .i64 (Y : Nat), .int .i64 (F : Nat)] 65)).drew w6.heap.size 65 [.int .i64 (Y : Nat), .int .i64 (F : Nat)] := X4
        have K4 := K6.alloc (.cells #[.int .i64 (Y : Nat), .int .i64 (F : Nat)] 65)
        have hF0 := X5.seg0
        have X6 := fun cs => X5.kept ((Kept.refl (· = w.heap.size) _).setRow (fun _ => rfl) cs) (show ¬ w6.heap.size = w.heap.size by omega)
        have F6 := fun cs => F7.kept ((Kept.refl (· = w.heap.size) _).setRow (fun _ => rfl) cs) (show ¬ w.heap.size + 1 = w.heap.size by omega)
        have X7 := fun cs ds => (X6 cs).kept ((Kept.refl (· = w.heap.size + 1) _).setRow (fun _ => rfl) ds) (show ¬ w6.heap.size = w.heap.size + 1 by omega)
        refine wp_region_held_drew (S := fun w' => Seg w' w6.heap.size 0 [.int .i64 (Y : Nat), .int .i64 (F : Nat)]) (by kernel_rfl) (hF0) (fun hHeld => ?_)
        refine wpAnyH_take (i := 0) (oi := _) (v := ?_) rfl (by kernel_rfl) (by kernel_rfl) (by kernel_rfl) (fun _ _ _ h => h) (Or.inl ⟨by rfl, ?_⟩) (by assumption) ?_
        rotate_left
        · intro wv hSw; refine build_val 42 ?ba2 ?bb2 #[] ?bc2 (.agg (msgv (zeroMsg 0) none 0).toArray) (hbz wv); (case bb2 => rfl); (case bc2 => simp)
        (try simp only [List.getElem_toArray, List.getElem_cons_zero, Act.put, List.setIfInBounds_toArray, List.set_cons_zero, List.set_cons_succ])
        refine wpAnyH_take (i := 1) (oi := _) (v := ?_) rfl (by kernel_rfl) (by kernel_rfl) (by kernel_rfl) (fun _ _ _ h => h) (Or.inl ⟨by rfl, ?_⟩) (by assumption) ?_
        rotate_left
        · intro wv hSw; refine ld_val 65 ?lx2 ?l12 Tryz.isAgg65 2 Tryz.sizeOf65 w6.heap.size 0 ?l22 [.int .i64 (Y : Nat), .int .i64 (F : Nat)] rfl (hSw); (case l12 => rfl); (case l22 => rfl)
        (try simp only [List.getElem_toArray, List.getElem_cons_zero, List.getElem_cons_succ, Act.put, List.setIfInBounds_toArray, List.set_cons_zero, List.set_cons_succ])
        refine wpAnyH_ready (rs := [2]) (by kernel_rfl) (by simp) ?_
        refine AllReadyH.cons (o := _) rfl (fun K hK => ?_) AllReadyH.nil
        rw [if_pos (by rfl)]
        refine wp_st 42 ?sa2 ?sb2 ?sc2 33 Tryz.sizeOf42 w.heap.size 0 ?sd2 (msgv (zeroMsg 0) none 0) ?se2 hz33 _ _ M7 hzfit hzone ?_; (case sc2 => rfl); (case sd2 => rfl); (case se2 => rfl)
        refine hK.out _ _ ((X6 _).seg0) (fun hHeld => ?_)
        clear hK K
        (try simp only [List.getElem_toArray, List.getElem_cons_zero, List.getElem_cons_succ, Act.put])
        refine wpAnyH_ready (rs := [3]) (by kernel_rfl) (by simp) ?_
        refine AllReadyH.cons (o := _) rfl (fun K hK => ?_) AllReadyH.nil
        rw [if_pos (by rfl)]
        refine wp_st 65 ?ta2 ?tb2 ?tc2 2 Tryz.sizeOf65 (w.heap.size + 1) 0 ?td2 [.int .i64 (Y : Nat), .int .i64 (F : Nat)] ?te2 rfl _ _ (F6 _) (by decide) hfone ?_; (case tc2 => rfl); (case td2 => rfl); (case te2 => rfl)
        refine hK.out _ _ ((X7 _ _).seg0) (fun hHeld => ?_)
        clear hK K
        (try simp only [List.getElem_toArray, List.getElem_cons_zero, List.getElem_cons_succ, Act.put])
        refine wpAnyH_done (by kernel_rfl) ?_ _
        go_wp2
        obtain ⟨y1, y2⟩ := fin_two M7 F7 (xs := msgv (zeroMsg 0) none 0) (ys := [.int .i64 (Y : Nat), .int .i64 (F : Nat)]) hz33 rfl
        refine bodyPost_ret (v := .tuple #[.agg (msgv (zeroMsg 0) none 0).toArray, .agg ([.int .i64 (Y : Nat), .int .i64 (F : Nat)] : List Value).toArray]) (by rw [results_row2 _ Tryz.results32 _ Tryz.isAgg42 33 Tryz.sizeOf42 w.heap.size rfl _ hz33 y1 Tryz.isAgg65 2 Tryz.sizeOf65 (w.heap.size + 1) rfl _ rfl y2]) rfl ?_
        exact dec_err HE.out (fin_kept K4.drew rfl _ _)
      case pos =>
        have HEN : Hid (Calls Tryz.prog 73 #[.pointer (some ⟨g, 0, none⟩)] w5 fun e w' => e = .returned (.agg #[.int .i64 0, .int .i64 0]) ∧ Kept (· = g) w5 w' ∧ Rdr w' g X.2.end_ a c) := by
          have h := rend_calls r5
          rw [hz, (PR.end_ok r5.ok).none hz] at h
          exact h
        have l33 := msgv_length gd.wf al capl
        have hmone := msgv_one X.1 al capl
        have HMM := Lib.hid (fun (W : World) hrd hlt => mMay_calls (w := W) (a := al) (c := capl) X.1 gd.wf gd.sm hrd hlt)
        cases hmm : mMay X.1
        · have HE := Lib.hid (show mDec b = (zeroMsg 0, 3, 0) by rw [HD3.out]; unfold mFin; rw [if_pos hz, hmm, if_neg (by decide)])
          rw [hmm] at HMM
          clear hz HD3 hmm
          go_wp2_with (first
            | (go_at_call 73; refine HEN.out.mono ?_; rintro _ w6 ⟨rfl, k6, r6⟩; have b7 := (b5.kept k6 n52).alloc (.cells #[.int .i64 0, .int .i64 0] 65); have s7 := b7.seg0; have o7 := (own5.kept k6 gal).keptNo ((Kept.refl No w6).alloc (.cells #[.int .i64 0, .int .i64 0] 65)); have M7 := (M5.kept k6 (show ¬ w.heap.size = g by omega)).alloc (.cells #[.int .i64 0, .int .i64 0] 65); have F7 := (F5.kept k6 (show ¬ w.heap.size + 1 = g by omega)).alloc (.cells #[.int .i64 0, .int .i64 0] 65))
            | (with_reducible refine wpList_ld rfl 42 (.tmp 5) rfl Tryz.isAgg42 33 Tryz.sizeOf42 w2.heap.size 0 rfl (msgv X.1 al capl) l33 s7 ?_)
            | (go_at_call 19; refine (HMM.out _ o7.rd o7.lt).mono ?_; rintro _ w8 ⟨rfl, k8⟩; have M8 := M7.kept k8 (fun h => h); have F8 := F7.kept k8 (fun h => h); have F9 := fun cs => F8.kept ((Kept.refl (· = w.heap.size) _).setRow (fun _ => rfl) cs) (show ¬ w.heap.size + 1 = w.heap.size by omega))
            | (with_reducible refine wpList_build rfl 42 _ rfl #[] (by simp) (.agg (msgv (zeroMsg 0) none 0).toArray) (hbz _) ?_)
            | (with_reducible refine wpList_st rfl 42 (.tmp 2) _ rfl 33 Tryz.sizeOf42 w.heap.size 0 rfl (msgv (zeroMsg 0) none 0) rfl hz33 _ _ M8 hzfit hzone ?_)
            | (with_reducible refine wpList_st rfl 65 (.tmp 3) _ rfl 2 Tryz.sizeOf65 (w.heap.size + 1) 0 rfl [.int .i64 3, .int .i64 0] rfl rfl _ _ (F9 _) hF2fit hone3 ?_))
          have K6 : Kept No w w6 := K5.trans k6 fun q hq e => by have h0 : q = g := e; exact absurd hq (by omega)
          have K8 := (K6.alloc (.cells #[.int .i64 0, .int .i64 0] 65)).trans k8 fun _ _ h => h
          obtain ⟨y1, y2⟩ := fin_two M8 F8 (xs := msgv (zeroMsg 0) none 0) (ys := [.int .i64 3, .int .i64 0]) hz33 rfl
          refine bodyPost_ret (v := .tuple #[.agg (msgv (zeroMsg 0) none 0).toArray, .agg ([.int .i64 3, .int .i64 0] : List Value).toArray]) (by rw [results_row2 _ Tryz.results32 _ Tryz.isAgg42 33 Tryz.sizeOf42 w.heap.size rfl _ hz33 y1 Tryz.isAgg65 2 Tryz.sizeOf65 (w.heap.size + 1) rfl _ rfl y2]) rfl ?_
          exact dec_err HE.out (fin_kept K8 rfl _ _)
        · have HE := Lib.hid (show mDec b = (X.1, 0, 0) by rw [HD3.out]; unfold mFin; rw [if_pos hz, hmm, if_pos rfl])
          rw [hmm] at HMM
          clear hz HD3 hmm
          go_wp2_with (first
            | (go_at_call 73; refine HEN.out.mono ?_; rintro _ w6 ⟨rfl, k6, r6⟩; have b7 := (b5.kept k6 n52).alloc (.cells #[.int .i64 0, .int .i64 0] 65); have s7 := b7.seg0; have o7 := (own5.kept k6 gal).keptNo ((Kept.refl No w6).alloc (.cells #[.int .i64 0, .int .i64 0] 65)); have M7 := (M5.kept k6 (show ¬ w.heap.size = g by omega)).alloc (.cells #[.int .i64 0, .int .i64 0] 65); have F7 := (F5.kept k6 (show ¬ w.heap.size + 1 = g by omega)).alloc (.cells #[.int .i64 0, .int .i64 0] 65))
            | (with_reducible refine wpList_ld rfl 42 (.tmp 5) rfl Tryz.isAgg42 33 Tryz.sizeOf42 w2.heap.size 0 rfl (msgv X.1 al capl) l33 s7 ?_)
            | (go_at_call 19; refine (HMM.out _ o7.rd o7.lt).mono ?_; rintro _ w8 ⟨rfl, k8⟩; have M8 := M7.kept k8 (fun h => h); have F8 := F7.kept k8 (fun h => h); have s8 := (b7.kept k8 (fun h => h)).seg0; have F9 := fun cs => F8.kept ((Kept.refl (· = w.heap.size) _).setRow (fun _ => rfl) cs) (show ¬ w.heap.size + 1 = w.heap.size by omega))
            | (with_reducible refine wpList_ld rfl 42 (.tmp 5) rfl Tryz.isAgg42 33 Tryz.sizeOf42 w2.heap.size 0 rfl (msgv X.1 al capl) l33 s8 ?_)
            | (with_reducible refine wpList_st rfl 42 (.tmp 2) _ rfl 33 Tryz.sizeOf42 w.heap.size 0 rfl (msgv X.1 al capl) rfl l33 _ _ M8 hzfit hmone ?_)
            | (with_reducible refine wpList_st rfl 65 (.tmp 3) _ rfl 2 Tryz.sizeOf65 (w.heap.size + 1) 0 rfl [.int .i64 0, .int .i64 0] rfl rfl _ _ (F9 _) hF2fit hone0 ?_))
          have K6 : Kept No w w6 := K5.trans k6 fun q hq e => by have h0 : q = g := e; exact absurd hq (by omega)
          have K8 := (K6.alloc (.cells #[.int .i64 0, .int .i64 0] 65)).trans k8 fun _ _ h => h
          obtain ⟨y1, y2⟩ := fin_two M8 F8 (xs := msgv X.1 al capl) (ys := [.int .i64 0, .int .i64 0]) (l33.trans hz33.symm) rfl
          refine bodyPost_ret (v := .tuple #[.agg (msgv X.1 al capl).toArray, .agg ([.int .i64 0, .int .i64 0] : List Value).toArray]) (by rw [results_row2 _ Tryz.results32 _ Tryz.isAgg42 33 Tryz.sizeOf42 w.heap.size rfl _ l33 y1 Tryz.isAgg65 2 Tryz.sizeOf65 (w.heap.size + 1) rfl _ rfl y2]) rfl ?_
          have own9 : Owns _ 69 21 al X.1.writes.length capl (pwsv X.1.writes) := (o7.keptNo k8)
          have o9 := (own9.kept ((Kept.refl (· = w.heap.size) _).setRow (fun _ => rfl) (splice (msgv (zeroMsg 0) none 0) 0 (msgv X.1 al capl)).toArray) (fun q hq e => (own_off q hq).1 e)).kept ((Kept.refl (· = w.heap.size + 1) _).setRow (fun _ => rfl) (splice [.int .i64 0, .int .i64 0] 0 [.int .i64 0, .int .i64 0]).toArray) (fun q hq e => (own_off q hq).2 e)
          unfold DecPost
          rw [HE.out]
          exact ⟨al, capl, rfl, o9, wal, fin_kept K8 rfl _ _, gd⟩
end
end Go.Proofs.YtjfmidcaekhhgaaGreatDoor
