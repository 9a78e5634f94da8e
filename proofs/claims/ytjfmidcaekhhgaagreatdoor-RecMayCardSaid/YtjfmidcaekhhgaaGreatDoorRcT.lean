/- Decode of a record, as a walk. Printed by gen_rct.py. -/
import Derived.Test.YtjfmidcaekhhgaaGreatDoorRcR
import Derived.Test.YtjfmidcaekhhgaaGreatDoorMsN
namespace Go.Proofs.YtjfmidcaekhhgaaGreatDoor
open Go.RowKit Go.PM

theorem build_rec (k : Nat) (w : World) : (Instr.build 53 #[(0, .int .u8 k)]).run Tryz.prog w = .ok (.agg (recv (zeroRec k) none 0 none 0).toArray) w := by
  simp only [recv, zeroRec, txv, regv, noItem, noCfg, zeros8, itemv, cfgv, cfgc, bcells, List.map_cons, List.map_nil, List.cons_append, List.nil_append]
  go_simp
theorem build_rec0 (w : World) : (Instr.build 53 #[]).run Tryz.prog w = .ok (.agg (recv (zeroRec 0) none 0 none 0).toArray) w := by
  simp only [recv, zeroRec, txv, regv, noItem, noCfg, zeros8, itemv, cfgv, cfgc, bcells, List.map_cons, List.map_nil, List.cons_append, List.nil_append]
  go_simp
theorem Tryz.cu_ints : Tryz.prog.underlying 91 = some (.slice 3) := by kernel_rfl

/-- What Decode of a record answers. -/
def RDecPost (w : World) (b : List UInt8) (e : Ending) (w' : World) : Prop :=
  ∃ aw cw am cm, e = .returned (.tuple #[.agg (recv (rDec b).1 aw cw am cm).toArray, .agg #[.int .i64 (rDec b).2.1, .int .i64 (rDec b).2.2]]) ∧ Owns w' 69 21 aw (rDec b).1.writes.length cw (pwsv (rDec b).1.writes) ∧ Owns w' 47 1 am (rDec b).1.missing.length cm (ucells (rDec b).1.missing) ∧
    (∀ q, At aw q → w.heap.size ≤ q) ∧ (∀ q, At am q → w.heap.size ≤ q) ∧ Kept No w w' ∧ (rDec b).1.Gd
theorem rdec_err {w w' : World} {b : List UInt8} {y f : Nat} (h : rDec b = (zeroRec 0, y, f)) (k : Kept No w w') : RDecPost w b (.returned (.tuple #[.agg (recv (zeroRec 0) none 0 none 0).toArray, .agg #[.int .i64 y, .int .i64 f]])) w' := by
  unfold RDecPost
  rw [h]
  exact ⟨none, 0, none, 0, rfl, Owns.nil _ _ _, Owns.nil _ _ _, (fun q ⟨_, _, e, _⟩ => nomatch e), (fun q ⟨_, _, e, _⟩ => nomatch e), k, zeroRec_gd 0 (by decide)⟩
theorem byte_some (c : UInt8) (t : List UInt8) : (PR.new (c :: t)).byte = (c.toNat, (PR.new (c :: t)).go 1) :=
  byteC.back (PR.new (c :: t)) c.toNat t rfl c.toNat_lt (by simp [PR.rest, PR.new, byteC])
theorem rfx_nodup (k : Nat) : (rfx k).Nodup := by
  rcases rdx_cases k with h | h | h | h | h | h | h | h
  · rw [rfx_nil h]; exact List.nodup_nil
  all_goals subst h; decide
theorem rfGet_writes (f : Nat) (h8 : f < 8) (hf : f ≠ 4) (x : PRec × PR) : (rfGet f x).1.writes = x.1.writes := by
  have hc : f = 0 ∨ f = 1 ∨ f = 2 ∨ f = 3 ∨ f = 5 ∨ f = 6 ∨ f = 7 := by omega
  rcases hc with rfl | rfl | rfl | rfl | rfl | rfl | rfl
  · rfl
  · rfl
  · rfl
  · rfl
  · rfl
  · rfl
  · obtain ⟨m, s⟩ := x
    rw [rfGet_item]
theorem rfGet_missing (f : Nat) (h8 : f < 8) (hf : f ≠ 5) (x : PRec × PR) : (rfGet f x).1.missing = x.1.missing := by
  have hc : f = 0 ∨ f = 1 ∨ f = 2 ∨ f = 3 ∨ f = 4 ∨ f = 6 ∨ f = 7 := by omega
  rcases hc with rfl | rfl | rfl | rfl | rfl | rfl | rfl
  · rfl
  · rfl
  · rfl
  · rfl
  · rfl
  · rfl
  · obtain ⟨m, s⟩ := x
    rw [rfGet_item]

/-- Between the fields of a record that is read. -/
def DeRel (w0 : World) (b g k : Nat) (s0 : PR) (a : Option Addr) (c : Nat) (af : Option Addr) (i : Value) (wr : World) : Prop :=
  ∃ (j : Nat) (aw : Option Addr) (cw : Nat) (am : Option Addr) (cm : Nat) (X : PRec × PR), j ≤ (rfx k).length ∧ i = .int .i64 j ∧ rfGets ((rfx k).take j) (zeroRec k, s0) = X ∧ Rdr wr g X.2 a c ∧ Blk wr b 53 (recv X.1 aw cw am cm) ∧
    Rd wr af (icells (rfx k)) ∧ Kept (fun q => q = b ∨ q = g) w0 wr ∧ WOwn w0 wr g X.1.writes aw cw ∧ UOwn w0 wr X.1.missing am cm ∧ X.1.Gd ∧ (5 ∈ (rfx k).take j ∨ X.1.missing = [] ∧ am = none ∧ cm = 0)
theorem DeRel.step {w0 wr w' : World} {b g k j : Nat} {s0 : PR} {a af aw am : Option Addr} {c cw cm f : Nat} {X : PRec × PR} {e : Ending} (hjl : j < (rfx k).length) (hf : (rfx k)[j] = f) (hX : rfGets ((rfx k).take j) (zeroRec k, s0) = X)
    (hbw : b < w0.heap.size) (hgw : g < w0.heap.size) (haf : ∀ q, At af q → q ≠ b ∧ q ≠ g) (rf : Rd wr af (icells (rfx k))) (hk : Kept (fun q => q = b ∨ q = g) w0 wr) (ow : WOwn w0 wr g X.1.writes aw cw) (ou : UOwn w0 wr X.1.missing am cm) (gd : X.1.Gd)
    (h5 : 5 ∈ (rfx k).take j ∨ X.1.missing = [] ∧ am = none ∧ cm = 0) (hp : RGetPost wr b g f X.1 X.2 a c aw cw am cm e w') : e = .returned (.tuple #[]) ∧ DeRel w0 b g k s0 a c af (.int .i64 ((j : Int) + 1)) w' := by
  obtain ⟨rfl, r2, k2, aw', cw', am', cm', b2, e1, e2, e3, e4⟩ := hp
  have hfm : f ∈ rfx k := hf ▸ List.getElem_mem hjl
  have hf8 := rfx_lt k f hfm
  have ht : (rfx k).take (j + 1) = (rfx k).take j ++ [f] := by rw [List.take_succ_eq_append_getElem hjl, hf]
  have hX2 : rfGets ((rfx k).take (j + 1)) (zeroRec k, s0) = rfGet f X := by rw [ht, rfGets_snoc, hX]
  have hXX : (X.1, X.2) = X := rfl
  rw [hXX] at r2 b2 e2 e4
  refine ⟨rfl, j + 1, aw', cw', am', cm', rfGet f X, hjl, by rw [Int.natCast_add]; rfl, hX2, r2, b2, rf.kept k2 (fun q hq h => h.elim (haf q hq).1 (haf q hq).2), hk.trans k2 (fun _ _ h => h), ?_, ?_, rfGet_gd f hf8 gd X.2, ?_⟩
  · by_cases h4 : f = 4
    · have := e2 h4
      exact ⟨this.own, fun q hq => Nat.le_trans hk.size (this.new q hq)⟩
    · obtain ⟨rfl, rfl⟩ := e1 h4
      rw [rfGet_writes f hf8 h4]
      exact ⟨ow.own.kept k2 (fun q hq h => by have := ow.new q hq; rcases h with h | h <;> omega), ow.new⟩
  · by_cases h4 : f = 5
    · have := e4 h4
      exact ⟨this.own, fun q hq => Nat.le_trans hk.size (this.new q hq)⟩
    · obtain ⟨rfl, rfl⟩ := e3 h4
      rw [rfGet_missing f hf8 h4]
      exact ⟨ou.own.kept k2 (fun q hq h => by have := ou.new q hq; rcases h with h | h <;> omega), ou.new⟩
  · by_cases h4 : f = 5
    · left; rw [ht, h4]; simp
    · obtain ⟨rfl, rfl⟩ := e3 h4
      rw [rfGet_missing f hf8 h4, ht]
      rcases h5 with h5 | h5
      · left; exact List.mem_append.2 (.inl h5)
      · exact .inr h5
theorem five_once {k j : Nat} (hjl : j < (rfx k).length) (h : (rfx k)[j] = 5) : 5 ∉ (rfx k).take j := by
  intro hm
  have hn := rfx_nodup k
  have ht : (rfx k).take (j + 1) = (rfx k).take j ++ [5] := by rw [List.take_succ_eq_append_getElem hjl, h]
  have := (List.take_sublist (j + 1) (rfx k)).nodup hn
  rw [ht, List.nodup_append] at this
  exact this.2.2 5 hm 5 (by simp) rfl
section
variable {w : World}
set_option maxRecDepth 100000 in
set_option maxHeartbeats 4000000 in
theorem rdecode_calls (b : List UInt8) (ab : Option Addr) (cb n : Nat) (hn : b.length = n) (hr : Rd w ab (bcells b)) (hl : n ≤ 1099511627776) (hc : ab = none → cb = 0) :
    Calls Tryz.prog 31 #[.slice ab n cb] w (RDecPost w b) := by
  obtain ⟨k, s0, e0⟩ : ∃ y t, (PR.new b).byte = (y, t) := ⟨_, _, rfl⟩
  have hk : k < 256 := by have := PR.byte_lt (PR.new b); rw [e0] at this; exact this
  have HD := Lib.hid (show rDec b = rGo k s0 by unfold rDec; rw [e0])
  have HB0 := Lib.hid (show b = [] → k = 0 ∧ s0.why ≠ 0 from fun h => by subst h; have e : (PR.new []).byte = (k, s0) := e0; cases e; exact ⟨rfl, by decide⟩)
  have HB1 := Lib.hid (show b ≠ [] → s0.why = 0 from fun h => by
    cases b with
    | nil => exact absurd rfl h
    | cons x t => rw [byte_some] at e0; cases e0; rfl)
  have hz31 : (recv (zeroRec 0) none 0 none 0).length = 31 := rfl
  have hk31 : (recv (zeroRec k) none 0 none 0).length = 31 := rfl
  have hzfit : 0 + 31 ≤ (recv (zeroRec 0) none 0 none 0).length := by rw [hz31]; decide
  have hzone := recv_one (zeroRec 0) none 0 none 0
  have hkone := recv_one (zeroRec k) none 0 none 0
  have hbz := fun w => build_rec0 w
  have hbk := fun w => build_rec k w
  have HB := Lib.hid e0
  have K0 := ((Kept.refl No w).alloc (.cells #[.int .u8 0, .int .u32 0, .int .u8 0, .int .u32 0, .int .u32 0, .int .u32 0, .int .u32 0, .int .u64 0, .slice none 0 0, .slice none 0 0, .int .u8 0, .int .u8 0, .int .u8 0, .int .u8 0, .int .u8 0, .int .u8 0, .int .u8 0, .int .u8 0, .int .u32 0, .string ⟨#[]⟩, .int .u32 0, .int .u8 0, .int .u8 0, .int .u8 0, .int .u8 0, .int .u8 0, .int .u8 0, .int .u8 0, .int .u8 0, .int .u8 0, .int .u8 0] 53)).alloc (.cells #[.int .i64 0, .int .i64 0] 65)
  have M0 : Blk ((w.alloc (.cells #[.int .u8 0, .int .u32 0, .int .u8 0, .int .u32 0, .int .u32 0, .int .u32 0, .int .u32 0, .int .u64 0, .slice none 0 0, .slice none 0 0, .int .u8 0, .int .u8 0, .int .u8 0, .int .u8 0, .int .u8 0, .int .u8 0, .int .u8 0, .int .u8 0, .int .u32 0, .string ⟨#[]⟩, .int .u32 0, .int .u8 0, .int .u8 0, .int .u8 0, .int .u8 0, .int .u8 0, .int .u8 0, .int .u8 0, .int .u8 0, .int .u8 0, .int .u8 0] 53)).alloc (.cells #[.int .i64 0, .int .i64 0] 65)) w.heap.size 53 (recv (zeroRec 0) none 0 none 0) := (Blk.new w 53 [.int .u8 0, .int .u32 0, .int .u8 0, .int .u32 0, .int .u32 0, .int .u32 0, .int .u32 0, .int .u64 0, .slice none 0 0, .slice none 0 0, .int .u8 0, .int .u8 0, .int .u8 0, .int .u8 0, .int .u8 0, .int .u8 0, .int .u8 0, .int .u8 0, .int .u32 0, .string ⟨#[]⟩, .int .u32 0, .int .u8 0, .int .u8 0, .int .u8 0, .int .u8 0, .int .u8 0, .int .u8 0, .int .u8 0, .int .u8 0, .int .u8 0, .int .u8 0]).alloc _
  have F0 := Blk.new' (w := w.alloc (.cells #[.int .u8 0, .int .u32 0, .int .u8 0, .int .u32 0, .int .u32 0, .int .u32 0, .int .u32 0, .int .u64 0, .slice none 0 0, .slice none 0 0, .int .u8 0, .int .u8 0, .int .u8 0, .int .u8 0, .int .u8 0, .int .u8 0, .int .u8 0, .int .u8 0, .int .u32 0, .string ⟨#[]⟩, .int .u32 0, .int .u8 0, .int .u8 0, .int .u8 0, .int .u8 0, .int .u8 0, .int .u8 0, .int .u8 0, .int .u8 0, .int .u8 0, .int .u8 0] 53)) (g := w.heap.size + 1) (by rw [World.size_alloc]) 65 [.int .i64 0, .int .i64 0]
  have HNEW := Lib.hid (rnew_calls (w := (w.alloc (.cells #[.int .u8 0, .int .u32 0, .int .u8 0, .int .u32 0, .int .u32 0, .int .u32 0, .int .u32 0, .int .u64 0, .slice none 0 0, .slice none 0 0, .int .u8 0, .int .u8 0, .int .u8 0, .int .u8 0, .int .u8 0, .int .u8 0, .int .u8 0, .int .u8 0, .int .u32 0, .string ⟨#[]⟩, .int .u32 0, .int .u8 0, .int .u8 0, .int .u8 0, .int .u8 0, .int .u8 0, .int .u8 0, .int .u8 0, .int .u8 0, .int .u8 0, .int .u8 0] 53)).alloc (.cells #[.int .i64 0, .int .i64 0] 65)) b ab cb n hn (hr.keptNo K0) hl hc)
  clear hr e0
  go_enter Tryz.func31, Tryz.ntmps31
  go_wp2_with fail
  refine HNEW.out.mono ?_
  rintro _ w1 ⟨g, a, c, rfl, r1, k1, hg⟩
  have M1 := M0.kept k1 (fun h => h)
  have F1 := F0.kept k1 (fun h => h)
  have K1 := K0.trans k1 fun _ _ h => h
  have hs2 : ((w.alloc (.cells #[.int .u8 0, .int .u32 0, .int .u8 0, .int .u32 0, .int .u32 0, .int .u32 0, .int .u32 0, .int .u64 0, .slice none 0 0, .slice none 0 0, .int .u8 0, .int .u8 0, .int .u8 0, .int .u8 0, .int .u8 0, .int .u8 0, .int .u8 0, .int .u8 0, .int .u32 0, .string ⟨#[]⟩, .int .u32 0, .int .u8 0, .int .u8 0, .int .u8 0, .int .u8 0, .int .u8 0, .int .u8 0, .int .u8 0, .int .u8 0, .int .u8 0, .int .u8 0] 53)).alloc (.cells #[.int .i64 0, .int .i64 0] 65)).heap.size = w.heap.size + 2 := by rw [World.size_alloc, World.size_alloc]
  have hgw : w.heap.size + 2 ≤ g := hs2 ▸ hg
  clear HNEW M0 F0 k1 K0 hs2 hg
  have HBY := Lib.hid (rbyte_eq HB.out r1)
  have h1lt := M1.lt
  have f1lt := F1.lt
  have r1lt := r1.lt
  have g1lt := r1.box.lt
  go_wp2_with fail
  refine HBY.out.mono ?_
  rintro _ w2 ⟨rfl, k2, r2⟩
  have M2 := M1.kept k2 (show ¬ w.heap.size = g by omega)
  have F2 := F1.kept k2 (show ¬ w.heap.size + 1 = g by omega)
  have K2 : Kept No w w2 := K1.trans k2 fun q hq e => by have h0 : q = g := e; exact absurd hq (by omega)
  clear M1 F1 k2 K1 HBY
  have kk2 := (Kept.refl No w2).alloc (.cells (recv (zeroRec k) none 0 none 0).toArray 53)
  have D2 := Blk.new w2 53 (recv (zeroRec k) none 0 none 0)
  have c3 := D2.cell 0
  have M3 := M2.kept kk2 (fun h => h)
  have F3 := F2.kept kk2 (fun h => h)
  have R3 := r2.keptNo kk2
  have K3 := K2.trans kk2 fun _ _ h => h
  have hfone : ∀ y f : Nat, ∀ u ∈ [Value.int .i64 (y : Int), .int .i64 (f : Int)], u.oneCell' = true := fun y f u hu => by
    simp only [List.mem_cons, List.not_mem_nil, or_false] at hu; rcases hu with rfl | rfl <;> rfl
  have n52 : ¬ w2.heap.size = g := by have := r2.box.lt; omega
  have hq := fun (w : World) (a : Option Addr) (n c : Nat) => Lib.run_eql_slice_nil (P := Tryz.prog) w 91 3 a n c 0 0 Tryz.cu_ints
  have hF2fit : 0 + 2 ≤ [Value.int .i64 0, .int .i64 0].length := by decide
  have hone3 : ∀ u ∈ [Value.int .i64 3, .int .i64 0], u.oneCell' = true := hfone 3 0
  have hone0 : ∀ u ∈ [Value.int .i64 0, .int .i64 0], u.oneCell' = true := hfone 0 0
  by_cases hx : b ≠ [] ∧ rdx k = []
  · obtain ⟨hb0, hx⟩ := hx
    have HE := Lib.hid (show rDec b = (zeroRec 0, 3, 0) by rw [HD.out]; unfold rGo; rw [if_pos (HB1.out hb0), if_pos hx])
    have hnp : (0 : Int) < n := by have := List.length_pos_iff.2 hb0; omega
    have HF := Lib.hid (fun w => rfields_none (w := w) k hx)
    have F6 := fun cs => F3.kept ((Kept.refl (· = w.heap.size) _).setRow (fun _ => rfl) cs) (show ¬ w.heap.size + 1 = w.heap.size by omega)
    clear hx hb0 HB0 HB1 HD HB
    go_wp2_with (first
      | (with_reducible refine wpList_build rfl 53 _ rfl #[(0, .int .u8 k)] (by simp only [List.map_toArray, List.map_cons, List.map_nil]; rfl) (.agg (recv (zeroRec k) none 0 none 0).toArray) (hbk _) ?_)
      | (with_reducible refine wpList_st_last rfl 53 _ _ rfl 31 Tryz.sizeOf53 _ rfl rfl (recv (zeroRec k) none 0 none 0) rfl hk31 _ _ rfl hkone ?_)
      | (go_at_call 46; refine (HF.out _).mono ?_; rintro _ _ ⟨rfl, rfl⟩)
      | (with_reducible refine wpList_build rfl 53 _ rfl #[] (by simp) (.agg (recv (zeroRec 0) none 0 none 0).toArray) (hbz _) ?_)
      | (with_reducible refine wpList_st rfl 53 (.tmp 2) _ rfl 31 Tryz.sizeOf53 w.heap.size 0 rfl (recv (zeroRec 0) none 0 none 0) rfl hz31 _ _ M3 hzfit hzone ?_)
      | (with_reducible refine wpList_st rfl 65 (.tmp 3) _ rfl 2 Tryz.sizeOf65 (w.heap.size + 1) 0 rfl [.int .i64 3, .int .i64 0] rfl rfl _ _ (F6 _) hF2fit hone3 ?_))
    obtain ⟨y1, y2⟩ := fin_two M3 F3 (xs := (recv (zeroRec 0) none 0 none 0)) (ys := [.int .i64 3, .int .i64 0]) hz31 rfl
    refine bodyPost_ret (v := .tuple #[.agg (recv (zeroRec 0) none 0 none 0).toArray, .agg ([.int .i64 3, .int .i64 0] : List Value).toArray]) (by rw [results_row2 _ Tryz.results31 _ Tryz.isAgg53 31 Tryz.sizeOf53 w.heap.size rfl _ hz31 y1 Tryz.isAgg65 2 Tryz.sizeOf65 (w.heap.size + 1) rfl _ rfl y2]) rfl ?_
    exact rdec_err HE.out (fin_kept K3 rfl _ _)
  have HD3 := Lib.hid (show rDec b = rFin (rfGets (rfx k) (zeroRec k, s0)) by
    rw [HD.out, rfGets_eq]
    unfold rGo
    by_cases hb0 : b = []
    · obtain ⟨rfl, hw0⟩ := HB0.out hb0
      rw [if_neg hw0]
      have h1 : Re.gets (rdx 0) (zeroRec 0, s0) = (zeroRec 0, s0) := rfl
      have h2 : s0.end_ = s0 := by unfold PR.end_ PR.left; rw [if_neg hw0, if_neg (by decide)]
      rw [h1]
      unfold rFin
      rw [h2, if_neg hw0]
    · have hne : rdx k ≠ [] := fun h => hx ⟨hb0, h⟩
      rw [if_pos (HB1.out hb0), if_neg hne])
  have HF := Lib.hid (fun w => rfields_calls (w := w) k)
  go_upto_region 3 with (first
    | (with_reducible refine wpList_build rfl 53 _ rfl #[(0, .int .u8 k)] (by simp only [List.map_toArray, List.map_cons, List.map_nil]; rfl) (.agg (recv (zeroRec k) none 0 none 0).toArray) (hbk _) ?_)
    | (with_reducible refine wpList_st_last rfl 53 _ _ rfl 31 Tryz.sizeOf53 _ rfl rfl (recv (zeroRec k) none 0 none 0) rfl hk31 _ _ rfl hkone ?_))
  simp only [Act.put]
  go_cut [22] (fun s22 wx => s22 = .bool false ∧ Kept No (w2.alloc (.cells (recv (zeroRec k) none 0 none 0).toArray 53)) wx)
  case first =>
    by_cases hb0 : b = []
    · have hn0 : n = 0 := by rw [← hn, hb0]; rfl
      subst hn0
      clear hb0 hx HD3 HD HB HB0 HB1
      go_wp2
      all_goals
        go_meet
        exact ⟨rfl, Kept.refl _ _⟩
    · have hne : rdx k ≠ [] := fun h => hx ⟨hb0, h⟩
      have hnp : (0 : Int) < n := by have := List.length_pos_iff.2 hb0; omega
      have HFS := Lib.hid (fun w => rfields_some (w := w) k hne)
      clear hb0 hx HD3 HD HB HB0 HB1 hne
      go_wp2_with (go_at_call 46; refine (HFS.out _).mono ?_; rintro _ _ ⟨rfl, rfl⟩)
      all_goals
        go_meet
        exact ⟨rfl, (Kept.refl No _).alloc _⟩
  case rest =>
    obtain ⟨rfl, kc⟩ := hcut
    have M4 := M3.kept kc (fun h => h)
    have F4 := F3.kept kc (fun h => h)
    have R4 := R3.keptNo kc
    have D4 := D2.kept kc (fun h => h)
    have K4 := K3.trans kc fun _ _ h => h
    have c4 := D4.cell 0
    have hclt := D4.lt
    clear M3 F3 R3 D2 K3 kc c3 kk2 HB HB0 HB1 HD hx M2 F2 K2
    have w2lt : w2.heap.size < (w2.alloc (.cells (recv (zeroRec k) none 0 none 0).toArray 53)).heap.size := by rw [World.size_alloc]; exact Nat.lt_succ_self _
    have glt := r2.box.lt
    have a5 : ∀ q, At a q → q ≠ w2.heap.size := fun q hq e => by have := r2.lt q hq; omega
    have A5 := Lib.hid a5
    have hbig : w.heap.size + 1 < w2.heap.size := by have := r2.box.lt; omega
    clear a5 r2 r1 hq
    have h8 : (rfx k).length ≤ 8 := by
      rcases rdx_cases k with h | h | h | h | h | h | h | h
      · rw [rfx_nil h]; decide
      all_goals subst h; decide
    have h8' : ((rfx k).length : Int) ≤ 8 := by omega
    go_wp2_with (go_at_call 46; refine (HF.out _).mono ?_; rintro _ w4 ⟨af, rfl, rf, k4, lf, _⟩)
    have M5 := M4.kept k4 (fun h => h)
    have F5 := F4.kept k4 (fun h => h)
    have R5 := R4.keptNo k4
    have D5 := D4.kept k4 (fun h => h)
    have K5 := K4.trans k4 fun _ _ h => h
    have hbw := D5.lt
    have hgw5 := R5.box.lt
    have haf : ∀ q, At af q → q ≠ w2.heap.size ∧ q ≠ g := fun q hq => by have := (lf q hq).1; omega
    have n25 : w2.heap.size ≠ g := n52
    clear M4 F4 R4 D4 K4 c4 lf HF k4
    go_loopw [7, 29] (fun _ i wr => DeRel w4 w2.heap.size g k s0 a c af i wr) (fun _ i _ => (rfx k).length - (intOf i).toNat)
    case atStart => exact ⟨0, none, 0, none, 0, (zeroRec k, s0), Nat.zero_le _, rfl, rfl, R5, D5, rf, Kept.refl _ _, ⟨Owns.nil _ _ _, fun q ⟨_, _, e, _⟩ => nomatch e⟩, ⟨Owns.nil _ _ _, fun q ⟨_, _, e, _⟩ => nomatch e⟩, zeroRec_gd k hk, .inr ⟨rfl, rfl, rfl⟩⟩
    case round =>
      clear R5 D5 rf
      obtain ⟨j, aw, cw, am, cm, X, hj, rfl, hX, r5, b5, rf, k5, ow, ou, gd, h5⟩ := hrel
      by_cases hlt : j < (rfx k).length
      · have i1 : (j : Int) < (rfx k).length := by omega
        have i0 : (0 : Int) ≤ j := by omega
        obtain ⟨x, hxx⟩ : ∃ x, (rfx k)[j] = x := ⟨_, rfl⟩
        have hx8 := rfx_lt k x (hxx ▸ List.getElem_mem hlt)
        obtain ⟨bb, oo, rfl, hcx⟩ := rf j (.int .i64 x) (by simp [icells, hlt, hxx])
        have HC := Lib.hid (rgetf_calls r5 b5 gd.wf gd.many n25 A5.out x hx8 (fun h => (h5.resolve_left (by subst h; exact five_once hlt hxx))))
        have HST := Lib.hid (fun e w' hp => DeRel.step (w' := w') (e := e) (a := a) (c := c) hlt hxx hX hbw hgw5 haf rf k5 ow ou gd h5 hp)
        have HM := Lib.hid (show (rfx k).length - (j + 1) < (rfx k).length - j by omega)
        clear hX r5 b5 rf k5 ow ou gd h5 hxx hlt hj M5 F5 K5
        go_wp2_with (go_at_call 72; refine HC.out.mono ?_; intro e w6 hp; obtain ⟨rfl, hr6⟩ := HST.out _ _ hp)
        exact ⟨hr6, by have := HM.out; simp [intOf]; omega⟩
      · obtain rfl : (rfx k).length = j := by omega
        rw [List.take_length] at hX
        rw [hX] at HD3
        clear hlt hj rf hX h5 haf
        have noff : ∀ q, q < w.heap.size + 2 → ¬ (q = w2.heap.size ∨ q = g) := fun q hq e => by omega
        have M6 := M5.kept k5 (noff _ (by omega))
        have F6 := F5.kept k5 (noff _ (by omega))
        have K6 : Kept No w wr := K5.trans k5 fun q hq e => noff q (by omega) e
        have h4sz := K5.size
        have hbw4 := F5.lt
        have hnw := ow.new
        have hnm := ou.new
        have oW := ow.own
        have oU := ou.own
        have gaw : ∀ q, At aw q → ¬ q = g := fun q hq e => by have h1 := hnw q hq; omega
        have gam : ∀ q, At am q → ¬ q = g := fun q hq e => by have h1 := hnm q hq; omega
        have offw : ∀ q, At aw q → q ≠ w.heap.size ∧ q ≠ w.heap.size + 1 := fun q hq => by have h1 := hnw q hq; omega
        have offm : ∀ q, At am q → q ≠ w.heap.size ∧ q ≠ w.heap.size + 1 := fun q hq => by have h1 := hnm q hq; omega
        have waw : ∀ q, At aw q → w.heap.size ≤ q := fun q hq => Nat.le_trans h4sz (hnw q hq)
        have wam : ∀ q, At am q → w.heap.size ≤ q := fun q hq => Nat.le_trans h4sz (hnm q hq)
        clear M5 F5 K5 k5 ow ou hnw hnm noff h4sz hbw4
        by_cases hz : X.2.end_.why = 0
        case neg =>
          have HE := Lib.hid (show rDec b = (zeroRec 0, X.2.end_.why, X.2.end_.fat) by rw [HD3.out]; unfold rFin; rw [if_neg hz])
          have HEN := Lib.hid (rend_calls r5)
          have hne := neqFault X.2.end_.why X.2.end_.fat (PR.end_ok r5.ok).none
          rw [decide_eq_true (show ¬ X.2.end_.why = 0 from hz)] at hne
          have hfone := hfone X.2.end_.why X.2.end_.fat
          generalize X.2.end_.why = Y at *
          generalize X.2.end_.fat = F at *
          clear hz HD3
          go_wp2_with (go_at_call 73; refine HEN.out.mono ?_; rintro _ w6 ⟨rfl, k6, r6⟩)
          have M7' := M6.kept k6 (show ¬ w.heap.size = g by omega)
          have F7' := F6.kept k6 (show ¬ w.heap.size + 1 = g by omega)
          have K7 : Kept No w w6 := K6.trans k6 fun q hq e => by have h0 : q = g := e; exact absurd hq (by omega)
          have X4 := Blk.new w6 65 [.int .i64 (Y : Nat), .int .i64 (F : Nat)]
          have h3lt := M7'.lt
          have f3lt := F7'.lt
          have M7 : Blk (w6.alloc (.cells #[.int .i64 (Y : Nat), .int .i64 (F : Nat)] 65)).drew w.heap.size 53 (recv (zeroRec 0) none 0 none 0) := M7'.alloc _
          have F7 : Blk (w6.alloc (.cells #[.int .i64 (Y : Nat), .int .i64 (F : Nat)] 65)).drew (w.heap.size + 1) 65 [.int .i64 0, .int .i64 0] := F7'.alloc _
          have X5 : Blk (w6.alloc (.cells #[.int .i64 (Y : Nat), .int .i64 (F : Nat)] 65)).drew w6.heap.size 65 [.int .i64 (Y : Nat), .int .i64 (F : Nat)] := X4
          have K9 := K7.alloc (.cells #[.int .i64 (Y : Nat), .int .i64 (F : Nat)] 65)
          have hF0 := X5.seg0
          have X6 := fun cs => X5.kept ((Kept.refl (· = w.heap.size) _).setRow (fun _ => rfl) cs) (show ¬ w6.heap.size = w.heap.size by omega)
          have F9 := fun cs => F7.kept ((Kept.refl (· = w.heap.size) _).setRow (fun _ => rfl) cs) (show ¬ w.heap.size + 1 = w.heap.size by omega)
          have X7 := fun cs ds => (X6 cs).kept ((Kept.refl (· = w.heap.size + 1) _).setRow (fun _ => rfl) ds) (show ¬ w6.heap.size = w.heap.size + 1 by omega)
          refine wp_region_held_drew (S := fun w' => Seg w' w6.heap.size 0 [.int .i64 (Y : Nat), .int .i64 (F : Nat)]) (by kernel_rfl) (hF0) (fun hHeld => ?_)
          refine wpAnyH_take (i := 0) (oi := _) (v := ?_) rfl (by kernel_rfl) (by kernel_rfl) (by kernel_rfl) (fun _ _ _ h => h) (Or.inl ⟨by rfl, ?_⟩) (by assumption) ?_
          rotate_left
          · intro wv hSw; refine build_val 53 ?ba1 ?bb1 #[] ?bc1 (.agg (recv (zeroRec 0) none 0 none 0).toArray) (hbz wv); (case bb1 => rfl); (case bc1 => simp)
          (try simp only [List.getElem_toArray, List.getElem_cons_zero, Act.put, List.setIfInBounds_toArray, List.set_cons_zero, List.set_cons_succ])
          refine wpAnyH_take (i := 1) (oi := _) (v := ?_) rfl (by kernel_rfl) (by kernel_rfl) (by kernel_rfl) (fun _ _ _ h => h) (Or.inl ⟨by rfl, ?_⟩) (by assumption) ?_
          rotate_left
          · intro wv hSw; refine ld_val 65 ?lx1 ?l11 Tryz.isAgg65 2 Tryz.sizeOf65 w6.heap.size 0 ?l21 [.int .i64 (Y : Nat), .int .i64 (F : Nat)] rfl (hSw); (case l11 => rfl); (case l21 => rfl)
          (try simp only [List.getElem_toArray, List.getElem_cons_zero, List.getElem_cons_succ, Act.put, List.setIfInBounds_toArray, List.set_cons_zero, List.set_cons_succ])
          refine wpAnyH_ready (rs := [2]) (by kernel_rfl) (by simp) ?_
          refine AllReadyH.cons (o := _) rfl (fun K hK => ?_) AllReadyH.nil
          rw [if_pos (by rfl)]
          refine wp_st 53 ?sa1 ?sb1 ?sc1 31 Tryz.sizeOf53 w.heap.size 0 ?sd1 (recv (zeroRec 0) none 0 none 0) ?se1 hz31 _ _ M7 hzfit hzone ?_; (case sc1 => rfl); (case sd1 => rfl); (case se1 => rfl)
          refine hK.out _ _ ((X6 _).seg0) (fun hHeld => ?_)
          clear hK K
          (try simp only [List.getElem_toArray, List.getElem_cons_zero, List.getElem_cons_succ, Act.put])
          refine wpAnyH_ready (rs := [3]) (by kernel_rfl) (by simp) ?_
          refine AllReadyH.cons (o := _) rfl (fun K hK => ?_) AllReadyH.nil
          rw [if_pos (by rfl)]
          refine wp_st 65 ?ta1 ?tb1 ?tc1 2 Tryz.sizeOf65 (w.heap.size + 1) 0 ?td1 [.int .i64 (Y : Nat), .int .i64 (F : Nat)] ?te1 rfl _ _ (F9 _) (by decide) hfone ?_; (case tc1 => rfl); (case td1 => rfl); (case te1 => rfl)
          refine hK.out _ _ ((X7 _ _).seg0) (fun hHeld => ?_)
          clear hK K
          (try simp only [List.getElem_toArray, List.getElem_cons_zero, List.getElem_cons_succ, Act.put])
          refine wpAnyH_done (by kernel_rfl) ?_ _
          go_wp2
          obtain ⟨y1, y2⟩ := fin_two M7 F7 (xs := (recv (zeroRec 0) none 0 none 0)) (ys := [.int .i64 (Y : Nat), .int .i64 (F : Nat)]) hz31 rfl
          refine bodyPost_ret (v := .tuple #[.agg (recv (zeroRec 0) none 0 none 0).toArray, .agg ([.int .i64 (Y : Nat), .int .i64 (F : Nat)] : List Value).toArray]) (by rw [results_row2 _ Tryz.results31 _ Tryz.isAgg53 31 Tryz.sizeOf53 w.heap.size rfl _ hz31 y1 Tryz.isAgg65 2 Tryz.sizeOf65 (w.heap.size + 1) rfl _ rfl y2]) rfl ?_
          exact rdec_err HE.out (fin_kept K9.drew rfl _ _)
        case pos =>
          have HEN : Hid (Calls Tryz.prog 73 #[.pointer (some ⟨g, 0, none⟩)] wr fun e w' => e = .returned (.agg #[.int .i64 0, .int .i64 0]) ∧ Kept (· = g) wr w' ∧ Rdr w' g X.2.end_ a c) := by
            have h := rend_calls r5
            rw [hz, (PR.end_ok r5.ok).none hz] at h
            exact h
          have hne := neqFault 0 0 fun _ => rfl
          rw [decide_eq_false (fun h => h rfl)] at hne
          have l31 := recv_length gd.wf aw cw am cm
          have hmone := recv_one X.1 aw cw am cm
          have HMM := Lib.hid (fun (W : World) h1 h2 h3 h4 => rMay_calls (w := W) (aw := aw) (cw := cw) (am := am) (cm := cm) X.1 gd.wf gd.sm h1 h2 h3 h4)
          cases hmm : rMay X.1
          · have HE := Lib.hid (show rDec b = (zeroRec 0, 3, 0) by rw [HD3.out]; unfold rFin; rw [if_pos hz, hmm, if_neg (by decide)])
            rw [hmm] at HMM
            clear hz HD3 hmm
            go_wp2_with (first
              | (go_at_call 73; refine HEN.out.mono ?_; rintro _ w6 ⟨rfl, k6, r6⟩; have b7 := (b5.kept k6 n52).alloc (.cells #[.int .i64 0, .int .i64 0] 65); have s7 := b7.seg0; have o7 := (oW.kept k6 gaw).keptNo ((Kept.refl No w6).alloc (.cells #[.int .i64 0, .int .i64 0] 65)); have u7 := (oU.kept k6 gam).keptNo ((Kept.refl No w6).alloc (.cells #[.int .i64 0, .int .i64 0] 65)); have M7 := (M6.kept k6 (show ¬ w.heap.size = g by omega)).alloc (.cells #[.int .i64 0, .int .i64 0] 65); have F7 := (F6.kept k6 (show ¬ w.heap.size + 1 = g by omega)).alloc (.cells #[.int .i64 0, .int .i64 0] 65))
              | (with_reducible refine wpList_ld rfl 53 (.tmp 5) rfl Tryz.isAgg53 31 Tryz.sizeOf53 w2.heap.size 0 rfl (recv X.1 aw cw am cm) l31 s7 ?_)
              | (go_at_call 27; refine (HMM.out _ o7.rd u7.rd o7.lt u7.lt).mono ?_; rintro _ w8 ⟨rfl, k8⟩; have M8 := M7.kept k8 (fun h => h); have F8 := F7.kept k8 (fun h => h); have F9 := fun cs => F8.kept ((Kept.refl (· = w.heap.size) _).setRow (fun _ => rfl) cs) (show ¬ w.heap.size + 1 = w.heap.size by omega))
              | (with_reducible refine wpList_build rfl 53 _ rfl #[] (by simp) (.agg (recv (zeroRec 0) none 0 none 0).toArray) (hbz _) ?_)
              | (with_reducible refine wpList_st rfl 53 (.tmp 2) _ rfl 31 Tryz.sizeOf53 w.heap.size 0 rfl (recv (zeroRec 0) none 0 none 0) rfl hz31 _ _ M8 hzfit hzone ?_)
              | (with_reducible refine wpList_st rfl 65 (.tmp 3) _ rfl 2 Tryz.sizeOf65 (w.heap.size + 1) 0 rfl [.int .i64 3, .int .i64 0] rfl rfl _ _ (F9 _) hF2fit hone3 ?_))
            have K7 : Kept No w w6 := K6.trans k6 fun q hq e => by have h0 : q = g := e; exact absurd hq (by omega)
            have K8 := (K7.alloc (.cells #[.int .i64 0, .int .i64 0] 65)).trans k8 fun _ _ h => h
            obtain ⟨y1, y2⟩ := fin_two M8 F8 (xs := (recv (zeroRec 0) none 0 none 0)) (ys := [.int .i64 3, .int .i64 0]) hz31 rfl
            refine bodyPost_ret (v := .tuple #[.agg (recv (zeroRec 0) none 0 none 0).toArray, .agg ([.int .i64 3, .int .i64 0] : List Value).toArray]) (by rw [results_row2 _ Tryz.results31 _ Tryz.isAgg53 31 Tryz.sizeOf53 w.heap.size rfl _ hz31 y1 Tryz.isAgg65 2 Tryz.sizeOf65 (w.heap.size + 1) rfl _ rfl y2]) rfl ?_
            exact rdec_err HE.out (fin_kept K8 rfl _ _)
          · have HE := Lib.hid (show rDec b = (X.1, 0, 0) by rw [HD3.out]; unfold rFin; rw [if_pos hz, hmm, if_pos rfl])
            rw [hmm] at HMM
            clear hz HD3 hmm
            go_wp2_with (first
              | (go_at_call 73; refine HEN.out.mono ?_; rintro _ w6 ⟨rfl, k6, r6⟩; have b7 := (b5.kept k6 n52).alloc (.cells #[.int .i64 0, .int .i64 0] 65); have s7 := b7.seg0; have o7 := (oW.kept k6 gaw).keptNo ((Kept.refl No w6).alloc (.cells #[.int .i64 0, .int .i64 0] 65)); have u7 := (oU.kept k6 gam).keptNo ((Kept.refl No w6).alloc (.cells #[.int .i64 0, .int .i64 0] 65)); have M7 := (M6.kept k6 (show ¬ w.heap.size = g by omega)).alloc (.cells #[.int .i64 0, .int .i64 0] 65); have F7 := (F6.kept k6 (show ¬ w.heap.size + 1 = g by omega)).alloc (.cells #[.int .i64 0, .int .i64 0] 65))
              | (with_reducible refine wpList_ld rfl 53 (.tmp 5) rfl Tryz.isAgg53 31 Tryz.sizeOf53 w2.heap.size 0 rfl (recv X.1 aw cw am cm) l31 s7 ?_)
              | (go_at_call 27; refine (HMM.out _ o7.rd u7.rd o7.lt u7.lt).mono ?_; rintro _ w8 ⟨rfl, k8⟩; have M8 := M7.kept k8 (fun h => h); have F8 := F7.kept k8 (fun h => h); have s8 := (b7.kept k8 (fun h => h)).seg0; have F9 := fun cs => F8.kept ((Kept.refl (· = w.heap.size) _).setRow (fun _ => rfl) cs) (show ¬ w.heap.size + 1 = w.heap.size by omega))
              | (with_reducible refine wpList_ld rfl 53 (.tmp 5) rfl Tryz.isAgg53 31 Tryz.sizeOf53 w2.heap.size 0 rfl (recv X.1 aw cw am cm) l31 s8 ?_)
              | (with_reducible refine wpList_st rfl 53 (.tmp 2) _ rfl 31 Tryz.sizeOf53 w.heap.size 0 rfl (recv X.1 aw cw am cm) rfl l31 _ _ M8 hzfit hmone ?_)
              | (with_reducible refine wpList_st rfl 65 (.tmp 3) _ rfl 2 Tryz.sizeOf65 (w.heap.size + 1) 0 rfl [.int .i64 0, .int .i64 0] rfl rfl _ _ (F9 _) hF2fit hone0 ?_))
            have K7 : Kept No w w6 := K6.trans k6 fun q hq e => by have h0 : q = g := e; exact absurd hq (by omega)
            have K8 := (K7.alloc (.cells #[.int .i64 0, .int .i64 0] 65)).trans k8 fun _ _ h => h
            obtain ⟨y1, y2⟩ := fin_two M8 F8 (xs := recv X.1 aw cw am cm) (ys := [.int .i64 0, .int .i64 0]) (l31.trans hz31.symm) rfl
            refine bodyPost_ret (v := .tuple #[.agg (recv X.1 aw cw am cm).toArray, .agg ([.int .i64 0, .int .i64 0] : List Value).toArray]) (by rw [results_row2 _ Tryz.results31 _ Tryz.isAgg53 31 Tryz.sizeOf53 w.heap.size rfl _ l31 y1 Tryz.isAgg65 2 Tryz.sizeOf65 (w.heap.size + 1) rfl _ rfl y2]) rfl ?_
            have own9 : Owns _ 69 21 aw X.1.writes.length cw (pwsv X.1.writes) := (o7.keptNo k8)
            have o9 := (own9.kept ((Kept.refl (· = w.heap.size) _).setRow (fun _ => rfl) (splice (recv (zeroRec 0) none 0 none 0) 0 (recv X.1 aw cw am cm)).toArray) (fun q hq e => (offw q hq).1 e)).kept ((Kept.refl (· = w.heap.size + 1) _).setRow (fun _ => rfl) (splice [.int .i64 0, .int .i64 0] 0 [.int .i64 0, .int .i64 0]).toArray) (fun q hq e => (offw q hq).2 e)
            have own8 : Owns _ 47 1 am X.1.missing.length cm (ucells X.1.missing) := (u7.keptNo k8)
            have u9 := (own8.kept ((Kept.refl (· = w.heap.size) _).setRow (fun _ => rfl) (splice (recv (zeroRec 0) none 0 none 0) 0 (recv X.1 aw cw am cm)).toArray) (fun q hq e => (offm q hq).1 e)).kept ((Kept.refl (· = w.heap.size + 1) _).setRow (fun _ => rfl) (splice [.int .i64 0, .int .i64 0] 0 [.int .i64 0, .int .i64 0]).toArray) (fun q hq e => (offm q hq).2 e)
            unfold RDecPost
            rw [HE.out]
            exact ⟨aw, cw, am, cm, rfl, o9, u9, waw, wam, fin_kept K8 rfl _ _, gd⟩
end
end Go.Proofs.YtjfmidcaekhhgaaGreatDoor
