/- The law AvailRise, as a walk. PRINTED by wip/tools/gen_avrise.py. -/
import Derived.Test.YtencnfgmgcdiiaaAvAll
import Derived.Test.YtencnfgmgcdiiaaAvRiseP
namespace Go.Proofs.Ytencnfgmgcdiiaa
open Go.RowKit Go.PM

/-- A row of eight whose first i places are told by f. -/
def rowTo (f : Nat → Nat) : Nat → List UInt8
  | 0 => zero8
  | i + 1 => (rowTo f i).set i (UInt8.ofNat (f i))
@[simp] theorem rowTo_length (f : Nat → Nat) (i : Nat) : (rowTo f i).length = 8 := by
  induction i with
  | zero => rfl
  | succ i ih => rw [rowTo, List.length_set, ih]
theorem zero8_vs (j : Nat) : vsOf zero8 j = 0 := by
  unfold vsOf zero8
  rw [List.getD_eq_getElem?_getD, List.getElem?_replicate]
  split <;> rfl
theorem rowTo_vs (f : Nat → Nat) (hf : ∀ k, f k < 256) (i j : Nat) (hi : i ≤ 8) : vsOf (rowTo f i) j = if j < i then f j else 0 := by
  induction i with
  | zero => rw [rowTo, zero8_vs]; rfl
  | succ i ih =>
    rw [rowTo, vs_set _ _ _ _ (by rw [rowTo_length]; omega), ih (by omega)]
    by_cases h : i = j
    · subst h
      rw [if_pos rfl, if_pos (by omega), UInt8.toNat_ofNat']
      exact Nat.mod_eq_of_lt (hf i)
    · rw [if_neg h]
      by_cases h2 : j < i
      · rw [if_pos h2, if_pos (by omega)]
      · rw [if_neg h2, if_neg (by omega)]
theorem rowTo_ok (f : Nat → Nat) (hf : ∀ k, f k ≤ 100) : upOk (rowTo f 8) = true := by
  have h := (mx_upOk (rowTo f 8) (rowTo_length f 8)).1
  apply h
  rw [mxTo_le]
  intro j _
  rw [rowTo_vs f (fun k => by have := hf k; omega) 8 j (by omega)]
  split
  · exact hf j
  · omega
theorem rowTo_cells (f : Nat → Nat) (hf : ∀ k, f k < 256) (i : Nat) : (bcells (rowTo f i)).set i (.int .u8 (f i : Nat)) = bcells (rowTo f (i + 1)) := by
  rw [rowTo]
  simp only [bcells, List.map_set]
  rw [UInt8.toNat_ofNat', Nat.mod_eq_of_lt (hf i)]

def loOf (a b : List UInt8) (k : Nat) : Nat := min (vsOf a k % 101) (vsOf b k % 101)
def hiOf (a b : List UInt8) (k : Nat) : Nat := max (vsOf a k % 101) (vsOf b k % 101)
theorem avOften_T (l u : List UInt8) (want : Nat) : avOften (vsOf l) (vsOf u) want 256 = avT (vsOf l) (vsOf u) 8 want := by
  rw [← avOften_tail, avCnt_tail, avT_sum]
theorem rd_of (e r v : Nat) (l u : List UInt8) (want : Nat) (hm : avMay e r v l = true) (hu : upOk u = true) : rdOf e r v l u want = (avT (vsOf l) (vsOf u) 8 want, 0) := by
  unfold rdOf
  rw [if_pos hu, if_pos hm, avOften_T]
/-- What the law asks of the four. -/
theorem rise_of (l a b : List UInt8) (want : Nat) (h1 : 1 ≤ want) (h2 : want ≤ avOf (vsOf l) 8 255) :
    avT (vsOf l) (vsOf (rowTo (loOf a b) 8)) 8 want ≤ avT (vsOf l) (vsOf (rowTo (hiOf a b) 8)) 8 want ∧ avT (vsOf l) (vsOf (rowTo (hiOf a b) 8)) 8 want ≤ 10000000000000000 ∧
    avT (vsOf l) (vsOf (rowTo (fun _ => 100) 8)) 8 want = 10000000000000000 ∧ avT (vsOf l) (vsOf zero8) 8 want = 0 := by
  have lo : ∀ k, loOf a b k ≤ 100 := fun k => by unfold loOf; omega
  have hi : ∀ k, hiOf a b k ≤ 100 := fun k => by unfold hiOf; omega
  have vl := fun j => rowTo_vs (loOf a b) (fun k => by have := lo k; omega) 8 j (Nat.le_refl _)
  have vh := fun j => rowTo_vs (hiOf a b) (fun k => by have := hi k; omega) 8 j (Nat.le_refl _)
  have vc := fun j => rowTo_vs (fun _ => 100) (fun k => by omega) 8 j (Nat.le_refl _)
  have hp : 100 ^ 8 = 10000000000000000 := by decide
  refine ⟨?_, ?_, ?_, ?_⟩
  · apply avT_mono
    · intro k; rw [vl, vh]; split
      · unfold loOf hiOf; omega
      · omega
    · intro k; rw [vh]; split
      · exact hi k
      · omega
  · rw [← hp]
    apply avT_le
    intro k; rw [vh]; split
    · exact hi k
    · omega
  · rw [← hp]
    apply avT_all
    · intro k hk; rw [vc, if_pos hk]
    · exact h2
  · apply avT_none
    · intro k _; exact zero8_vs k
    · omega

section
variable {w : World}

structure RiRel (wo : World) (a b : List UInt8) (B : Nat) (i : Value) (wr : World) (k : Nat) : Prop where
  le : k ≤ 8
  i : i = .int .i64 k
  kept : Kept (fun x => B ≤ x) wo wr
  lo : Blk wr B 47 (bcells (rowTo (loOf a b) k))
  hi : Blk wr (B + 1) 47 (bcells (rowTo (hiOf a b) k))
  all : Blk wr (B + 1 + 1) 47 (bcells (rowTo (fun _ => 100) k))
  none : Blk wr (B + 1 + 1 + 1) 47 (bcells zero8)
def RiRel' (wo : World) (a b : List UInt8) (B : Nat) (i : Value) (wr : World) : Prop := ∃ k, RiRel wo a b B i wr k
def RoRel (w ws : World) (i : Value) (wr : World) : Prop :=
  ∃ k : Int, (k = 0 ∨ k = 1 ∨ k = 2) ∧ i = .int .i64 k ∧ Kept No ws wr ∧ Kept No w wr

set_option maxRecDepth 100000 in
set_option maxHeartbeats 8000000 in
theorem availRise_calls (e r v : Nat) (l a b : List UInt8) (hl : l.length = 8) (ha : a.length = 8) (hb : b.length = 8) (he : e < 4294967296) (hr : r < 256) (hv : v < 256) :
    Calls Try.prog 6 #[.agg (cfgc e r v l).toArray, .agg (bcells a).toArray, .agg (bcells b).toArray] w fun x w' => x = .returned (.bool true) ∧ Kept No w w' := by
  have B0 := ((Blk.new w 49 (cfgc e r v l)).alloc (.cells (bcells a).toArray 47)).alloc (.cells (bcells b).toArray 47)
  have B1 := (Blk.new' (w := w.alloc (.cells (cfgc e r v l).toArray 49)) (g := w.heap.size + 1) (by rw [World.size_alloc]) 47 (bcells a)).alloc (.cells (bcells b).toArray 47)
  have B2 := Blk.new' (w := (w.alloc (.cells (cfgc e r v l).toArray 49)).alloc (.cells (bcells a).toArray 47)) (g := w.heap.size + 1 + 1) (by simp) 47 (bcells b)
  have K0 := (((Kept.refl No w).alloc (.cells (cfgc e r v l).toArray 49)).alloc (.cells (bcells a).toArray 47)).alloc (.cells (bcells b).toArray 47)
  obtain ⟨c0, c1, c2, c3, c4, c5, c6, c7, c8, c9, c10⟩ := cfg_cells B0 hl
  have h3 := fun w => alive_calls (w := w)
  have H3 := Lib.hid h3
  clear h3
  cases hM : avMay e r v l
  case false =>
    have h2 := fun w => refMay_calls (w := w) e r v l hl he hr hv
    rw [hM] at h2
    have H2 := Lib.hid h2
    clear h2 hM
    go_enter Try.func6, Try.ntmps6
    go_wp2_with fail
    rw [cfg_eq e r v l hl]
    refine (H2.out _).mono ?_
    rintro _ w2 ⟨rfl, k2⟩
    have K2 := K0.trans k2 fun _ _ h => h
    clear c0 c1 c2 c3 c4 c5 c6 c7 c8 c9 c10
    go_wp2_with (go_at_call 23; refine (H3.out _).mono ?_; rintro _ w3 ⟨rfl, k3⟩)
    go_ret
    exact ⟨rfl, K2.trans k3 fun _ _ h => h⟩
  have hm := may_want hM
  have h2 := fun w => refMay_calls (w := w) e r v l hl he hr hv
  rw [hM] at h2
  have P1 := rise_of l a b r hm.1 hm.2.1
  have P2 := rise_of l a b v hm.2.2.1 hm.2.2.2
  have lo : ∀ k, loOf a b k ≤ 100 := fun k => by unfold loOf; omega
  have hi : ∀ k, hiOf a b k ≤ 100 := fun k => by unfold hiOf; omega
  have ul := rowTo_ok (loOf a b) lo
  have uh := rowTo_ok (hiOf a b) hi
  have uc := rowTo_ok (fun _ => 100) (fun _ => Nat.le_refl _)
  have uz : upOk zero8 = true := by decide
  have LO := Lib.hid lo
  have HI := Lib.hid hi
  have rl := fun w => reads_calls (w := w) e r v l (rowTo (loOf a b) 8) hl (rowTo_length _ _) he hr hv
  have rh := fun w => reads_calls (w := w) e r v l (rowTo (hiOf a b) 8) hl (rowTo_length _ _) he hr hv
  have rc := fun w => reads_calls (w := w) e r v l (rowTo (fun _ => 100) 8) hl (rowTo_length _ _) he hr hv
  have rz := fun w => reads_calls (w := w) e r v l zero8 hl rfl he hr hv
  have wl := fun w => writes_calls (w := w) e r v l (rowTo (loOf a b) 8) hl (rowTo_length _ _) he hr hv
  have wh := fun w => writes_calls (w := w) e r v l (rowTo (hiOf a b) 8) hl (rowTo_length _ _) he hr hv
  have wc := fun w => writes_calls (w := w) e r v l (rowTo (fun _ => 100) 8) hl (rowTo_length _ _) he hr hv
  have wz := fun w => writes_calls (w := w) e r v l zero8 hl rfl he hr hv
  simp only [rd_of e r v l _ _ hM ul, rd_of e r v l _ _ hM uh, rd_of e r v l _ _ hM uc, rd_of e r v l _ _ hM uz, P1.2.2.1, P1.2.2.2, P2.2.2.1, P2.2.2.2] at rl rh rc rz wl wh wc wz
  have p1 := P1.1
  have p2 := P1.2.1
  have p3 := P2.1
  have p4 := P2.2.1
  generalize avT (vsOf l) (vsOf (rowTo (loOf a b) 8)) 8 r = x1 at *
  generalize avT (vsOf l) (vsOf (rowTo (hiOf a b) 8)) 8 r = y1 at *
  generalize avT (vsOf l) (vsOf (rowTo (loOf a b) 8)) 8 v = x2 at *
  generalize avT (vsOf l) (vsOf (rowTo (hiOf a b) 8)) 8 v = y2 at *
  have q1 : (x1 : Int) ≤ y1 := by omega
  have q2 : (y1 : Int) ≤ 10000000000000000 := by omega
  have q3 : (x2 : Int) ≤ y2 := by omega
  have q4 : (y2 : Int) ≤ 10000000000000000 := by omega
  have H2 := Lib.hid h2
  have RL := Lib.hid rl
  have RH := Lib.hid rh
  have RC := Lib.hid rc
  have RZ := Lib.hid rz
  have WL := Lib.hid wl
  have WH := Lib.hid wh
  have WC := Lib.hid wc
  have WZ := Lib.hid wz
  clear h2 rl rh rc rz wl wh wc wz P1 P2 p1 p2 p3 p4 lo hi ul uh uc uz hm hM
  go_enter Try.func6, Try.ntmps6
  go_wp2_with fail
  rw [cfg_eq e r v l hl]
  refine (H2.out _).mono ?_
  rintro _ w1 ⟨rfl, k1⟩
  have C0 := B0.kept k1 id
  have C1 := B1.kept k1 id
  have C2 := B2.kept k1 id
  have K1 := K0.trans k1 fun _ _ h => h
  clear c0 c1 c2 c3 c4 c5 c6 c7 c8 c9 c10 B0 B1 B2 K0 k1
  go_wp2
  have hz : #[Value.int .u8 0, .int .u8 0, .int .u8 0, .int .u8 0, .int .u8 0, .int .u8 0, .int .u8 0, .int .u8 0] = (bcells zero8).toArray := rfl
  rw [hz]
  clear hz
  have hB1 := C2.lt
  have KA := ((((Kept.refl No w1).alloc (.cells (bcells zero8).toArray 47)).alloc (.cells (bcells zero8).toArray 47)).alloc (.cells (bcells zero8).toArray 47)).alloc (.cells (bcells zero8).toArray 47)
  have Z0 := (((Blk.new w1 47 (bcells zero8)).alloc (.cells (bcells zero8).toArray 47)).alloc (.cells (bcells zero8).toArray 47)).alloc (.cells (bcells zero8).toArray 47)
  have Z1 := ((Blk.new' (w := w1.alloc (.cells (bcells zero8).toArray 47)) (g := w1.heap.size + 1) (by simp) 47 (bcells zero8)).alloc (.cells (bcells zero8).toArray 47)).alloc (.cells (bcells zero8).toArray 47)
  have Z2 := (Blk.new' (w := (w1.alloc (.cells (bcells zero8).toArray 47)).alloc (.cells (bcells zero8).toArray 47)) (g := w1.heap.size + 1 + 1) (by simp) 47 (bcells zero8)).alloc (.cells (bcells zero8).toArray 47)
  have Z3 := Blk.new' (w := ((w1.alloc (.cells (bcells zero8).toArray 47)).alloc (.cells (bcells zero8).toArray 47)).alloc (.cells (bcells zero8).toArray 47)) (g := w1.heap.size + 1 + 1 + 1) (by simp) 47 (bcells zero8)
  have D0 := C0.kept KA id
  have D1 := C1.kept KA id
  have D2 := C2.kept KA id
  have K2 := K1.trans KA fun _ _ h => h
  have hwB := K1.size
  generalize hBB : w1.heap.size = B at *
  generalize hwo : (((w1.alloc (.cells (bcells zero8).toArray 47)).alloc (.cells (bcells zero8).toArray 47)).alloc (.cells (bcells zero8).toArray 47)).alloc (.cells (bcells zero8).toArray 47) = wo at *
  clear hBB hwo C0 C1 C2 K1 KA
  have n0 : ¬ B ≤ w.heap.size := by omega
  have n1 : ¬ B ≤ w.heap.size + 1 := by omega
  have n2 : ¬ B ≤ w.heap.size + 1 + 1 := by omega
  go_loopw [28] (fun i wr => RiRel' wo a b B i wr) (fun i _ => 8 - (intOf i).toNat)
  case atStart => exact ⟨0, by omega, rfl, Kept.refl _ _, Z0, Z1, Z2, Z3⟩
  case round =>
    obtain ⟨k, hk, rfl, Kx, L0, L1, L2, L3⟩ := hrel
    have i0 : (0 : Int) ≤ k := by omega
    by_cases hlt : k < 8
    · have i1 : (k : Int) < 8 := by omega
      have ca := ((D1.kept Kx n1).cell k).trans (upcell a (by omega))
      have cb := ((D2.kept Kx n2).cell k).trans (upcell b (by omega))
      have v1 := vsOf_lt a k
      have v2 := vsOf_lt b k
      have e1 : loOf a b k = min (vsOf a k % 101) (vsOf b k % 101) := rfl
      have e2 : hiOf a b k = max (vsOf a k % 101) (vsOf b k % 101) := rfl
      have f1 := L0.frozen k
      have f2 := L1.frozen k
      have f3 := L2.frozen k
      have g1 := (L0.cell k).trans (upcell _ (by rw [rowTo_length]; omega))
      have g2 := (L1.cell k).trans (upcell _ (by rw [rowTo_length]; omega))
      have g3 := (L2.cell k).trans (upcell _ (by rw [rowTo_length]; omega))
      go_wp2
      go_quiet (fail)
      go_wp2
      have j1 : (if (vsOf b k : Int) % 101 < (vsOf a k : Int) % 101 then (vsOf b k : Int) % 101 else (vsOf a k : Int) % 101) = ((loOf a b k : Nat) : Int) := by
        rw [e1]; split <;> omega
      have j2 : (if (vsOf a k : Int) % 101 < (vsOf b k : Int) % 101 then (vsOf b k : Int) % 101 else (vsOf a k : Int) % 101) = ((hiOf a b k : Nat) : Int) := by
        rw [e2]; split <;> omega
      rw [j1, j2]
      refine ⟨⟨k + 1, by omega, by go_num, ?_, ?_, ?_, ?_, ?_⟩, by simp [intOf]; omega⟩
      · exact (((Kx.drewN nq).setCell (fun _ => Nat.le_refl _) _).setCell (fun _ => by show B ≤ B + 1; omega) _).setCell (fun _ => by show B ≤ B + 1 + 1; omega) _
      · rw [← rowTo_cells _ (fun k => by have := LO.out k; omega)]
        exact (((L0.drewN nq).set k _).setOther (by show B ≠ B + 1; omega) _).setOther (by show B ≠ B + 1 + 1; omega) _
      · rw [← rowTo_cells _ (fun k => by have := HI.out k; omega)]
        exact (((L1.drewN nq).setOther (by show B + 1 ≠ B; omega) _).set k _).setOther (by show B + 1 ≠ B + 1 + 1; omega) _
      · rw [← rowTo_cells _ (fun k => by omega)]
        exact (((L2.drewN nq).setOther (by show B + 1 + 1 ≠ B; omega) _).setOther (by show B + 1 + 1 ≠ B + 1; omega) _).set k (.int .u8 100)
      · exact (((L3.drewN nq).setOther (by show B + 1 + 1 + 1 ≠ B; omega) _).setOther (by show B + 1 + 1 + 1 ≠ B + 1; omega) _).setOther (by show B + 1 + 1 + 1 ≠ B + 1 + 1; omega) _
    · have hk8 : k = 8 := by omega
      have i1 : (8 : Int) ≤ k := by omega
      rw [hk8] at L0 L1 L2
      clear hk8
      have E0 := D0.kept Kx n0
      have K3 : Kept No w wr := K2.trans Kx (fun c hc hB => by omega)
      clear D0 D1 D2 K2 Kx hlt
      go_wp2
      have BG := Blk.new wr 58 [.func (.func 26) #[] #[], .func (.func 27) #[] #[]]
      have KA := (Kept.refl No wr).alloc (.cells #[.func (.func 26) #[] #[], .func (.func 27) #[] #[]] 58)
      have F0 := E0.kept KA id
      have F1 := L0.kept KA id
      have F2 := L1.kept KA id
      have F3 := L2.kept KA id
      have F4 := L3.kept KA id
      have K4 := K3.trans KA fun _ _ h => h
      generalize hgg : wr.heap.size = g at *
      generalize hws : wr.alloc (.cells #[.func (.func 26) #[] #[], .func (.func 27) #[] #[]] 58) = ws at *
      clear hgg hws E0 L0 L1 L2 L3 K3 KA
      go_loopw [54] (fun i wr => RoRel w ws i wr) (fun i _ => 2 - (intOf i).toNat)
      case atStart => exact ⟨0, .inl rfl, rfl, Kept.refl _ _, K4⟩
      case round =>
      obtain ⟨k, hk, rfl, Kw, Kt⟩ := hrel
      have E0 := F0.kept Kw id
      have M0 := F1.kept Kw id
      have M1 := F2.kept Kw id
      have M2 := F3.kept Kw id
      have M3 := F4.kept Kw id
      have G0 := (BG.kept Kw id).cell 0
      have G1 := (BG.kept Kw id).cell 1
      simp only [List.getElem?_cons_succ, List.getElem?_cons_zero] at G0 G1
      rcases hk with rfl | rfl | rfl
      · have hfun := G0
        clear G0 G1
        obtain ⟨c0, c1, c2, c3, c4, c5, c6, c7, c8, c9, c10⟩ := cfg_cells E0 hl
        obtain ⟨d0, d1, d2, d3, d4, d5, d6, d7⟩ := up_cells M0 (rowTo_length _ _)
        go_wp2_with fail
        rw [cfg_eq e r v l hl, up_eq _ (rowTo_length _ _)]
        refine (RL.out _).mono ?_
        rintro _ w2 ⟨rfl, k2⟩
        have E2 := E0.kept k2 id
        have N1 := M1.kept k2 id
        have N2 := M2.kept k2 id
        have N3 := M3.kept k2 id
        have Kw2 := Kw.transNo k2
        have Kt2 := Kt.transNo k2
        clear c0 c1 c2 c3 c4 c5 c6 c7 c8 c9 c10 d0 d1 d2 d3 d4 d5 d6 d7 E0 M0 M1 M2 M3 Kw Kt k2 hfun
        obtain ⟨c0, c1, c2, c3, c4, c5, c6, c7, c8, c9, c10⟩ := cfg_cells E2 hl
        obtain ⟨d0, d1, d2, d3, d4, d5, d6, d7⟩ := up_cells N1 (rowTo_length _ _)
        go_wp2_with fail
        rw [cfg_eq e r v l hl, up_eq _ (rowTo_length _ _)]
        refine (RH.out _).mono ?_
        rintro _ w3 ⟨rfl, k3⟩
        have E3 := E2.kept k3 id
        have O2 := N2.kept k3 id
        have O3 := N3.kept k3 id
        have Kw3 := Kw2.transNo k3
        have Kt3 := Kt2.transNo k3
        clear c0 c1 c2 c3 c4 c5 c6 c7 c8 c9 c10 d0 d1 d2 d3 d4 d5 d6 d7 E2 N1 N2 N3 Kw2 Kt2 k3
        obtain ⟨c0, c1, c2, c3, c4, c5, c6, c7, c8, c9, c10⟩ := cfg_cells E3 hl
        obtain ⟨d0, d1, d2, d3, d4, d5, d6, d7⟩ := up_cells O2 (rowTo_length _ _)
        go_wp2_with fail
        rw [cfg_eq e r v l hl, up_eq _ (rowTo_length _ _)]
        refine (RC.out _).mono ?_
        rintro _ w4 ⟨rfl, k4⟩
        have E4 := E3.kept k4 id
        have P3 := O3.kept k4 id
        have Kw4 := Kw3.transNo k4
        have Kt4 := Kt3.transNo k4
        clear c0 c1 c2 c3 c4 c5 c6 c7 c8 c9 c10 d0 d1 d2 d3 d4 d5 d6 d7 E3 O2 O3 Kw3 Kt3 k4
        obtain ⟨c0, c1, c2, c3, c4, c5, c6, c7, c8, c9, c10⟩ := cfg_cells E4 hl
        obtain ⟨d0, d1, d2, d3, d4, d5, d6, d7⟩ := up_cells P3 rfl
        go_wp2_with fail
        rw [cfg_eq e r v l hl, up_eq _ rfl]
        refine (RZ.out _).mono ?_
        rintro _ w5 ⟨rfl, k5⟩
        have Kw5 := Kw4.transNo k5
        have Kt5 := Kt4.transNo k5
        clear c0 c1 c2 c3 c4 c5 c6 c7 c8 c9 c10 d0 d1 d2 d3 d4 d5 d6 d7 E4 P3 Kw4 Kt4 k5
        go_wp2
        exact ⟨⟨1, .inr (.inl rfl), rfl, Kw5, Kt5⟩, by simp [intOf]⟩
      · have hfun := G1
        clear G0 G1
        obtain ⟨c0, c1, c2, c3, c4, c5, c6, c7, c8, c9, c10⟩ := cfg_cells E0 hl
        obtain ⟨d0, d1, d2, d3, d4, d5, d6, d7⟩ := up_cells M0 (rowTo_length _ _)
        go_wp2_with fail
        rw [cfg_eq e r v l hl, up_eq _ (rowTo_length _ _)]
        refine (WL.out _).mono ?_
        rintro _ w2 ⟨rfl, k2⟩
        have E2 := E0.kept k2 id
        have N1 := M1.kept k2 id
        have N2 := M2.kept k2 id
        have N3 := M3.kept k2 id
        have Kw2 := Kw.transNo k2
        have Kt2 := Kt.transNo k2
        clear c0 c1 c2 c3 c4 c5 c6 c7 c8 c9 c10 d0 d1 d2 d3 d4 d5 d6 d7 E0 M0 M1 M2 M3 Kw Kt k2 hfun
        obtain ⟨c0, c1, c2, c3, c4, c5, c6, c7, c8, c9, c10⟩ := cfg_cells E2 hl
        obtain ⟨d0, d1, d2, d3, d4, d5, d6, d7⟩ := up_cells N1 (rowTo_length _ _)
        go_wp2_with fail
        rw [cfg_eq e r v l hl, up_eq _ (rowTo_length _ _)]
        refine (WH.out _).mono ?_
        rintro _ w3 ⟨rfl, k3⟩
        have E3 := E2.kept k3 id
        have O2 := N2.kept k3 id
        have O3 := N3.kept k3 id
        have Kw3 := Kw2.transNo k3
        have Kt3 := Kt2.transNo k3
        clear c0 c1 c2 c3 c4 c5 c6 c7 c8 c9 c10 d0 d1 d2 d3 d4 d5 d6 d7 E2 N1 N2 N3 Kw2 Kt2 k3
        obtain ⟨c0, c1, c2, c3, c4, c5, c6, c7, c8, c9, c10⟩ := cfg_cells E3 hl
        obtain ⟨d0, d1, d2, d3, d4, d5, d6, d7⟩ := up_cells O2 (rowTo_length _ _)
        go_wp2_with fail
        rw [cfg_eq e r v l hl, up_eq _ (rowTo_length _ _)]
        refine (WC.out _).mono ?_
        rintro _ w4 ⟨rfl, k4⟩
        have E4 := E3.kept k4 id
        have P3 := O3.kept k4 id
        have Kw4 := Kw3.transNo k4
        have Kt4 := Kt3.transNo k4
        clear c0 c1 c2 c3 c4 c5 c6 c7 c8 c9 c10 d0 d1 d2 d3 d4 d5 d6 d7 E3 O2 O3 Kw3 Kt3 k4
        obtain ⟨c0, c1, c2, c3, c4, c5, c6, c7, c8, c9, c10⟩ := cfg_cells E4 hl
        obtain ⟨d0, d1, d2, d3, d4, d5, d6, d7⟩ := up_cells P3 rfl
        go_wp2_with fail
        rw [cfg_eq e r v l hl, up_eq _ rfl]
        refine (WZ.out _).mono ?_
        rintro _ w5 ⟨rfl, k5⟩
        have Kw5 := Kw4.transNo k5
        have Kt5 := Kt4.transNo k5
        clear c0 c1 c2 c3 c4 c5 c6 c7 c8 c9 c10 d0 d1 d2 d3 d4 d5 d6 d7 E4 P3 Kw4 Kt4 k5
        go_wp2
        exact ⟨⟨2, .inr (.inr rfl), rfl, Kw5, Kt5⟩, by simp [intOf]⟩
      · go_wp2_with (go_at_call 23; refine (H3.out _).mono ?_; rintro _ w3 ⟨rfl, k3⟩)
        go_ret
        exact ⟨rfl, Kt.trans k3 fun _ _ h => h⟩
end
end Go.Proofs.Ytencnfgmgcdiiaa
