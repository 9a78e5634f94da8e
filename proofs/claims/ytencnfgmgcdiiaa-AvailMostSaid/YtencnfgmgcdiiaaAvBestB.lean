/- The reference's Worth and Best, as walks. -/
import Derived.Test.YtencnfgmgcdiiaaAvBestA
namespace Go.Proofs.Ytencnfgmgcdiiaa
open Go.RowKit Go.PM

section
variable {w : World}

theorem all19 {b c : Nat} {T S : TypeId} {e r v : Nat} {l u : List UInt8} (hb : Blk w b T (cfgc e r v l)) (hc : Blk w c S (bcells u)) (hl : l.length = 8) (hul : u.length = 8) :
    w.cell? ⟨b, 0, none⟩ = some (.int .u32 e) ∧ w.cell? ⟨b, 1, none⟩ = some (.int .u8 r) ∧ w.cell? ⟨b, 2, none⟩ = some (.int .u8 v) ∧ w.cell? ⟨b, 3, none⟩ = some (.int .u8 (vsOf l 0)) ∧ w.cell? ⟨b, 4, none⟩ = some (.int .u8 (vsOf l 1)) ∧ w.cell? ⟨b, 5, none⟩ = some (.int .u8 (vsOf l 2)) ∧ w.cell? ⟨b, 6, none⟩ = some (.int .u8 (vsOf l 3)) ∧ w.cell? ⟨b, 7, none⟩ = some (.int .u8 (vsOf l 4)) ∧ w.cell? ⟨b, 8, none⟩ = some (.int .u8 (vsOf l 5)) ∧ w.cell? ⟨b, 9, none⟩ = some (.int .u8 (vsOf l 6)) ∧ w.cell? ⟨b, 10, none⟩ = some (.int .u8 (vsOf l 7)) ∧ w.cell? ⟨c, 0, none⟩ = some (.int .u8 (vsOf u 0)) ∧ w.cell? ⟨c, 1, none⟩ = some (.int .u8 (vsOf u 1)) ∧ w.cell? ⟨c, 2, none⟩ = some (.int .u8 (vsOf u 2)) ∧ w.cell? ⟨c, 3, none⟩ = some (.int .u8 (vsOf u 3)) ∧ w.cell? ⟨c, 4, none⟩ = some (.int .u8 (vsOf u 4)) ∧ w.cell? ⟨c, 5, none⟩ = some (.int .u8 (vsOf u 5)) ∧ w.cell? ⟨c, 6, none⟩ = some (.int .u8 (vsOf u 6)) ∧ w.cell? ⟨c, 7, none⟩ = some (.int .u8 (vsOf u 7)) := by
  obtain ⟨c0, c1, c2, c3, c4, c5, c6, c7, c8, c9, c10⟩ := cfg_cells hb hl
  obtain ⟨d0, d1, d2, d3, d4, d5, d6, d7⟩ := up_cells hc hul
  exact ⟨c0, c1, c2, c3, c4, c5, c6, c7, c8, c9, c10, d0, d1, d2, d3, d4, d5, d6, d7⟩

set_option maxRecDepth 100000 in
set_option maxHeartbeats 4000000 in
theorem refWorth_calls (e r v : Nat) (l u : List UInt8) (hl : l.length = 8) (hul : u.length = 8) (hup : upOk u = true) (hr : r < 256) (hv : v < 256) (share : Nat) (hsh : share ≤ 100) :
    Calls Try.prog 42 #[.agg (cfgc e r v l).toArray, .agg (bcells u).toArray, .int .u8 share] w fun x w' => x = .returned (.int .u64 (wv (avT (vsOf l) (vsOf u) 8) share r v)) ∧ Kept No w w' := by
  have B0 := (Blk.new w 49 (cfgc e r v l)).alloc (.cells (bcells u).toArray 47)
  have B1 := Blk.new' (w := w.alloc (.cells (cfgc e r v l).toArray 49)) (g := w.heap.size + 1) (by rw [World.size_alloc]) 47 (bcells u)
  have K0 := ((Kept.refl No w).alloc (.cells (cfgc e r v l).toArray 49)).alloc (.cells (bcells u).toArray 47)
  have h1 := fun w => refOften_calls (w := w) e r v l u hl hul hup r
  have h2 := fun w => refOften_calls (w := w) e r v l u hl hul hup v
  simp only [avOften_T] at h1 h2
  have hT := fun k => avT_le (vsOf l) (vsOf u) (upOk_le hup) 8 k
  have hwv := wv_le (T := avT (vsOf l) (vsOf u) 8) hT share r v hsh
  have ha := hT r
  have hb := hT v
  have hdef : wv (avT (vsOf l) (vsOf u) 8) share r v = avT (vsOf l) (vsOf u) 8 r / 100 * share + avT (vsOf l) (vsOf u) 8 v / 100 * (100 - share) := rfl
  generalize avT (vsOf l) (vsOf u) 8 r = t1 at *
  generalize avT (vsOf l) (vsOf u) 8 v = t2 at *
  generalize wv (avT (vsOf l) (vsOf u) 8) share r v = f at *
  have H1 := Lib.hid h1
  have H2 := Lib.hid h2
  have HD := Lib.hid hdef
  have HWV := Lib.hid hwv
  have e100 : 100 ^ 8 = 10000000000000000 := by decide
  rw [e100] at ha hb
  have q1 : (t1 : Int) ≤ 10000000000000000 := by omega
  have q2 : (t2 : Int) ≤ 10000000000000000 := by omega
  have q3 : (share : Int) ≤ 100 := by omega
  clear h1 h2 hT hwv hdef e100
  have wr1 : IntKind.i64.wrap (r : Int) = r := by rw [IntKind.wrap_i64]; omega
  have wr2 : IntKind.i64.wrap (v : Int) = v := by rw [IntKind.wrap_i64]; omega
  obtain ⟨c0, c1, c2, c3, c4, c5, c6, c7, c8, c9, c10⟩ := cfg_cells B0 hl
  obtain ⟨d0, d1, d2, d3, d4, d5, d6, d7⟩ := up_cells B1 hul
  go_enter Try.func42, Try.ntmps42
  go_wp2
  clear c0 c1 c2 c3 c4 c5 c6 c7 c8 c9 c10 d0 d1 d2 d3 d4 d5 d6 d7
  generalize hw0 : (w.alloc (.cells (cfgc e r v l).toArray 49)).alloc (.cells (bcells u).toArray 47) = w0 at *
  have C0 : Blk w0.drew _ _ _ := B0.drewN 1
  have C1 : Blk w0.drew _ _ _ := B1.drewN 1
  obtain ⟨c0, c1, c2, c3, c4, c5, c6, c7, c8, c9, c10⟩ := cfg_cells C0 hl
  obtain ⟨d0, d1, d2, d3, d4, d5, d6, d7⟩ := up_cells C1 hul
  go_region_held3 (fun w' => w'.cell? ⟨w.heap.size, 0, none⟩ = some (.int .u32 e) ∧ w'.cell? ⟨w.heap.size, 1, none⟩ = some (.int .u8 r) ∧ w'.cell? ⟨w.heap.size, 2, none⟩ = some (.int .u8 v) ∧ w'.cell? ⟨w.heap.size, 3, none⟩ = some (.int .u8 (vsOf l 0)) ∧ w'.cell? ⟨w.heap.size, 4, none⟩ = some (.int .u8 (vsOf l 1)) ∧ w'.cell? ⟨w.heap.size, 5, none⟩ = some (.int .u8 (vsOf l 2)) ∧ w'.cell? ⟨w.heap.size, 6, none⟩ = some (.int .u8 (vsOf l 3)) ∧ w'.cell? ⟨w.heap.size, 7, none⟩ = some (.int .u8 (vsOf l 4)) ∧ w'.cell? ⟨w.heap.size, 8, none⟩ = some (.int .u8 (vsOf l 5)) ∧ w'.cell? ⟨w.heap.size, 9, none⟩ = some (.int .u8 (vsOf l 6)) ∧ w'.cell? ⟨w.heap.size, 10, none⟩ = some (.int .u8 (vsOf l 7)) ∧ w'.cell? ⟨w.heap.size + 1, 0, none⟩ = some (.int .u8 (vsOf u 0)) ∧ w'.cell? ⟨w.heap.size + 1, 1, none⟩ = some (.int .u8 (vsOf u 1)) ∧ w'.cell? ⟨w.heap.size + 1, 2, none⟩ = some (.int .u8 (vsOf u 2)) ∧ w'.cell? ⟨w.heap.size + 1, 3, none⟩ = some (.int .u8 (vsOf u 3)) ∧ w'.cell? ⟨w.heap.size + 1, 4, none⟩ = some (.int .u8 (vsOf u 4)) ∧ w'.cell? ⟨w.heap.size + 1, 5, none⟩ = some (.int .u8 (vsOf u 5)) ∧ w'.cell? ⟨w.heap.size + 1, 6, none⟩ = some (.int .u8 (vsOf u 6)) ∧ w'.cell? ⟨w.heap.size + 1, 7, none⟩ = some (.int .u8 (vsOf u 7)))
    (first | (with_reducible exact all19 C0 C1 hl hul) | (with_reducible exact all19 C3 D3 hl hul) | (with_reducible exact all19 C4 D4 hl hul) | go_keep)
    (first
      | (go_at_call 57; (try rw [cfg_eq e r v l hl]); (try rw [up_eq u hul]); (try simp only [wr1, wr2]); (with_reducible refine (H1.out _).mono ?_); rintro _ w3 ⟨rfl, k3⟩; have C3 : Blk w3 _ _ _ := Blk.kept (by exact B0) k3 id; have D3 : Blk w3 _ _ _ := Blk.kept (by exact B1) k3 id; have K3 : Kept No w w3 := Kept.transNo (by first | exact K0 | exact K0.drew) k3)
      | (go_at_call 57; (try rw [cfg_eq e r v l hl]); (try rw [up_eq u hul]); (try simp only [wr1, wr2]); (with_reducible refine (H2.out _).mono ?_); rintro _ w4 ⟨rfl, k4⟩; have C4 : Blk w4 _ _ _ := Blk.kept (by exact C3) k4 id; have D4 : Blk w4 _ _ _ := Blk.kept (by exact D3) k4 id; have K4 : Kept No w w4 := Kept.transNo K3 k4)
      | fail)
  have wv1 : IntKind.u64.wrap ((t1 : Int) / 100) = ((t1 / 100 : Nat) : Int) := by rw [IntKind.wrap_u64]; omega
  have wv2 : IntKind.u64.wrap ((t2 : Int) / 100) = ((t2 / 100 : Nat) : Int) := by rw [IntKind.wrap_u64]; omega
  have wv3 : IntKind.u64.wrap (share : Int) = share := by rw [IntKind.wrap_u64]; omega
  have wv4 : IntKind.u8.wrap (100 - (share : Int)) = ((100 - share : Nat) : Int) := by simp [IntKind.wrap, IntKind.bits, IntKind.signed]; omega
  have wv5 : IntKind.u64.wrap ((100 - share : Nat) : Int) = ((100 - share : Nat) : Int) := by rw [IntKind.wrap_u64]; omega
  have hw := HWV.out
  have wv6 : IntKind.u64.wrap (((t1 / 100 : Nat) : Int) * share) = ((t1 / 100 * share : Nat) : Int) := by rw [← Int.natCast_mul, IntKind.wrap_u64]; omega
  have wv7 : IntKind.u64.wrap (((t2 / 100 : Nat) : Int) * ((100 - share : Nat) : Int)) = ((t2 / 100 * (100 - share) : Nat) : Int) := by rw [← Int.natCast_mul, IntKind.wrap_u64]; omega
  have wv8 : IntKind.u64.wrap (((t1 / 100 * share : Nat) : Int) + ((t2 / 100 * (100 - share) : Nat) : Int)) = (f : Int) := by rw [HD.out, IntKind.wrap_u64]; omega
  simp only [wv1, wv2, wv3, wv4, wv5, wv6, wv7, wv8]
  clear wv1 wv2 wv3 wv4 wv5 wv6 wv7 wv8 hw c0 c1 c2 c3 c4 c5 c6 c7 c8 c9 c10 d0 d1 d2 d3 d4 d5 d6 d7
  go_wp2
  go_ret
  exact ⟨rfl, K4⟩

/-- The best so far, as the reference holds it. -/
def rbCells (l : List UInt8) (p : RbSt) : List Value := if p.is = true then cfgc 1 p.r p.w l else cfgc 0 0 0 zero8
def RbO (ws : World) (gb R : Nat) (ok : Nat → Nat → Bool) (g : Nat → Nat → Nat) (l : List UInt8) (b m i : Value) (wr : World) : Prop :=
  ∃ k : Nat, k ≤ R ∧ b = .bool (rbTo ok g R k).is ∧ m = .int .u64 (rbTo ok g R k).most ∧ i = .int .i64 (k + 1 : Nat) ∧ Blk wr gb 49 (rbCells l (rbTo ok g R k)) ∧ Kept (· = gb) ws wr
def RbI (ws : World) (gb R k : Nat) (ok : Nat → Nat → Bool) (g : Nat → Nat → Nat) (l : List UInt8) (st : RbSt) (b m i : Value) (wr : World) : Prop :=
  ∃ j : Nat, j ≤ R ∧ b = .bool (rbIn ok g k st j).is ∧ m = .int .u64 (rbIn ok g k st j).most ∧ i = .int .i64 (j + 1 : Nat) ∧ Blk wr gb 49 (rbCells l (rbIn ok g k st j)) ∧ Kept (· = gb) ws wr
theorem may_okB (l : List UInt8) (hv : vOk l = true) (r v : Nat) : avMay 1 r v l = okB (avOf (vsOf l) 8 255) r v := by
  unfold avMay okB
  rw [hv, Bool.true_and]
  rw [Bool.eq_iff_iff]
  simp only [decide_eq_true_eq]
  omega
theorem may_no (l : List UInt8) (hv : vOk l = false) (r v : Nat) : avMay 1 r v l = false := by
  unfold avMay
  rw [hv]; rfl
/-- What the reference's loops find is what Best answers. -/
theorem rb_best (l u : List UInt8) (share : Nat) (h100 : share ≤ 100) (hup : upOk u = true) (R : Nat) (hR : R = min (avOf (vsOf l) 8 255) 255) :
    bestCfg l u share = rbCells l (rbTo (fun r v => avMay 1 r v l) (wv (avT (vsOf l) (vsOf u) 8) share) R R) ∧
    bestErr l u share = if (rbTo (fun r v => avMay 1 r v l) (wv (avT (vsOf l) (vsOf u) 8) share) R R).is = true then 0 else 16 := by
  have hn : ¬ 100 < share := by omega
  cases hvo : vOk l
  · have hE : vtErr l u = 16 := by unfold vtErr; rw [if_pos hup, hvo]; rfl
    rw [rbTo_no _ _ _ (fun r v => may_no l hvo r v)]
    constructor
    · unfold bestCfg rbCells
      rw [if_pos (.inr (.inl (by rw [hE]; decide)))]; rfl
    · unfold bestErr
      rw [if_neg hn, hE]; rfl
  · have hE : vtErr l u = 0 := by unfold vtErr; rw [if_pos hup, hvo]; rfl
    have hA := avOf_le15 l hvo 8 255
    have hok : (fun r v => avMay 1 r v l) = okB (avOf (vsOf l) 8 255) := by funext r v; exact may_okB l hvo r v
    have hRA : R = avOf (vsOf l) 8 255 := by omega
    rw [hok, hRA]
    unfold bestCfg bestErr bestW
    rw [if_neg hn, hE]
    generalize avOf (vsOf l) 8 255 = A at *
    rw [rbTo_eq A _ (fun a b h => avT_anti (vsOf l) (vsOf u) 8 a b h) share A (Nat.le_refl _)]
    by_cases h0 : A = 0
    · subst h0
      rw [if_pos (.inr (.inr rfl)), if_pos (show 0 < 0 / 2 + 1 by decide)]
      constructor
      · rfl
      · rw [if_neg (fun h => h rfl)]; rfl
    · rw [if_neg (show ¬ (100 < share ∨ (0 : Nat) ≠ 0 ∨ A = 0) from fun h1 => h1.elim hn fun h1 => h1.elim (fun h1 => h1 rfl) h0), if_neg (show ¬ A < A / 2 + 1 by omega)]
      rw [if_neg (fun h => h rfl), if_neg h0]
      constructor
      · unfold rbCells encB; rw [if_pos rfl]
      · unfold encB; rw [if_pos rfl]

set_option maxRecDepth 100000 in
set_option maxHeartbeats 8000000 in
theorem refBest_calls (l u : List UInt8) (hl : l.length = 8) (hul : u.length = 8) (share : Nat) (hsh : share < 256) :
    Calls Try.prog 41 #[.agg (bcells l).toArray, .agg (bcells u).toArray, .int .u8 share] w (BestPost w l u share) := by
  have B2 := ((Blk.new w 47 (bcells l)).alloc (.cells (bcells u).toArray 47)).alloc (.cells #[.int .u32 0, .int .u8 0, .int .u8 0, .int .u8 0, .int .u8 0, .int .u8 0, .int .u8 0, .int .u8 0, .int .u8 0, .int .u8 0, .int .u8 0] 49)
  have B3 := (Blk.new' (w := w.alloc (.cells (bcells l).toArray 47)) (g := w.heap.size + 1) (by rw [World.size_alloc]) 47 (bcells u)).alloc (.cells #[.int .u32 0, .int .u8 0, .int .u8 0, .int .u8 0, .int .u8 0, .int .u8 0, .int .u8 0, .int .u8 0, .int .u8 0, .int .u8 0, .int .u8 0] 49)
  have B4 := Blk.new' (w := (w.alloc (.cells (bcells l).toArray 47)).alloc (.cells (bcells u).toArray 47)) (g := w.heap.size + 1 + 1) (by simp) 49 [.int .u32 0, .int .u8 0, .int .u8 0, .int .u8 0, .int .u8 0, .int .u8 0, .int .u8 0, .int .u8 0, .int .u8 0, .int .u8 0, .int .u8 0]
  have K1 := (((Kept.refl No w).alloc (.cells (bcells l).toArray 47)).alloc (.cells (bcells u).toArray 47)).alloc (.cells #[.int .u32 0, .int .u8 0, .int .u8 0, .int .u8 0, .int .u8 0, .int .u8 0, .int .u8 0, .int .u8 0, .int .u8 0, .int .u8 0, .int .u8 0] 49)
  obtain ⟨d0, d1, d2, d3, d4, d5, d6, d7⟩ := up_cells B3 hul
  have hum := fun w => refUp_calls (w := w) u hul
  cases hup : upOk u
  case false =>
    rw [hup] at hum
    have HU := Lib.hid hum
    have hE : vtErr l u = 1 := by unfold vtErr; rw [hup]; rfl
    have e1 : bestCfg l u share = cfgc 0 0 0 zero8 := by unfold bestCfg; rw [if_pos (.inr (.inl (by rw [hE]; decide)))]
    have e2 : bestErr l u share = 1 := by
      unfold bestErr
      rw [hE]
      split
      · rfl
      · rw [if_pos (by decide)]
    have HP : Hid (∀ e w', BestPost w l u share e w' ↔ e = .returned (.tuple #[.agg (cfgc 0 0 0 zero8).toArray, .int .i64 1]) ∧ Kept No w w') := Lib.hid fun e w' => by unfold BestPost; rw [e1, e2]; exact Iff.rfl
    clear hum hup hE e1 e2
    go_enter Try.func41, Try.ntmps41
    go_wp2_with fail
    rw [up_eq u hul]
    refine (HU.out _).mono ?_
    rintro _ w1 ⟨rfl, k1⟩
    have C4 := B4.kept k1 id
    have K2 := K1.transNo k1
    clear d0 d1 d2 d3 d4 d5 d6 d7
    obtain ⟨x0, x1, x2, x3, x4, x5, x6, x7, x8, x9, x10⟩ := get11 C4
    have hf := fun j => C4.frozen j
    have S4 := set11 C4 rfl (.int .u32 0) (.int .u8 0) (.int .u8 0) (.int .u8 0) (.int .u8 0) (.int .u8 0) (.int .u8 0) (.int .u8 0) (.int .u8 0) (.int .u8 0) (.int .u8 0)
    have KS := kept11 K2 (w.heap.size + 1 + 1) (fun h => by omega) (.int .u32 0) (.int .u8 0) (.int .u8 0) (.int .u8 0) (.int .u8 0) (.int .u8 0) (.int .u8 0) (.int .u8 0) (.int .u8 0) (.int .u8 0) (.int .u8 0)
    go_wp2
    clear x0 x1 x2 x3 x4 x5 x6 x7 x8 x9 x10 hf C4
    obtain ⟨x0, x1, x2, x3, x4, x5, x6, x7, x8, x9, x10⟩ := get11 S4
    exact bodyPost_ret (v := .tuple #[.agg #[.int .u32 0, .int .u8 0, .int .u8 0, .int .u8 0, .int .u8 0, .int .u8 0, .int .u8 0, .int .u8 0, .int .u8 0, .int .u8 0, .int .u8 0], .int .i64 1]) (by simp [results, Try.results41, go_sem, x0, x1, x2, x3, x4, x5, x6, x7, x8, x9, x10]) rfl ((HP.out _ _).2 ⟨rfl, KS⟩)
  rw [hup] at hum
  have HU := Lib.hid hum
  clear hum
  by_cases h100 : 100 < share
  · have q1 := decide_eq_true (show (share : Int) > 100 by omega)
    have e1 : bestCfg l u share = cfgc 0 0 0 zero8 := by unfold bestCfg; rw [if_pos (.inl h100)]
    have e2 : bestErr l u share = 1 := by unfold bestErr; rw [if_pos h100]
    have HP : Hid (∀ e w', BestPost w l u share e w' ↔ e = .returned (.tuple #[.agg (cfgc 0 0 0 zero8).toArray, .int .i64 1]) ∧ Kept No w w') := Lib.hid fun e w' => by unfold BestPost; rw [e1, e2]; exact Iff.rfl
    clear hup e1 e2 h100
    go_enter Try.func41, Try.ntmps41
    go_wp2_with fail
    rw [up_eq u hul]
    refine (HU.out _).mono ?_
    rintro _ w1 ⟨rfl, k1⟩
    have C4 := B4.kept k1 id
    have K2 := K1.transNo k1
    clear d0 d1 d2 d3 d4 d5 d6 d7
    obtain ⟨x0, x1, x2, x3, x4, x5, x6, x7, x8, x9, x10⟩ := get11 C4
    have hf := fun j => C4.frozen j
    have S4 := set11 C4 rfl (.int .u32 0) (.int .u8 0) (.int .u8 0) (.int .u8 0) (.int .u8 0) (.int .u8 0) (.int .u8 0) (.int .u8 0) (.int .u8 0) (.int .u8 0) (.int .u8 0)
    have KS := kept11 K2 (w.heap.size + 1 + 1) (fun h => by omega) (.int .u32 0) (.int .u8 0) (.int .u8 0) (.int .u8 0) (.int .u8 0) (.int .u8 0) (.int .u8 0) (.int .u8 0) (.int .u8 0) (.int .u8 0) (.int .u8 0)
    go_wp2
    clear x0 x1 x2 x3 x4 x5 x6 x7 x8 x9 x10 hf C4
    obtain ⟨x0, x1, x2, x3, x4, x5, x6, x7, x8, x9, x10⟩ := get11 S4
    exact bodyPost_ret (v := .tuple #[.agg #[.int .u32 0, .int .u8 0, .int .u8 0, .int .u8 0, .int .u8 0, .int .u8 0, .int .u8 0, .int .u8 0, .int .u8 0, .int .u8 0, .int .u8 0], .int .i64 1]) (by simp [results, Try.results41, go_sem, x0, x1, x2, x3, x4, x5, x6, x7, x8, x9, x10]) rfl ((HP.out _ _).2 ⟨rfl, KS⟩)
  have q1 := decide_eq_false (show ¬ (share : Int) > 100 by omega)
  obtain ⟨R, hR⟩ : ∃ R, R = min (avOf (vsOf l) 8 255) 255 := ⟨_, rfl⟩
  obtain ⟨hb1, hb2⟩ := rb_best l u share (by omega) hup R hR
  have hmay := fun w (r v : Nat) (hr : r < 256) (hv : v < 256) => refMay_calls (w := w) 1 r v l hl (by omega) hr hv
  have hwo := fun w (r v : Nat) (hr : r < 256) (hv : v < 256) => refWorth_calls (w := w) 1 r v l u hl hul hup hr hv share (by omega)
  have htot := fun w => refTotal_calls (w := w) 0 0 0 l hl
  have hgl := fun (r v : Nat) => (wv_le (T := avT (vsOf l) (vsOf u) 8) (fun k => avT_le (vsOf l) (vsOf u) (upOk_le hup) 8 k) share r v (by omega)).2.2
  have hA0 := avOf_le l 8 255
  have HP : Hid (∀ e w', BestPost w l u share e w' ↔ e = .returned (.tuple #[.agg (bestCfg l u share).toArray, .int .i64 (bestErr l u share)]) ∧ Kept No w w') := Lib.hid fun e w' => Iff.rfl
  have hok : ∀ r v, avMay 1 r v l = (fun r v => avMay 1 r v l) r v := fun _ _ => rfl
  generalize (fun r v => avMay 1 r v l) = ok at *
  simp only [hok] at hmay
  generalize wv (avT (vsOf l) (vsOf u) 8) share = gv at *
  generalize avOf (vsOf l) 8 255 = A at *
  have HB1 := Lib.hid hb1
  have HB2 := Lib.hid hb2
  have HMay := Lib.hid hmay
  have HWo := Lib.hid hwo
  have HTot := Lib.hid htot
  have HGl := Lib.hid hgl
  have HRR := Lib.hid hR
  clear hb1 hb2 hmay hwo htot hgl hok hup h100
  have A1 : (A : Int) ≤ 2040 := by omega
  have R1 : R ≤ A := by omega
  have R2 : R ≤ 255 := by omega
  clear hR
  go_enter Try.func41, Try.ntmps41
  go_wp2_with fail
  rw [up_eq u hul]
  refine (HU.out _).mono ?_
  rintro _ w1 ⟨rfl, k1⟩
  have C2 := B2.kept k1 id
  have C3 := B3.kept k1 id
  have C4 := B4.kept k1 id
  have K2 := K1.transNo k1
  clear d0 d1 d2 d3 d4 d5 d6 d7 B2 B3 B4 K1 k1
  have Z0 := Blk.new w1 49 [.int .u32 0, .int .u8 0, .int .u8 0, .int .u8 0, .int .u8 0, .int .u8 0, .int .u8 0, .int .u8 0, .int .u8 0, .int .u8 0, .int .u8 0]
  have KA := (Kept.refl No w1).alloc (.cells #[.int .u32 0, .int .u8 0, .int .u8 0, .int .u8 0, .int .u8 0, .int .u8 0, .int .u8 0, .int .u8 0, .int .u8 0, .int .u8 0, .int .u8 0] 49)
  have D2 := C2.kept KA id
  have D3 := C3.kept KA id
  have D4 := C4.kept KA id
  have K3 := K2.trans KA fun _ _ h => h
  have l2 := C2.lt
  have l3 := C3.lt
  have l4 := C4.lt
  obtain ⟨c0, c1, c2, c3, c4, c5, c6, c7⟩ := up_cells D2 hl
  have hcf : #[Value.int .u32 0, .int .u8 0, .int .u8 0, .int .u8 (vsOf l 0), .int .u8 (vsOf l 1), .int .u8 (vsOf l 2), .int .u8 (vsOf l 3), .int .u8 (vsOf l 4), .int .u8 (vsOf l 5), .int .u8 (vsOf l 6), .int .u8 (vsOf l 7)] = (cfgc 0 0 0 l).toArray := cfg_eq 0 0 0 l hl
  have HCF := Lib.hid hcf
  clear hcf
  go_wp2_with fail
  rw [HCF.out]
  refine (HTot.out _).mono ?_
  rintro _ w2 ⟨rfl, k2⟩
  have E0 := Z0.kept k2 id
  have E2 := D2.kept k2 id
  have E3 := D3.kept k2 id
  have E4 := D4.kept k2 id
  have K4 := K3.transNo k2
  clear c0 c1 c2 c3 c4 c5 c6 c7 Z0 D2 D3 D4 K3 k2 KA C2 C3 C4 K2
  generalize hgb : w1.heap.size = gb at *
  have n2 : ¬ w.heap.size = gb := by omega
  have n3 : ¬ w.heap.size + 1 = gb := by omega
  have n4 : ¬ w.heap.size + 1 + 1 = gb := by omega
  have hwg : w.heap.size ≤ gb := by omega
  clear hgb l2 l3 l4
  go_wp2
  go_loopw [9, 10, 12] (fun b m i wr => RbO w2 gb R ok gv l b m i wr) (fun _ _ i _ => 256 - (intOf i).toNat)
  case atStart => exact ⟨0, Nat.zero_le _, rfl, rfl, rfl, E0, Kept.refl _ _⟩
  case round =>
    obtain ⟨k, hk, rfl, rfl, rfl, BB, Kx⟩ := hrel
    by_cases hlt : k < R
    · have hnext : rbTo ok gv R (k + 1) = rbIn ok gv (k + 1) (rbTo ok gv R k) R := rfl
      generalize rbTo ok gv R k = st at *
      generalize hx : k + 1 = x at *
      have x0 : (0 : Int) ≤ x := by omega
      have x1 : (x : Int) ≤ A := by omega
      have x2 : (x : Int) < 256 := by omega
      have HN := Lib.hid hnext
      have HX := Lib.hid hx
      have hkR : k + 1 ≤ R := hlt
      rw [hx] at hkR
      clear hnext hx
      go_wp2
      generalize hwi : wr = wi at *
      go_loopw [9, 10, 13] (fun b m i wr => RbI wi gb R x ok gv l st b m i wr) (fun _ _ i _ => 256 - (intOf i).toNat)
      case atStart => exact ⟨0, Nat.zero_le _, rfl, rfl, rfl, BB, Kept.refl _ _⟩
      case round =>
        clear BB
        obtain ⟨j, hj, rfl, rfl, rfl, BB, Ky⟩ := hrel
        by_cases hjlt : j < R
        · have hstep : rbIn ok gv x st (j + 1) = rbStep ok gv x (j + 1) (rbIn ok gv x st j) := rfl
          generalize rbIn ok gv x st j = p at *
          have hjn : j + 1 ≤ R := hjlt
          generalize hy : j + 1 = y at *
          have y0 : (0 : Int) ≤ y := by omega
          have y1 : (y : Int) ≤ A := by omega
          have y2 : (y : Int) < 256 := by omega
          have HS := Lib.hid hstep
          have HY := Lib.hid hy
          clear hstep hy
          have Kz := Kx.trans Ky fun _ _ h => h
          have F2 := E2.kept Kz n2
          have F3 := E3.kept Kz n3
          obtain ⟨c0, c1, c2, c3, c4, c5, c6, c7⟩ := up_cells F2 hl
          have hgl := HGl.out y x
          have hmay := fun w => HMay.out w y x (by omega) (by omega)
          have hwo := fun w => HWo.out w y x (by omega) (by omega)
          have HM := Lib.hid hmay
          have HW := Lib.hid hwo
          have hcy : #[Value.int .u32 1, .int .u8 (y : Int), .int .u8 (x : Int), .int .u8 (vsOf l 0), .int .u8 (vsOf l 1), .int .u8 (vsOf l 2), .int .u8 (vsOf l 3), .int .u8 (vsOf l 4), .int .u8 (vsOf l 5), .int .u8 (vsOf l 6), .int .u8 (vsOf l 7)] = (cfgc 1 y x l).toArray := cfg_eq 1 y x l hl
          have HCY := Lib.hid hcy
          clear hmay hwo hcy
          have BN := Blk.new wr 49 (cfgc 1 y x l)
          have BB1 := BB.alloc (.cells (cfgc 1 y x l).toArray 49)
          have F31 := F3.alloc (.cells (cfgc 1 y x l).toArray 49)
          have Ky1 := Ky.alloc (.cells (cfgc 1 y x l).toArray 49)
          have hne : ¬ gb = wr.heap.size := by have := BB.lt; omega
          clear BB F2 F3 Kz Ky
          go_wp2_with fail
          rw [HCY.out]
          cases hok : ok y x
          · refine (HM.out _).mono ?_
            rw [hok]
            rintro _ w3 ⟨rfl, k3⟩
            have STF : Hid (rbIn ok gv x st y = p) := Lib.hid (by rw [HS.out, rbStep, hok, if_neg (by simp)])
            have BB3 := BB1.kept k3 id
            have Ky3 := Ky1.transNo k3
            clear hok c0 c1 c2 c3 c4 c5 c6 c7 BB1 Ky1 k3 BN F31 hgl
            go_wp2
            refine ⟨⟨y, hjn, ?_, ?_, ?_, ?_, Ky3⟩, by simp [intOf]; omega⟩
            · rw [STF.out]
            · rw [STF.out]
            · go_num
            · rw [STF.out]; exact BB3
          · refine (HM.out _).mono ?_
            rw [hok]
            rintro _ w3 ⟨rfl, k3⟩
            have BB3 := BB1.kept k3 id
            have BN3 := BN.kept k3 id
            have F33 := F31.kept k3 id
            have Ky3 := Ky1.transNo k3
            clear c0 c1 c2 c3 c4 c5 c6 c7 BB1 Ky1 k3 BN F31
            generalize hgn : wr.heap.size = gn at *
            clear hgn
            obtain ⟨c0, c1, c2, c3, c4, c5, c6, c7, c8, c9, c10⟩ := cfg_cells BN3 hl
            obtain ⟨d0, d1, d2, d3, d4, d5, d6, d7⟩ := up_cells F33 hul
            have hst : rbStep ok gv x y p = if p.is = false ∨ p.most < gv y x then ⟨true, y, x, gv y x⟩ else p := by
              unfold rbStep
              rw [hok]
              simp only [true_and]
            have HST := Lib.hid hst
            clear hst hok
            go_wp2_with fail
            rw [HCY.out, up_eq u hul]
            refine (HW.out _).mono ?_
            rintro _ w4 ⟨rfl, k4⟩
            have BB4 := BB3.kept k4 id
            have BN4 := BN3.kept k4 id
            have Ky4 := Ky3.transNo k4
            clear c0 c1 c2 c3 c4 c5 c6 c7 c8 c9 c10 d0 d1 d2 d3 d4 d5 d6 d7 BB3 BN3 F33 Ky3 k4
            obtain ⟨c0, c1, c2, c3, c4, c5, c6, c7, c8, c9, c10⟩ := cfg_cells BN4 hl
            generalize gv y x = f at *
            obtain ⟨pi, pr, pw, pm⟩ := p
            dsimp only at *
            cases pi
            · have STF : Hid (rbIn ok gv x st y = ⟨true, y, x, f⟩) := Lib.hid (by rw [HS.out, HST.out, if_pos (.inl rfl)])
              have BBz : Blk w4 gb 49 [.int .u32 0, .int .u8 0, .int .u8 0, .int .u8 0, .int .u8 0, .int .u8 0, .int .u8 0, .int .u8 0, .int .u8 0, .int .u8 0, .int .u8 0] := BB4
              have hblen : (rbCells l ⟨false, pr, pw, pm⟩).length = 11 := rfl
              obtain ⟨y0, y1, y2, y3, y4, y5, y6, y7, y8, y9, y10⟩ := get11 BBz
              have hf := fun j => BBz.frozen j
              clear BBz
              cases (trivial : True)
              · skip
                have Z1 := set11 BB4 hblen (.int .u32 1) (.int .u8 y) (.int .u8 x) (.int .u8 (vsOf l 0)) (.int .u8 (vsOf l 1)) (.int .u8 (vsOf l 2)) (.int .u8 (vsOf l 3)) (.int .u8 (vsOf l 4)) (.int .u8 (vsOf l 5)) (.int .u8 (vsOf l 6)) (.int .u8 (vsOf l 7))
                have Z2 := kept11 Ky4 gb (fun _ => rfl) (.int .u32 1) (.int .u8 y) (.int .u8 x) (.int .u8 (vsOf l 0)) (.int .u8 (vsOf l 1)) (.int .u8 (vsOf l 2)) (.int .u8 (vsOf l 3)) (.int .u8 (vsOf l 4)) (.int .u8 (vsOf l 5)) (.int .u8 (vsOf l 6)) (.int .u8 (vsOf l 7))
                have eC : [Value.int .u32 1, .int .u8 (y : Int), .int .u8 (x : Int), .int .u8 (vsOf l 0), .int .u8 (vsOf l 1), .int .u8 (vsOf l 2), .int .u8 (vsOf l 3), .int .u8 (vsOf l 4), .int .u8 (vsOf l 5), .int .u8 (vsOf l 6), .int .u8 (vsOf l 7)] = rbCells l ⟨true, y, x, f⟩ := (congrArg Array.toList (cfg_eq 1 y x l hl)).trans (by unfold rbCells; rw [if_pos rfl])
                rw [eC] at Z1
                clear eC hblen
                go_wp2
                refine ⟨⟨y, hjn, ?_, ?_, ?_, ?_, Z2⟩, by simp [intOf]; omega⟩
                · rw [STF.out]
                · rw [STF.out]
                · go_num
                · rw [STF.out]; exact Z1
            · have hbc : rbCells l ⟨true, pr, pw, pm⟩ = cfgc 1 pr pw l := by unfold rbCells; rw [if_pos rfl]
              have BBz : Blk w4 gb 49 (cfgc 1 pr pw l) := by rw [hbc] at BB4; exact BB4
              have hblen : (rbCells l ⟨true, pr, pw, pm⟩).length = 11 := by rw [hbc]; simp [cfgc, hl]
              obtain ⟨y0, y1, y2, y3, y4, y5, y6, y7, y8, y9, y10⟩ := cfg_cells BBz hl
              have hf := fun j => BBz.frozen j
              clear BBz hbc
              by_cases hlt2 : pm < f
              · have STF : Hid (rbIn ok gv x st y = ⟨true, y, x, f⟩) := Lib.hid (by rw [HS.out, HST.out, if_pos (.inr hlt2)])
                have q5 : (pm : Int) < f := by omega
                have Z1 := set11 BB4 hblen (.int .u32 1) (.int .u8 y) (.int .u8 x) (.int .u8 (vsOf l 0)) (.int .u8 (vsOf l 1)) (.int .u8 (vsOf l 2)) (.int .u8 (vsOf l 3)) (.int .u8 (vsOf l 4)) (.int .u8 (vsOf l 5)) (.int .u8 (vsOf l 6)) (.int .u8 (vsOf l 7))
                have Z2 := kept11 Ky4 gb (fun _ => rfl) (.int .u32 1) (.int .u8 y) (.int .u8 x) (.int .u8 (vsOf l 0)) (.int .u8 (vsOf l 1)) (.int .u8 (vsOf l 2)) (.int .u8 (vsOf l 3)) (.int .u8 (vsOf l 4)) (.int .u8 (vsOf l 5)) (.int .u8 (vsOf l 6)) (.int .u8 (vsOf l 7))
                have eC : [Value.int .u32 1, .int .u8 (y : Int), .int .u8 (x : Int), .int .u8 (vsOf l 0), .int .u8 (vsOf l 1), .int .u8 (vsOf l 2), .int .u8 (vsOf l 3), .int .u8 (vsOf l 4), .int .u8 (vsOf l 5), .int .u8 (vsOf l 6), .int .u8 (vsOf l 7)] = rbCells l ⟨true, y, x, f⟩ := (congrArg Array.toList (cfg_eq 1 y x l hl)).trans (by unfold rbCells; rw [if_pos rfl])
                rw [eC] at Z1
                clear eC hblen
                go_wp2
                refine ⟨⟨y, hjn, ?_, ?_, ?_, ?_, Z2⟩, by simp [intOf]; omega⟩
                · rw [STF.out]
                · rw [STF.out]
                · go_num
                · rw [STF.out]; exact Z1
              · have STF : Hid (rbIn ok gv x st y = ⟨true, pr, pw, pm⟩) := Lib.hid (by rw [HS.out, HST.out, if_neg (by rintro (h | h); cases h; exact hlt2 h)])
                have q5 : (f : Int) ≤ pm := by omega
                clear hblen
                go_wp2
                refine ⟨⟨y, hjn, ?_, ?_, ?_, ?_, Ky4⟩, by simp [intOf]; omega⟩
                · rw [STF.out]
                · rw [STF.out]
                · go_num
                · rw [STF.out]; exact BB4
        · have hjR : j = R := by omega
          have STF : Hid (rbTo ok gv R x = rbIn ok gv x st j) := Lib.hid (by rw [HN.out, hjR])
          generalize rbIn ok gv x st j = p at *
          generalize hy : j + 1 = y at *
          have Kz := Kx.trans Ky fun _ _ h => h
          have fin : RbO w2 gb R ok gv l (.bool p.is) (.int .u64 p.most) (.int .i64 ((x : Int) + 1)) wr := by
            refine ⟨x, hkR, ?_, ?_, ?_, ?_, Kz⟩
            · rw [STF.out]
            · rw [STF.out]
            · go_num
            · rw [STF.out]; exact BB
          by_cases hA : y ≤ A
          · have y1 : (y : Int) ≤ A := by omega
            have y2 : (256 : Int) ≤ y := by have := HRR.out; omega
            clear BB STF hjR hy
            go_wp2
            exact ⟨fin, by simp [intOf]; omega⟩
          · have y1 : (A : Int) < y := by omega
            clear BB STF hjR hy
            go_wp2
            exact ⟨fin, by simp [intOf]; omega⟩
    · have hkR : k = R := by omega
      have hb1 := HB1.out
      have hb2 := HB2.out
      have eR : rbTo ok gv R R = rbTo ok gv R k := by rw [hkR]
      rw [eR] at hb1 hb2
      have hk1 : k + 1 ≤ A → 256 ≤ k + 1 := by have := HRR.out; omega
      have KF : Kept No w wr := K4.trans Kx (fun b hb e => by omega)
      have F4 := E4.kept Kx n4
      clear hkR eR HB1 HB2 E0 E2 E3 E4 K4 Kx HMay HWo HTot HGl HRR R1 R2 hk hlt
      generalize rbTo ok gv R k = st at *
      generalize k + 1 = y at *
      have hrc : rbCells l st = if st.is = true then cfgc 1 st.r st.w l else cfgc 0 0 0 zero8 := rfl
      rw [hrc] at hb1 BB
      obtain ⟨pi, hpi⟩ : ∃ b, b = st.is := ⟨_, rfl⟩
      rw [← hpi] at hb1 hb2 BB ⊢
      clear hrc hpi
      generalize st.r = pr at *
      generalize st.w = pw at *
      generalize st.most = pm at *
      clear st
      obtain ⟨y0, y1, y2, y3, y4, y5, y6, y7, y8, y9, y10⟩ := get11 F4
      have hf := fun j => F4.frozen j
      cases pi
      · have e1 : bestCfg l u share = cfgc 0 0 0 zero8 := by rw [hb1, if_neg (by decide)]
        have e2 : bestErr l u share = 16 := by rw [hb2, if_neg (by decide)]
        have HP2 : Hid (∀ e w', BestPost w l u share e w' ↔ e = .returned (.tuple #[.agg (cfgc 0 0 0 zero8).toArray, .int .i64 16]) ∧ Kept No w w') := Lib.hid fun e w' => by unfold BestPost; rw [e1, e2]; exact Iff.rfl
        have S4 := set11 F4 rfl (.int .u32 0) (.int .u8 0) (.int .u8 0) (.int .u8 0) (.int .u8 0) (.int .u8 0) (.int .u8 0) (.int .u8 0) (.int .u8 0) (.int .u8 0) (.int .u8 0)
        have KS := kept11 KF (w.heap.size + 1 + 1) (fun h => by omega) (.int .u32 0) (.int .u8 0) (.int .u8 0) (.int .u8 0) (.int .u8 0) (.int .u8 0) (.int .u8 0) (.int .u8 0) (.int .u8 0) (.int .u8 0) (.int .u8 0)
        clear e1 e2 hb1 hb2 BB
        have HK1 := Lib.hid hk1
        clear hk1
        by_cases hA : y ≤ A
        · have hk1 := HK1.out hA
          cases (trivial : True)
          · have q5 : (y : Int) ≤ A := by omega
            have q6 := decide_eq_false (show ¬ ((y : Int) < 256) by omega)
            clear hk1 hA
            go_wp2
            clear y0 y1 y2 y3 y4 y5 y6 y7 y8 y9 y10 hf F4
            obtain ⟨x0, x1, x2, x3, x4, x5, x6, x7, x8, x9, x10⟩ := get11 S4
            exact bodyPost_ret (v := .tuple #[.agg #[.int .u32 0, .int .u8 0, .int .u8 0, .int .u8 0, .int .u8 0, .int .u8 0, .int .u8 0, .int .u8 0, .int .u8 0, .int .u8 0, .int .u8 0], .int .i64 16]) (by simp [results, Try.results41, go_sem, x0, x1, x2, x3, x4, x5, x6, x7, x8, x9, x10]) rfl ((HP2.out _ _).2 ⟨rfl, KS⟩)
        · cases (trivial : True)
          · have q5 : (A : Int) < y := by omega
            go_wp2
            clear y0 y1 y2 y3 y4 y5 y6 y7 y8 y9 y10 hf F4
            obtain ⟨x0, x1, x2, x3, x4, x5, x6, x7, x8, x9, x10⟩ := get11 S4
            exact bodyPost_ret (v := .tuple #[.agg #[.int .u32 0, .int .u8 0, .int .u8 0, .int .u8 0, .int .u8 0, .int .u8 0, .int .u8 0, .int .u8 0, .int .u8 0, .int .u8 0, .int .u8 0], .int .i64 16]) (by simp [results, Try.results41, go_sem, x0, x1, x2, x3, x4, x5, x6, x7, x8, x9, x10]) rfl ((HP2.out _ _).2 ⟨rfl, KS⟩)
      · rw [if_pos rfl] at hb1 BB
        have e2 : bestErr l u share = 0 := by rw [hb2, if_pos rfl]
        have HP2 : Hid (∀ e w', BestPost w l u share e w' ↔ e = .returned (.tuple #[.agg (cfgc 1 pr pw l).toArray, .int .i64 0]) ∧ Kept No w w') := Lib.hid fun e w' => by unfold BestPost; rw [hb1, e2]; exact Iff.rfl
        obtain ⟨z0, z1, z2, z3, z4, z5, z6, z7, z8, z9, z10⟩ := cfg_cells BB hl
        have z0 : wr.cell? ⟨gb, 0, none⟩ = some (.int .u32 1) := z0
        have S4 := set11 F4 rfl (.int .u32 1) (.int .u8 pr) (.int .u8 pw) (.int .u8 (vsOf l 0)) (.int .u8 (vsOf l 1)) (.int .u8 (vsOf l 2)) (.int .u8 (vsOf l 3)) (.int .u8 (vsOf l 4)) (.int .u8 (vsOf l 5)) (.int .u8 (vsOf l 6)) (.int .u8 (vsOf l 7))
        have KS := kept11 KF (w.heap.size + 1 + 1) (fun h => by omega) (.int .u32 1) (.int .u8 pr) (.int .u8 pw) (.int .u8 (vsOf l 0)) (.int .u8 (vsOf l 1)) (.int .u8 (vsOf l 2)) (.int .u8 (vsOf l 3)) (.int .u8 (vsOf l 4)) (.int .u8 (vsOf l 5)) (.int .u8 (vsOf l 6)) (.int .u8 (vsOf l 7))
        have HEq := Lib.hid (cfg_eq 1 pr pw l hl)
        clear e2 hb1 hb2 BB
        have HK1 := Lib.hid hk1
        clear hk1
        by_cases hA : y ≤ A
        · have hk1 := HK1.out hA
          cases (trivial : True)
          · have q5 : (y : Int) ≤ A := by omega
            have q6 := decide_eq_false (show ¬ ((y : Int) < 256) by omega)
            clear hk1 hA
            go_wp2
            clear y0 y1 y2 y3 y4 y5 y6 y7 y8 y9 y10 z0 z1 z2 z3 z4 z5 z6 z7 z8 z9 z10 hf F4
            obtain ⟨x0, x1, x2, x3, x4, x5, x6, x7, x8, x9, x10⟩ := get11 S4
            exact bodyPost_ret (v := .tuple #[.agg #[.int .u32 1, .int .u8 pr, .int .u8 pw, .int .u8 (vsOf l 0), .int .u8 (vsOf l 1), .int .u8 (vsOf l 2), .int .u8 (vsOf l 3), .int .u8 (vsOf l 4), .int .u8 (vsOf l 5), .int .u8 (vsOf l 6), .int .u8 (vsOf l 7)], .int .i64 0]) (by simp [results, Try.results41, go_sem, x0, x1, x2, x3, x4, x5, x6, x7, x8, x9, x10]) rfl ((HP2.out _ _).2 ⟨by rw [← HEq.out]; rfl, KS⟩)
        · cases (trivial : True)
          · have q5 : (A : Int) < y := by omega
            go_wp2
            clear y0 y1 y2 y3 y4 y5 y6 y7 y8 y9 y10 z0 z1 z2 z3 z4 z5 z6 z7 z8 z9 z10 hf F4
            obtain ⟨x0, x1, x2, x3, x4, x5, x6, x7, x8, x9, x10⟩ := get11 S4
            exact bodyPost_ret (v := .tuple #[.agg #[.int .u32 1, .int .u8 pr, .int .u8 pw, .int .u8 (vsOf l 0), .int .u8 (vsOf l 1), .int .u8 (vsOf l 2), .int .u8 (vsOf l 3), .int .u8 (vsOf l 4), .int .u8 (vsOf l 5), .int .u8 (vsOf l 6), .int .u8 (vsOf l 7)], .int .i64 0]) (by simp [results, Try.results41, go_sem, x0, x1, x2, x3, x4, x5, x6, x7, x8, x9, x10]) rfl ((HP2.out _ _).2 ⟨by rw [← HEq.out]; rfl, KS⟩)
end
end Go.Proofs.Ytencnfgmgcdiiaa
