/- The program's Best, as a walk. -/
import Derived.Test.YtencnfgmgcdiiaaAvBestP
namespace Go.Proofs.Ytencnfgmgcdiiaa
open Go.RowKit Go.PM

/-- What Best answers: a configuration's cells and an error. -/
def bestCfg (l u : List UInt8) (share : Nat) : List Value :=
  if 100 < share ∨ vtErr l u ≠ 0 ∨ avOf (vsOf l) 8 255 = 0 then cfgc 0 0 0 zero8
  else cfgc 1 (avOf (vsOf l) 8 255 - bestW (avT (vsOf l) (vsOf u) 8) share (avOf (vsOf l) 8 255) + 1) (bestW (avT (vsOf l) (vsOf u) 8) share (avOf (vsOf l) 8 255)) l
def bestErr (l u : List UInt8) (share : Nat) : Nat := if 100 < share then 1 else if vtErr l u ≠ 0 then vtErr l u else if avOf (vsOf l) 8 255 = 0 then 16 else 0

/-- The best so far. -/
def bsCells (A : Nat) (l : List UInt8) (p : Nat) : List Value := if p = 0 then cfgc 0 0 0 zero8 else cfgc 1 (A - p + 1) p l

theorem avOf_le15 (l : List UInt8) (h : vOk l = true) (k set : Nat) : avOf (vsOf l) k set ≤ 15 * k := by
  induction k with
  | zero => exact Nat.le_refl _
  | succ k ih =>
    unfold avOf
    have := vOk_le h k
    split <;> omega
theorem tail_T (l u : List UInt8) (want : Nat) : ((avCnt (vsOf l) (vsOf u) 8).drop want).sum = avT (vsOf l) (vsOf u) 8 want := by rw [avOften_tail, avOften_T]

section
variable {w : World}

theorem set11 {b : Nat} {T : TypeId} {cs : List Value} (h : Blk w b T cs) (hl : cs.length = 11) (x0 x1 x2 x3 x4 x5 x6 x7 x8 x9 x10 : Value) :
    Blk (((((((((((w.setCell ⟨b, 0, none⟩ x0).setCell ⟨b, 1, none⟩ x1).setCell ⟨b, 2, none⟩ x2).setCell ⟨b, 3, none⟩ x3).setCell ⟨b, 4, none⟩ x4).setCell ⟨b, 5, none⟩ x5).setCell ⟨b, 6, none⟩ x6).setCell ⟨b, 7, none⟩ x7).setCell ⟨b, 8, none⟩ x8).setCell ⟨b, 9, none⟩ x9).setCell ⟨b, 10, none⟩ x10) b T [x0, x1, x2, x3, x4, x5, x6, x7, x8, x9, x10] := by
  match cs, hl with
  | [_, _, _, _, _, _, _, _, _, _, _], _ => exact ((((((((((h.set 0 x0).set 1 x1).set 2 x2).set 3 x3).set 4 x4).set 5 x5).set 6 x6).set 7 x7).set 8 x8).set 9 x9).set 10 x10
theorem kept11 {w' : World} {S : Nat → Prop} (k : Kept S w w') (b : Nat) (hb : b < w.heap.size → S b) (x0 x1 x2 x3 x4 x5 x6 x7 x8 x9 x10 : Value) :
    Kept S w (((((((((((w'.setCell ⟨b, 0, none⟩ x0).setCell ⟨b, 1, none⟩ x1).setCell ⟨b, 2, none⟩ x2).setCell ⟨b, 3, none⟩ x3).setCell ⟨b, 4, none⟩ x4).setCell ⟨b, 5, none⟩ x5).setCell ⟨b, 6, none⟩ x6).setCell ⟨b, 7, none⟩ x7).setCell ⟨b, 8, none⟩ x8).setCell ⟨b, 9, none⟩ x9).setCell ⟨b, 10, none⟩ x10) :=
  ((((((((((k.setCell hb x0).setCell hb x1).setCell hb x2).setCell hb x3).setCell hb x4).setCell hb x5).setCell hb x6).setCell hb x7).setCell hb x8).setCell hb x9).setCell hb x10
/-- A block's eleven cells. -/
theorem get11 {b : Nat} {T : TypeId} {x0 x1 x2 x3 x4 x5 x6 x7 x8 x9 x10 : Value} (h : Blk w b T [x0, x1, x2, x3, x4, x5, x6, x7, x8, x9, x10]) :
    w.cell? ⟨b, 0, none⟩ = some x0 ∧ w.cell? ⟨b, 1, none⟩ = some x1 ∧ w.cell? ⟨b, 2, none⟩ = some x2 ∧ w.cell? ⟨b, 3, none⟩ = some x3 ∧ w.cell? ⟨b, 4, none⟩ = some x4 ∧ w.cell? ⟨b, 5, none⟩ = some x5 ∧ w.cell? ⟨b, 6, none⟩ = some x6 ∧ w.cell? ⟨b, 7, none⟩ = some x7 ∧ w.cell? ⟨b, 8, none⟩ = some x8 ∧ w.cell? ⟨b, 9, none⟩ = some x9 ∧ w.cell? ⟨b, 10, none⟩ = some x10 :=
  ⟨h.cell 0, h.cell 1, h.cell 2, h.cell 3, h.cell 4, h.cell 5, h.cell 6, h.cell 7, h.cell 8, h.cell 9, h.cell 10⟩

theorem tail_q (g : Nat) (l : List Nat) (want : Nat) (hw : want < l.length) (hlen : l.length ≤ 100000) (hwb : want < 256) (hs : l.sum < 18446744073709551616) (hr : Rd w (some ⟨g, 0, none⟩) (ucells l)) (x : Nat) (hx : (l.drop want).sum = x) (n : Nat) :
    Calls Try.prog 58 #[.slice (some ⟨g, 0, none⟩) l.length l.length, .int .u8 want] (w.drewN n) fun e w' => e = .returned (.int .u64 x) ∧ ∃ m, w' = w.drewN m :=
  Calls.quiet_of_same ((tail_calls (w := w.drewN n) g l want hw hlen hwb hs (by exact hr)).mono fun _ _ h => ⟨h.1.trans (by rw [hx]), h.2.symm⟩)

def Votes0 (w : World) (L : List Nat) (e : Ending) (w' : World) : Prop := Kept No w w' ∧ ∃ v, e = .returned (.tuple #[v, .int .i64 0]) ∧ FreshU w w' v L
theorem votes0_calls (l u : List UInt8) (hl : l.length = 8) (hul : u.length = 8) (h0 : vtErr l u = 0) :
    Calls Try.prog 34 #[.agg (bcells l).toArray, .agg (bcells u).toArray] w (Votes0 w (avCnt (vsOf l) (vsOf u) 8)) :=
  (votes_calls l u hl hul).mono fun _ _ h => by
    obtain ⟨hk, v, he, _, h2⟩ := h
    exact ⟨hk, v, by rw [he, h0]; rfl, h2 h0⟩

def BeRel (ws : World) (gb A s : Nat) (f : Nat → Nat) (l : List UInt8) (m i : Value) (wr : World) : Prop :=
  ∃ n : Nat, n ≤ A + 1 - s ∧ m = .int .u64 (bsTo f s n).2 ∧ i = .int .i64 (s + n : Nat) ∧ Blk wr gb 49 (bsCells A l (bsTo f s n).1) ∧ Kept (· = gb) ws wr

def BestPost (w : World) (l u : List UInt8) (share : Nat) (e : Ending) (w' : World) : Prop := e = .returned (.tuple #[.agg (bestCfg l u share).toArray, .int .i64 (bestErr l u share)]) ∧ Kept No w w'

set_option maxRecDepth 100000 in
set_option maxHeartbeats 4000000 in
theorem best_calls (l u : List UInt8) (hl : l.length = 8) (hul : u.length = 8) (share : Nat) (hsh : share < 256) :
    Calls Try.prog 40 #[.agg (bcells l).toArray, .agg (bcells u).toArray, .int .u8 share] w (BestPost w l u share) := by
  have B0 := (Blk.new w 47 (bcells l)).alloc (.cells (bcells u).toArray 47)
  have B1 := Blk.new' (w := w.alloc (.cells (bcells l).toArray 47)) (g := w.heap.size + 1) (by rw [World.size_alloc]) 47 (bcells u)
  have K0 := ((Kept.refl No w).alloc (.cells (bcells l).toArray 47)).alloc (.cells (bcells u).toArray 47)
  by_cases h100 : 100 < share
  · have q1 : (100 : Int) < share := by omega
    have e1 : bestCfg l u share = cfgc 0 0 0 zero8 := by unfold bestCfg; rw [if_pos (.inl h100)]
    have e2 : bestErr l u share = 1 := by unfold bestErr; rw [if_pos h100]
    have HP : Hid (∀ e w', BestPost w l u share e w' ↔ e = .returned (.tuple #[.agg (cfgc 0 0 0 zero8).toArray, .int .i64 1]) ∧ Kept No w w') := Lib.hid fun e w' => by unfold BestPost; rw [e1, e2]; exact Iff.rfl
    clear e1 e2
    go_enter Try.func40, Try.ntmps40
    go_wp2
    exact bodyPost_ret (v := .tuple #[.agg #[.int .u32 0, .int .u8 0, .int .u8 0, .int .u8 0, .int .u8 0, .int .u8 0, .int .u8 0, .int .u8 0, .int .u8 0, .int .u8 0, .int .u8 0], .int .i64 1]) (by simp [results, Try.results40, go_sem]) rfl ((HP.out _ _).2 ⟨rfl, K0.alloc _⟩)
  have q1 := decide_eq_false (show ¬ (share : Int) > 100 by omega)
  have B2 := (B0.alloc (.cells #[.int .u32 0, .int .u8 0, .int .u8 0, .int .u8 0, .int .u8 0, .int .u8 0, .int .u8 0, .int .u8 0, .int .u8 0, .int .u8 0, .int .u8 0] 49))
  have B3 := (B1.alloc (.cells #[.int .u32 0, .int .u8 0, .int .u8 0, .int .u8 0, .int .u8 0, .int .u8 0, .int .u8 0, .int .u8 0, .int .u8 0, .int .u8 0, .int .u8 0] 49))
  have B4 := Blk.new' (w := (w.alloc (.cells (bcells l).toArray 47)).alloc (.cells (bcells u).toArray 47)) (g := w.heap.size + 1 + 1) (by simp) 49 [.int .u32 0, .int .u8 0, .int .u8 0, .int .u8 0, .int .u8 0, .int .u8 0, .int .u8 0, .int .u8 0, .int .u8 0, .int .u8 0, .int .u8 0]
  have K1 := K0.alloc (.cells #[.int .u32 0, .int .u8 0, .int .u8 0, .int .u8 0, .int .u8 0, .int .u8 0, .int .u8 0, .int .u8 0, .int .u8 0, .int .u8 0, .int .u8 0] 49)
  obtain ⟨c0, c1, c2, c3, c4, c5, c6, c7⟩ := up_cells B2 hl
  obtain ⟨d0, d1, d2, d3, d4, d5, d6, d7⟩ := up_cells B3 hul
  have hv := fun w => votes_calls (w := w) l u hl hul
  have HV := Lib.hid hv
  clear hv B0 B1 K0
  by_cases hE : vtErr l u = 0
  case neg =>
    go_enter Try.func40, Try.ntmps40
    go_wp2_with fail
    rw [up_eq u hul, up_eq l hl]
    refine (HV.out _).mono ?_
    rintro _ w1 ⟨k1, v1, rfl, hv1, _⟩
    have hv1 := hv1 hE
    subst hv1
    have C4 := B4.kept k1 id
    have K2 := K1.transNo k1
    have e1 : bestCfg l u share = cfgc 0 0 0 zero8 := by unfold bestCfg; rw [if_pos (.inr (.inl hE))]
    have e2 : bestErr l u share = vtErr l u := by unfold bestErr; rw [if_neg h100, if_pos hE]
    have HP : Hid (∀ e w', BestPost w l u share e w' ↔ e = .returned (.tuple #[.agg (cfgc 0 0 0 zero8).toArray, .int .i64 (vtErr l u)]) ∧ Kept No w w') := Lib.hid fun e w' => by unfold BestPost; rw [e1, e2]
    clear e1 e2 B2 B3 B4 K1 k1 c0 c1 c2 c3 c4 c5 c6 c7 d0 d1 d2 d3 d4 d5 d6 d7
    generalize vtErr l u = E at *
    have hE' := beq_eq_false_iff_ne.2 (show (E : Int) ≠ 0 by omega)
    have hE2 : ((E : Int) != 0) = true := by rw [bne, hE']; rfl
    obtain ⟨x0, x1, x2, x3, x4, x5, x6, x7, x8, x9, x10⟩ := get11 C4
    have hf := fun j => C4.frozen j
    have S4 := set11 C4 rfl (.int .u32 0) (.int .u8 0) (.int .u8 0) (.int .u8 0) (.int .u8 0) (.int .u8 0) (.int .u8 0) (.int .u8 0) (.int .u8 0) (.int .u8 0) (.int .u8 0)
    have KS := kept11 K2 (w.heap.size + 1 + 1) (fun h => by omega) (.int .u32 0) (.int .u8 0) (.int .u8 0) (.int .u8 0) (.int .u8 0) (.int .u8 0) (.int .u8 0) (.int .u8 0) (.int .u8 0) (.int .u8 0) (.int .u8 0)
    go_wp2
    clear x0 x1 x2 x3 x4 x5 x6 x7 x8 x9 x10 hf C4
    obtain ⟨x0, x1, x2, x3, x4, x5, x6, x7, x8, x9, x10⟩ := get11 S4
    exact bodyPost_ret (v := .tuple #[.agg #[.int .u32 0, .int .u8 0, .int .u8 0, .int .u8 0, .int .u8 0, .int .u8 0, .int .u8 0, .int .u8 0, .int .u8 0, .int .u8 0, .int .u8 0], .int .i64 E]) (by simp [results, Try.results40, go_sem, x0, x1, x2, x3, x4, x5, x6, x7, x8, x9, x10]) rfl ((HP.out _ _).2 ⟨rfl, KS⟩)
  have hup : upOk u = true := by
    unfold vtErr at hE
    cases h : upOk u
    · rw [h] at hE; cases hE
    · rfl
  have hvo : vOk l = true := by
    unfold vtErr at hE
    rw [if_pos hup] at hE
    cases h : vOk l
    · rw [h] at hE; cases hE
    · rfl
  have hA120 := avOf_le15 l hvo 8 255
  have hsum := sum_cnt l u hup
  have hv := fun w => votes0_calls (w := w) l u hl hul hE
  have hTl := fun k => (tail_T l u k)
  have hTle := fun k => avT_le (vsOf l) (vsOf u) (upOk_le hup) 8 k
  have hlen : (avCnt (vsOf l) (vsOf u) 8).length = avOf (vsOf l) 8 255 + 1 := by rw [avCnt_length, Nat.add_comm]
  have HP : Hid (∀ e w', BestPost w l u share e w' ↔ e = .returned (.tuple #[.agg (bestCfg l u share).toArray, .int .i64 (bestErr l u share)]) ∧ Kept No w w') := Lib.hid fun e w' => Iff.rfl
  have hbc : bestCfg l u share = if avOf (vsOf l) 8 255 = 0 then cfgc 0 0 0 zero8 else cfgc 1 (avOf (vsOf l) 8 255 - bestW (avT (vsOf l) (vsOf u) 8) share (avOf (vsOf l) 8 255) + 1) (bestW (avT (vsOf l) (vsOf u) 8) share (avOf (vsOf l) 8 255)) l := by
    unfold bestCfg
    by_cases h : avOf (vsOf l) 8 255 = 0
    · rw [if_pos (.inr (.inr h)), if_pos h]
    · rw [if_neg (fun h1 => h1.elim h100 fun h1 => h1.elim (fun h1 => h1 hE) h), if_neg h]
  have hbe : bestErr l u share = if avOf (vsOf l) 8 255 = 0 then 16 else 0 := by
    unfold bestErr
    rw [if_neg h100, if_neg (by rw [hE]; exact fun h => h rfl)]
  have hbw : bestW (avT (vsOf l) (vsOf u) 8) share (avOf (vsOf l) 8 255) = (bsTo (pf (avT (vsOf l) (vsOf u) 8) share (avOf (vsOf l) 8 255)) (avOf (vsOf l) 8 255 / 2 + 1) (avOf (vsOf l) 8 255 - avOf (vsOf l) 8 255 / 2)).1 := rfl
  rw [hbw] at hbc
  clear hbw
  generalize avOf (vsOf l) 8 255 = A at *
  generalize avT (vsOf l) (vsOf u) 8 = T at *
  generalize avCnt (vsOf l) (vsOf u) 8 = L at *
  have HV := Lib.hid hv
  clear hv
  have A1 : (A : Int) ≤ 120 := by omega
  have HTl := Lib.hid hTl
  have HTle := Lib.hid hTle
  have HBC := Lib.hid hbc
  have HBE := Lib.hid hbe
  have HSum := Lib.hid hsum
  have HLen := Lib.hid hlen
  clear hTl hTle hbc hbe hsum hlen hE
  go_enter Try.func40, Try.ntmps40
  go_wp2_with fail
  rw [up_eq u hul, up_eq l hl]
  refine (HV.out _).mono ?_
  rintro _ w1 ⟨k1, _, rfl, ⟨g, rfl, hg, BG⟩⟩
  have C2 := B2.kept k1 id
  have C4 := B4.kept k1 id
  have K2 := K1.transNo k1
  rw [HLen.out]
  clear B2 B3 B4 K1 k1 c0 c1 c2 c3 c4 c5 c6 c7 d0 d1 d2 d3 d4 d5 d6 d7
  go_wp2
  have Z0 := Blk.new w1 49 [.int .u32 0, .int .u8 0, .int .u8 0, .int .u8 0, .int .u8 0, .int .u8 0, .int .u8 0, .int .u8 0, .int .u8 0, .int .u8 0, .int .u8 0]
  have KA := (Kept.refl No w1).alloc (.cells #[.int .u32 0, .int .u8 0, .int .u8 0, .int .u8 0, .int .u8 0, .int .u8 0, .int .u8 0, .int .u8 0, .int .u8 0, .int .u8 0, .int .u8 0] 49)
  have D2 := C2.kept KA id
  have D4 := C4.kept KA id
  have DG := BG.kept KA id
  have K3 := K2.trans KA fun _ _ h => h
  have l2 := C2.lt
  have l4 := C4.lt
  have lg := BG.lt
  generalize hgb : w1.heap.size = gb at *
  generalize hws : w1.alloc (.cells #[.int .u32 0, .int .u8 0, .int .u8 0, .int .u8 0, .int .u8 0, .int .u8 0, .int .u8 0, .int .u8 0, .int .u8 0, .int .u8 0, .int .u8 0] 49) = ws at *
  have n2 : ¬ w.heap.size = gb := by omega
  have n4 : ¬ w.heap.size + 1 + 1 = gb := by omega
  have ng : ¬ g = gb := by omega
  have hwg : w.heap.size ≤ gb := by omega
  clear C2 C4 BG K2 KA hgb hws l2 l4 lg
  have hs2 : ((A / 2 + 1 + 0 : Nat) : Int) = (A : Int) / 2 + 1 := by omega
  go_loopw [12, 13] (fun m i wr => BeRel ws gb A (A / 2 + 1) (pf T share A) l m i wr) (fun _ i _ => A + 1 - (intOf i).toNat)
  case atStart => exact ⟨0, by omega, rfl, by rw [hs2], Z0, Kept.refl _ _⟩
  case round =>
    obtain ⟨n, hn, rfl, rfl, BB, Kx⟩ := hrel
    have E2 := D2.kept Kx n2
    have EG := DG.kept Kx ng
    by_cases hlt : A / 2 + 1 + n ≤ A
    · have step : bsTo (pf T share A) (A / 2 + 1) (n + 1) = if (bsTo (pf T share A) (A / 2 + 1) n).1 = 0 ∨ (bsTo (pf T share A) (A / 2 + 1) n).2 < pf T share A (A / 2 + 1 + n) then (A / 2 + 1 + n, pf T share A (A / 2 + 1 + n)) else bsTo (pf T share A) (A / 2 + 1) n := rfl
      have hin := bsTo_in (pf T share A) (A / 2 + 1) n
      have hw1 : A / 2 + 1 + n + 1 = A / 2 + 1 + (n + 1) := by omega
      generalize bsTo (pf T share A) (A / 2 + 1) n = p at *
      have hnn : n + 1 ≤ A + 1 - (A / 2 + 1) := by omega
      generalize hx : A / 2 + 1 + n = x at *
      have x0 : (0 : Int) ≤ x := by omega
      have xp : 0 < x := by omega
      have x1 : (x : Int) ≤ A := by omega
      have xr : A - x + 1 < L.length := by rw [HLen.out]; omega
      have xw : x < L.length := by rw [HLen.out]; omega
      have hpf : pf T share A x = T (A - x + 1) / 100 * share + T x / 100 * (100 - share) := rfl
      have hT1 := HTle.out (A - x + 1)
      have hT2 := HTle.out x
      have tq1 := fun w (hr : Rd w (some ⟨g, 0, none⟩) (ucells L)) => tail_q (w := w) g L (A - x + 1) xr (by rw [HLen.out]; omega) (by omega) (by rw [HSum.out]; omega) hr _ (HTl.out _)
      have tq2 := fun w (hr : Rd w (some ⟨g, 0, none⟩) (ucells L)) => tail_q (w := w) g L x xw (by rw [HLen.out]; omega) (by omega) (by rw [HSum.out]; omega) hr _ (HTl.out _)
      rw [HLen.out] at tq1 tq2
      have c1 : (A : Int) - x + 1 = ((A - x + 1 : Nat) : Int) := by omega
      have hr256 : A - x + 1 ≤ 120 := by omega
      generalize hr' : A - x + 1 = r at *
      have C1 := Lib.hid c1
      have HR := Lib.hid hr'
      clear hr'
      have ST := Lib.hid step
      have HIn := Lib.hid hin
      have HX := Lib.hid hx
      have HW1 := Lib.hid hw1
      have TQ1 := Lib.hid tq1
      have TQ2 := Lib.hid tq2
      have HPf := Lib.hid hpf
      clear step hin hx hw1 tq1 tq2 hpf c1 hn xr xw
      obtain ⟨c0, c1, c2, c3, c4, c5, c6, c7⟩ := up_cells E2 hl
      go_wp2
      rw [C1.out, show #[Value.int .u32 1, .int .u8 (r : Int), .int .u8 (x : Int), .int .u8 (vsOf l 0), .int .u8 (vsOf l 1), .int .u8 (vsOf l 2), .int .u8 (vsOf l 3), .int .u8 (vsOf l 4), .int .u8 (vsOf l 5), .int .u8 (vsOf l 6), .int .u8 (vsOf l 7)] = (cfgc 1 r x l).toArray from cfg_eq 1 r x l hl]
      clear c0 c1 c2 c3 c4 c5 c6 c7
      have BN := Blk.new wr 49 (cfgc 1 r x l)
      have BB1 := BB.alloc (.cells (cfgc 1 r x l).toArray 49)
      have Kx1 := Kx.alloc (.cells (cfgc 1 r x l).toArray 49)
      have RG : Rd (wr.alloc (.cells (cfgc 1 r x l).toArray 49)) (some ⟨g, 0, none⟩) (ucells L) := Rd.ofBlk' (EG.alloc _)
      have hne : ¬ gb = wr.heap.size := by have := BB.lt; omega
      generalize hgn : wr.heap.size = gn at *
      generalize hwn : wr.alloc (.cells (cfgc 1 r x l).toArray 49) = wn at *
      clear hgn hwn BB Kx EG E2
      obtain ⟨c0, c1, c2, c3, c4, c5, c6, c7, c8, c9, c10⟩ := cfg_cells BN hl
      have hwv := wv_le HTle.out share r x (by omega)
      generalize T r = t1 at *
      generalize T x = t2 at *
      have rI : (r : Int) < 256 := by omega
      have t1I : (t1 : Int) ≤ 10000000000000000 := by omega
      have t2I : (t2 : Int) ≤ 10000000000000000 := by omega
      go_quiet ((go_at_call 58; first | (with_reducible exact TQ1.out wn RG _) | (with_reducible exact TQ2.out wn RG _)))
      have W1 : IntKind.u64.wrap ((t1 : Int) / 100 * share) = ((t1 / 100 * share : Nat) : Int) := by
        have e : (t1 : Int) / 100 * share = ((t1 / 100 * share : Nat) : Int) := by rw [Int.natCast_mul]; rfl
        rw [e, IntKind.wrap_u64]; omega
      have W2 : IntKind.u64.wrap ((t2 : Int) / 100 * (100 - share)) = ((t2 / 100 * (100 - share) : Nat) : Int) := by
        have e : (t2 : Int) / 100 * (100 - share) = ((t2 / 100 * (100 - share) : Nat) : Int) := by rw [Int.natCast_mul, Int.natCast_sub (by omega)]; rfl
        rw [e, IntKind.wrap_u64]; omega
      have W3 : IntKind.u64.wrap (((t1 / 100 * share : Nat) : Int) + ((t2 / 100 * (100 - share) : Nat) : Int)) = ((pf T share A x : Nat) : Int) := by
        rw [HPf.out, IntKind.wrap_u64]; omega
      simp only [W1, W2, W3]
      generalize pf T share A x = f at *
      clear W1 W2 W3 hwv t1I t2I hT1 hT2
      have hbs : bsCells A l x = cfgc 1 r x l := by unfold bsCells; rw [if_neg (by omega), HR.out]
      have HBS := Lib.hid hbs
      clear hbs
      have hblen : (bsCells A l p.1).length = 11 := by
        unfold bsCells
        split
        · rfl
        · simp [cfgc, hl]
      have HF := Lib.hid hblen
      obtain ⟨p1, p2⟩ := p
      dsimp only at *
      by_cases h0 : p1 = 0
      · have hb0 : bsCells A l p1 = cfgc 0 0 0 zero8 := by unfold bsCells; rw [if_pos h0]
        have STF : Hid (bsTo (pf T share A) (A / 2 + 1) (n + 1) = (x, f)) := Lib.hid (by rw [ST.out, if_pos (.inl h0)])
        have BBz : Blk wn gb 49 [.int .u32 0, .int .u8 0, .int .u8 0, .int .u8 0, .int .u8 0, .int .u8 0, .int .u8 0, .int .u8 0, .int .u8 0, .int .u8 0, .int .u8 0] := by rw [hb0] at BB1; exact BB1
        obtain ⟨y0, y1, y2, y3, y4, y5, y6, y7, y8, y9, y10⟩ := get11 BBz
        have hf := fun j => BBz.frozen j
        clear h0 hb0 BBz
        by_cases True
        · skip
          have Z1 := set11 (BB1.drewN nq) hblen (.int .u32 1) (.int .u8 r) (.int .u8 x) (.int .u8 (vsOf l 0)) (.int .u8 (vsOf l 1)) (.int .u8 (vsOf l 2)) (.int .u8 (vsOf l 3)) (.int .u8 (vsOf l 4)) (.int .u8 (vsOf l 5)) (.int .u8 (vsOf l 6)) (.int .u8 (vsOf l 7))
          have Z2 := kept11 (Kx1.drewN nq) gb (fun _ => rfl) (.int .u32 1) (.int .u8 r) (.int .u8 x) (.int .u8 (vsOf l 0)) (.int .u8 (vsOf l 1)) (.int .u8 (vsOf l 2)) (.int .u8 (vsOf l 3)) (.int .u8 (vsOf l 4)) (.int .u8 (vsOf l 5)) (.int .u8 (vsOf l 6)) (.int .u8 (vsOf l 7))
          have eC : [Value.int .u32 1, .int .u8 (r : Int), .int .u8 (x : Int), .int .u8 (vsOf l 0), .int .u8 (vsOf l 1), .int .u8 (vsOf l 2), .int .u8 (vsOf l 3), .int .u8 (vsOf l 4), .int .u8 (vsOf l 5), .int .u8 (vsOf l 6), .int .u8 (vsOf l 7)] = cfgc 1 r x l := congrArg Array.toList (cfg_eq 1 r x l hl)
          rw [eC, ← HBS.out] at Z1
          clear eC hblen
          go_wp2
          refine ⟨⟨n + 1, hnn, ?_, ?_, ?_, Z2⟩, by simp [intOf]; omega⟩
          · rw [STF.out]
          · rw [← HW1.out]; go_num
          · rw [STF.out]; exact Z1
        · contradiction
      · have hb0 : bsCells A l p1 = cfgc 1 (A - p1 + 1) p1 l := by unfold bsCells; rw [if_neg h0]
        have BBz : Blk wn gb 49 (cfgc 1 (A - p1 + 1) p1 l) := by rw [hb0] at BB1; exact BB1
        obtain ⟨y0, y1, y2, y3, y4, y5, y6, y7, y8, y9, y10⟩ := cfg_cells BBz hl
        have y0 : wn.cell? ⟨gb, 0, none⟩ = some (.int .u32 1) := y0
        have hf := fun j => BBz.frozen j
        clear hb0 BBz
        by_cases hlt2 : p2 < f
        · have STF : Hid (bsTo (pf T share A) (A / 2 + 1) (n + 1) = (x, f)) := Lib.hid (by rw [ST.out, if_pos (.inr hlt2)])
          have q5 : (p2 : Int) < f := by omega
          clear h0
          have Z1 := set11 (BB1.drewN nq) hblen (.int .u32 1) (.int .u8 r) (.int .u8 x) (.int .u8 (vsOf l 0)) (.int .u8 (vsOf l 1)) (.int .u8 (vsOf l 2)) (.int .u8 (vsOf l 3)) (.int .u8 (vsOf l 4)) (.int .u8 (vsOf l 5)) (.int .u8 (vsOf l 6)) (.int .u8 (vsOf l 7))
          have Z2 := kept11 (Kx1.drewN nq) gb (fun _ => rfl) (.int .u32 1) (.int .u8 r) (.int .u8 x) (.int .u8 (vsOf l 0)) (.int .u8 (vsOf l 1)) (.int .u8 (vsOf l 2)) (.int .u8 (vsOf l 3)) (.int .u8 (vsOf l 4)) (.int .u8 (vsOf l 5)) (.int .u8 (vsOf l 6)) (.int .u8 (vsOf l 7))
          have eC : [Value.int .u32 1, .int .u8 (r : Int), .int .u8 (x : Int), .int .u8 (vsOf l 0), .int .u8 (vsOf l 1), .int .u8 (vsOf l 2), .int .u8 (vsOf l 3), .int .u8 (vsOf l 4), .int .u8 (vsOf l 5), .int .u8 (vsOf l 6), .int .u8 (vsOf l 7)] = cfgc 1 r x l := congrArg Array.toList (cfg_eq 1 r x l hl)
          rw [eC, ← HBS.out] at Z1
          clear eC hblen
          go_wp2
          refine ⟨⟨n + 1, hnn, ?_, ?_, ?_, Z2⟩, by simp [intOf]; omega⟩
          · rw [STF.out]
          · rw [← HW1.out]; go_num
          · rw [STF.out]; exact Z1
        · have STF : Hid (bsTo (pf T share A) (A / 2 + 1) (n + 1) = (p1, p2)) := Lib.hid (by rw [ST.out, if_neg (fun h => h.elim h0 hlt2)])
          have q5 : (f : Int) ≤ p2 := by omega
          clear h0 hblen
          go_wp2
          refine ⟨⟨n + 1, hnn, ?_, ?_, ?_, Kx1.drewN nq⟩, by simp [intOf]; omega⟩
          · rw [STF.out]
          · rw [← HW1.out]; go_num
          · rw [STF.out]; exact BB1.drewN nq
    · have hnA : n = A - A / 2 := by omega
      have hlt' : (A : Int) < (A / 2 + 1 + n : Nat) := by omega
      have KF : Kept No w wr := K3.trans Kx (fun b hb e => by omega)
      have E4 := D4.kept Kx n4
      rw [hnA] at BB
      clear hnA hn DG D2 D4 EG E2 Kx HSum HTl HTle HLen
      generalize A / 2 + 1 + n = x at *
      by_cases h0 : A = 0
      · have e1 : bestCfg l u share = cfgc 0 0 0 zero8 := by rw [HBC.out, if_pos h0]
        have e2 : bestErr l u share = 16 := by rw [HBE.out, if_pos h0]
        have HP2 : Hid (∀ e w', BestPost w l u share e w' ↔ e = .returned (.tuple #[.agg (cfgc 0 0 0 zero8).toArray, .int .i64 16]) ∧ Kept No w w') := Lib.hid fun e w' => by unfold BestPost; rw [e1, e2]; exact Iff.rfl
        clear e1 e2
        have q5 := beq_iff_eq.2 (show (A : Int) = 0 by omega)
        obtain ⟨y0, y1, y2, y3, y4, y5, y6, y7, y8, y9, y10⟩ := get11 E4
        have hf := fun j => E4.frozen j
        have S4 := set11 E4 rfl (.int .u32 0) (.int .u8 0) (.int .u8 0) (.int .u8 0) (.int .u8 0) (.int .u8 0) (.int .u8 0) (.int .u8 0) (.int .u8 0) (.int .u8 0) (.int .u8 0)
        have KS := kept11 KF (w.heap.size + 1 + 1) (fun h => by omega) (.int .u32 0) (.int .u8 0) (.int .u8 0) (.int .u8 0) (.int .u8 0) (.int .u8 0) (.int .u8 0) (.int .u8 0) (.int .u8 0) (.int .u8 0) (.int .u8 0)
        clear h0
        go_wp2
        clear y0 y1 y2 y3 y4 y5 y6 y7 y8 y9 y10 hf E4
        obtain ⟨x0, x1, x2, x3, x4, x5, x6, x7, x8, x9, x10⟩ := get11 S4
        exact bodyPost_ret (v := .tuple #[.agg #[.int .u32 0, .int .u8 0, .int .u8 0, .int .u8 0, .int .u8 0, .int .u8 0, .int .u8 0, .int .u8 0, .int .u8 0, .int .u8 0, .int .u8 0], .int .i64 16]) (by simp [results, Try.results40, go_sem, x0, x1, x2, x3, x4, x5, x6, x7, x8, x9, x10]) rfl ((HP2.out _ _).2 ⟨rfl, KS⟩)
      · have hp := bsTo_pos (pf T share A) (A / 2 + 1) (A - A / 2) (by omega) (by omega)
        have e1 := HBC.out
        rw [if_neg h0] at e1
        have e2 : bestErr l u share = 0 := by rw [HBE.out, if_neg h0]
        generalize (bsTo (pf T share A) (A / 2 + 1) (A - A / 2)).1 = b at *
        have hbc : bsCells A l b = cfgc 1 (A - b + 1) b l := by unfold bsCells; rw [if_neg hp]
        rw [hbc] at BB
        have HP2 : Hid (∀ e w', BestPost w l u share e w' ↔ e = .returned (.tuple #[.agg (cfgc 1 (A - b + 1) b l).toArray, .int .i64 0]) ∧ Kept No w w') := Lib.hid fun e w' => by unfold BestPost; rw [e1, e2]; exact Iff.rfl
        have q5 := beq_eq_false_iff_ne.2 (show (A : Int) ≠ 0 by omega)
        clear e1 e2 hbc h0 hp HBC HBE
        generalize A - b + 1 = r at *
        obtain ⟨z0, z1, z2, z3, z4, z5, z6, z7, z8, z9, z10⟩ := cfg_cells BB hl
        have z0 : wr.cell? ⟨gb, 0, none⟩ = some (.int .u32 1) := z0
        obtain ⟨y0, y1, y2, y3, y4, y5, y6, y7, y8, y9, y10⟩ := get11 E4
        have hf := fun j => E4.frozen j
        have S4 := set11 E4 rfl (.int .u32 1) (.int .u8 r) (.int .u8 b) (.int .u8 (vsOf l 0)) (.int .u8 (vsOf l 1)) (.int .u8 (vsOf l 2)) (.int .u8 (vsOf l 3)) (.int .u8 (vsOf l 4)) (.int .u8 (vsOf l 5)) (.int .u8 (vsOf l 6)) (.int .u8 (vsOf l 7))
        have KS := kept11 KF (w.heap.size + 1 + 1) (fun h => by omega) (.int .u32 1) (.int .u8 r) (.int .u8 b) (.int .u8 (vsOf l 0)) (.int .u8 (vsOf l 1)) (.int .u8 (vsOf l 2)) (.int .u8 (vsOf l 3)) (.int .u8 (vsOf l 4)) (.int .u8 (vsOf l 5)) (.int .u8 (vsOf l 6)) (.int .u8 (vsOf l 7))
        have HEq := Lib.hid (cfg_eq 1 r b l hl)
        go_wp2
        clear y0 y1 y2 y3 y4 y5 y6 y7 y8 y9 y10 z0 z1 z2 z3 z4 z5 z6 z7 z8 z9 z10 hf E4
        obtain ⟨x0, x1, x2, x3, x4, x5, x6, x7, x8, x9, x10⟩ := get11 S4
        exact bodyPost_ret (v := .tuple #[.agg #[.int .u32 1, .int .u8 r, .int .u8 b, .int .u8 (vsOf l 0), .int .u8 (vsOf l 1), .int .u8 (vsOf l 2), .int .u8 (vsOf l 3), .int .u8 (vsOf l 4), .int .u8 (vsOf l 5), .int .u8 (vsOf l 6), .int .u8 (vsOf l 7)], .int .i64 0]) (by simp [results, Try.results40, go_sem, x0, x1, x2, x3, x4, x5, x6, x7, x8, x9, x10]) rfl ((HP2.out _ _).2 ⟨by rw [← HEq.out]; rfl, KS⟩)
end
end Go.Proofs.Ytencnfgmgcdiiaa
