/- The document's desk: Come, as a walk. -/
import Derived.Test.YtencnfgmgcdiiaaSrE
namespace Go.Proofs.Ytencnfgmgcdiiaa
open Go.RowKit Go.PM
set_option maxRecDepth 100000

def rCome (L : List (UInt8 × PC)) (c : UInt8) (s : Int) : Int × PA × Int × List (UInt8 × PC) :=
  if s < 1 ∨ 2147483647 < s then (0, .zero, 1, L)
  else if (getK L c).isSome = false ∧ L.length = 16 then (0, .zero, 5, L)
  else if s < (lk L c).last then (0, .zero, 13, L)
  else if s = (lk L c).last ∧ (lk L c).opn = true then (2, .zero, 0, L)
  else if s = (lk L c).last then (3, (lk L c).a, 0, L)
  else if (lk L c).opn = true ∨ 1 < s - (lk L c).last then (0, .zero, 11, L)
  else (1, .zero, 0, insS L c ⟨s, true, .zero⟩)
theorem rCome_ref {L D : List (UInt8 × PC)} (h : Ref L D) (hn : (D.map (·.1)).Nodup) (c : UInt8) (s : Int) :
    (rCome L c s).1 = (pCome D c s).1 ∧ (rCome L c s).2.1 = (pCome D c s).2.1 ∧ (rCome L c s).2.2.1 = (pCome D c s).2.2.1 ∧ Ref (rCome L c s).2.2.2 (pCome D c s).2.2.2 := by
  have e : lk L c = lk D c := by unfold lk; rw [h.same]
  have hl := h.len hn
  unfold rCome pCome
  dsimp only
  rw [show (getK D c).getD .zero = lk D c from rfl, e, h.same, hl]
  split
  · exact ⟨rfl, rfl, rfl, h⟩
  · split
    · exact ⟨rfl, rfl, rfl, h⟩
    · split
      · exact ⟨rfl, rfl, rfl, h⟩
      · split
        · exact ⟨rfl, rfl, rfl, h⟩
        · split
          · exact ⟨rfl, rfl, rfl, h⟩
          · split
            · exact ⟨rfl, rfl, rfl, h⟩
            · exact ⟨rfl, rfl, rfl, h.put c _⟩

section
variable {w w' : World} {q : Nat} {L : List (UInt8 × PC)} {a : Option Addr} {cap : Nat}
/-- A small block is not the desk's array. -/
theorem RefC.keptG {g : Nat} {T : TypeId} {cs : List Value} (h : RefC w q L a cap) (k : Kept (· = g) w w') (hB : Blk w g T cs) (hcs : cs.length < 9) (hq : q ≠ g) : RefC w' q L a cap := by
  cases L with
  | nil => exact ⟨h.st.kept k hq, Rd.nil _ _, h.le, h.max, h.nil, h.far⟩
  | cons p L =>
    refine h.kept k hq fun b hb e => ?_
    subst e
    obtain ⟨b', o, e, _⟩ := hb
    obtain ⟨b'', o', e', hc⟩ := h.rd 8 (.int .u32 p.2.a.ver) (by simp [rcells, rcell])
    rename_i hbb
    rw [e] at e'
    simp only [Option.some.injEq, Addr.mk.injEq, and_true] at e'
    obtain ⟨rfl, rfl⟩ := e'
    subst hbb
    rw [hB.cell] at hc
    have := (List.getElem?_eq_some_iff.1 hc).1
    omega
theorem RefB.keptG {g : Nat} {T : TypeId} {cs : List Value} (h : RefB w q L) (k : Kept (· = g) w w') (hB : Blk w g T cs) (hcs : cs.length < 9) (hq : q ≠ g) : RefB w' q L :=
  let ⟨a, cap, h⟩ := h; ⟨a, cap, h.keptG k hB hcs hq⟩

def RComePost (w : World) (q : Nat) (R : Int × PA × Int × List (UInt8 × PC)) (e : Ending) (w' : World) : Prop :=
  e = .returned (.tuple #[.int .i64 R.1, .agg #[.int .i64 R.2.1.why, .int .u8 R.2.1.node, .int .u32 R.2.1.boot, .int .u32 R.2.1.num, .string R.2.1.val, .int .u32 R.2.1.ver], .int .i64 R.2.2.1]) ∧ RefB w' q R.2.2.2 ∧ Kept (· = q) w w'

set_option maxHeartbeats 6400000 in
theorem r_come (h : RefB w q L) (hr : Rises L) (hl : L.length ≤ 16) (c : UInt8) (s : Int) (hs0 : 0 ≤ s) (hs1 : s < 4294967296) (hx0 : 0 ≤ (lk L c).last) (hx1 : (lk L c).last ≤ 2147483647) :
    Calls Try.prog 31 #[.pointer (some ⟨q, 0, none⟩), .int .u8 c.toNat, .int .u32 s] w (RComePost w q (rCome L c s)) := by
  obtain ⟨a, cap, h⟩ := h
  have hqlt := h.st.lt
  have B7 := Blk.new w 33 PA.zero.cells
  have K7 := (Kept.refl No w).alloc (.cells PA.zero.cells.toArray 33)
  have h7 := h.keptNo K7
  obtain ⟨R, hR⟩ : ∃ R, rCome L c s = R := ⟨_, rfl⟩
  rw [hR]
  replace hR := Lib.hid hR.symm
  obtain ⟨z, hz⟩ : ∃ z, (getK L c).isSome = z := ⟨_, rfl⟩
  obtain ⟨x, hx⟩ : ∃ x, lk L c = x := ⟨_, rfl⟩
  rw [hx] at hx0 hx1
  have HX := Lib.hid hx
  have HF := r_find h7 hr hl c
  rw [hz] at HF
  have HF' := Lib.hid HF
  have HPUT : Hid (∀ w', RefB w' q L → Calls Try.prog 50 #[.pointer (some ⟨q, 0, none⟩), .agg #[.int .u8 c.toNat, .int .u32 s, .bool true, .int .i64 0, .int .u8 0, .int .u32 0, .int .u32 0, .string ⟨#[]⟩, .int .u32 0]] w' (PutPost w' q (insS L c ⟨s, true, .zero⟩))) :=
    Lib.hid fun w' hb => r_put hb hr hl c ⟨s, true, .zero⟩
  have hq7 : q ≠ w.heap.size := by omega
  -- an answer stored behind all
  have FIN : Hid (∀ (wk : World) (L' : List (UInt8 × PC)) (cs : List Value), Blk wk w.heap.size 33 cs → cs.length = 6 → RefB wk q L' → Kept (· = q) w wk → ∀ v0 v1 v2 v3 v4 v5, (RefB ((((((wk.setCell ⟨w.heap.size, 0, none⟩ v0).setCell ⟨w.heap.size, 1, none⟩ v1).setCell ⟨w.heap.size, 2, none⟩ v2).setCell ⟨w.heap.size, 3, none⟩ v3).setCell ⟨w.heap.size, 4, none⟩ v4).setCell ⟨w.heap.size, 5, none⟩ v5) q L' ∧
      Kept (· = q) w ((((((wk.setCell ⟨w.heap.size, 0, none⟩ v0).setCell ⟨w.heap.size, 1, none⟩ v1).setCell ⟨w.heap.size, 2, none⟩ v2).setCell ⟨w.heap.size, 3, none⟩ v3).setCell ⟨w.heap.size, 4, none⟩ v4).setCell ⟨w.heap.size, 5, none⟩ v5)) ∧
      Blk ((((((wk.setCell ⟨w.heap.size, 0, none⟩ v0).setCell ⟨w.heap.size, 1, none⟩ v1).setCell ⟨w.heap.size, 2, none⟩ v2).setCell ⟨w.heap.size, 3, none⟩ v3).setCell ⟨w.heap.size, 4, none⟩ v4).setCell ⟨w.heap.size, 5, none⟩ v5) w.heap.size 33 [v0, v1, v2, v3, v4, v5]) :=
    Lib.hid fun wk L' cs hB hc hRB hk v0 v1 v2 v3 v4 v5 =>
      ⟨⟨hRB.keptG (kept6 (Kept.refl (· = w.heap.size) wk) _ (fun _ => rfl) v0 v1 v2 v3 v4 v5) hB (by omega) hq7, kept6 hk _ (fun h => absurd h (by omega)) v0 v1 v2 v3 v4 v5⟩, set6 hB hc v0 v1 v2 v3 v4 v5⟩
  have HH := Lib.hid h7
  have hrx := hR
  clear HF h7 h hx
  go_enter Try.func31, Try.ntmps31
  by_cases e0 : s < 1 ∨ 2147483647 < s
  · have e : Hid (R = (0, .zero, 1, L)) := Lib.hid (by rw [hR.out]; unfold rCome; exact if_pos e0)
    have HK7 := Lib.hid K7
    have hf := fun j => B7.frozen j
    unfold PA.zero PA.cells at *
    dsimp only at *
    obtain ⟨a0, a1, a2, a3, a4, a5⟩ := get6 B7
    clear K7 hrx
    by_cases e1 : s < 1
    · have d1 : decide (s < 1) = true := decide_eq_true e1
      go_wp2
      exact bodyPost_ret (v := .tuple #[.int .i64 0, .agg #[.int .i64 0, .int .u8 0, .int .u32 0, .int .u32 0, .string ⟨#[]⟩, .int .u32 0], .int .i64 1]) (by simp [results, Try.results31, go_sem, a0, a1, a2, a3, a4, a5]) rfl (by rw [e.out]; exact ⟨rfl, ⟨a, cap, HH.out⟩, HK7.out.no⟩)
    · have d1 : decide (s < 1) = false := decide_eq_false e1
      have d2 : decide (2147483647 < s) = true := decide_eq_true (by omega)
      go_wp2
      exact bodyPost_ret (v := .tuple #[.int .i64 0, .agg #[.int .i64 0, .int .u8 0, .int .u32 0, .int .u32 0, .string ⟨#[]⟩, .int .u32 0], .int .i64 1]) (by simp [results, Try.results31, go_sem, a0, a1, a2, a3, a4, a5]) rfl (by rw [e.out]; exact ⟨rfl, ⟨a, cap, HH.out⟩, HK7.out.no⟩)
  have d1 : decide (s < 1) = false := decide_eq_false (by omega)
  have d2 : decide (2147483647 < s) = false := decide_eq_false (by omega)
  go_wp2_with fail
  unfold PA.zero PA.cells at B7 K7 HH
  dsimp only [List.toArray] at B7 K7 HH
  refine HF'.out.mono ?_
  unfold PA.zero PA.cells
  dsimp only [List.toArray]
  generalize hw7 : w.alloc _ = w7 at *
  rintro _ w2 ⟨rfl, k2⟩
  have K2 := K7.transNo k2
  have B2 := B7.kept k2 id
  have h2 := HH.out.keptNo k2
  have c0 : w2.cell? ⟨q, 0, none⟩ = some (.slice a L.length cap) := h2.st.cell 0
  have hf := fun j => B2.frozen j
  by_cases e1 : z = false ∧ L.length = 16
  · obtain ⟨rfl, e16⟩ := e1
    have e : Hid (R = (0, .zero, 5, L)) := Lib.hid (by rw [hR.out]; unfold rCome; rw [if_neg e0, hz]; exact if_pos ⟨rfl, e16⟩)
    have d16 : decide ((16 : Int) ≤ L.length) = true := decide_eq_true (by omega)
    have d16' : (16 : Int) ≤ L.length := by omega
    obtain ⟨⟨f1, f2⟩, f3⟩ := FIN.out _ L _ B2 rfl ⟨a, cap, h2⟩ K2.no (.int .i64 0) (.int .u8 0) (.int .u32 0) (.int .u32 0) (.string ⟨#[]⟩) (.int .u32 0)
    obtain ⟨a0, a1, a2, a3, a4, a5⟩ := get6 B2
    have HF1 := Lib.hid f1
    have HF2 := Lib.hid f2
    have HF3 := Lib.hid f3
    clear f1 f2 f3 e16 h2 B2 B7 hrx
    go_wp2
    clear a0 a1 a2 a3 a4 a5 hf
    obtain ⟨a0, a1, a2, a3, a4, a5⟩ := get6 HF3.out
    exact bodyPost_ret (v := .tuple #[.int .i64 0, .agg #[.int .i64 0, .int .u8 0, .int .u32 0, .int .u32 0, .string ⟨#[]⟩, .int .u32 0], .int .i64 5]) (by simp [results, Try.results31, go_sem, a0, a1, a2, a3, a4, a5]) rfl (by rw [e.out]; exact ⟨rfl, HF1.out, HF2.out⟩)
  have hcase : z = true ∨ (z = false ∧ decide ((16 : Int) ≤ L.length) = false ∧ ¬ (16 : Int) ≤ L.length) := by
    cases z with
    | true => exact .inl rfl
    | false => exact .inr ⟨rfl, decide_eq_false (fun h => e1 ⟨rfl, by omega⟩), fun h => e1 ⟨rfl, by omega⟩⟩
  go_upto_region 4 with (fail)
  go_cut [34] (fun s34 wx => s34 = .bool false ∧ wx = w2)
  case first =>
    rcases hcase with rfl | ⟨rfl, dd, dd'⟩
    · go_wp2
      go_meet
      exact ⟨rfl, rfl⟩
    · go_wp2
      go_meet
      exact ⟨rfl, rfl⟩
  case rest =>
  obtain ⟨rfl, hwc⟩ := hcut
  have hwc' := hwc.symm
  subst hwc'
  clear hcase
  have B3 := Blk.new w2 66 [.int .u8 c.toNat, .int .u32 0, .bool false, .int .i64 0, .int .u8 0, .int .u32 0, .int .u32 0, .string ⟨#[]⟩, .int .u32 0]
  have K3 := (Kept.refl No w2).alloc (.cells #[.int .u8 c.toNat, .int .u32 0, .bool false, .int .i64 0, .int .u8 0, .int .u32 0, .int .u32 0, .string ⟨#[]⟩, .int .u32 0] 66)
  go_upto_if 38 with (fail)
  clear hf c0
  generalize hw3 : w2.alloc _ = w3 at *
  have h3 := h2.keptNo K3
  have c3 : w3.cell? ⟨q, 0, none⟩ = some (.slice a L.length cap) := h3.st.cell 0
  have hg7 : w.heap.size < w2.heap.size := B2.lt
  go_cut [] (fun wx => Kept No w2 wx ∧ Blk wx w2.heap.size 66 (rcell (c, x)))
  case first =>
    cases z with
    | false =>
      have ex : x = .zero := by rw [← HX.out]; exact lk_none hz
      subst ex
      go_wp2
      go_meet
      exact ⟨K3, B3⟩
    | true =>
      obtain ⟨p, hp, hpc, hpv⟩ := lk_at hr hz
      have hP : posS L c < L.length := (List.getElem?_eq_some_iff.1 hp).1
      rw [HX.out] at hpv
      obtain ⟨pc, pv⟩ := p
      dsimp only at hpc hpv
      obtain ⟨b, o, hab, hb, y0, y1, y2, y3, y4, y5, y6, y7, y8⟩ := h3.at hp
      dsimp only at y0 y1 y2 y3 y4 y5 y6 y7 y8
      rw [hpc] at y0
      rw [hpv] at y1 y2 y3 y4 y5 y6 y7 y8
      subst hab
      clear hp hpc hpv
      generalize posS L c = P at *
      have p0 : (0 : Int) ≤ P := by omega
      have p1 : (P : Int) < L.length := by omega
      have x0 := B3.cell 0
      have x1 := B3.cell 1
      have x2 := B3.cell 2
      have x3 := B3.cell 3
      have x4 := B3.cell 4
      have x5 := B3.cell 5
      have x6 := B3.cell 6
      have x7 := B3.cell 7
      have x8 := B3.cell 8
      simp only [List.getElem?_cons_zero, List.getElem?_cons_succ] at x0 x1 x2 x3 x4 x5 x6 x7 x8
      have hf := fun j => B3.frozen j
      have hgb : ¬ w2.heap.size = b := by
        have := (h2.at (i := P) (p := (pc, pv)))
        have hL : 0 < (rcells L).length := by rw [rcells_len]; omega
        obtain ⟨b', o', e', hb'⟩ := h2.rd.addr hL
        simp only [Option.some.injEq, Addr.mk.injEq, and_true] at e'
        omega
      have S9 := ((((((((B3.set 0 (.int .u8 c.toNat)).set 1 (.int .u32 x.last)).set 2 (.bool x.opn)).set 3 (.int .i64 x.a.why)).set 4 (.int .u8 x.a.node)).set 5 (.int .u32 x.a.boot)).set 6 (.int .u32 x.a.num)).set 7 (.string x.a.val)).set 8 (.int .u32 x.a.ver)
      have K9 := K3.trans ((((((((((Kept.refl (· = w2.heap.size) w3).setCell (a := ⟨w2.heap.size, 0, none⟩) (fun _ => rfl) (.int .u8 c.toNat)).setCell (a := ⟨w2.heap.size, 1, none⟩) (fun _ => rfl) (.int .u32 x.last)).setCell (a := ⟨w2.heap.size, 2, none⟩) (fun _ => rfl) (.bool x.opn)).setCell (a := ⟨w2.heap.size, 3, none⟩) (fun _ => rfl) (.int .i64 x.a.why)).setCell (a := ⟨w2.heap.size, 4, none⟩) (fun _ => rfl) (.int .u8 x.a.node)).setCell (a := ⟨w2.heap.size, 5, none⟩) (fun _ => rfl) (.int .u32 x.a.boot)).setCell (a := ⟨w2.heap.size, 6, none⟩) (fun _ => rfl) (.int .u32 x.a.num)).setCell (a := ⟨w2.heap.size, 7, none⟩) (fun _ => rfl) (.string x.a.val)).setCell (a := ⟨w2.heap.size, 8, none⟩) (fun _ => rfl) (.int .u32 x.a.ver)) fun b hb he => absurd hb (by omega)
      clear B3 h3 h2 hw3
      go_wp2
      go_meet
      exact ⟨K9, S9⟩
  case rest =>
    obtain ⟨k4, B11⟩ := hcut
    clear B3 K3 hw3 c3 h3 B7 HF'
    have h4 := h2.keptNo k4
    have B4 := B2.kept k4 id
    have K4 := K2.transNo k4
    generalize w2.heap.size = g11 at *
    have z0 : wc.cell? ⟨g11, 0, none⟩ = some (.int .u8 c.toNat) := B11.cell 0
    have z1 : wc.cell? ⟨g11, 1, none⟩ = some (.int .u32 x.last) := B11.cell 1
    have z3 : wc.cell? ⟨g11, 3, none⟩ = some (.int .i64 x.a.why) := B11.cell 3
    have z4 : wc.cell? ⟨g11, 4, none⟩ = some (.int .u8 x.a.node) := B11.cell 4
    have z5 : wc.cell? ⟨g11, 5, none⟩ = some (.int .u32 x.a.boot) := B11.cell 5
    have z6 : wc.cell? ⟨g11, 6, none⟩ = some (.int .u32 x.a.num) := B11.cell 6
    have z7 : wc.cell? ⟨g11, 7, none⟩ = some (.string x.a.val) := B11.cell 7
    have z8 : wc.cell? ⟨g11, 8, none⟩ = some (.int .u32 x.a.ver) := B11.cell 8
    have z2 : wc.cell? ⟨g11, 2, none⟩ = some (.bool x.opn) := B11.cell 2
    have hne7 : ¬ w.heap.size = g11 := by omega
    have hRR : R = if s < x.last then (0, .zero, 13, L) else if s = x.last ∧ x.opn = true then (2, .zero, 0, L) else if s = x.last then (3, x.a, 0, L) else if x.opn = true ∨ 1 < s - x.last then (0, .zero, 11, L) else (1, .zero, 0, insS L c ⟨s, true, .zero⟩) := by
      rw [hR.out]; unfold rCome; rw [if_neg e0, hz, if_neg e1, HX.out]
    have HRR := Lib.hid hRR
    clear hRR hrx hR e1 B2 h2 k2 B11 K7
    by_cases g1 : s < x.last
    · have e : Hid (R = (0, .zero, 13, L)) := Lib.hid (by rw [HRR.out, if_pos g1])
      have dg1 : decide (s < x.last) = true := decide_eq_true g1
      obtain ⟨⟨f1, f2⟩, f3⟩ := FIN.out wc L _ B4 rfl ⟨a, cap, h4⟩ K4.no (.int .i64 0) (.int .u8 0) (.int .u32 0) (.int .u32 0) (.string ⟨#[]⟩) (.int .u32 0)
      have HF1 := Lib.hid f1
      have HF2 := Lib.hid f2
      have HF3 := Lib.hid f3
      obtain ⟨a0, a1, a2, a3, a4, a5⟩ := get6 B4
      have hf := fun j => Blk.frozen B4 j
      clear f1 f2 f3 
      go_wp2
      clear a0 a1 a2 a3 a4 a5 hf
      obtain ⟨a0, a1, a2, a3, a4, a5⟩ := get6 HF3.out
      exact bodyPost_ret (v := .tuple #[.int .i64 0, .agg #[.int .i64 0, .int .u8 0, .int .u32 0, .int .u32 0, .string ⟨#[]⟩, .int .u32 0], .int .i64 13]) (by simp [results, Try.results31, go_sem, a0, a1, a2, a3, a4, a5]) rfl (by rw [e.out]; exact ⟨rfl, HF1.out, HF2.out⟩)
    have dg1 : decide (s < x.last) = false := decide_eq_false g1
    by_cases g2 : s = x.last
    · have dg2 : (s == x.last) = true := by rw [beq_iff_eq]; exact g2
      cases ho : x.opn with
      | true =>
        rw [ho] at z2
        have e : Hid (R = (2, .zero, 0, L)) := Lib.hid (by rw [HRR.out, if_neg g1, if_pos ⟨g2, ho⟩])
        clear g2
        obtain ⟨⟨f1, f2⟩, f3⟩ := FIN.out wc L _ B4 rfl ⟨a, cap, h4⟩ K4.no (.int .i64 0) (.int .u8 0) (.int .u32 0) (.int .u32 0) (.string ⟨#[]⟩) (.int .u32 0)
        have HF1 := Lib.hid f1
        have HF2 := Lib.hid f2
        have HF3 := Lib.hid f3
        obtain ⟨a0, a1, a2, a3, a4, a5⟩ := get6 B4
        have hf := fun j => Blk.frozen B4 j
        clear f1 f2 f3 
        go_wp2
        clear a0 a1 a2 a3 a4 a5 hf
        obtain ⟨a0, a1, a2, a3, a4, a5⟩ := get6 HF3.out
        exact bodyPost_ret (v := .tuple #[.int .i64 2, .agg #[.int .i64 0, .int .u8 0, .int .u32 0, .int .u32 0, .string ⟨#[]⟩, .int .u32 0], .int .i64 0]) (by simp [results, Try.results31, go_sem, a0, a1, a2, a3, a4, a5]) rfl (by rw [e.out]; exact ⟨rfl, HF1.out, HF2.out⟩)
      | false =>
        rw [ho] at z2
        have e : Hid (R = (3, x.a, 0, L)) := Lib.hid (by rw [HRR.out, if_neg g1, if_neg (fun h => by rw [ho] at h; cases h.2), if_pos g2])
        clear g2
        obtain ⟨⟨f1, f2⟩, f3⟩ := FIN.out wc L _ B4 rfl ⟨a, cap, h4⟩ K4.no (.int .i64 x.a.why) (.int .u8 x.a.node) (.int .u32 x.a.boot) (.int .u32 x.a.num) (.string x.a.val) (.int .u32 x.a.ver)
        have HF1 := Lib.hid f1
        have HF2 := Lib.hid f2
        have HF3 := Lib.hid f3
        obtain ⟨a0, a1, a2, a3, a4, a5⟩ := get6 B4
        have hf := fun j => Blk.frozen B4 j
        clear f1 f2 f3 
        go_wp2
        go_region
        have HD3 := Lib.hid (HF3.out.kept (Kept.refl No _).drew id)
        go_wp2
        clear a0 a1 a2 a3 a4 a5 hf
        obtain ⟨a0, a1, a2, a3, a4, a5⟩ := get6 HD3.out
        exact bodyPost_ret (v := .tuple #[.int .i64 3, .agg #[.int .i64 x.a.why, .int .u8 x.a.node, .int .u32 x.a.boot, .int .u32 x.a.num, .string x.a.val, .int .u32 x.a.ver], .int .i64 0]) (by simp [results, Try.results31, go_sem, a0, a1, a2, a3, a4, a5]) rfl (by rw [e.out]; obtain ⟨ra, rc, hrr⟩ := HF1.out; exact ⟨rfl, ⟨ra, rc, hrr.keptNo (Kept.refl No _).drew⟩, HF2.out.drew⟩)
    have dg2 : (s == x.last) = false := by rw [beq_eq_false_iff_ne]; exact g2
    have ws : IntKind.u32.wrap (s - 1) = s - 1 := by rw [IntKind.wrap_u32]; exact Int.emod_eq_of_lt (by omega) (by omega)
    cases ho : x.opn with
    | true =>
      rw [ho] at z2
      have e : Hid (R = (0, .zero, 11, L)) := Lib.hid (by rw [HRR.out, if_neg g1, if_neg (fun h => g2 h.1), if_neg g2, if_pos (.inl ho)])
      obtain ⟨⟨f1, f2⟩, f3⟩ := FIN.out wc L _ B4 rfl ⟨a, cap, h4⟩ K4.no (.int .i64 0) (.int .u8 0) (.int .u32 0) (.int .u32 0) (.string ⟨#[]⟩) (.int .u32 0)
      have HF1 := Lib.hid f1
      have HF2 := Lib.hid f2
      have HF3 := Lib.hid f3
      obtain ⟨a0, a1, a2, a3, a4, a5⟩ := get6 B4
      have hf := fun j => Blk.frozen B4 j
      clear f1 f2 f3 
      go_wp2
      clear a0 a1 a2 a3 a4 a5 hf
      obtain ⟨a0, a1, a2, a3, a4, a5⟩ := get6 HF3.out
      exact bodyPost_ret (v := .tuple #[.int .i64 0, .agg #[.int .i64 0, .int .u8 0, .int .u32 0, .int .u32 0, .string ⟨#[]⟩, .int .u32 0], .int .i64 11]) (by simp [results, Try.results31, go_sem, a0, a1, a2, a3, a4, a5]) rfl (by rw [e.out]; exact ⟨rfl, HF1.out, HF2.out⟩)
    | false =>
      rw [ho] at z2
      by_cases g3 : 1 < s - x.last
      · have e : Hid (R = (0, .zero, 11, L)) := Lib.hid (by rw [HRR.out, if_neg g1, if_neg (fun h => g2 h.1), if_neg g2, if_pos (.inr g3)])
        have dg3 : (s - 1 != x.last) = true := by rw [bne_iff_ne]; omega
        clear g3
        obtain ⟨⟨f1, f2⟩, f3⟩ := FIN.out wc L _ B4 rfl ⟨a, cap, h4⟩ K4.no (.int .i64 0) (.int .u8 0) (.int .u32 0) (.int .u32 0) (.string ⟨#[]⟩) (.int .u32 0)
        have HF1 := Lib.hid f1
        have HF2 := Lib.hid f2
        have HF3 := Lib.hid f3
        obtain ⟨a0, a1, a2, a3, a4, a5⟩ := get6 B4
        have hf := fun j => Blk.frozen B4 j
        clear f1 f2 f3 
        go_wp2
        clear a0 a1 a2 a3 a4 a5 hf
        obtain ⟨a0, a1, a2, a3, a4, a5⟩ := get6 HF3.out
        exact bodyPost_ret (v := .tuple #[.int .i64 0, .agg #[.int .i64 0, .int .u8 0, .int .u32 0, .int .u32 0, .string ⟨#[]⟩, .int .u32 0], .int .i64 11]) (by simp [results, Try.results31, go_sem, a0, a1, a2, a3, a4, a5]) rfl (by rw [e.out]; exact ⟨rfl, HF1.out, HF2.out⟩)
      · have e : Hid (R = (1, .zero, 0, insS L c ⟨s, true, .zero⟩)) := Lib.hid (by rw [HRR.out, if_neg g1, if_neg (fun h => g2 h.1), if_neg g2, if_neg (fun h => h.elim (fun h => by rw [ho] at h; cases h) g3)])
        have dg3 : (s - 1 != x.last) = false := by rw [bne_eq_false_iff_eq]; omega
        clear g3
        have HP := Lib.hid (HPUT.out wc ⟨a, cap, h4⟩)
        go_wp2_with fail
        refine HP.out.mono ?_
        rintro _ w5 ⟨rfl, hB5, k5⟩
        have B5 := B4.kept k5 (Ne.symm hq7)
        have K5 := K4.no.trans k5 fun _ _ h => h
        clear z0 z1 z2 z3 z4 z5 z6 z7 z8 h4 B4 HP
        obtain ⟨⟨f1, f2⟩, f3⟩ := FIN.out w5 _ _ B5 rfl hB5 K5 (.int .i64 0) (.int .u8 0) (.int .u32 0) (.int .u32 0) (.string ⟨#[]⟩) (.int .u32 0)
        have HF1 := Lib.hid f1
        have HF2 := Lib.hid f2
        have HF3 := Lib.hid f3
        obtain ⟨a0, a1, a2, a3, a4, a5⟩ := get6 B5
        have hf := fun j => Blk.frozen B5 j
        clear f1 f2 f3 
        go_wp2
        clear a0 a1 a2 a3 a4 a5 hf
        obtain ⟨a0, a1, a2, a3, a4, a5⟩ := get6 HF3.out
        exact bodyPost_ret (v := .tuple #[.int .i64 1, .agg #[.int .i64 0, .int .u8 0, .int .u32 0, .int .u32 0, .string ⟨#[]⟩, .int .u32 0], .int .i64 0]) (by simp [results, Try.results31, go_sem, a0, a1, a2, a3, a4, a5]) rfl (by rw [e.out]; exact ⟨rfl, HF1.out, HF2.out⟩)
end
end Go.Proofs.Ytencnfgmgcdiiaa
