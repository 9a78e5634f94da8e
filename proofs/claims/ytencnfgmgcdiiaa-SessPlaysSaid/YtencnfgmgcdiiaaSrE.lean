/- The document's desk: Tell, Come, as walks. -/
import Derived.Test.YtencnfgmgcdiiaaSrD
namespace Go.Proofs.Ytencnfgmgcdiiaa
open Go.RowKit Go.PM
set_option maxRecDepth 100000

def rTell (L : List (UInt8 × PC)) (c : UInt8) (s : Int) (a : PA) : Int × List (UInt8 × PC) :=
  if (lk L c).opn = true ∧ (lk L c).last = s then (0, insS L c ⟨s, false, a⟩) else (6, L)
theorem rTell_ref {L D : List (UInt8 × PC)} (h : Ref L D) (c : UInt8) (s : Int) (a : PA) : (rTell L c s a).1 = (pTell D c s a).1 ∧ Ref (rTell L c s a).2 (pTell D c s a).2 := by
  have e : lk L c = lk D c := by unfold lk; rw [h.same]
  unfold rTell pTell
  rw [show (getK D c).getD .zero = lk D c from rfl, e]
  split
  · exact ⟨rfl, h.put c _⟩
  · exact ⟨rfl, h⟩
theorem lk_at {L : List (UInt8 × PC)} (hr : Rises L) {c : UInt8} (hs : (getK L c).isSome = true) : ∃ p, L[posS L c]? = some p ∧ p.1 = c ∧ p.2 = lk L c := by
  obtain ⟨p, hp, e⟩ := (is_at hr c).1 hs
  have := at_pos hr c
  rw [hp] at this
  simp only [Option.bind_some, e, if_true] at this
  exact ⟨p, hp, e, by unfold lk; rw [this]; rfl⟩

section
variable {w w' : World} {q : Nat} {L : List (UInt8 × PC)} {a : Option Addr} {cap : Nat}
def TellPost (w : World) (q : Nat) (R : Int × List (UInt8 × PC)) (e : Ending) (w' : World) : Prop := e = .returned (.int .i64 R.1) ∧ RefB w' q R.2 ∧ Kept (· = q) w w'

set_option maxHeartbeats 2000000 in
theorem r_tell (h : RefB w q L) (hr : Rises L) (hl : L.length ≤ 16) (c : UInt8) (s : Int) (v : PA) :
    Calls Try.prog 28 #[.pointer (some ⟨q, 0, none⟩), .int .u8 c.toNat, .int .u32 s, .agg #[.int .i64 v.why, .int .u8 v.node, .int .u32 v.boot, .int .u32 v.num, .string v.val, .int .u32 v.ver]] w (TellPost w q (rTell L c s v)) := by
  obtain ⟨a, cap, h⟩ := h
  have hqlt := h.st.lt
  have B7 := Blk.new w 33 [.int .i64 v.why, .int .u8 v.node, .int .u32 v.boot, .int .u32 v.num, .string v.val, .int .u32 v.ver]
  have K7 := (Kept.refl No w).alloc (.cells #[.int .i64 v.why, .int .u8 v.node, .int .u32 v.boot, .int .u32 v.num, .string v.val, .int .u32 v.ver] 33)
  have h7 := h.keptNo K7
  obtain ⟨R, hR⟩ : ∃ R, rTell L c s v = R := ⟨_, rfl⟩
  rw [hR]
  replace hR := Lib.hid hR.symm
  obtain ⟨z, hz⟩ : ∃ z, (getK L c).isSome = z := ⟨_, rfl⟩
  have HF := r_find h7 hr hl c
  have HPUT : Hid (∀ w', RefB w' q L → Calls Try.prog 50 #[.pointer (some ⟨q, 0, none⟩), .agg #[.int .u8 c.toNat, .int .u32 s, .bool false, .int .i64 v.why, .int .u8 v.node, .int .u32 v.boot, .int .u32 v.num, .string v.val, .int .u32 v.ver]] w' (PutPost w' q (insS L c ⟨s, false, v⟩))) :=
    Lib.hid fun w' hb => r_put hb hr hl c ⟨s, false, v⟩
  rw [hz] at HF
  have HF' := Lib.hid HF
  clear HF
  cases z with
  | false =>
    have e : Hid (R = (6, L)) := Lib.hid (by
      rw [hR.out]; unfold rTell
      have : lk L c = .zero := lk_none hz
      rw [this]; simp [PC.zero])
    have HH := Lib.hid h7
    clear h7 h B7 hz
    generalize posS L c = P at *
    go_enter Try.func28, Try.ntmps28
    go_wp2_with fail
    generalize hw7 : w.alloc _ = w7 at *
    refine HF'.out.mono ?_
    rintro _ w4 ⟨rfl, K4⟩
    go_wp2
    go_ret
    rw [e.out]
    exact ⟨rfl, ⟨a, cap, HH.out.keptNo K4⟩, (K7.transNo K4).no⟩
  | true =>
    obtain ⟨p, hp, hpc, hpv⟩ := lk_at hr hz
    have hP : posS L c < L.length := (List.getElem?_eq_some_iff.1 hp).1
    obtain ⟨x, hx⟩ : ∃ x, lk L c = x := ⟨_, rfl⟩
    rw [hx] at hpv
    have HX := Lib.hid hx
    obtain ⟨pc, pv⟩ := p
    dsimp only at hpc hpv
    subst hpc; subst hpv
    have HH := Lib.hid h7
    clear h7 h hz hx
    generalize posS L pc = P at *
    go_enter Try.func28, Try.ntmps28
    go_wp2_with fail
    generalize hw7 : w.alloc _ = w7 at *
    refine HF'.out.mono ?_
    rintro _ w4 ⟨rfl, K4⟩
    have h4 := HH.out.keptNo K4
    have B4 := B7.kept K4 id
    have c0 : w4.cell? ⟨q, 0, none⟩ = some (.slice a L.length cap) := h4.st.cell 0
    obtain ⟨b, o, rfl, hb, d0, d1, d2, _⟩ := h4.at hp
    have p0 : (0 : Int) ≤ P := by omega
    have p1 : (P : Int) < L.length := by omega
    obtain ⟨y0, y1, y2, y3, y4, y5⟩ := get6 B4
    have HH4 := Lib.hid h4
    clear h4 B4 B7 hp hw7
    cases ho : pv.opn with
    | false =>
      rw [ho] at d2
      have e : Hid (R = (6, L)) := Lib.hid (by rw [hR.out]; unfold rTell; rw [HX.out, ho]; simp)
      go_wp2
      go_ret
      rw [e.out]
      exact ⟨rfl, ⟨_, cap, HH4.out⟩, (K7.transNo K4).no⟩
    | true =>
      rw [ho] at d2
      by_cases hq : pv.last = s
      · have e : Hid (R = (0, insS L pc ⟨s, false, v⟩)) := Lib.hid (by rw [hR.out]; unfold rTell; rw [HX.out, ho, if_pos ⟨rfl, hq⟩])
        have dq : (pv.last != s) = false := by simpa using hq
        clear hq
        go_wp2_with fail
        refine (HPUT.out w4 ⟨_, cap, HH4.out⟩).mono ?_
        rintro _ w5 ⟨rfl, hB, k5⟩
        go_wp2
        go_ret
        rw [e.out]
        exact ⟨rfl, hB, (K7.transNo K4).no.trans k5 fun _ _ h => h⟩
      · have e : Hid (R = (6, L)) := Lib.hid (by rw [hR.out]; unfold rTell; rw [HX.out, ho]; exact if_neg (fun h => hq h.2))
        have dq : (pv.last != s) = true := by simpa using hq
        clear hq
        go_wp2
        go_ret
        rw [e.out]
        exact ⟨rfl, ⟨_, cap, HH4.out⟩, (K7.transNo K4).no⟩
end
end Go.Proofs.Ytencnfgmgcdiiaa
