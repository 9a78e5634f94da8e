/- Package code's reading of numbers and bytes, as walks. Package code's reader: numbers and bytes, as walks. -/
import Derived.Test.YtjfmidcaekhhgaaGreatDoorCdWr
import Derived.Stop.BytesEq
import Derived.Laws.StructEq
namespace Go.Proofs.YtjfmidcaekhhgaaGreatDoor
open Go.RowKit Go.PM

/-- What limit.read answers. -/
def lrd (most : Nat) (l : List UInt8) : Nat := if (long l).2.2 = 0 then (if (long l).1 ≤ most then 0 else 5) else (long l).2.2

section
variable {w : World}
set_option maxHeartbeats 400000 in
theorem lread_calls (most : Nat) (_hm : most < 18446744073709551616) (a : Option Addr) (c n : Nat) (l : List UInt8) (hn : l.length = n) (hr : Rd w a (bcells l)) (hl : n ≤ 1099511627776) :
    Calls Tryz.prog 125 #[.int .u64 most, .slice a n c] w fun e w' => e = .returned (.tuple #[.int .u64 (long l).1, .int .i64 (long l).2.1, .int .i64 (lrd most l)]) ∧ w = w' := by
  have HL := Lib.hid (long_calls (w := w) a c n l hn hr hl)
  obtain ⟨E, hE⟩ : ∃ E, lrd most l = E := ⟨_, rfl⟩
  have HE := Lib.hid hE
  rw [hE]
  clear hE hr hn
  unfold lrd at HE
  obtain ⟨R, hR⟩ : ∃ R, long l = R := ⟨_, rfl⟩
  rw [hR] at HL HE ⊢
  obtain ⟨x, k, e⟩ := R
  clear hR
  simp only at HL HE ⊢
  by_cases h0 : e = 0
  · subst h0
    by_cases h1 : x ≤ most
    · have h1' : (x : Int) ≤ most := by omega
      have HV := Lib.hid (show E = 0 by rw [← HE.out, if_pos rfl, if_pos h1])
      clear HE
      go_enter Tryz.func125, Tryz.ntmps125
      go_wp2_with (go_at_call 139; refine HL.out.mono ?_; rintro _ _ ⟨rfl, rfl⟩)
      go_ret3
      exact ⟨by rw [HV.out]; rfl, rfl⟩
    · have h1' : (most : Int) < x := by omega
      have HV := Lib.hid (show E = 5 by rw [← HE.out, if_pos rfl, if_neg h1])
      clear HE
      go_enter Tryz.func125, Tryz.ntmps125
      go_wp2_with (go_at_call 139; refine HL.out.mono ?_; rintro _ _ ⟨rfl, rfl⟩)
      go_ret3
      exact ⟨by rw [HV.out]; rfl, rfl⟩
  · have h0' : ¬ (e : Int) = 0 := by omega
    have HV := Lib.hid (show E = e by rw [← HE.out, if_neg h0])
    clear HE
    go_enter Tryz.func125, Tryz.ntmps125
    go_wp2_with (go_at_call 139; refine HL.out.mono ?_; rintro _ _ ⟨rfl, rfl⟩)
    go_ret3
    exact ⟨by rw [HV.out]; rfl, rfl⟩

/-- What one answers. -/
def oneOf : List UInt8 → Nat × Nat × Nat
  | [] => (0, 0, 4)
  | c :: _ => (c.toNat, 1, 0)
set_option maxHeartbeats 400000 in
theorem one_calls (a : Option Addr) (c n : Nat) (l : List UInt8) (hn : l.length = n) (hr : Rd w a (bcells l)) :
    Calls Tryz.prog 105 #[.slice a n c] w fun e w' => e = .returned (.tuple #[.int .u8 (oneOf l).1, .int .i64 (oneOf l).2.1, .int .i64 (oneOf l).2.2]) ∧ w = w' := by
  cases l with
  | nil =>
    obtain rfl : n = 0 := hn.symm
    go_enter Tryz.func105, Tryz.ntmps105
    go_wp2
    go_ret3
    exact ⟨rfl, rfl⟩
  | cons x l =>
    obtain ⟨b, o, rfl, hb⟩ := hr 0 _ (bcells_get (x :: l) 0 (by simp))
    rw [Nat.add_zero] at hb
    have hb : w.cell? ⟨b, o, none⟩ = some (.int .u8 x.toNat) := hb
    have h0 : ¬ (n : Int) = 0 := by rw [List.length_cons] at hn; omega
    have h1 : (0 : Int) < n := by omega
    clear hr hn
    show Calls Tryz.prog 105 #[.slice (some ⟨b, o, none⟩) n c] w fun e w' => e = .returned (.tuple #[.int .u8 x.toNat, .int .i64 1, .int .i64 0]) ∧ w = w'
    go_enter Tryz.func105, Tryz.ntmps105
    go_wp2
    go_ret3
    exact ⟨rfl, rfl⟩
end
end Go.Proofs.YtjfmidcaekhhgaaGreatDoor

namespace Go.Proofs.YtjfmidcaekhhgaaGreatDoor
open Go.RowKit Go.PM

theorem Tryz.u_fault : Tryz.prog.underlying 65 = some (.struct (Tryz.prog.fieldsOf 65)) := by kernel_rfl
theorem Tryz.st_fault : Tryz.prog.stoodInHeld 65 = false := by kernel_rfl
theorem Tryz.g_fault : Tryz.prog.eqGuardType Tryz.prog.depth 65 = false := by kernel_rfl

theorem eqFault (y f : Nat) (h : y = 0 → f = 0) (w : World) :
    (Op.equalIn 10000 65 (.agg #[.int .i64 y, .int .i64 f]) (.agg #[.int .i64 0, .int .i64 0])).run Tryz.prog w = .ok (decide (y = 0)) w := by
  rw [show (10000 : Nat) = 9999 + 1 from rfl, run_equalIn_agg w 9999 _ _ _ Tryz.u_fault Tryz.st_fault]
  simp only [Program.fieldsOf, Tryz.underlying65]
  have u0 := Tryz.underlying3
  have u1 := Tryz.underlying39
  have a0 := Tryz.isAgg3
  have a1 := Tryz.isAgg39
  simp only [Op.eqFields, part]
  go_simp
  by_cases h0 : y = 0
  · have := h h0
    subst h0 this
    simp
  · simp [h0]
theorem neqFault (y f : Nat) (h : y = 0 → f = 0) (w : World) :
    (binOp .neq 65 (.agg #[.int .i64 y, .int .i64 f]) (.agg #[.int .i64 0, .int .i64 0])).run Tryz.prog w = .ok (.bool (decide (¬ y = 0))) w := by
  rw [run_neq_struct, eqFault y f h w]
  simp

/-- A reader: its cells, and its bytes. -/
structure Rdr (w : World) (g : Nat) (s : PR) (a : Option Addr) (c : Nat) : Prop where
  box : Blk w g 144 [.slice a s.b.length c, .int .i64 s.pos, .int .i64 s.why, .int .i64 s.fat]
  rd : Rd w a (bcells s.b)
  off : ∀ k, At a k → k ≠ g
  ok : s.Ok
  len : s.b.length ≤ 1099511627776
  nil : a = none → c = 0
  le : s.b.length ≤ c
  max : c ≤ maxLen
  lt : ∀ k, At a k → k < w.heap.size

section
variable {w w' : World} {g : Nat} {s : PR} {a : Option Addr} {c : Nat}
theorem Rdr.kept {S : Nat → Prop} (h : Rdr w g s a c) (k : Kept S w w') (hg : ¬ S g) (ha : ∀ b, At a b → ¬ S b) : Rdr w' g s a c :=
  ⟨h.box.kept k hg, h.rd.kept k ha, h.off, h.ok, h.len, h.nil, h.le, h.max, fun b hb => k.lt (h.lt b hb)⟩
theorem Rdr.keptNo (h : Rdr w g s a c) (k : Kept No w w') : Rdr w' g s a c := h.kept k (fun h => h) fun _ _ h => h
end

theorem add_plain' (b o k : Nat) : (⟨b, o, none⟩ : Addr).add k = ⟨b, o + k, none⟩ := by
  unfold Addr.add; split
  · subst_vars; rfl
  · rfl
theorem Rdr.drewN' {w : World} {g : Nat} {s : PR} {a : Option Addr} {c : Nat} (h : Rdr w g s a c) (n : Nat) : Rdr (w.drewN n) g s a c := h.keptNo ((Kept.refl No w).drewN n)
theorem Rdr.rest {w : World} {g : Nat} {s : PR} {a : Option Addr} {c : Nat} (h : Rdr w g s a c) : Rd w (if c = s.pos then a else a.map fun x => x.add s.pos) (bcells s.rest) := by
  have hd : bcells s.rest = (bcells s.b).drop s.pos := by simp [bcells, PR.rest, List.map_drop]
  by_cases hc : c = s.pos
  · have : s.rest = [] := List.drop_eq_nil_of_le (by have := h.le; omega)
    rw [this]; exact Rd.nil _ _
  · rw [if_neg hc, hd]
    intro j x hj
    rw [List.getElem?_drop] at hj
    obtain ⟨b, o, rfl, hb⟩ := h.rd _ _ hj
    exact ⟨b, o + s.pos, by rw [Option.map_some, add_plain'], by rw [Nat.add_assoc]; exact hb⟩
theorem PR.rest_length (s : PR) : s.rest.length = s.b.length - s.pos := by simp [PR.rest]
theorem num_ok {s : PR} {most : Nat} (h : s.why = 0) (he : lrd most s.rest = 0) : s.num most = ((long s.rest).1, s.go (long s.rest).2.1) := by
  unfold lrd at he
  unfold PR.num
  rw [if_pos h]
  by_cases h1 : (long s.rest).2.2 = 0
  · rw [if_pos h1] at he ⊢
    by_cases h2 : (long s.rest).1 ≤ most
    · rw [if_pos h2]
    · rw [if_neg h2] at he; cases he
  · rw [if_neg h1] at he; exact absurd he h1
theorem num_err {s : PR} {most : Nat} (h : s.why = 0) (he : lrd most s.rest ≠ 0) : s.num most = (0, s.fail (lrd most s.rest)) := by
  unfold lrd at *
  unfold PR.num
  rw [if_pos h]
  by_cases h1 : (long s.rest).2.2 = 0
  · rw [if_pos h1] at he ⊢
    rw [if_pos h1]
    by_cases h2 : (long s.rest).1 ≤ most
    · rw [if_pos h2] at he; exact absurd rfl he
    · rw [if_neg h2, if_neg h2]
  · rw [if_neg h1] at he ⊢
    rw [if_neg h1]
theorem lrd_le (most : Nat) (l : List UInt8) : lrd most l ≤ 5 := by
  have := long_err l
  unfold lrd
  repeat' split
  all_goals omega
theorem long_rest {s : PR} {most : Nat} (he : lrd most s.rest = 0) : (long s.rest).2.1 ≤ s.rest.length := by
  unfold lrd at he
  by_cases h1 : (long s.rest).2.2 = 0
  · exact (long_takes _ (long_eq h1)).1
  · rw [if_neg h1] at he; exact absurd he h1

section
variable {w : World} {g : Nat} {s : PR} {a : Option Addr} {c : Nat}
theorem Rdr.go (h : Rdr w g s a c) {k : Nat} (hk : k ≤ s.rest.length) : Rdr (w.setCell ⟨g, 1, none⟩ (.int .i64 ((s.pos + k : Nat) : Int))) g (s.go k) a c :=
  ⟨h.box.set 1 _, h.rd.kept ((Kept.refl (· = g) w).setCell (fun _ => rfl) _) h.off, h.off, h.ok.go hk, h.len, h.nil, h.le, h.max, fun b hb => by rw [World.size_setCell]; exact h.lt b hb⟩
theorem Rdr.fail (h : Rdr w g s a c) {e : Nat} (h1 : e ≠ 0) (h2 : e ≤ 17) : Rdr ((w.setCell ⟨g, 2, none⟩ (.int .i64 e)).setCell ⟨g, 3, none⟩ (.int .i64 s.pos)) g (s.fail e) a c :=
  ⟨(h.box.set 2 _).set 3 _, h.rd.kept (((Kept.refl (· = g) w).setCell (fun _ => rfl) _).setCell (fun _ => rfl) _) h.off, h.off, h.ok.fail h1 h2, h.len, h.nil, h.le, h.max, fun b hb => by rw [World.size_setCell, World.size_setCell]; exact h.lt b hb⟩
end

set_option maxRecDepth 100000 in
set_option maxHeartbeats 1000000 in
theorem fnum_calls {w : World} {g : Nat} {s : PR} {a : Option Addr} {c : Nat} (h : Rdr w g s a c) (most : Nat) (hm : most < 18446744073709551616) :
    Calls Tryz.prog 124 #[.pointer (some ⟨g, 0, none⟩), .func (.func 125) #[.int .u64 most] #[]] w fun e w' => e = .returned (.int .u64 (s.num most).1) ∧ Kept (· = g) w w' ∧ Rdr w' g (s.num most).2 a c := by
  have c0 : w.cell? ⟨g, 0, none⟩ = some (.slice a s.b.length c) := h.box.cell 0
  have c1 : w.cell? ⟨g, 1, none⟩ = some (.int .i64 s.pos) := h.box.cell 1
  have c2 : w.cell? ⟨g, 2, none⟩ = some (.int .i64 s.why) := h.box.cell 2
  have c3 : w.cell? ⟨g, 3, none⟩ = some (.int .i64 s.fat) := h.box.cell 3
  by_cases h0 : s.why = 0
  · rw [h0] at c2
    rw [h.ok.none h0] at c3
    have hne := neqFault 0 0 fun _ => rfl
    rw [decide_eq_false (fun h => h rfl)] at hne
    have f0 := h.box.frozen 1
    have f1 := h.box.frozen 2
    have f2 := h.box.frozen 3
    have hrr : Rd w a (bcells s.b) := h.rd
    have hp := h.ok.pos
    have hp' : (s.pos : Int) ≤ s.b.length := by omega
    have hp0 : (0 : Int) ≤ s.pos := by omega
    have hle := h.le
    have hle' : (s.b.length : Int) ≤ c := by omega
    have hmx := h.max
    have H := Lib.hid h
    have H0 := Lib.hid h0
    clear h h0
    have HL := Lib.hid (fun (n : Nat) => lread_calls (w := w.drewN n) most hm (if c = s.pos then a else a.map fun x => x.add s.pos) (c - s.pos) (s.b.length - s.pos) s.rest (PR.rest_length s) ((H.out.drewN' n).rest) (by have := H.out.len; omega))
    obtain ⟨ra, hra⟩ : ∃ ra, (if c = s.pos then a else a.map fun x => x.add s.pos) = ra := ⟨_, rfl⟩
    rw [hra] at HL
    obtain ⟨E, hE⟩ : ∃ E, lrd most s.rest = E := ⟨_, rfl⟩
    have HE := Lib.hid hE
    have hE5 : E ≤ 5 := by rw [← hE]; exact lrd_le _ _
    rw [hE] at HL
    clear hE hrr
    by_cases hE0 : E = 0
    · subst hE0
      have HV := Lib.hid (num_ok H0.out HE.out)
      have hk := long_rest HE.out
      rw [(PR.rest_length s)] at hk
      rw [HV.out]
      obtain ⟨x, hx⟩ : ∃ x, (long s.rest).1 = x := ⟨_, rfl⟩
      obtain ⟨k, hk'⟩ : ∃ k, (long s.rest).2.1 = k := ⟨_, rfl⟩
      rw [hx, hk'] at HL ⊢
      rw [hk'] at hk
      clear HV hx hk'
      have hl := H.out.len
      go_enter Tryz.func124, Tryz.ntmps124
      go_wp2
      go_region_with (go_at_call 125; refine (HL.out 1).mono ?_; rintro _ _ ⟨rfl, rfl⟩)
      all_goals (try go_wp2)
      all_goals go_ret
      all_goals (
        have hR := (H.out.drewN' 1).go (k := k) (by rw [PR.rest_length]; exact hk)
        have e : ((s.pos + k : Nat) : Int) = (s.pos : Int) + k := by omega
        rw [e] at hR
        exact ⟨rfl, ((Kept.refl (· = g) w).drewN 1).setCell (fun _ => rfl) _, hR⟩)
    · have HV := Lib.hid (num_err H0.out (by rw [HE.out]; exact hE0))
      rw [HE.out] at HV
      rw [HV.out]
      clear HV
      have hE1 : ¬ (E : Int) = 0 := by omega
      go_enter Tryz.func124, Tryz.ntmps124
      go_wp2
      go_region_with (go_at_call 125; refine (HL.out 1).mono ?_; rintro _ _ ⟨rfl, rfl⟩)
      all_goals (try go_wp2)
      all_goals go_ret
      all_goals exact ⟨rfl, (((Kept.refl (· = g) w).drewN 1).setCell (fun _ => rfl) _).setCell (fun _ => rfl) _, (H.out.drewN' 1).fail hE0 (by omega)⟩
  · have hne := neqFault s.why s.fat h.ok.none
    rw [decide_eq_true (show ¬ s.why = 0 from h0)] at hne
    have hst : (s.num most) = (0, s) := by unfold PR.num; rw [if_neg h0]
    rw [hst]
    have H := Lib.hid h
    clear h hst
    go_enter Tryz.func124, Tryz.ntmps124
    go_wp2
    go_ret
    exact ⟨rfl, (Kept.refl _ _), H.out⟩
end Go.Proofs.YtjfmidcaekhhgaaGreatDoor
