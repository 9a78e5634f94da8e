/- Package code's reader: bytes, and its small functions, as walks. Package code's reader: Fault, Left, New, as walks. Package code's reader: End, as a walk. -/
import Derived.Test.YtjfmidcaekhhgaaGreatDoorCdDE
namespace Go.Proofs.YtjfmidcaekhhgaaGreatDoor
open Go.RowKit Go.PM

theorem oneOf_le (l : List UInt8) : (oneOf l).2.2 ≤ 5 := by
  cases l <;> simp [oneOf]
theorem byte_ok {s : PR} (h : s.why = 0) (he : (oneOf s.rest).2.2 = 0) : s.byte = ((oneOf s.rest).1, s.go (oneOf s.rest).2.1) := by
  unfold PR.byte
  rw [if_pos h]
  cases e : s.rest with
  | nil => rw [e] at he; cases he
  | cons c l => rfl
theorem byte_err {s : PR} (h : s.why = 0) (he : (oneOf s.rest).2.2 ≠ 0) : s.byte = (0, s.fail (oneOf s.rest).2.2) := by
  unfold PR.byte
  rw [if_pos h]
  cases e : s.rest with
  | nil => rfl
  | cons c l => rw [e] at he; exact absurd rfl he
theorem one_rest {s : PR} (he : (oneOf s.rest).2.2 = 0) : (oneOf s.rest).2.1 ≤ s.rest.length := by
  cases e : s.rest with
  | nil => rw [e] at he; cases he
  | cons c l => simp [oneOf]

set_option maxRecDepth 100000 in
set_option maxHeartbeats 1000000 in
theorem fbyte_calls {w : World} {g : Nat} {s : PR} {a : Option Addr} {c : Nat} (h : Rdr w g s a c) :
    Calls Tryz.prog 104 #[.pointer (some ⟨g, 0, none⟩), .func (.func 105) #[] #[]] w fun e w' => e = .returned (.int .u8 s.byte.1) ∧ Kept (· = g) w w' ∧ Rdr w' g s.byte.2 a c := by
  have c0 : w.cell? ⟨g, 0, none⟩ = some (.slice a s.b.length c) := h.box.cell 0
  have c1 : w.cell? ⟨g, 1, none⟩ = some (.int .i64 s.pos) := h.box.cell 1
  have c2 : w.cell? ⟨g, 2, none⟩ = some (.int .i64 s.why) := h.box.cell 2
  have c3 : w.cell? ⟨g, 3, none⟩ = some (.int .i64 s.fat) := h.box.cell 3
  by_cases h0 : s.why = 0
  · rw [h0] at c2
    rw [h.ok.none h0] at c3
    have hne := neqFault 0 0 fun _ => rfl
    rw [decide_eq_false (fun h => h rfl)] at hne
    have f0 := h.box.frozen 1
    have f1 := h.box.frozen 2
    have f2 := h.box.frozen 3
    have hrr : Rd w a (bcells s.b) := h.rd
    have hp := h.ok.pos
    have hp' : (s.pos : Int) ≤ s.b.length := by omega
    have hp0 : (0 : Int) ≤ s.pos := by omega
    have hle := h.le
    have hle' : (s.b.length : Int) ≤ c := by omega
    have hmx := h.max
    have H := Lib.hid h
    have H0 := Lib.hid h0
    clear h h0
    have HL := Lib.hid (fun (n : Nat) => one_calls (w := w.drewN n) (if c = s.pos then a else a.map fun x => x.add s.pos) (c - s.pos) (s.b.length - s.pos) s.rest (PR.rest_length s) ((H.out.drewN' n).rest))
    obtain ⟨ra, hra⟩ : ∃ ra, (if c = s.pos then a else a.map fun x => x.add s.pos) = ra := ⟨_, rfl⟩
    rw [hra] at HL
    obtain ⟨E, hE⟩ : ∃ E, (oneOf s.rest).2.2 = E := ⟨_, rfl⟩
    have HE := Lib.hid hE
    have hE5 : E ≤ 5 := by rw [← hE]; exact oneOf_le _
    rw [hE] at HL
    clear hE hrr
    by_cases hE0 : E = 0
    · subst hE0
      have HV := Lib.hid (byte_ok H0.out HE.out)
      have hk := one_rest HE.out
      rw [(PR.rest_length s)] at hk
      rw [HV.out]
      obtain ⟨x, hx⟩ : ∃ x, (oneOf s.rest).1 = x := ⟨_, rfl⟩
      obtain ⟨k, hk'⟩ : ∃ k, (oneOf s.rest).2.1 = k := ⟨_, rfl⟩
      rw [hx, hk'] at HL ⊢
      rw [hk'] at hk
      clear HV hx hk'
      have hl := H.out.len
      go_enter Tryz.func104, Tryz.ntmps104
      go_wp2
      go_region_with (go_at_call 105; refine (HL.out 1).mono ?_; rintro _ _ ⟨rfl, rfl⟩)
      all_goals (try go_wp2)
      all_goals go_ret
      all_goals (
        have hR := (H.out.drewN' 1).go (k := k) (by rw [PR.rest_length]; exact hk)
        have e : ((s.pos + k : Nat) : Int) = (s.pos : Int) + k := by omega
        rw [e] at hR
        exact ⟨rfl, ((Kept.refl (· = g) w).drewN 1).setCell (fun _ => rfl) _, hR⟩)
    · have HV := Lib.hid (byte_err H0.out (by rw [HE.out]; exact hE0))
      rw [HE.out] at HV
      rw [HV.out]
      clear HV
      have hE1 : ¬ (E : Int) = 0 := by omega
      go_enter Tryz.func104, Tryz.ntmps104
      go_wp2
      go_region_with (go_at_call 105; refine (HL.out 1).mono ?_; rintro _ _ ⟨rfl, rfl⟩)
      all_goals (try go_wp2)
      all_goals go_ret
      all_goals exact ⟨rfl, (((Kept.refl (· = g) w).drewN 1).setCell (fun _ => rfl) _).setCell (fun _ => rfl) _, (H.out.drewN' 1).fail hE0 (by omega)⟩
  · have hne := neqFault s.why s.fat h.ok.none
    rw [decide_eq_true (show ¬ s.why = 0 from h0)] at hne
    have hst : s.byte = (0, s) := by unfold PR.byte; rw [if_neg h0]
    rw [hst]
    have H := Lib.hid h
    clear h hst
    go_enter Tryz.func104, Tryz.ntmps104
    go_wp2
    go_ret
    exact ⟨rfl, (Kept.refl _ _), H.out⟩

section
variable {w : World} {g : Nat} {s : PR} {a : Option Addr} {c : Nat}
set_option maxHeartbeats 400000 in
theorem rbyte_calls (h : Rdr w g s a c) :
    Calls Tryz.prog 71 #[.pointer (some ⟨g, 0, none⟩)] w fun e w' => e = .returned (.int .u8 s.byte.1) ∧ Kept (· = g) w w' ∧ Rdr w' g s.byte.2 a c := by
  have HF := Lib.hid (fbyte_calls h)
  clear h
  go_enter Tryz.func71, Tryz.ntmps71
  go_wp2_with (go_at_call 104; refine HF.out.mono ?_; rintro _ w2 ⟨rfl, k2, r2⟩)
  go_ret
  exact ⟨rfl, k2, r2⟩
set_option maxHeartbeats 400000 in
theorem rnum_calls (h : Rdr w g s a c) (most : Nat) (hm : most < 18446744073709551616) :
    Calls Tryz.prog 106 #[.pointer (some ⟨g, 0, none⟩), .int .u64 most] w fun e w' => e = .returned (.int .u64 (s.num most).1) ∧ Kept (· = g) w w' ∧ Rdr w' g (s.num most).2 a c := by
  have hmf : ∀ (fn : Fn) (first cap : Array Value) (w : World), (Instr.makeFunc fn first cap).run Tryz.prog w = .ok (.func fn first cap) w := fun _ _ _ _ => rfl
  have HF := Lib.hid (fnum_calls h most hm)
  clear h
  go_enter Tryz.func106, Tryz.ntmps106
  go_wp2_with (go_at_call 124; refine HF.out.mono ?_; rintro _ w2 ⟨rfl, k2, r2⟩)
  go_ret
  exact ⟨rfl, k2, r2⟩
end
end Go.Proofs.YtjfmidcaekhhgaaGreatDoor

namespace Go.Proofs.YtjfmidcaekhhgaaGreatDoor
open Go.RowKit Go.PM

section
variable {w : World} {g : Nat} {s : PR} {a : Option Addr} {c : Nat}
set_option maxHeartbeats 400000 in
theorem rfault_calls (h : Rdr w g s a c) :
    Calls Tryz.prog 74 #[.pointer (some ⟨g, 0, none⟩)] w fun e w' => e = .returned (.agg #[.int .i64 s.why, .int .i64 s.fat]) ∧ Kept No w w' := by
  have c2 : w.cell? ⟨g, 2, none⟩ = some (.int .i64 s.why) := h.box.cell 2
  have c3 : w.cell? ⟨g, 3, none⟩ = some (.int .i64 s.fat) := h.box.cell 3
  have hlt := h.box.lt
  clear h
  go_enter Tryz.func74, Tryz.ntmps74
  have B0 := Blk.new w 65 [.int .i64 0, .int .i64 0]
  have B1 := (B0.set 0 (.int .i64 s.why)).set 1 (.int .i64 s.fat)
  go_wp2
  have x0 := B1.cell 0
  have x1 := B1.cell 1
  refine bodyPost_ret (v := .agg #[.int .i64 s.why, .int .i64 s.fat]) (by simp [results, Tryz.results74, go_sem]) rfl ?_
  exact ⟨rfl, (Kept.refl No w).alloc _⟩

set_option maxHeartbeats 400000 in
theorem rleft_calls (h : Rdr w g s a c) :
    Calls Tryz.prog 112 #[.pointer (some ⟨g, 0, none⟩)] w fun e w' => e = .returned (.int .i64 s.left) ∧ Kept No w w' := by
  have c0 : w.cell? ⟨g, 0, none⟩ = some (.slice a s.b.length c) := h.box.cell 0
  have c1 : w.cell? ⟨g, 1, none⟩ = some (.int .i64 s.pos) := h.box.cell 1
  have c2 : w.cell? ⟨g, 2, none⟩ = some (.int .i64 s.why) := h.box.cell 2
  have c3 : w.cell? ⟨g, 3, none⟩ = some (.int .i64 s.fat) := h.box.cell 3
  by_cases h0 : s.why = 0
  · rw [h0] at c2
    rw [h.ok.none h0] at c3
    have hne := neqFault 0 0 fun _ => rfl
    rw [decide_eq_false (fun h => h rfl)] at hne
    have hp := h.ok.pos
    have hl := h.len
    have HV := Lib.hid (show ((s.left : Nat) : Int) = (s.b.length : Int) - s.pos by unfold PR.left; rw [if_pos h0, PR.rest_length]; omega)
    clear h h0
    have hp' : (s.pos : Int) ≤ s.b.length := by omega
    have hp0 : (0 : Int) ≤ s.pos := by omega
    rw [HV.out]
    go_enter Tryz.func112, Tryz.ntmps112
    go_wp2
    go_region
    all_goals (try go_wp2)
    all_goals go_ret
    all_goals exact ⟨by first | rfl | go_num, (Kept.refl No w).drewN _⟩
  · have hne := neqFault s.why s.fat h.ok.none
    rw [decide_eq_true (show ¬ s.why = 0 from h0)] at hne
    have HV := Lib.hid (show s.left = 0 by unfold PR.left; rw [if_neg h0])
    clear h
    rw [HV.out]
    go_enter Tryz.func112, Tryz.ntmps112
    go_wp2
    go_ret
    exact ⟨rfl, Kept.refl _ _⟩

set_option maxHeartbeats 400000 in
theorem rnew_calls (b : List UInt8) (a : Option Addr) (c n : Nat) (hn : b.length = n) (hr : Rd w a (bcells b)) (hl : n ≤ 1099511627776) (hc : a = none → c = 0) :
    Calls Tryz.prog 70 #[.slice a n c] w fun e w' => ∃ g a2 c2, e = .returned (.pointer (some ⟨g, 0, none⟩)) ∧ Rdr w' g (PR.new b) a2 c2 ∧ Kept No w w' ∧ w.heap.size ≤ g := by
  subst hn
  have HC := Lib.hid (clone_calls a c b w hr hl hc)
  clear hr
  go_enter Tryz.func70, Tryz.ntmps70
  go_wp2_with (go_at_call 84; refine HC.out.mono ?_; rintro _ w1 ⟨a1, c1, rfl, o1, k1, t1⟩)
  go_ret
  have B1 := Blk.new w1 144 [.slice a1 b.length c1, .int .i64 0, .int .i64 0, .int .i64 0]
  refine ⟨_, a1, c1, rfl, ⟨B1, o1.rd.keptNo ((Kept.refl No w1).alloc _), fun k hk => Nat.ne_of_lt (o1.lt k hk), PR.Ok.new b, hl, fun e => ?_, o1.le, o1.max, fun k hk => by rw [World.size_alloc]; exact Nat.lt_succ_of_lt (o1.lt k hk)⟩, k1.alloc _, k1.size⟩
  rcases o1.row with ⟨_, _, h3⟩ | ⟨_, _, h3, _⟩
  · exact h3
  · rw [e] at h3; cases h3
end
end Go.Proofs.YtjfmidcaekhhgaaGreatDoor

namespace Go.Proofs.YtjfmidcaekhhgaaGreatDoor
open Go.RowKit Go.PM

section
variable {w : World} {g : Nat} {s : PR} {a : Option Addr} {c : Nat}
set_option maxHeartbeats 1000000 in
theorem rend_calls (h : Rdr w g s a c) :
    Calls Tryz.prog 73 #[.pointer (some ⟨g, 0, none⟩)] w fun e w' => e = .returned (.agg #[.int .i64 s.end_.why, .int .i64 s.end_.fat]) ∧ Kept (· = g) w w' ∧ Rdr w' g s.end_ a c := by
  have K0 := (Kept.refl No w).alloc (.cells #[.int .i64 0, .int .i64 0] 65)
  have h0 := h.keptNo K0
  have B0 := Blk.new w 65 [.int .i64 0, .int .i64 0]
  have hg : g ≠ w.heap.size := Nat.ne_of_lt h.box.lt
  have ha : ∀ b, At a b → b ≠ w.heap.size := fun b hb => Nat.ne_of_lt (h.lt b hb)
  have HL := Lib.hid (rleft_calls h0)
  by_cases hl : 0 < s.left
  · have he : s.end_ = s.fail 3 := by unfold PR.end_; rw [if_pos hl]
    have HE := Lib.hid he
    rw [he]
    have hl' : (0 : Int) < s.left := by omega
    have H0 := Lib.hid h0
    clear h h0 he hl
    go_enter Tryz.func73, Tryz.ntmps73
    go_wp2_with (first
      | (go_at_call 112; refine HL.out.mono ?_; rintro _ w1 ⟨rfl, k1⟩; have r1 := H0.out.keptNo k1; have b1 := B0.kept k1 id; have c1 : w1.cell? ⟨g, 1, none⟩ = some (.int .i64 s.pos) := r1.box.cell 1; have c2 : w1.cell? ⟨g, 2, none⟩ = some (.int .i64 s.why) := r1.box.cell 2; have c3 : w1.cell? ⟨g, 3, none⟩ = some (.int .i64 s.fat) := r1.box.cell 3; have f2 := r1.box.frozen 2; have f3 := r1.box.frozen 3)
      | (go_at_call 74; have r2 := r1.fail (e := 3) (by decide) (by decide); refine (rfault_calls r2).mono ?_; rintro _ w3 ⟨rfl, k3⟩; have r3 := r2.keptNo k3; have b3 := ((b1.setOther (a := ⟨g, 2, none⟩) (fun e => hg e.symm) (.int .i64 (3 : Nat))).setOther (a := ⟨g, 3, none⟩) (fun e => hg e.symm) (.int .i64 s.pos)).kept k3 id; have q0 := b3.frozen 0; have q1 := b3.frozen 1; have y0 := b3.cell 0; have y1 := b3.cell 1))
    have b4 := (b3.set 0 (.int .i64 (s.fail 3).why)).set 1 (.int .i64 (s.fail 3).fat)
    have x0 := b4.cell 0
    have x1 := b4.cell 1
    refine bodyPost_ret (v := .agg #[.int .i64 (s.fail 3).why, .int .i64 (s.fail 3).fat]) (by simp [results, Tryz.results73, go_sem, x0, x1]) rfl ?_
    have kA : Kept (· = g) w w1 := (K0.trans k1 fun _ _ h => h).no
    have kB := ((kA.setCell (a := ⟨g, 2, none⟩) (fun _ => rfl) (.int .i64 (3 : Nat))).setCell (a := ⟨g, 3, none⟩) (fun _ => rfl) (.int .i64 s.pos)).transNo k3
    exact ⟨rfl, (kB.setCell (a := ⟨w.heap.size, 0, none⟩) (fun h => absurd h (Nat.lt_irrefl _)) _).setCell (a := ⟨w.heap.size, 1, none⟩) (fun h => absurd h (Nat.lt_irrefl _)) _,
      r3.kept (((Kept.refl (· = w.heap.size) w3).setCell (fun _ => rfl) _).setCell (fun _ => rfl) _) hg ha⟩
  · have he : s.end_ = s := by unfold PR.end_; rw [if_neg hl]
    rw [he]
    have hl' : s.left = 0 := by omega
    rw [hl'] at HL
    have H0 := Lib.hid h0
    clear h h0 he hl
    go_enter Tryz.func73, Tryz.ntmps73
    go_wp2_with (first
      | (go_at_call 112; refine HL.out.mono ?_; rintro _ w1 ⟨rfl, k1⟩; have r1 := H0.out.keptNo k1; have b1 := B0.kept k1 id)
      | (go_at_call 74; refine (rfault_calls r1).mono ?_; rintro _ w3 ⟨rfl, k3⟩; have r3 := r1.keptNo k3; have b3 := b1.kept k3 id; have q0 := b3.frozen 0; have q1 := b3.frozen 1; have y0 := b3.cell 0; have y1 := b3.cell 1))
    have b4 := (b3.set 0 (.int .i64 s.why)).set 1 (.int .i64 s.fat)
    have x0 := b4.cell 0
    have x1 := b4.cell 1
    refine bodyPost_ret (v := .agg #[.int .i64 s.why, .int .i64 s.fat]) (by simp [results, Tryz.results73, go_sem, x0, x1]) rfl ?_
    have kA : Kept (· = g) w w3 := ((K0.trans k1 fun _ _ h => h).trans k3 fun _ _ h => h).no
    exact ⟨rfl, (kA.setCell (a := ⟨w.heap.size, 0, none⟩) (fun h => absurd h (Nat.lt_irrefl _)) _).setCell (a := ⟨w.heap.size, 1, none⟩) (fun h => absurd h (Nat.lt_irrefl _)) _,
      r3.kept (((Kept.refl (· = w.heap.size) w3).setCell (fun _ => rfl) _).setCell (fun _ => rfl) _) hg ha⟩
end
end Go.Proofs.YtjfmidcaekhhgaaGreatDoor
