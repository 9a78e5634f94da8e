/- The program's Of and Total, as walks. -/
import Derived.Test.YtjfmidcaekhhgaaGreatDoorCfM
import Derived.Test.YtjfmidcaekhhgaaGreatDoorArr
namespace Go.Proofs.YtjfmidcaekhhgaaGreatDoor
open Go.RowKit Go.PM

theorem Tryz.u_arr8 : Tryz.prog.underlying 27 = some (.array 8 5) := by kernel_rfl

/-- The bit of a set, as the program asks for it. -/
theorem bit_and (x k : Nat) (hx : x < 18446744073709551616) : bits BinOp.and IntKind.u64 ((x : Int) / 2 ^ k) 1 = if x.testBit k then 1 else 0 := by
  have e : (x : Int) / 2 ^ k = ((x / 2 ^ k : Nat) : Int) := by simp
  have h1 : x / 2 ^ k ≤ x := Nat.div_le_self _ _
  rw [e]
  have h := bits_and_u64_nat (x / 2 ^ k) 1 (by omega) (by omega)
  rw [Nat.and_one_is_mod] at h
  refine h.trans ?_
  rw [Nat.testBit_eq_decide_div_mod_eq]
  generalize x / 2 ^ k = q
  by_cases hq : q % 2 = 1
  · simp [hq]
  · simp [hq]; omega

section
variable {w : World}

set_option maxRecDepth 100000 in
set_option maxHeartbeats 400000 in
theorem of_calls (e r v : Nat) (l : List UInt8) (hl : l.length = 8) (set : Nat) (hs : set < 18446744073709551616) :
    Calls Tryz.prog 118 #[.agg (cfgc e r v l).toArray, .int .u64 set] w fun x w' => x = .returned (.int .i64 (avOf (vsOf l) 8 set)) ∧ Kept No w w' := by
  go_enter Tryz.func118, Tryz.ntmps118
  have B0 := Blk.new w 30 (cfgc e r v l)
  have K0 := (Kept.refl No w).alloc (.cells (cfgc e r v l).toArray 30)
  obtain ⟨c0, c1, c2, c3, c4, c5, c6, c7, c8, c9, c10⟩ := cfg_cells B0 hl
  go_wp2
  rw [up_eq l hl]
  clear c0 c1 c2 c3 c4 c5 c6 c7 c8 c9 c10
  generalize hws : w.alloc (.cells (cfgc e r v l).toArray 30) = ws at *
  go_loopw [5, 10] (fun n i wr => OfRel w ws l set n i wr) (fun _ i _ => 8 - (intOf i).toNat)
  case atStart => exact ⟨0, by omega, rfl, rfl, rfl⟩
  case round =>
    obtain ⟨k, hk, rfl, rfl, rfl⟩ := hrel
    by_cases hlt : k < 8
    · have i0 : (0 : Int) ≤ k := by omega
      have i1 : (k : Int) < 8 := by omega
      have hx : (bcells l).toArray[k]? = some (.int .u8 (vsOf l k)) := by rw [List.getElem?_toArray]; exact upcell l (by omega)
      have hix := run_index_array (P := Tryz.prog) (w := wr) 27 5 8 _ .i64 k _ Tryz.u_arr8 hlt hx (fun w => by rfl) (fun w => by rfl)
      have hbit := bit_and set k hs
      have step : avOf (vsOf l) (k + 1) set = avOf (vsOf l) k set + if set.testBit k then vsOf l k else 0 := rfl
      have v1 := vsOf_lt l k
      have a1 := avOf_le l k set
      have V1 : ((vsOf l k : Nat) : Int) < 256 := by omega
      have A1 : ((avOf (vsOf l) k set : Nat) : Int) ≤ 2040 := by omega
      cases hb : set.testBit k
      · rw [hb, if_neg (by decide)] at hbit step
        go_wp2
        refine ⟨⟨k + 1, by omega, ?_, by go_num, rfl⟩, by simp [intOf]; omega⟩
        rw [step]; go_num
      · rw [hb, if_pos rfl] at hbit step
        go_wp2
        refine ⟨⟨k + 1, by omega, ?_, by go_num, rfl⟩, by simp [intOf]; omega⟩
        rw [step]; go_num
    · have e : k = 8 := by omega
      subst e
      go_wp2
      go_ret
      exact ⟨rfl, K0⟩

set_option maxRecDepth 100000 in
set_option maxHeartbeats 400000 in
theorem total_calls (e r v : Nat) (l : List UInt8) (hl : l.length = 8) :
    Calls Tryz.prog 90 #[.agg (cfgc e r v l).toArray] w fun x w' => x = .returned (.int .i64 (avOf (vsOf l) 8 255)) ∧ Kept No w w' := by
  go_enter Tryz.func90, Tryz.ntmps90
  have B0 := Blk.new w 30 (cfgc e r v l)
  have K0 := (Kept.refl No w).alloc (.cells (cfgc e r v l).toArray 30)
  obtain ⟨c0, c1, c2, c3, c4, c5, c6, c7, c8, c9, c10⟩ := cfg_cells B0 hl
  go_wp2_with (go_at_call 118; rw [cfg_eq e r v l hl]; refine (of_calls e r v l hl 255 (by omega)).mono ?_; rintro _ w2 ⟨rfl, k2⟩)
  go_ret
  exact ⟨rfl, K0.trans k2 fun _ _ h => h⟩
end
/-- The greatest of the first k bytes. -/
def mxTo (l : List UInt8) : Nat → Nat
  | 0 => 0
  | k + 1 => max (mxTo l k) (vsOf l k)
theorem mxTo_lt (l : List UInt8) (k : Nat) : mxTo l k < 256 := by
  induction k with
  | zero => show 0 < 256; decide
  | succ k ih => have := vsOf_lt l k; unfold mxTo; omega
theorem mxTo_le (l : List UInt8) (k m : Nat) : mxTo l k ≤ m ↔ ∀ j, j < k → vsOf l j ≤ m := by
  induction k with
  | zero => simp [mxTo]
  | succ k ih =>
    unfold mxTo
    constructor
    · intro h j hj
      by_cases e : j = k
      · subst e; omega
      · exact ih.1 (by omega) j (by omega)
    · intro h
      have h1 := ih.2 fun j hj => h j (by omega)
      have h2 := h k (by omega)
      omega
theorem all_le (l : List UInt8) (m : Nat) : (∀ j, j < l.length → vsOf l j ≤ m) ↔ l.all (fun x => x.toNat ≤ m) = true := by
  simp only [List.all_eq_true, decide_eq_true_eq]
  constructor
  · intro h x hx
    obtain ⟨j, hj, rfl⟩ := List.getElem_of_mem hx
    have := h j hj
    simpa [vsOf, List.getD_eq_getElem?_getD, hj] using this
  · intro h j hj
    have := h l[j] (List.getElem_mem hj)
    simpa [vsOf, List.getD_eq_getElem?_getD, hj] using this
theorem mx_vOk (l : List UInt8) (hl : l.length = 8) : mxTo l 8 ≤ 15 ↔ vOk l = true := by
  rw [mxTo_le, ← hl, all_le]; exact Iff.rfl
def isQ (n A : Nat) : Bool := decide (1 ≤ n) && decide (n ≤ A)

section
variable {w : World}

def MxRel (ws : World) (l : List UInt8) (m i : Value) (wr : World) : Prop :=
  ∃ k : Nat, 1 ≤ k ∧ k ≤ l.length ∧ m = .int .u8 (mxTo l k) ∧ i = .int .i64 k ∧ wr = ws

set_option maxRecDepth 100000 in
set_option maxHeartbeats 400000 in
theorem max_calls (b o cap : Nat) (l : List UInt8) (h0 : 0 < l.length) (hm : l.length ≤ maxLen) (hr : Rd w (some ⟨b, o, none⟩) (bcells l)) :
    Calls Tryz.prog 92 #[.slice (some ⟨b, o, none⟩) l.length cap] w fun e w' => e = .returned (.int .u8 (mxTo l l.length)) ∧ w = w' := by
  unfold maxLen at hm
  have hz : w.cell? ⟨b, o, none⟩ = some (.int .u8 (vsOf l 0)) := by
    have := hr.at 0 (by rw [bcells_length]; exact h0)
    rw [Nat.add_zero] at this
    rw [this, ← upcell l h0]; simp
  have h00 : (0 : Int) < l.length := by omega
  have h11 : (1 : Int) ≤ l.length := by omega
  go_enter Tryz.func92, Tryz.ntmps92
  go_wp2
  go_loopw [3, 4] (fun m i wr => MxRel w l m i wr) (fun _ i _ => l.length - (intOf i).toNat)
  case atStart => exact ⟨1, by omega, by omega, by simp [mxTo], rfl, rfl⟩
  case round =>
    obtain ⟨k, hk1, hk, rfl, rfl, rfl⟩ := hrel
    by_cases hlt : k < l.length
    · have i0 : (0 : Int) ≤ k := by omega
      have i1 : (k : Int) < l.length := by omega
      have hc : wr.cell? ⟨b, o + k, none⟩ = some (.int .u8 (vsOf l k)) := by
        rw [hr.at k (by rw [bcells_length]; exact hlt), ← upcell l hlt]; simp
      go_wp2
      refine ⟨⟨k + 1, by omega, by omega, ?_, by go_num, rfl⟩, by simp [intOf]; omega⟩
      congr 1
      show _ = ((max (mxTo l k) (vsOf l k) : Nat) : Int)
      split <;> omega
    · have i1 : (l.length : Int) ≤ k := by omega
      go_wp2
      go_ret
      exact ⟨by rw [show k = l.length by omega]; rfl, rfl⟩

/-- isQuorum: a closure over the sum of all votes. -/
theorem isq_calls (n A c : Nat) (hc : w.cell? ⟨c, 0, none⟩ = some (.int .i64 A)) (hn : n < 256) (hA : A ≤ 2040) :
    Calls Tryz.prog 91 #[.int .u8 n, .pointer (some ⟨c, 0, none⟩)] w fun e w' => e = .returned (.bool (isQ n A)) ∧ w = w' := by
  have hn' : (n : Int) < 256 := by omega
  have hA' : (A : Int) ≤ 2040 := by omega
  by_cases h1 : 1 ≤ n
  · have h1' : (1 : Int) ≤ n := by omega
    by_cases h2 : n ≤ A
    · have h2' : (n : Int) ≤ A := by omega
      go_enter Tryz.func91, Tryz.ntmps91
      go_wp2
      go_ret
      exact ⟨by rw [isQ, decide_eq_true h1, decide_eq_true h2]; rfl, rfl⟩
    · have h2' : (A : Int) < n := by omega
      go_enter Tryz.func91, Tryz.ntmps91
      go_wp2
      go_ret
      exact ⟨by rw [isQ, decide_eq_true h1, decide_eq_false h2]; rfl, rfl⟩
  · have h1' := decide_eq_false (show ¬ (n : Int) ≥ 1 by omega)
    go_enter Tryz.func91, Tryz.ntmps91
    go_wp2
    go_ret
    exact ⟨by rw [isQ, decide_eq_false h1]; rfl, rfl⟩

theorem cfg_rd {b : Nat} {T : TypeId} {e r v : Nat} {l : List UInt8} (hb : Blk w b T (cfgc e r v l)) : Rd w (some ⟨b, 3, none⟩) (bcells l) := fun j x hj => ⟨b, 3, rfl, by
  rw [hb.cell, show 3 + j = j + 1 + 1 + 1 by omega]
  simpa only [cfgc, List.getElem?_cons_succ] using hj⟩

theorem max8_calls (b o cap : Nat) (l : List UInt8) (hl : l.length = 8) (hr : Rd w (some ⟨b, o, none⟩) (bcells l)) :
    Calls Tryz.prog 92 #[.slice (some ⟨b, o, none⟩) 8 cap] w fun e w' => e = .returned (.int .u8 (mxTo l 8)) ∧ w = w' := by
  have := max_calls (w := w) b o cap l (by omega) (by rw [hl]; decide) hr
  rwa [hl] at this

set_option maxRecDepth 100000 in
set_option maxHeartbeats 1000000 in
theorem may_calls (e r v : Nat) (l : List UInt8) (hl : l.length = 8) (he : e < 4294967296) (hr : r < 256) (hv : v < 256) :
    Calls Tryz.prog 53 #[.agg (cfgc e r v l).toArray] w fun x w' => x = .returned (.bool (avMay e r v l)) ∧ Kept No w w' := by
  have tb := avOf_le l 8 255
  have mb := mxTo_lt l 8
  have B0 := Blk.new w 30 (cfgc e r v l)
  have K0 := (Kept.refl No w).alloc (.cells (cfgc e r v l).toArray 30)
  obtain ⟨c0, c1, c2, c3, c4, c5, c6, c7, c8, c9, c10⟩ := cfg_cells B0 hl
  go_enter Tryz.func53, Tryz.ntmps53
  go_wp2_with fail
  rw [cfg_eq e r v l hl]
  refine (total_calls e r v l hl).mono ?_
  rintro _ w2 ⟨rfl, k2⟩
  have B2 := B0.kept k2 id
  have hlt : w.heap.size < w2.heap.size := B2.lt
  have K2 : Kept No w w2 := K0.trans k2 fun _ _ h => h
  clear c0 c1 c2 c3 c4 c5 c6 c7 c8 c9 c10
  obtain ⟨f0, f1, f2, f3, f4, f5, f6, f7, f8, f9, f10⟩ := cfg_cells B2 hl
  clear f3 f4 f5 f6 f7 f8 f9 f10
  have b1 : (r : Int) < 256 := by omega
  have b2 : (v : Int) < 256 := by omega
  have b3 : (e : Int) < 4294967296 := by omega
  have hmx := mx_vOk l hl
  have hmay : avMay e r v l = (decide (1 ≤ e ∧ e ≤ 2147483647) && decide (mxTo l 8 ≤ 15) && isQ r (avOf (vsOf l) 8 255) && isQ v (avOf (vsOf l) 8 255) && decide (avOf (vsOf l) 8 255 < r + v) && decide (avOf (vsOf l) 8 255 < 2 * v)) := by
    unfold avMay isQ
    rw [Bool.eq_iff_iff]
    simp only [Bool.and_eq_true, decide_eq_true_eq, ← hmx]
    constructor <;> (intro h; omega)
  generalize hR : avMay e r v l = R at *
  generalize hM : mxTo l 8 = M at *
  generalize hA : avOf (vsOf l) 8 255 = A at *
  have HM := Lib.hid hM
  have HR := Lib.hid hR
  have HY := Lib.hid hmay
  clear hM hA hR hmx hmay
  have b4 : (A : Int) ≤ 2040 := by omega
  have b5 : (M : Int) < 256 := by omega
  have kl : Kept No w (w2.alloc (Obj.cells #[Value.int IntKind.i64 (A : Int)] 3)) := K2.alloc _
  have R2 : Rd (w2.alloc (Obj.cells #[Value.int IntKind.i64 (A : Int)] 3)) (some ⟨w.heap.size, 3, none⟩) (bcells l) := cfg_rd (B2.alloc _)
  by_cases h0 : 1 ≤ e ∧ e ≤ 2147483647
  case neg =>
    have q0 : IntKind.u32.wrap ((e : Int) - 1) = (((e + 4294967295) % 4294967296 : Nat) : Int) := by
      rw [IntKind.wrap_u32]; omega
    have q1 := decide_eq_false (show ¬ ((((e + 4294967295) % 4294967296 : Nat) : Int) < 2147483647) by omega)
    have HF : Hid (avMay e r v l = false) := Lib.hid (by rw [HR.out, HY.out, decide_eq_false h0]; rfl)
    generalize (e + 4294967295) % 4294967296 = e' at *
    clear h0
    go_wp2
    go_ret
    exact ⟨by rw [HF.out]; rfl, kl⟩
  have q0 : IntKind.u32.wrap ((e : Int) - 1) = ((e - 1 : Nat) : Int) := by
    rw [IntKind.wrap_u32]; omega
  have q1 : ((e - 1 : Nat) : Int) < 2147483647 := by omega
  have H0 := Lib.hid (decide_eq_true h0)
  generalize e - 1 = e' at *
  clear h0
  by_cases h1 : M ≤ 15
  case neg =>
    have q2 := decide_eq_false (show ¬ (M : Int) ≤ 15 by omega)
    have HF : Hid (avMay e r v l = false) := Lib.hid (by rw [HR.out, HY.out, H0.out, decide_eq_false h1]; rfl)
    clear h1
    go_wp2_with (go_at_call 92; refine (max8_calls _ _ _ l hl R2).mono ?_; rw [HM.out]; rintro _ _ ⟨rfl, rfl⟩)
    go_ret
    exact ⟨by rw [HF.out]; rfl, kl⟩
  have q2 : (M : Int) ≤ 15 := by omega
  have H1 := Lib.hid (decide_eq_true h1)
  clear h1
  have C2 : (w2.alloc (Obj.cells #[Value.int IntKind.i64 (A : Int)] 3)).cell? ⟨w2.heap.size, 0, none⟩ = some (.int .i64 A) := (Blk.new w2 3 [.int .i64 (A : Int)]).cell 0
  cases h2 : isQ r A
  case false =>
    have HF : Hid (avMay e r v l = false) := Lib.hid (by rw [HR.out, HY.out, H0.out, H1.out, h2]; rfl)
    go_wp2_with (first
      | (go_at_call 92; refine (max8_calls _ _ _ l hl R2).mono ?_; rw [HM.out]; rintro _ _ ⟨rfl, rfl⟩)
      | (go_at_call 91; refine (isq_calls _ A _ C2 (by assumption) (by omega)).mono ?_; (try simp only [h2]); rintro _ _ ⟨rfl, rfl⟩))
    go_ret
    exact ⟨by rw [HF.out]; rfl, kl⟩
  cases h3 : isQ v A
  case false =>
    have HF : Hid (avMay e r v l = false) := Lib.hid (by rw [HR.out, HY.out, H0.out, H1.out, h2, h3]; rfl)
    go_wp2_with (first
      | (go_at_call 92; refine (max8_calls _ _ _ l hl R2).mono ?_; rw [HM.out]; rintro _ _ ⟨rfl, rfl⟩)
      | (go_at_call 91; refine (isq_calls _ A _ C2 (by assumption) (by omega)).mono ?_; (try simp only [h2, h3]); rintro _ _ ⟨rfl, rfl⟩))
    go_ret
    exact ⟨by rw [HF.out]; rfl, kl⟩
  by_cases h4 : A < r + v
  case neg =>
    have q4 := decide_eq_false (show ¬ (r : Int) + v > A by omega)
    have HF : Hid (avMay e r v l = false) := Lib.hid (by rw [HR.out, HY.out, H0.out, H1.out, h2, h3, decide_eq_false h4]; rfl)
    clear h4
    go_wp2_with (first
      | (go_at_call 92; refine (max8_calls _ _ _ l hl R2).mono ?_; rw [HM.out]; rintro _ _ ⟨rfl, rfl⟩)
      | (go_at_call 91; refine (isq_calls _ A _ C2 (by assumption) (by omega)).mono ?_; (try simp only [h2, h3]); rintro _ _ ⟨rfl, rfl⟩))
    go_ret
    exact ⟨by rw [HF.out]; rfl, kl⟩
  have q4 : (A : Int) < r + v := by omega
  have HF : Hid (avMay e r v l = decide ((A : Int) < 2 * v)) := Lib.hid (by
    rw [HR.out, HY.out, H0.out, H1.out, h2, h3, decide_eq_true h4]
    show decide (A < 2 * v) = _
    rw [Bool.eq_iff_iff]
    simp only [decide_eq_true_eq]
    omega)
  clear h4
  go_wp2_with (first
    | (go_at_call 92; refine (max8_calls _ _ _ l hl R2).mono ?_; rw [HM.out]; rintro _ _ ⟨rfl, rfl⟩)
    | (go_at_call 91; refine (isq_calls _ A _ C2 (by assumption) (by omega)).mono ?_; (try simp only [h2, h3]); rintro _ _ ⟨rfl, rfl⟩))
  go_ret
  exact ⟨by rw [HF.out]; rfl, kl⟩
end
end Go.Proofs.YtjfmidcaekhhgaaGreatDoor
