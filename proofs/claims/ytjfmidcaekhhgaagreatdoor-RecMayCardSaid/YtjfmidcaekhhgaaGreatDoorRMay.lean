/- The reference's May of a configuration, as a walk (out of AvB and AvE). The document's marks of what may be: count, TxMay, RegMay, ItemMay: walks. The document's Name and KeyMay; first and Keys: walks. The document's first and Keys: which of two keys is less: walks. -/
import Derived.Test.YtjfmidcaekhhgaaGreatDoorCfM
import Derived.Test.YtjfmidcaekhhgaaGreatDoorMsEq
namespace Go.Proofs.YtjfmidcaekhhgaaGreatDoor
open Go.RowKit Go.PM

section
variable {w : World}
def RTotRel (ws : World) (l : List UInt8) (n i : Value) (wr : World) : Prop :=
  ∃ k : Nat, k ≤ 8 ∧ n = .int .i64 (avOf (vsOf l) k 255) ∧ i = .int .i64 k ∧ wr = ws

theorem rbit255 : ∀ k, k < 8 → Nat.testBit 255 k = true := by decide

set_option maxRecDepth 100000 in
set_option maxHeartbeats 400000 in
theorem refTotal_calls (e r v : Nat) (l : List UInt8) (hl : l.length = 8) :
    Calls Tryz.prog 93 #[.agg (cfgc e r v l).toArray] w fun x w' => x = .returned (.int .i64 (avOf (vsOf l) 8 255)) ∧ Kept No w w' := by
  go_enter Tryz.func93, Tryz.ntmps93
  go_wp2
  have B0 := Blk.new w 30 (cfgc e r v l)
  have K0 := (Kept.refl No w).alloc (.cells (cfgc e r v l).toArray 30)
  generalize hws : w.alloc (.cells (cfgc e r v l).toArray 30) = ws at *
  go_loopw [3, 4] (fun n i wr => RTotRel ws l n i wr) (fun _ i _ => 8 - (intOf i).toNat)
  case atStart => exact ⟨0, by omega, rfl, rfl, rfl⟩
  case round =>
    obtain ⟨k, hk, rfl, rfl, rfl⟩ := hrel
    by_cases hlt : k < 8
    · have i0 : (0 : Int) ≤ k := by omega
      have i1 : (k : Int) < 8 := by omega
      have hc : wr.cell? ⟨w.heap.size, 3 + k, none⟩ = some (.int .u8 (vsOf l k)) := (B0.cell _).trans (cfgc_votes e r v l (by omega))
      have v1 := vsOf_lt l k
      have a1 := avOf_le l k 255
      have step : avOf (vsOf l) (k + 1) 255 = avOf (vsOf l) k 255 + if Nat.testBit 255 k then vsOf l k else 0 := rfl
      have V1 : ((vsOf l k : Nat) : Int) < 256 := by omega
      have A1 : ((avOf (vsOf l) k 255 : Nat) : Int) ≤ 2040 := by omega
      go_wp2
      go_roundw
      case rel =>
        refine ⟨k + 1, by omega, ?_, by go_num, rfl⟩
        rw [step, rbit255 k hlt, if_pos rfl]
        go_num
      case measure => simp [intOf]; omega
    · have e : k = 8 := by omega
      subst e
      go_wp2
      go_ret
      exact ⟨rfl, K0⟩
end
def RVRel (ws : World) (u : List UInt8) (i : Value) (wr : World) : Prop :=
  ∃ k : Nat, k ≤ 8 ∧ vOk (u.take k) = true ∧ i = .int .i64 k ∧ wr = ws
section
variable {w : World}

set_option maxRecDepth 100000 in
set_option maxHeartbeats 400000 in
theorem refMay_calls (e r v : Nat) (l : List UInt8) (hl : l.length = 8) (he : e < 4294967296) (hr : r < 256) (hv : v < 256) :
    Calls Tryz.prog 54 #[.agg (cfgc e r v l).toArray] w fun x w' => x = .returned (.bool (avMay e r v l)) ∧ Kept No w w' := by
  go_enter Tryz.func54, Tryz.ntmps54
  go_wp2
  have B0 := Blk.new w 30 (cfgc e r v l)
  have K0 := (Kept.refl No w).alloc (.cells (cfgc e r v l).toArray 30)
  generalize hws : w.alloc (.cells (cfgc e r v l).toArray 30) = ws at *
  have kd : Kept No w ws.drew := K0.drew
  have wr1 : IntKind.i64.wrap (r : Int) = r := by rw [IntKind.wrap_i64]; omega
  have wr2 : IntKind.i64.wrap (v : Int) = v := by rw [IntKind.wrap_i64]; omega
  obtain ⟨c0, c1, c2, c3, c4, c5, c6, c7, c8, c9, c10⟩ := cfg_cells B0 hl
  have B1 : Blk ws.drew _ _ _ := B0.drewN 1
  obtain ⟨d0, d1, d2, d3, d4, d5, d6, d7, d8, d9, d10⟩ := cfg_cells (B0.drewN 1 : Blk ws.drew _ _ _) hl
  go_region_held3 (fun w' => w'.cell? ⟨w.heap.size, 0, none⟩ = some (.int .u32 e) ∧ w'.cell? ⟨w.heap.size, 1, none⟩ = some (.int .u8 r) ∧ w'.cell? ⟨w.heap.size, 2, none⟩ = some (.int .u8 v) ∧ w'.cell? ⟨w.heap.size, 3, none⟩ = some (.int .u8 (vsOf l 0)) ∧ w'.cell? ⟨w.heap.size, 4, none⟩ = some (.int .u8 (vsOf l 1)) ∧ w'.cell? ⟨w.heap.size, 5, none⟩ = some (.int .u8 (vsOf l 2)) ∧ w'.cell? ⟨w.heap.size, 6, none⟩ = some (.int .u8 (vsOf l 3)) ∧ w'.cell? ⟨w.heap.size, 7, none⟩ = some (.int .u8 (vsOf l 4)) ∧ w'.cell? ⟨w.heap.size, 8, none⟩ = some (.int .u8 (vsOf l 5)) ∧ w'.cell? ⟨w.heap.size, 9, none⟩ = some (.int .u8 (vsOf l 6)) ∧ w'.cell? ⟨w.heap.size, 10, none⟩ = some (.int .u8 (vsOf l 7)))
    (first | (with_reducible exact cfg_cells B1 hl) | (with_reducible exact cfg_cells B2 hl) | go_keep)
    (first
      | (go_at_call 93; rw [cfg_eq e r v l hl]; refine (refTotal_calls e r v l hl).mono ?_; rintro _ w2 ⟨rfl, hk2⟩; have B2 : Blk w2 _ _ _ := (B0.drewN 1 : Blk ws.drew _ _ _).kept hk2 id; have k2 := kd.trans hk2 fun _ _ h => h)
      | fail)
  try simp only [wr1, wr2]
  clear c0 c1 c2 c3 c4 c5 c6 c7 c8 c9 c10 d0 d1 d2 d3 d4 d5 d6 d7 d8 d9 d10
  go_wp2
  go_loopw [6] (fun i wr => RVRel w2 l i wr) (fun i _ => 8 - (intOf i).toNat)
  case atStart => exact ⟨0, by omega, rfl, rfl, rfl⟩
  case round =>
    obtain ⟨k, hk, ho, rfl, rfl⟩ := hrel
    have HO := Lib.hid ho
    clear ho
    by_cases hlt : k < 8
    · have i0 : (0 : Int) ≤ k := by omega
      have i1 : (k : Int) < 8 := by omega
      have hc : wr.cell? ⟨w.heap.size, 3 + k, none⟩ = some (.int .u8 (vsOf l k)) := (B2.cell _).trans (cfgc_votes e r v l (by omega))
      have v1 := vsOf_lt l k
      by_cases h15 : vsOf l k ≤ 15
      · have V1 : ((vsOf l k : Nat) : Int) ≤ 15 := by omega
        go_wp2
        go_roundw
        case rel => exact ⟨k + 1, by omega, by rw [vOk_step (by omega) HO.out]; exact decide_eq_true h15, by go_num, rfl⟩
        case measure => simp [intOf]; omega
      · have V1 : (15 : Int) < (vsOf l k : Nat) := by omega
        go_wp2
        go_ret
        refine ⟨?_, k2⟩
        have : vOk l = false := by
          cases h : vOk l
          · rfl
          · exact absurd (vOk_le h k) h15
        unfold avMay
        rw [this]; rfl
    · have e8 : k = 8 := by omega
      subst e8
      have ok : vOk l = true := by
        have := HO.out
        rwa [List.take_of_length_le (by omega)] at this
      obtain ⟨f0, f1, f2, f3, f4, f5, f6, f7, f8, f9, f10⟩ := cfg_cells B2 hl
      have tb := avOf_le l 8 255
      have b1 : (r : Int) < 256 := by omega
      have b2 : (v : Int) < 256 := by omega
      have b3 : (e : Int) < 4294967296 := by omega
      generalize hA : avOf (vsOf l) 8 255 = A at *
      have b4 : (A : Int) ≤ 2040 := by omega
      by_cases h0 : 1 ≤ e
      case neg =>
        have q0 := decide_eq_false (show ¬ (e : Int) ≥ 1 by omega)
        go_wp2
        go_ret
        exact ⟨by rw [avMay_no (by rw [hA]; omega)]; rfl, k2⟩
      have q0 : (1 : Int) ≤ e := by omega
      by_cases h1 : e ≤ 2147483647
      case neg =>
        have q1 := decide_eq_false (show ¬ (e : Int) ≤ 2147483647 by omega)
        go_wp2
        go_ret
        exact ⟨by rw [avMay_no (by rw [hA]; omega)]; rfl, k2⟩
      have q1 : (e : Int) ≤ 2147483647 := by omega
      by_cases h2 : 1 ≤ r
      case neg =>
        have q2 := decide_eq_false (show ¬ (r : Int) ≥ 1 by omega)
        go_wp2
        go_ret
        exact ⟨by rw [avMay_no (by rw [hA]; omega)]; rfl, k2⟩
      have q2 : (1 : Int) ≤ r := by omega
      by_cases h3 : 1 ≤ v
      case neg =>
        have q3 := decide_eq_false (show ¬ (v : Int) ≥ 1 by omega)
        go_wp2
        go_ret
        exact ⟨by rw [avMay_no (by rw [hA]; omega)]; rfl, k2⟩
      have q3 : (1 : Int) ≤ v := by omega
      by_cases h4 : r ≤ A
      case neg =>
        have q4 : (A : Int) < r := by omega
        go_wp2
        go_ret
        exact ⟨by rw [avMay_no (by rw [hA]; omega)]; rfl, k2⟩
      have q4 : (r : Int) ≤ A := by omega
      by_cases h5 : v ≤ A
      case neg =>
        have q5 : (A : Int) < v := by omega
        go_wp2
        go_ret
        exact ⟨by rw [avMay_no (by rw [hA]; omega)]; rfl, k2⟩
      have q5 : (v : Int) ≤ A := by omega
      by_cases h6 : A < r + v
      case neg =>
        have q6 := decide_eq_false (show ¬ (r : Int) + v > A by omega)
        go_wp2
        go_ret
        exact ⟨by rw [avMay_no (by rw [hA]; omega)]; rfl, k2⟩
      have q6 : (A : Int) < r + v := by omega
      have h7 : avMay e r v l = decide ((A : Int) < 2 * v) := by
        unfold avMay
        rw [ok, hA, Bool.true_and]
        by_cases h : A < 2 * v
        · rw [decide_eq_true (show (A : Int) < 2 * v by omega)]
          exact decide_eq_true ⟨h0, h1, h2, h3, h4, h5, h6, h⟩
        · rw [decide_eq_false (show ¬ (A : Int) < 2 * v by omega)]
          exact decide_eq_false fun x => h x.2.2.2.2.2.2.2
      go_wp2
      go_ret
      exact ⟨by rw [h7]; rfl, k2⟩
end
end Go.Proofs.YtjfmidcaekhhgaaGreatDoor

namespace Go.Proofs.YtjfmidcaekhhgaaGreatDoor
open Go.RowKit Go.PM
section
variable {w : World}
set_option maxHeartbeats 400000 in
theorem refCount_calls (n : Nat) (hn : n < 4294967296) :
    Calls Tryz.prog 103 #[.int .u32 n] w fun e w' => e = .returned (.bool (isCount n)) ∧ w = w' := by
  have hlt : (n : Int) < 4294967296 := by omega
  have hb : isCount n = (decide ((1 : Int) ≤ n) && decide ((n : Int) ≤ 2147483647)) := by
    unfold isCount
    rw [Bool.eq_iff_iff]
    unfold maxC
    simp only [decide_eq_true_eq, Bool.and_eq_true]
    omega
  rw [hb]
  clear hb hn
  by_cases h : (1 : Int) ≤ n
  · rw [decide_eq_true h]
    go_enter Tryz.func103, Tryz.ntmps103
    go_wp2
    go_ret
    exact ⟨by rfl, rfl⟩
  · have h' := decide_eq_false h
    rw [h']
    clear h
    go_enter Tryz.func103, Tryz.ntmps103
    go_wp2
    go_ret
    exact ⟨by rfl, rfl⟩

set_option maxHeartbeats 400000 in
theorem refTxMay_calls (x : PTx) (hx : wfTx x) :
    Calls Tryz.prog 66 #[.agg (txv x).toArray] w fun e w' => e = .returned (.bool (txMay x)) ∧ Kept No w w' := by
  rw [txMay_eq]
  obtain ⟨n, i, j⟩ := x
  obtain ⟨h0, h1, h2⟩ := hx
  simp only at h0 h1 h2 ⊢
  show Calls Tryz.prog 66 #[.agg #[.int .u8 n, .int .u32 i, .int .u32 j]] w _
  have H1 := Lib.hid (fun (w : World) => refCount_calls (w := w) i h1)
  have H2 := Lib.hid (fun (w : World) => refCount_calls (w := w) j h2)
  have K0 := (Kept.refl No w).alloc (.cells #[.int .u8 (n : Int), .int .u32 (i : Int), .int .u32 (j : Int)] 24)
  cases e1 : isCount i
  all_goals
    cases e2 : isCount j
    all_goals
      rw [e1] at H1
      rw [e2] at H2
      by_cases h : n < 8
      · have h' : (n : Int) < 8 := by omega
        rw [decide_eq_true h]
        clear h
        go_enter Tryz.func66, Tryz.ntmps66
        go_wp2_with (first
          | (go_at_call 103; (with_reducible refine (H1.out _).mono ?_); rintro _ _ ⟨rfl, rfl⟩)
          | (go_at_call 103; (with_reducible refine (H2.out _).mono ?_); rintro _ _ ⟨rfl, rfl⟩))
        go_ret
        exact ⟨by rfl, K0⟩
      · have h' : (8 : Int) ≤ n := by omega
        rw [decide_eq_false h]
        clear h
        go_enter Tryz.func66, Tryz.ntmps66
        go_wp2
        go_ret
        exact ⟨by rfl, K0⟩

set_option maxHeartbeats 400000 in
theorem refRegMay_calls (x : PReg) (hx : wfReg x) :
    Calls Tryz.prog 67 #[.agg (regv x).toArray] w fun e w' => e = .returned (.bool (regMay x)) ∧ Kept No w w' := by
  obtain ⟨i, j⟩ := x
  obtain ⟨h1, h2⟩ := hx
  simp only at h1 h2
  show Calls Tryz.prog 67 #[.agg #[.int .u32 i, .int .u32 j]] w fun e w' => e = .returned (.bool (isCount i && isCount j)) ∧ Kept No w w'
  have H1 := Lib.hid (fun (w : World) => refCount_calls (w := w) i h1)
  have H2 := Lib.hid (fun (w : World) => refCount_calls (w := w) j h2)
  have K0 := (Kept.refl No w).alloc (.cells #[.int .u32 (i : Int), .int .u32 (j : Int)] 26)
  cases e1 : isCount i
  all_goals
    cases e2 : isCount j
    all_goals
      rw [e1] at H1
      rw [e2] at H2
      go_enter Tryz.func67, Tryz.ntmps67
      go_wp2_with (first
        | (go_at_call 103; (with_reducible refine (H1.out _).mono ?_); rintro _ _ ⟨rfl, rfl⟩)
        | (go_at_call 103; (with_reducible refine (H2.out _).mono ?_); rintro _ _ ⟨rfl, rfl⟩))
      go_ret
      exact ⟨by rfl, K0⟩

set_option maxHeartbeats 400000 in
theorem refItemMay_calls (i : PItem) (hi : wfItem i) (hl : i.2.1.length ≤ 140737488355328) :
    Calls Tryz.prog 22 #[.agg (itemv i).toArray] w fun e w' => e = .returned (.bool (itemMay i)) ∧ Kept No w w' := by
  rw [itemMay_eq]
  have hil := itemv_length hi
  have B0 := Blk.new w 32 (itemv i)
  have K0 := (Kept.refl No w).alloc (.cells (itemv i).toArray 32)
  have hcl := cfgv_length hi.2
  have sg : Seg (w.alloc (.cells (itemv i).toArray 32)) w.heap.size 2 (cfgv i.2.2) := B0.seg 2 _ (by simp [itemv])
  have HM := Lib.hid (fun (w : World) => refMay_calls (w := w) i.2.2.1 i.2.2.2.1 i.2.2.2.2.1 i.2.2.2.2.2 hi.2.2.2.2 hi.2.1 hi.2.2.1 hi.2.2.2.1)
  have c0 : (w.alloc (.cells (itemv i).toArray 32)).cell? ⟨w.heap.size, 0, none⟩ = some (.int .u32 (i.1 : Nat)) := B0.cell 0
  have c1 : (w.alloc (.cells (itemv i).toArray 32)).cell? ⟨w.heap.size, 1, none⟩ = some (.string ⟨i.2.1.toArray⟩) := B0.cell 1
  have hsz : (⟨i.2.1.toArray⟩ : ByteArray).size = i.2.1.length := by simp [ByteArray.size]
  have i1 := hi.1
  have i1' : ((i.1 : Nat) : Int) < 4294967296 := by omega
  obtain ⟨R, hR⟩ : ∃ R, avMay i.2.2.1 i.2.2.2.1 i.2.2.2.2.1 i.2.2.2.2.2 = R := ⟨_, rfl⟩
  rw [hR] at HM ⊢
  clear hR
  obtain ⟨L, hL⟩ : ∃ L, i.2.1.length = L := ⟨_, rfl⟩
  rw [hL] at hsz hl ⊢
  clear hL
  have hl' : (L : Int) ≤ 140737488355328 := by omega
  by_cases h1 : i.1 ≤ maxC
  · have h1' : ((i.1 : Nat) : Int) ≤ 2147483647 := by unfold maxC at h1; omega
    rw [decide_eq_true h1]
    by_cases h2 : L ≤ 64
    · have h2' : (L : Int) ≤ 64 := by omega
      rw [decide_eq_true h2]
      clear h1 h2
      go_enter Tryz.func22, Tryz.ntmps22
      go_wp2_with (first
        | (with_reducible refine wpList_ld rfl 30 _ rfl Tryz.isAgg30 11 Tryz.sizeOf30 w.heap.size 2 rfl (cfgv i.2.2) hcl sg ?_)
        | (go_at_call 54; refine (HM.out _).mono ?_; rintro _ w2 ⟨rfl, k2⟩))
      go_ret
      exact ⟨by rfl, K0.trans k2 fun _ _ h => h⟩
    · have h2' := decide_eq_false (show ¬ (L : Int) ≤ 64 by omega)
      rw [decide_eq_false h2]
      clear h1 h2
      go_enter Tryz.func22, Tryz.ntmps22
      go_wp2
      go_ret
      exact ⟨by rfl, K0⟩
  · have h1' := decide_eq_false (show ¬ ((i.1 : Nat) : Int) ≤ 2147483647 by unfold maxC at h1; omega)
    rw [decide_eq_false h1]
    clear h1
    go_enter Tryz.func22, Tryz.ntmps22
    go_wp2
    go_ret
    exact ⟨by rfl, K0⟩
end
end Go.Proofs.YtjfmidcaekhhgaaGreatDoor

namespace Go.Proofs.YtjfmidcaekhhgaaGreatDoor
open Go.RowKit Go.PM
def nz (x : UInt8) : Bool := x != 0
theorem vs_get (l : List UInt8) {k : Nat} (hk : k < l.length) : vsOf l k = l[k].toNat := by simp [vsOf, List.getD_eq_getElem?_getD, hk]
theorem nz_vs (l : List UInt8) {k : Nat} (hk : k < l.length) : nz l[k] = decide (vsOf l k ≠ 0) := by
  rw [vs_get l hk]; unfold nz
  rw [Bool.eq_iff_iff, bne_iff_ne, decide_eq_true_eq, ne_eq, ne_eq, ← UInt8.toNat_inj]; rfl
theorem keyOk_at (l : List UInt8) (k : Nat) (hk : k ≤ l.length) (h1 : l.takeWhile nz = l.take k) (h2 : l.dropWhile nz = l.drop k) : keyOk l = (decide (k ≠ 0) && (l.drop k).all (· == 0)) := by
  have e : keyOk l = (!(l.takeWhile nz).isEmpty && (l.dropWhile nz).all (· == 0)) := rfl
  rw [e, h1, h2]
  rcases k with _ | k
  · simp
  · cases l with
    | nil => simp at hk
    | cons a l => simp
def NmRel (ws : World) (l : List UInt8) (i : Value) (wr : World) : Prop :=
  ∃ k : Nat, k ≤ 8 ∧ i = .int .i64 k ∧ l.takeWhile nz = l.take k ++ (l.drop k).takeWhile nz ∧ l.dropWhile nz = (l.drop k).dropWhile nz ∧ wr = ws
def NzRel (ws : World) (l : List UInt8) (k : Nat) (i : Value) (wr : World) : Prop :=
  ∃ j : Nat, k ≤ j ∧ j ≤ 8 ∧ i = .int .i64 j ∧ (l.drop k).all (· == 0) = (l.drop j).all (· == 0) ∧ wr = ws
section
variable {w : World}
set_option maxRecDepth 100000 in
set_option maxHeartbeats 1000000 in
theorem refName_calls (l : List UInt8) (hl : l.length = 8) :
    Calls Tryz.prog 96 #[.agg (bcells l).toArray] w fun e w' => (∃ s, e = .returned (.tuple #[.string s, .bool (keyOk l)])) ∧ Kept No w w' := by
  have B0 := Blk.new w 28 (bcells l)
  have K0 := (Kept.refl No w).alloc (.cells (bcells l).toArray 28)
  go_enter Tryz.func96, Tryz.ntmps96
  go_wp2
  generalize hws : w.alloc (.cells (bcells l).toArray 28) = ws at *
  clear hws
  go_loopw [4] (fun i wr => NmRel ws l i wr) (fun i _ => 8 - (intOf i).toNat)
  case atStart => exact ⟨0, by omega, rfl, by simp, by simp, rfl⟩
  case round =>
    obtain ⟨k, hk, rfl, ht, hd, rfl⟩ := hrel
    have HT := Lib.hid ht
    have HD := Lib.hid hd
    clear ht hd
    by_cases hlt : k < 8
    · have i0 : (0 : Int) ≤ k := by omega
      have i1 : (k : Int) < 8 := by omega
      have hcons := List.drop_eq_getElem_cons (show k < l.length by omega)
      have hnz := nz_vs l (show k < l.length by omega)
      by_cases h0 : vsOf l k = 0
      · have hx : wr.cell? ⟨w.heap.size, k, none⟩ = some (.int .u8 0) := by rw [B0.cell, upcell _ (by omega), h0]; rfl
        have hn : nz l[k] = false := by rw [hnz, h0]; rfl
        have hT : l.takeWhile nz = l.take k := by rw [HT.out, hcons, List.takeWhile_cons, hn]; simp
        have hD : l.dropWhile nz = l.drop k := by rw [HD.out, hcons, List.dropWhile_cons, hn]; rfl
        clear hcons hnz h0 hn HT HD
        go_wp2
        have ho := keyOk_at l k (by omega) hT hD
        go_loopw [5] (fun i wx => NzRel wr l k i wx) (fun i _ => 8 - (intOf i).toNat)
        case atStart => exact ⟨k, Nat.le_refl _, by omega, rfl, rfl, rfl⟩
        case round =>
          obtain ⟨j, hkj, hj, rfl, ha, rfl⟩ := hrel
          have HA := Lib.hid ha
          have HO := Lib.hid ho
          clear ha ho
          by_cases hlt2 : j < 8
          · have j0 : (0 : Int) ≤ j := by omega
            have j1 : (j : Int) < 8 := by omega
            have hcons := List.drop_eq_getElem_cons (show j < l.length by omega)
            have hg := vs_get l (show j < l.length by omega)
            by_cases h0 : vsOf l j = 0
            · have hx : wr.cell? ⟨w.heap.size, j, none⟩ = some (.int .u8 0) := by rw [B0.cell, upcell _ (by omega), h0]; rfl
              have hb : (l.drop k).all (· == 0) = (l.drop (j + 1)).all (· == 0) := by
                rw [HA.out, hcons, List.all_cons]
                have : l[j] = 0 := UInt8.toNat_inj.1 (by rw [← hg, h0]; rfl)
                rw [this]; rfl
              have HB := Lib.hid hb
              clear hb hcons hg h0
              go_wp2
              exact ⟨⟨j + 1, by omega, by omega, by go_num, HB.out, rfl⟩, by simp [intOf]; omega⟩
            · have hx : wr.cell? ⟨w.heap.size, j, none⟩ = some (.int .u8 (vsOf l j)) := by rw [B0.cell]; exact upcell _ (by omega)
              have q0 : (0 : Int) < vsOf l j := by omega
              have v1 := vsOf_lt l j
              have hb : keyOk l = false := by
                rw [HO.out, HA.out, hcons, List.all_cons]
                have : (l[j] == 0) = false := by
                  rw [beq_eq_false_iff_ne]; intro e; rw [e] at hg; exact h0 hg
                rw [this]; simp
              have HB := Lib.hid hb
              clear hcons hg h0 hb HO HA
              go_wp2
              go_ret2
              exact ⟨⟨_, by rw [HB.out]; rfl⟩, K0⟩
          · have j1 : (8 : Int) ≤ j := by omega
            have e8 : (l.drop j).all (· == 0) = true := by rw [List.drop_of_length_le (by omega)]; rfl
            have hb : keyOk l = decide (k ≠ 0) := by rw [HO.out, HA.out, e8, Bool.and_true]
            have HB := Lib.hid hb
            clear hb e8 HO HA hT hD
            by_cases hk0 : k = 0
            · subst hk0
              go_wp2
              go_ret2
              exact ⟨⟨_, by rw [HB.out]; rfl⟩, K0⟩
            · rw [decide_eq_true hk0] at HB
              have q0 : (0 : Int) < k := by omega
              have q1 : (0 : Int) ≤ k := by omega
              have q2 : (k : Int) ≤ 8 := by omega
              clear hk0
              have R0 : Rd wr (some ⟨w.heap.size, 0, none⟩) (bcells (l.take k)) := by
                have h1 := (Rd.ofBlk' B0).take k
                rwa [show (bcells l).take k = bcells (l.take k) by simp [bcells]] at h1
              have hlk : (l.take k).length = k := by rw [List.length_take]; omega
              go_wp2_with (with_reducible refine wpList_conv_bytes_n rfl 38 9 _ rfl 5 Tryz.cu_bytes Tryz.cu_byte Tryz.cu_string _ k _ (l.take k) hlk rfl R0 ?_)
              go_ret2
              exact ⟨⟨_, by rw [HB.out]; rfl⟩, K0⟩
      · rw [decide_eq_true h0] at hnz
        have hx : wr.cell? ⟨w.heap.size, k, none⟩ = some (.int .u8 (vsOf l k)) := by rw [B0.cell]; exact upcell _ (by omega)
        have q0 : (0 : Int) < vsOf l k := by omega
        have v1 := vsOf_lt l k
        have ht : l.takeWhile nz = l.take (k + 1) ++ (l.drop (k + 1)).takeWhile nz := by
          rw [HT.out, hcons, List.takeWhile_cons, hnz, if_pos rfl, List.take_succ_eq_append_getElem (by omega), List.append_assoc]; rfl
        have hd : l.dropWhile nz = (l.drop (k + 1)).dropWhile nz := by rw [HD.out, hcons, List.dropWhile_cons, hnz]; rfl
        have H1 := Lib.hid ht
        have H2 := Lib.hid hd
        clear hcons hnz h0 ht hd
        go_wp2
        exact ⟨⟨k + 1, by omega, by go_num, H1.out, H2.out, rfl⟩, by simp [intOf]; omega⟩
    · have i1 : (8 : Int) ≤ k := by omega
      have hT : l.takeWhile nz = l.take k := by rw [HT.out, List.drop_of_length_le (by omega)]; simp
      have hD : l.dropWhile nz = l.drop k := by rw [HD.out, List.drop_of_length_le (by omega)]; rfl
      clear HT HD
      go_wp2
      have ho := keyOk_at l k (by omega) hT hD
      go_loopw [5] (fun i wx => NzRel wr l k i wx) (fun i _ => 8 - (intOf i).toNat)
      case atStart => exact ⟨k, Nat.le_refl _, by omega, rfl, rfl, rfl⟩
      case round =>
        obtain ⟨j, hkj, hj, rfl, ha, rfl⟩ := hrel
        have HA := Lib.hid ha
        have HO := Lib.hid ho
        clear ha ho
        by_cases hlt2 : j < 8
        · exact absurd hlt2 (by omega)
        · have j1 : (8 : Int) ≤ j := by omega
          have e8 : (l.drop j).all (· == 0) = true := by rw [List.drop_of_length_le (by omega)]; rfl
          have hb : keyOk l = decide (k ≠ 0) := by rw [HO.out, HA.out, e8, Bool.and_true]
          have HB := Lib.hid hb
          clear hb e8 HO HA hT hD
          by_cases hk0 : k = 0
          · exact absurd hk0 (by omega)
          · rw [decide_eq_true hk0] at HB
            have q0 : (0 : Int) < k := by omega
            have q1 : (0 : Int) ≤ k := by omega
            have q2 : (k : Int) ≤ 8 := by omega
            clear hk0
            have R0 : Rd wr (some ⟨w.heap.size, 0, none⟩) (bcells (l.take k)) := by
              have h1 := (Rd.ofBlk' B0).take k
              rwa [show (bcells l).take k = bcells (l.take k) by simp [bcells]] at h1
            have hlk : (l.take k).length = k := by rw [List.length_take]; omega
            go_wp2_with (with_reducible refine wpList_conv_bytes_n rfl 38 9 _ rfl 5 Tryz.cu_bytes Tryz.cu_byte Tryz.cu_string _ k _ (l.take k) hlk rfl R0 ?_)
            go_ret2
            exact ⟨⟨_, by rw [HB.out]; rfl⟩, K0⟩
set_option maxHeartbeats 400000 in
theorem refKeyMay_calls (l : List UInt8) (hl : l.length = 8) :
    Calls Tryz.prog 57 #[.agg (bcells l).toArray] w fun e w' => e = .returned (.bool (keyOk l)) ∧ Kept No w w' := by
  have B0 := Blk.new w 28 (bcells l)
  have K0 := (Kept.refl No w).alloc (.cells (bcells l).toArray 28)
  have l8 : (bcells l).length = 8 := by rw [bcells_length, hl]
  have S0 := B0.seg0
  have HK := Lib.hid (fun w' => refName_calls (w := w') l hl)
  generalize keyOk l = b at *
  go_enter Tryz.func57, Tryz.ntmps57
  go_wp2_with (first
    | (go_at_call 96; refine (HK.out _).mono ?_; rintro _ w2 ⟨⟨s, rfl⟩, k2⟩)
    | (with_reducible refine wpList_ld rfl 28 (.tmp 1) rfl Tryz.isAgg28 8 Tryz.sizeOf28 _ 0 rfl (bcells l) l8 S0 ?_))
  go_ret
  exact ⟨rfl, K0.trans k2 fun _ _ h => h⟩
end
end Go.Proofs.YtjfmidcaekhhgaaGreatDoor

namespace Go.Proofs.YtjfmidcaekhhgaaGreatDoor
open Go.RowKit Go.PM
/-- A key's bytes as numbers of 32 bits. -/
def wcells (l : List UInt8) : List Value := l.map fun x => Value.int .u32 x.toNat
theorem wcells_length (l : List UInt8) : (wcells l).length = l.length := by simp [wcells]
theorem wcell (u : List UInt8) {k : Nat} (hk : k < u.length) : (wcells u)[k]? = some (.int .u32 (vsOf u k)) := by
  rw [vs_get u hk]; simp [wcells, hk]
def FsRel (w : World) (l m : List UInt8) (i : Value) (wr : World) : Prop :=
  ∃ k : Nat, k ≤ 8 ∧ i = .int .i64 k ∧ cmpB l m = cmpB (l.drop k) (m.drop k) ∧ Kept No w wr
section
variable {w : World}
set_option maxRecDepth 100000 in
set_option maxHeartbeats 1000000 in
theorem first_calls (l m : List UInt8) (hl : l.length = 8) (hm : m.length = 8) (b c d e ob oc : Nat) (hr : Rd w (some ⟨b, ob, none⟩) (wcells l)) (hs : Rd w (some ⟨c, oc, none⟩) (wcells m)) :
    Calls Tryz.prog 97 #[.slice (some ⟨b, ob, none⟩) 8 d, .slice (some ⟨c, oc, none⟩) 8 e] w fun x w' => x = .returned (.int .i64 (cmpB l m)) ∧ Kept No w w' := by
  generalize hR : cmpB l m = R
  go_enter Tryz.func97, Tryz.ntmps97
  go_wp2
  go_loopw [5] (fun i wr => FsRel w l m i wr) (fun i _ => 8 - (intOf i).toNat)
  case atStart => exact ⟨0, by omega, rfl, rfl, Kept.refl _ _⟩
  case round =>
    obtain ⟨k, hk, rfl, he, hw⟩ := hrel
    by_cases hlt : k < 8
    · have i0 : (0 : Int) ≤ k := by omega
      have i1 : (k : Int) < 8 := by omega
      have hc1 : wr.cell? ⟨b, ob + k, none⟩ = some (.int .u32 (vsOf l k)) := by
        rw [(hr.keptNo hw).at k (by rw [wcells_length]; omega), ← wcell l (by omega)]; simp
      have hc2 : wr.cell? ⟨c, oc + k, none⟩ = some (.int .u32 (vsOf m k)) := by
        rw [(hs.keptNo hw).at k (by rw [wcells_length]; omega), ← wcell m (by omega)]; simp
      have hd := cmpB_drop l m hl hm hlt
      rw [← he, hR] at hd
      unfold cmp1 at hd
      have v1 := vsOf_lt l k
      have v2 := vsOf_lt m k
      clear he
      by_cases h1 : vsOf l k < vsOf m k
      · have h1' : ((vsOf l k : Nat) : Int) < (vsOf m k : Nat) := by omega
        rw [if_pos h1, if_neg (by decide)] at hd
        have HD := Lib.hid hd
        clear hd h1
        go_wp2
        go_quiet (fail)
        go_wp2
        go_ret
        exact ⟨by rw [HD.out]; rfl, hw.drewN _⟩
      · have h1' : ((vsOf m k : Nat) : Int) ≤ (vsOf l k : Nat) := by omega
        rw [if_neg h1] at hd
        by_cases h2 : vsOf m k < vsOf l k
        · have h2' : ((vsOf m k : Nat) : Int) < (vsOf l k : Nat) := by omega
          rw [if_pos h2, if_neg (by decide)] at hd
          have HD := Lib.hid hd
          clear hd h1 h2
          go_wp2
          go_quiet (fail)
          go_wp2
          go_quiet (fail)
          go_wp2
          go_ret
          exact ⟨by rw [HD.out]; rfl, by first | exact hw.drewN _ | exact (hw.drewN _).drewN _⟩
        · have h2' : ((vsOf l k : Nat) : Int) ≤ (vsOf m k : Nat) := by omega
          rw [if_neg h2, if_pos rfl] at hd
          have HD := Lib.hid (hR.trans hd)
          clear hd h1 h2
          go_wp2
          go_quiet (fail)
          go_wp2
          go_quiet (fail)
          go_wp2
          exact ⟨⟨k + 1, by omega, by go_num, HD.out, by first | exact hw.drewN _ | exact (hw.drewN _).drewN _⟩, by simp [intOf]; omega⟩
    · obtain rfl : k = 8 := by omega
      rw [hR, List.drop_of_length_le (by omega), List.drop_of_length_le (by omega)] at he
      have he : R = 0 := he
      subst he
      go_wp2
      go_ret
      exact ⟨rfl, hw⟩
end
theorem Tryz.cinf_u32 : (Tryz.prog.info? 22).map (fun i => (i.zero, i.size, i.bytes)) = some (some (.int .u32 0), 1, 4) := by kernel_rfl
theorem Tryz.cu_u32s : Tryz.prog.underlying 136 = some (.slice 22) := by kernel_rfl
structure KsRel (w : World) (l m : List UInt8) (x y : Nat) (s1 s2 i : Value) (wr : World) : Prop where
  ex : ∃ (k : Nat) (a1 a2 : Option Addr) (c1 c2 : Nat), k ≤ 8 ∧ i = .int .i64 k ∧ s1 = .slice a1 k c1 ∧ s2 = .slice a2 k c2 ∧ Owns wr 22 1 a1 k c1 (wcells (l.take k)) ∧ Owns wr 22 1 a2 k c2 (wcells (m.take k)) ∧
    (∀ q, At a1 q → w.heap.size + 2 ≤ q ∧ ¬ At a2 q) ∧ (∀ q, At a2 q → w.heap.size + 2 ≤ q)
  bx : Blk wr x 28 (bcells l)
  by' : Blk wr y 28 (bcells m)
  kept : Kept No w wr
theorem no_at {q : Nat} {p : Prop} (h : At none q) : p := by obtain ⟨_, _, e, _⟩ := h; cases e
theorem wcells_step (l : List UInt8) {k : Nat} (hk : k < l.length) : wcells (l.take (k + 1)) = wcells (l.take k) ++ [.int .u32 (vsOf l k)] := by
  rw [List.take_succ_eq_append_getElem hk, vs_get l hk]; simp only [wcells, List.map_append, List.map_cons, List.map_nil]
section
variable {w : World}
set_option maxRecDepth 100000 in
set_option maxHeartbeats 1000000 in
theorem refKeys_calls (l m : List UInt8) (hl : l.length = 8) (hm : m.length = 8) :
    Calls Tryz.prog 58 #[.agg (bcells l).toArray, .agg (bcells m).toArray] w fun x w' => x = .returned (.int .i64 (cmpB l m)) ∧ Kept No w w' := by
  have B1 := (Blk.new w 28 (bcells l)).alloc (.cells (bcells m).toArray 28)
  have B2 := Blk.new' (w := w.alloc (.cells (bcells l).toArray 28)) (g := w.heap.size + 1) (by rw [World.size_alloc]) 28 (bcells m)
  have K0 := ((Kept.refl No w).alloc (.cells (bcells l).toArray 28)).alloc (.cells (bcells m).toArray 28)
  obtain ⟨ti, hi0, hz0, hz1, hz2⟩ := info_parts Tryz.cinf_u32
  have HC := Lib.hid (fun (w' : World) => first_calls (w := w') l m hl hm)
  generalize hR : cmpB l m = R at *
  go_enter Tryz.func58, Tryz.ntmps58
  go_wp2
  generalize hws : (w.alloc (.cells (bcells l).toArray 28)).alloc (.cells (bcells m).toArray 28) = ws at *
  clear hws
  go_loopw [5, 6, 7] (fun s1 s2 i wr => KsRel w l m w.heap.size (w.heap.size + 1) s1 s2 i wr) (fun _ _ i _ => 8 - (intOf i).toNat)
  case atStart => exact ⟨⟨0, none, none, 0, 0, by omega, rfl, rfl, rfl, Owns.nil _ _ _, Owns.nil _ _ _, ⟨fun q hq => no_at hq, fun q hq => no_at hq⟩⟩, B1, B2, K0⟩
  case round =>
    obtain ⟨⟨k, a1, a2, c1, c2, hk, rfl, rfl, rfl, o1, o2, f1, f2⟩, bx, by', hw⟩ := hrel
    by_cases hlt : k < 8
    · have i0 : (0 : Int) ≤ k := by omega
      have i1 : (k : Int) < 8 := by omega
      have hx1 : wr.cell? ⟨w.heap.size, k, none⟩ = some (.int .u8 (vsOf l k)) := by rw [bx.cell]; exact upcell _ (by omega)
      have v1 := vsOf_lt l k
      have v2 := vsOf_lt m k
      have V1 : ((vsOf l k : Nat) : Int) < 256 := by omega
      have V2 : ((vsOf m k : Nat) : Int) < 256 := by omega
      have st1 := Lib.hid (wcells_step l (show k < l.length by omega))
      have st2 := Lib.hid (wcells_step m (show k < m.length by omega))
      have hcc : ∀ x : Int, ∀ u ∈ [Value.int .u32 x], u.oneCell' = true := fun x u hu => by rw [List.mem_singleton.1 hu]; rfl
      have ha1 := (Kept.refl No wr).alloc (.cells #[.int .u32 (vsOf l k : Nat)] 22)
      have o1' := o1.keptNo ha1
      have r1 := Rd.ofBlk' (Blk.new wr 22 [.int .u32 (vsOf l k : Nat)])
      have hlt2 := o2.lt
      have hlt1 := o1.lt
      have hsz := hw.size
      go_wp2_with (first
        | (at_builtin; refine wpList_onto rfl (.tmp 19) (.tmp 24) 136 rfl 22 ti _ 1 4 Tryz.cu_u32s hi0 hz0 hz1 hz2 rfl (by decide) a2 k c2 (wcells (m.take k)) rfl o2' (some ⟨w3.heap.size, 0, none⟩) 1 1 [.int .u32 (vsOf m k : Nat)] rfl (fun h => nomatch h) rfl r2 (hcc _) (by unfold maxLen; omega) (by omega) ?_; intro a4 cap4 w5 hap2)
        | (at_builtin; refine wpList_onto rfl (.tmp 12) (.tmp 17) 136 rfl 22 ti _ 1 4 Tryz.cu_u32s hi0 hz0 hz1 hz2 rfl (by decide) a1 k c1 (wcells (l.take k)) rfl o1' (some ⟨wr.heap.size, 0, none⟩) 1 1 [.int .u32 (vsOf l k : Nat)] rfl (fun h => nomatch h) rfl r1 (hcc _) (by unfold maxLen; omega) (by omega) ?_; intro a3 cap3 w3 hap; have ha2 := (Kept.refl No w3).alloc (.cells #[.int .u32 (vsOf m k : Nat)] 22); have o2' := ((o2.keptNo ha1).kept hap.kept (fun q hq h => (f1 q h).2 hq)).keptNo ha2; have r2 := Rd.ofBlk' (Blk.new w3 22 [.int .u32 (vsOf m k : Nat)]); have by3 := (by'.kept ha1 (fun h => h)).kept hap.kept (fun h => absurd (f1 _ h).1 (by omega)); have hx2 : w3.cell? ⟨w.heap.size + 1, k, none⟩ = some (.int .u8 (vsOf m k)) := (by rw [by3.cell]; exact upcell _ (by omega))))
      have hbl := by'.lt
      have n1 : ∀ q, At a3 q → w.heap.size + 2 ≤ q := fun q hq => (hap.at_ q hq).elim (fun h => (f1 q h).1) fun h => by rw [World.size_alloc] at h; omega
      have n2 : ∀ q, At a4 q → w.heap.size + 2 ≤ q := fun q hq => (hap2.at_ q hq).elim (f2 q) fun h => by
        rw [World.size_alloc] at h; have := hap.kept.size; rw [World.size_alloc] at this; omega
      have n3 : ∀ q, At a3 q → ¬ At a2 q := fun q hq h2 => (hap.at_ q hq).elim (fun h => (f1 q h).2 h2) fun h => by rw [World.size_alloc] at h; have := hlt2 q h2; omega
      have n4 : ∀ q, At a3 q → ¬ At a4 q := fun q hq h2 => (hap2.at_ q h2).elim (n3 q hq) fun h => by rw [World.size_alloc] at h; have := hap.own.lt q hq; omega
      have o3 := (hap.own.keptNo ha2).kept hap2.kept n3
      have o4 := hap2.own
      rw [← st1.out] at o3
      rw [← st2.out] at o4
      have k3 := (hw.trans ha1 fun _ _ h => h).trans hap.kept fun q hq h => absurd (f1 q h).1 (by omega)
      have k5 := (k3.trans ha2 fun _ _ h => h).trans hap2.kept fun q hq h => absurd (f2 q h) (by omega)
      have bx5 := (((bx.kept ha1 (fun h => h)).kept hap.kept (fun h => absurd (f1 _ h).1 (by omega))).kept ha2 (fun h => h)).kept hap2.kept (fun h => absurd (f2 _ h) (by omega))
      have by5 := (by3.kept ha2 (fun h => h)).kept hap2.kept (fun h => absurd (f2 _ h) (by omega))
      exact ⟨⟨⟨k + 1, a3, a4, cap3, cap4, by omega, by go_num, rfl, rfl, o3, o4, ⟨fun q hq => ⟨n1 q hq, n4 q hq⟩, n2⟩⟩, bx5, by5, k5⟩, by simp [intOf]; omega⟩
    · obtain rfl : k = 8 := by omega
      rw [List.take_of_length_le (by omega)] at o1
      rw [List.take_of_length_le (by omega)] at o2
      rcases o1.addr with ⟨_, h, _⟩ | ⟨b, rfl, _⟩
      · cases h
      rcases o2.addr with ⟨_, h, _⟩ | ⟨c, rfl, _⟩
      · cases h
      have r1 := o1.rd
      have r2 := o2.rd
      clear o1 o2 f1 f2 bx by' B1 B2 K0
      go_wp2_with (go_at_call 97; refine (HC.out _ _ _ _ _ _ _ r1 r2).mono ?_; rintro _ w3 ⟨rfl, k3⟩)
      go_ret
      exact ⟨rfl, hw.trans k3 fun _ _ h => h⟩
end
end Go.Proofs.YtjfmidcaekhhgaaGreatDoor
