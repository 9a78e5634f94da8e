/- The reference's List, lost and Losses, as walks. -/
import Derived.Test.YtencnfgmgcdiiaaAvV
namespace Go.Proofs.Ytencnfgmgcdiiaa
open Go.RowKit Go.PM

theorem Try.inf_int0 : (Try.prog.info? 3).map (fun i => (i.zero, i.size, i.bytes)) = some (some (.int .i64 0), 1, 8) := by kernel_rfl
theorem Try.u_ints : Try.prog.underlying 55 = some (.slice 3) := by kernel_rfl

/-- The set's numbers below k. -/
def bitsTo (set : Nat) : Nat → List Nat
  | 0 => []
  | k + 1 => bitsTo set k ++ if set.testBit k then [k] else []
theorem bitsTo_length (set k : Nat) : (bitsTo set k).length = avCard k set := by
  induction k with
  | zero => rfl
  | succ k ih => rw [bitsTo, avCard, List.length_append, ih]; split <;> rfl
theorem avCard_high (set : Nat) (hs : set < 256) (k : Nat) (hk : 8 ≤ k) : avCard k set = avCard 8 set := by
  induction k with
  | zero => omega
  | succ k ih =>
    by_cases e : k + 1 = 8
    · rw [e]
    · rw [avCard, ih (by omega), Nat.testBit_lt_two_pow (Nat.lt_of_lt_of_le hs (show 2 ^ 8 ≤ 2 ^ k from Nat.pow_le_pow_right (by omega) (by omega)))]
      rfl
def icells (l : List Nat) : List Value := l.map fun n : Nat => .int .i64 (n : Int)
@[simp] theorem icells_length (l : List Nat) : (icells l).length = l.length := by simp [icells]

section
variable {w : World}

def LiRel (w : World) (set : Nat) (t i : Value) (wr : World) : Prop :=
  ∃ (k : Nat) (a : Option Addr) (cap : Nat), k ≤ 64 ∧ t = .slice a (avCard k set) cap ∧ i = .int .i64 k ∧ Owns wr 3 1 a (avCard k set) cap (icells (bitsTo set k)) ∧ (∀ b, At a b → w.heap.size ≤ b) ∧ Kept No w wr
def ListPost (w : World) (set : Nat) (e : Ending) (w' : World) : Prop :=
  ∃ (a : Option Addr) (cap : Nat), e = .returned (.slice a (avCard 64 set) cap) ∧ Owns w' 3 1 a (avCard 64 set) cap (icells (bitsTo set 64)) ∧ (∀ b, At a b → w.heap.size ≤ b) ∧ Kept No w w'

set_option maxRecDepth 100000 in
set_option maxHeartbeats 1000000 in
theorem refList_calls (set : Nat) (hs : set < 18446744073709551616) :
    Calls Try.prog 63 #[.int .u64 set] w (ListPost w set) := by
  obtain ⟨i0, hi, hz0, hz1, hz2⟩ := info_parts Try.inf_int0
  go_enter Try.func63, Try.ntmps63
  go_wp2
  go_loopw [3, 4] (fun t i wr => LiRel w set t i wr) (fun _ i _ => 64 - (intOf i).toNat)
  case atStart => exact ⟨0, none, 0, by omega, rfl, rfl, Owns.nil _ _ _, (fun b ⟨_, _, h, _⟩ => by cases h), Kept.refl _ _⟩
  case round =>
    obtain ⟨k, a, cap, hk, rfl, rfl, ho, ha, Kw⟩ := hrel
    have i0' : (0 : Int) ≤ k := by omega
    have hcl := avCard_le k set
    by_cases hlt : k < 64
    · have i1 : (k : Int) < 64 := by omega
      have s1 : avCard (k + 1) set = avCard k set + if set.testBit k then 1 else 0 := rfl
      have s2 : bitsTo set (k + 1) = bitsTo set k ++ if set.testBit k then [k] else [] := rfl
      have hhas := fun w => has_calls (w := w) set k hs hlt
      cases hb : set.testBit k
      · rw [hb, if_neg (by decide)] at s1 s2
        rw [List.append_nil] at s2
        rw [hb] at hhas
        rw [Nat.add_zero] at s1
        have S1 := Lib.hid s1
        have S2 := Lib.hid s2
        have HH := Lib.hid hhas
        clear s1 s2 hhas hb
        go_wp2_with (go_at_call 47; refine (HH.out _).mono ?_; rintro _ _ ⟨rfl, rfl⟩)
        refine ⟨⟨k + 1, a, cap, by omega, ?_, by go_num, ?_, ha, Kw⟩, by simp [intOf]; omega⟩
        · simp only [S1.out, Nat.add_zero]
        · simp only [S1.out, S2.out, Nat.add_zero]; exact ho
      · rw [hb, if_pos rfl] at s1 s2
        rw [hb] at hhas
        have S1 := Lib.hid s1
        have S2 := Lib.hid s2
        have HH := Lib.hid hhas
        clear s1 s2 hhas hb
        have hn : Rd (wr.alloc (.cells #[.int .i64 k] 3)) (some ⟨wr.heap.size, 0, none⟩) [.int .i64 k] := Rd.ofBlk' (Blk.new wr _ _)
        have ho2 := ho.keptNo ((Kept.refl No wr).alloc (.cells #[.int .i64 k] 3))
        generalize avCard k set = n at *
        go_wp2_with (first
          | (go_at_call 47; refine (HH.out _).mono ?_; rintro _ _ ⟨rfl, rfl⟩)
          | (at_builtin; go_must (refine wpList_onto rfl (.tmp 12) (.tmp 14) 55 rfl 3 i0 _ 1 8 Try.u_ints hi hz0 hz1 hz2 rfl (by decide) a n cap (icells (bitsTo set k)) rfl ho2 (some ⟨wr.heap.size, 0, none⟩) 1 1 [.int .i64 k] rfl (by simp) rfl hn (by simp [Value.oneCell']) (by unfold maxLen; omega) (by omega) ?_; intro a3 cap3 w3 hap3)))
        have hk3 : Kept No w w3 := (Kw.alloc _).trans hap3.kept (fun b hb hat => absurd (ha b hat) (by omega))
        refine ⟨⟨k + 1, a3, cap3, by omega, ?_, by go_num, ?_, ?_, hk3⟩, by simp [intOf]; omega⟩
        · rw [S1.out]
        · have e : icells (bitsTo set k ++ [k]) = icells (bitsTo set k) ++ [.int .i64 (k : Int)] := by simp [icells]
          rw [S1.out, S2.out, e]
          exact hap3.own
        · intro b hb
          rcases hap3.at_ b hb with h | h
          · exact ha b h
          · have := Kw.size; simp at h; omega
    · obtain rfl : k = 64 := by omega
      go_wp2
      go_ret
      exact ⟨a, cap, rfl, ho, ha, Kw⟩

def LenPost (w : World) (n : Nat) (e : Ending) (w' : World) : Prop := ∃ (a : Option Addr) (cap : Nat), e = .returned (.slice a n cap) ∧ Kept No w w'
theorem refLen_calls (set : Nat) (hs : set < 256) : Calls Try.prog 63 #[.int .u64 set] w (LenPost w (avCard 8 set)) :=
  (refList_calls set (by omega)).mono fun e w' ⟨a, cap, he, _, _, hk⟩ => ⟨a, cap, by rw [he, avCard_high set hs 64 (by omega)], hk⟩

def RlRel (w ws : World) (l : List UInt8) (want : Nat) (t i : Value) (wr : World) : Prop :=
  ∃ s : Nat, s ≤ 256 ∧ t = .int .i64 (rlost (vsOf l) want s) ∧ i = .int .u64 s ∧ Kept No ws wr ∧ Kept No w wr

set_option maxRecDepth 100000 in
set_option maxHeartbeats 1000000 in
theorem refLost_calls (e r v : Nat) (l : List UInt8) (hl : l.length = 8) (want : Nat) (hwb : want < 256) (h2 : want ≤ avOf (vsOf l) 8 255) :
    Calls Try.prog 46 #[.agg (cfgc e r v l).toArray, .int .i64 want] w fun x w' => x = .returned (.int .i64 (rlost (vsOf l) want 256)) ∧ Kept No w w' := by
  have B0 := Blk.new w 49 (cfgc e r v l)
  have K0 := (Kept.refl No w).alloc (.cells (cfgc e r v l).toArray 49)
  have hw3 : (want : Int) < 256 := by omega
  go_enter Try.func46, Try.ntmps46
  go_wp2
  generalize hws : w.alloc (.cells (cfgc e r v l).toArray 49) = ws at *
  go_loopw [5, 6] (fun t i wr => RlRel w ws l want t i wr) (fun _ i _ => 256 - (intOf i).toNat)
  case atStart => exact ⟨0, by omega, rfl, rfl, Kept.refl _ _, K0⟩
  case round =>
    obtain ⟨s, hs, rfl, rfl, Kw, Kt⟩ := hrel
    by_cases hlt : s < 256
    · have i0 : (0 : Int) ≤ s := by omega
      have i1 : (s : Int) < 256 := by omega
      have C0 := B0.kept Kw id
      obtain ⟨c0, c1, c2, c3, c4, c5, c6, c7, c8, c9, c10⟩ := cfg_cells C0 hl
      have hof := fun w => refOf_calls (w := w) e r v l hl s (by omega)
      have hli := fun w => refLen_calls (w := w) s hlt
      have step : rlost (vsOf l) want (s + 1) = if avOf (vsOf l) 8 s < want then min (rlost (vsOf l) want s) (8 - avCard 8 s - 1) else rlost (vsOf l) want s := rfl
      have rle := rlost_le (vsOf l) want s
      have hcard := avCard_le 8 s
      have h7 : avOf (vsOf l) 8 s < want → avCard 8 s ≤ 7 := by
        intro h
        rcases Nat.lt_or_ge (avCard 8 s) 8 with h' | h'
        · omega
        · exfalso
          have h8 : avCard 8 s = 8 := by omega
          have all : s = 255 := by
            have key : ∀ x : Fin 256, avCard 8 x.val = 8 → x.val = 255 := by decide +kernel
            exact key ⟨s, hlt⟩ h8
          subst all
          omega
      have hmn : ((min (rlost (vsOf l) want s) (8 - avCard 8 s - 1) : Nat) : Int) = min ((rlost (vsOf l) want s : Nat) : Int) ((8 - avCard 8 s - 1 : Nat) : Int) := by omega
      generalize rlost (vsOf l) want s = A at *
      generalize avOf (vsOf l) 8 s = O at *
      have HST := Lib.hid step
      have HOf := Lib.hid hof
      have HLi := Lib.hid hli
      have HMn := Lib.hid hmn
      have hO : (O : Int) ≤ 2040 ∨ True := .inr trivial
      clear step hof hli hO hmn
      by_cases ho : O < want
      · have q1 : (O : Int) < want := by omega
        have hc7 := h7 ho
        clear h7
        generalize avCard 8 s = c at *
        have c7' : (c : Int) ≤ 7 := by omega
        have A8 : (A : Int) ≤ 8 := by omega
        go_wp2_with (first
          | (go_at_call 25; rw [cfg_eq e r v l hl]; refine (HOf.out _).mono ?_; rintro _ wz ⟨rfl, Kz⟩)
          | (go_at_call 63; refine (HLi.out _).mono ?_; rintro _ wy ⟨a, cap, rfl, Ky⟩))
        refine ⟨⟨s + 1, by omega, ?_, by go_num, (Kw.transNo Kz).transNo Ky, (Kt.transNo Kz).transNo Ky⟩, by simp [intOf]; omega⟩
        rw [HST.out, if_pos ho]
        congr 1
        split <;> omega
      · have q1 : (want : Int) ≤ O := by omega
        go_wp2_with (go_at_call 25; rw [cfg_eq e r v l hl]; refine (HOf.out _).mono ?_; rintro _ wz ⟨rfl, Kz⟩)
        refine ⟨⟨s + 1, by omega, ?_, by go_num, Kw.transNo Kz, Kt.transNo Kz⟩, by simp [intOf]; omega⟩
        rw [HST.out, if_neg ho]
    · obtain rfl : s = 256 := by omega
      go_wp2
      go_ret
      exact ⟨rfl, Kt⟩
set_option maxRecDepth 100000 in
set_option maxHeartbeats 2000000 in
theorem refLosses_calls (e r v : Nat) (l : List UInt8) (hl : l.length = 8) (he : e < 4294967296) (hr : r < 256) (hv : v < 256) :
    Calls Try.prog 22 #[.agg (cfgc e r v l).toArray] w
      fun x w' => x = .returned (.tuple #[.int .i64 (lsOf e r v l).1, .int .i64 (lsOf e r v l).2.1, .int .i64 (lsOf e r v l).2.2]) ∧ Kept No w w' := by
  have B0 := Blk.new w 49 (cfgc e r v l)
  have K0 := (Kept.refl No w).alloc (.cells (cfgc e r v l).toArray 49)
  obtain ⟨c0, c1, c2, c3, c4, c5, c6, c7, c8, c9, c10⟩ := cfg_cells B0 hl
  have hls : lsOf e r v l = if avMay e r v l then (rlost (vsOf l) r 256, rlost (vsOf l) v 256, 0) else (0, 0, 16) := rfl
  generalize lsOf e r v l = R at *
  cases hM : avMay e r v l
  case false =>
    rw [hM, if_neg (by decide)] at hls
    subst hls
    have HM := Lib.hid hM
    clear hM
    go_enter Try.func22, Try.ntmps22
    go_wp2_with fail
    rw [cfg_eq e r v l hl]
    refine (refMay_calls e r v l hl he hr hv).mono ?_
    rw [HM.out]
    rintro _ w2 ⟨rfl, k2⟩
    go_wp2
    go_ret3
    exact ⟨rfl, K0.trans k2 fun _ _ h => h⟩
  rw [hM, if_pos rfl] at hls
  subst hls
  have hm := may_want hM
  have HM := Lib.hid hM
  clear hM
  have hl1 := fun w => refLost_calls (w := w) e r v l hl r hr hm.2.1
  have hl2 := fun w => refLost_calls (w := w) e r v l hl v hv hm.2.2.2
  generalize rlost (vsOf l) r 256 = x1 at *
  generalize rlost (vsOf l) v 256 = x2 at *
  have H1 := Lib.hid hl1
  have H2 := Lib.hid hl2
  clear hl1 hl2 hm
  go_enter Try.func22, Try.ntmps22
  go_wp2_with fail
  rw [cfg_eq e r v l hl]
  refine (refMay_calls e r v l hl he hr hv).mono ?_
  rw [HM.out]
  rintro _ w2 ⟨rfl, k2⟩
  have C0 := B0.kept k2 id
  have K2 := K0.trans k2 fun _ _ h => h
  clear c0 c1 c2 c3 c4 c5 c6 c7 c8 c9 c10 B0 K0 k2
  obtain ⟨c0, c1, c2, c3, c4, c5, c6, c7, c8, c9, c10⟩ := cfg_cells C0 hl
  have br : (r : Int) < 256 := by omega
  have bv : (v : Int) < 256 := by omega
  go_wp2
  have wr1 : IntKind.i64.wrap (r : Int) = r := by rw [IntKind.wrap_i64]; omega
  have wr2 : IntKind.i64.wrap (v : Int) = v := by rw [IntKind.wrap_i64]; omega
  have C1 : Blk w2.drew _ _ _ := C0.drewN 1
  obtain ⟨d0, d1, d2, d3, d4, d5, d6, d7, d8, d9, d10⟩ := cfg_cells (C0.drewN 1 : Blk w2.drew _ _ _) hl
  go_region_held3 (fun w' => w'.cell? ⟨w.heap.size, 0, none⟩ = some (.int .u32 e) ∧ w'.cell? ⟨w.heap.size, 1, none⟩ = some (.int .u8 r) ∧ w'.cell? ⟨w.heap.size, 2, none⟩ = some (.int .u8 v) ∧ w'.cell? ⟨w.heap.size, 3, none⟩ = some (.int .u8 (vsOf l 0)) ∧ w'.cell? ⟨w.heap.size, 4, none⟩ = some (.int .u8 (vsOf l 1)) ∧ w'.cell? ⟨w.heap.size, 5, none⟩ = some (.int .u8 (vsOf l 2)) ∧ w'.cell? ⟨w.heap.size, 6, none⟩ = some (.int .u8 (vsOf l 3)) ∧ w'.cell? ⟨w.heap.size, 7, none⟩ = some (.int .u8 (vsOf l 4)) ∧ w'.cell? ⟨w.heap.size, 8, none⟩ = some (.int .u8 (vsOf l 5)) ∧ w'.cell? ⟨w.heap.size, 9, none⟩ = some (.int .u8 (vsOf l 6)) ∧ w'.cell? ⟨w.heap.size, 10, none⟩ = some (.int .u8 (vsOf l 7)))
    (first | (with_reducible exact cfg_cells C1 hl) | (with_reducible exact cfg_cells C3 hl) | (with_reducible exact cfg_cells C4 hl) | go_keep)
    (first
      | (go_at_call 46; (try rw [cfg_eq e r v l hl]); (try simp only [wr1, wr2]); (with_reducible refine (H1.out _).mono ?_); rintro _ w3 ⟨rfl, k3⟩; have C3 : Blk w3 _ _ _ := Blk.kept (by exact C0) k3 id; have K3 : Kept No w w3 := Kept.transNo (by first | exact K2 | exact K2.drew) k3)
      | (go_at_call 46; (try rw [cfg_eq e r v l hl]); (try simp only [wr1, wr2]); (with_reducible refine (H2.out _).mono ?_); rintro _ w4 ⟨rfl, k4⟩; have C4 : Blk w4 _ _ _ := Blk.kept (by exact C3) k4 id; have K4 : Kept No w w4 := Kept.transNo K3 k4)
      | fail)
  go_wp2
  go_ret3
  exact ⟨rfl, K4⟩
end
end Go.Proofs.Ytencnfgmgcdiiaa
