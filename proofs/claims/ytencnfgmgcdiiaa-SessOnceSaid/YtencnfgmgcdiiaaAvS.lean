/- slices.Sort over eight bytes: its parts, as walks. -/
import Derived.Test.YtencnfgmgcdiiaaAvR
import Derived.Test.YtencnfgmgcdiiaaAvT
namespace Go.Proofs.Ytencnfgmgcdiiaa
open Go.RowKit Go.PM

def ltB (x y : Nat) : Bool := decide (x < y)

section
variable {w : World}

theorem isNaN_calls (x : Nat) : Calls Try.prog 87 #[.int .u8 x] w fun e w' => e = .returned (.bool false) ∧ w = w' := by
  go_enter Try.func87, Try.ntmps87
  go_wp2
  go_ret
  exact ⟨by simp, rfl⟩
theorem less_calls (x y : Nat) : Calls Try.prog 77 #[.int .u8 x, .int .u8 y] w fun e w' => e = .returned (.bool (ltB x y)) ∧ w = w' := by
  have hb : ltB x y = decide (x < y) := rfl
  have hn := fun w x => isNaN_calls (w := w) x
  have HN := Lib.hid hn
  clear hn
  by_cases h : x < y
  · rw [decide_eq_true h] at hb
    have h' : (x : Int) < y := by omega
    go_enter Try.func77, Try.ntmps77
    go_wp2_with (go_at_call 87; refine (HN.out _ _).mono ?_; rintro _ _ ⟨rfl, rfl⟩)
    go_ret
    exact ⟨by simp; exact hb, rfl⟩
  · rw [decide_eq_false h] at hb
    have h' : (y : Int) ≤ x := by omega
    go_enter Try.func77, Try.ntmps77
    go_wp2_with (go_at_call 87; refine (HN.out _ _).mono ?_; rintro _ _ ⟨rfl, rfl⟩)
    go_ret
    exact ⟨by simp; exact hb, rfl⟩
theorem less_q (x y n : Nat) (b : Bool) (h : ltB x y = b) : Calls Try.prog 77 #[.int .u8 x, .int .u8 y] (w.drewN n) fun e w' => e = .returned (.bool b) ∧ ∃ m, w' = w.drewN m :=
  Calls.quiet_of_same ((less_calls x y).mono fun _ _ hh => ⟨hh.1.trans (by rw [h]), hh.2.symm⟩)
set_option maxRecDepth 100000 in
set_option maxHeartbeats 1000000 in
theorem len64_calls : Calls Try.prog 81 #[.int .u64 8] w fun e w' => e = .returned (.int .i64 4) ∧ w = w' := by
  go_enter Try.func81, Try.ntmps81
  go_wp2
  go_ret
  exact ⟨by kernel_rfl, rfl⟩
theorem len_calls : Calls Try.prog 69 #[.int .u64 8] w fun e w' => e = .returned (.int .i64 4) ∧ w = w' := by
  have hn := fun w => len64_calls (w := w)
  have HN := Lib.hid hn
  clear hn
  go_enter Try.func69, Try.ntmps69
  go_wp2_with (go_at_call 81; refine (HN.out _).mono ?_; rintro _ _ ⟨rfl, rfl⟩)
  go_ret
  exact ⟨rfl, rfl⟩

def InRel (w : World) (g : Nat) (T : TypeId) (l : List UInt8) (t : Value) (wr : World) : Prop :=
  ∃ k : Nat, 1 ≤ k ∧ k ≤ 8 ∧ t = .int .i64 k ∧ Kept (· = g) w wr ∧ ∃ S, S.Perm l ∧ Srt k S ∧ Blk wr g T (bcells S)
def JnRel (w : World) (g : Nat) (T : TypeId) (l : List UInt8) (k : Nat) (t : Value) (wr : World) : Prop :=
  ∃ j : Nat, j ≤ k ∧ t = .int .i64 j ∧ Kept (· = g) w wr ∧ ∃ S, S.Perm l ∧ SrtBut k j S ∧ Blk wr g T (bcells S)
def InsPost (w : World) (g : Nat) (T : TypeId) (l : List UInt8) (e : Ending) (w' : World) : Prop :=
  e = .returned (.tuple #[]) ∧ Kept (· = g) w w' ∧ ∃ S, S.Perm l ∧ Srt 8 S ∧ Blk w' g T (bcells S)

set_option maxRecDepth 100000 in
set_option maxHeartbeats 2000000 in
theorem ins_calls (g : Nat) (l : List UInt8) (hl : l.length = 8) (T : TypeId) (hb : Blk w g T (bcells l)) :
    Calls Try.prog 71 #[.slice (some ⟨g, 0, none⟩) 8 8, .int .i64 0, .int .i64 8] w (InsPost w g T l) := by
  go_enter Try.func71, Try.ntmps71
  go_wp2
  go_loopw [6] (fun t wr => InRel w g T l t wr) (fun t _ => 8 - (intOf t).toNat)
  case atStart => exact ⟨1, by omega, by omega, rfl, Kept.refl _ _, l, List.Perm.refl _, fun a b h1 h2 => by omega, hb⟩
  case round =>
    obtain ⟨k, hk1, hk, rfl, Kw, S, hp, hs, BS⟩ := hrel
    have k0 : (0 : Int) ≤ k := by omega
    by_cases hlt : k < 8
    · have k1 : (k : Int) < 8 := by omega
      go_wp2
      go_loopw [7] (fun t wr => JnRel w g T l k t wr) (fun t _ => (intOf t).toNat)
      case atStart => exact ⟨k, by omega, rfl, Kw, S, hp, SrtBut.start hs, BS⟩
      case round =>
        clear hs hp BS Kw S
        obtain ⟨j, hj, rfl, Kw, S, hp, hs, BS⟩ := hrel
        have hSl : S.length = 8 := by rw [hp.length_eq, hl]
        have j0 : (0 : Int) ≤ j := by omega
        have j1 : (j : Int) < 8 := by omega
        by_cases hj0 : 0 < j
        · have j2 : (0 : Int) < j := by omega
          have j3 : (0 : Int) ≤ (j : Int) - 1 := by omega
          have c1 := (BS.cell j).trans (upcell S (by omega))
          have c2 := (BS.cell (j - 1)).trans (upcell S (by omega))
          have f1 := BS.frozen j
          have f2 := BS.frozen (j - 1)
          have ej : ((j : Int) - 1).toNat = j - 1 := by omega
          cases hlt2 : ltB (vsOf S j) (vsOf S (j - 1))
          · go_wp2
            go_quiet ((go_at_call 77; exact less_q _ _ _ _ hlt2))
            have hfin : vsOf S (j - 1) ≤ vsOf S j := by unfold ltB at hlt2; have := of_decide_eq_false hlt2; omega
            go_wp2
            exact ⟨⟨k + 1, by omega, by omega, by go_num, Kw.drewN _, S, hp, SrtBut.stop hs hj (.inr hfin), BS.drewN _⟩, by simp [intOf]; omega⟩
          · have hfin : vsOf S j < vsOf S (j - 1) := by unfold ltB at hlt2; exact of_decide_eq_true hlt2
            go_wp2
            go_quiet ((go_at_call 77; exact less_q _ _ _ _ hlt2))
            go_wp2
            go_region
            have BW : Blk (((wr.drewN (nq + 1)).setCell ⟨g, j, none⟩ (.int .u8 (vsOf S (j - 1)))).setCell ⟨g, j - 1, none⟩ (.int .u8 (vsOf S j))) g T (bcells (swp S j)) := by
              have e : bcells (swp S j) = ((bcells S).set j (.int .u8 (vsOf S (j - 1)))).set (j - 1) (.int .u8 (vsOf S j)) := by
                simp [bcells, swp, List.map_set, vsOf]
              rw [e]
              exact ((BS.drewN (nq + 1)).set j _).set (j - 1) _
            have KW : Kept (· = g) w (((wr.drewN (nq + 1)).setCell ⟨g, j, none⟩ (.int .u8 (vsOf S (j - 1)))).setCell ⟨g, j - 1, none⟩ (.int .u8 (vsOf S j))) := ((Kw.drewN (nq + 1)).setCell (fun _ => rfl) _).setCell (fun _ => rfl) _
            have PW := (swp_perm S j hj0 (by omega)).trans hp
            have SW := SrtBut.step hs hj hj0 (by omega) hfin
            go_wp2
            exact ⟨⟨j - 1, by omega, by rw [show (((j - 1 : Nat)) : Int) = (j : Int) - 1 by omega], KW, _, PW, SW, BW⟩, by simp [intOf]; omega⟩
        · obtain rfl : j = 0 := by omega
          have j2 := decide_eq_false (show ¬ ((0 : Nat) : Int) > 0 by omega)
          go_wp2
          go_quiet (fail)
          go_wp2
          exact ⟨⟨k + 1, by omega, by omega, by go_num, Kw.drewN _, S, hp, SrtBut.stop hs hj (.inl rfl), BS.drewN _⟩, by simp [intOf]; omega⟩
    · obtain rfl : k = 8 := by omega
      go_wp2
      go_end0
      exact ⟨rfl, Kw, S, hp, hs, BS⟩

set_option maxRecDepth 100000 in
set_option maxHeartbeats 1000000 in
theorem pdq_calls (g : Nat) (l : List UInt8) (hl : l.length = 8) (T : TypeId) (hb : Blk w g T (bcells l)) (n : Int) :
    Calls Try.prog 68 #[.slice (some ⟨g, 0, none⟩) 8 8, .int .i64 0, .int .i64 8, .int .i64 n] w (InsPost w g T l) := by
  go_enter Try.func68, Try.ntmps68
  go_wp2
  refine wp_loop_rounds 1 ?_
  rw [rounds_succ]
  go_wp2_with (go_at_call 71; refine (ins_calls g l hl T hb).mono ?_; rintro _ w1 ⟨rfl, hK, hS⟩)
  go_end0
  exact ⟨rfl, hK, hS⟩

set_option maxRecDepth 100000 in
set_option maxHeartbeats 1000000 in
theorem sort_calls (g : Nat) (l : List UInt8) (hl : l.length = 8) (T : TypeId) (hb : Blk w g T (bcells l)) :
    Calls Try.prog 62 #[.slice (some ⟨g, 0, none⟩) 8 8] w (InsPost w g T l) := by
  go_enter Try.func62, Try.ntmps62
  go_wp2_with (first
    | (go_at_call 69; refine (len_calls).mono ?_; rintro _ _ ⟨rfl, rfl⟩)
    | (go_at_call 68; refine (pdq_calls g l hl T hb 4).mono ?_; rintro _ w1 ⟨rfl, hK, hS⟩))
  go_end0
  exact ⟨rfl, hK, hS⟩
end
end Go.Proofs.Ytencnfgmgcdiiaa
