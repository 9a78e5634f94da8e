/- slices' choice of a pivot among bytes, at thirteen to sixteen of them. -/
import Derived.Test.YtencnfgmgcdiiaaSeT
import Derived.Test.YtencnfgmgcdiiaaSoP
namespace Go.Proofs.Ytencnfgmgcdiiaa
open Go.RowKit Go.PM
section
variable {w : World}
def OrdPost (w : World) (i j gs : Nat) (s : Int) (e : Ending) (w' : World) : Prop :=
  ∃ (i' j' : Nat) (s' : Int), e = .returned (.tuple #[.int .i64 i', .int .i64 j']) ∧ ((i' = i ∧ j' = j) ∨ (i' = j ∧ j' = i)) ∧ 0 ≤ s' ∧ s' ≤ s + 1 ∧ Blk w' gs 3 [.int .i64 s'] ∧ Kept (· = gs) w w'

set_option maxRecDepth 100000 in
set_option maxHeartbeats 1000000 in
theorem order2_calls (g gs : Nat) (S : List UInt8) (tail : List Value) (n cap i j : Nat) (s : Int) (hl : S.length = n) (_hn : n < 1000000) (hi : i < n) (hj : j < n) (T : TypeId) (hb : Blk w g T (bcells S ++ tail)) (hs : Blk w gs 3 [.int .i64 s]) (s0 : 0 ≤ s) (s1 : s < 1000) :
    Calls Try.prog 88 #[.slice (some ⟨g, 0, none⟩) n cap, .int .i64 i, .int .i64 j, .pointer (some ⟨gs, 0, none⟩)] w (OrdPost w i j gs s) := by
  have i0 : (0 : Int) ≤ i := by omega
  have i1 : (i : Int) < n := by omega
  have j0 : (0 : Int) ≤ j := by omega
  have j1 : (j : Int) < n := by omega
  have ws : IntKind.i64.wrap (s + 1) = s + 1 := by rw [IntKind.wrap_i64]; omega
  have c1 := (hb.cell i).trans (btcell S tail (by omega))
  have c2 := (hb.cell j).trans (btcell S tail (by omega))
  cases hlt : ltB (vsOf S j) (vsOf S i) with
  | true =>
    go_enter Try.func88, Try.ntmps88
    go_wp2
    go_quiet ((go_at_call 77; exact less_q _ _ _ _ hlt))
    have HS := hs.drewN nq
    have d0 : (w.drewN nq).cell? ⟨gs, 0, none⟩ = some (.int .i64 s) := HS.cell 0
    have f0 := HS.frozen 0
    go_wp2
    go_ret2
    exact ⟨j, i, s + 1, rfl, .inr ⟨rfl, rfl⟩, by omega, by omega, HS.set 0 _, ((Kept.refl (· = gs) w).drewN _).setCell (fun _ => rfl) _⟩
  | false =>
    go_enter Try.func88, Try.ntmps88
    go_wp2
    go_quiet ((go_at_call 77; exact less_q _ _ _ _ hlt))
    go_wp2
    go_ret2
    exact ⟨i, j, s, rfl, .inl ⟨rfl, rfl⟩, by omega, by omega, hs.drewN _, (Kept.refl _ w).drewN _⟩

set_option maxRecDepth 100000 in
set_option maxHeartbeats 1000000 in
theorem median_calls (g gs : Nat) (S : List UInt8) (tail : List Value) (n cap i j k : Nat) (s : Int) (hl : S.length = n) (hn : n < 1000000) (hi : i < n) (hj : j < n) (hk : k < n) (T : TypeId) (hb : Blk w g T (bcells S ++ tail)) (hs : Blk w gs 3 [.int .i64 s]) (hne : ¬ g = gs) (s0 : 0 ≤ s) (s1 : s < 900) :
    Calls Try.prog 86 #[.slice (some ⟨g, 0, none⟩) n cap, .int .i64 i, .int .i64 j, .int .i64 k, .pointer (some ⟨gs, 0, none⟩)] w fun e w' =>
      ∃ (m : Nat) (s' : Int), e = .returned (.int .i64 m) ∧ (m = i ∨ m = j ∨ m = k) ∧ 0 ≤ s' ∧ Blk w' gs 3 [.int .i64 s'] ∧ Kept (· = gs) w w' := by
  have H := Lib.hid (fun w i j s (hi : i < n) (hj : j < n) (hb : Blk w g T (bcells S ++ tail)) (hs : Blk w gs 3 [.int .i64 s]) => order2_calls (w := w) g gs S tail n cap i j s hl hn hi hj T hb hs)
  go_enter Try.func86, Try.ntmps86
  go_wp2_with fail
  refine (H.out w i j s hi hj hb hs s0 (by omega)).mono ?_
  rintro _ w1 ⟨i1, j1, t1, rfl, h1, p1, q1, b1, k1⟩
  have hi1 : i1 < n := by omega
  have hj1 : j1 < n := by omega
  have hb1 := hb.kept k1 hne
  go_wp2_with fail
  refine (H.out w1 j1 k t1 hj1 hk hb1 b1 p1 (by omega)).mono ?_
  rintro _ w2 ⟨i2, j2, t2, rfl, h2, p2, q2, b2, k2⟩
  have hb2 := hb1.kept k2 hne
  go_wp2_with fail
  refine (H.out w2 i1 i2 t2 hi1 (by omega) hb2 b2 p2 (by omega)).mono ?_
  rintro _ w3 ⟨i3, j3, t3, rfl, h3, p3, q3, b3, k3⟩
  go_wp2
  go_ret
  exact ⟨j3, t3, rfl, by omega, p3, b3, (k1.trans k2 fun _ _ h => h).trans k3 fun _ _ h => h⟩

set_option maxRecDepth 100000 in
set_option maxHeartbeats 2000000 in
theorem pivot_calls (g : Nat) (S : List UInt8) (tail : List Value) (n cap lo hi : Nat) (hl : S.length = n) (hn : n < 1000000) (h1 : hi ≤ n) (h13 : lo + 13 ≤ hi) (h16 : hi ≤ lo + 16) (T : TypeId) (hb : Blk w g T (bcells S ++ tail)) :
    Calls Try.prog 74 #[.slice (some ⟨g, 0, none⟩) n cap, .int .i64 lo, .int .i64 hi] w fun e w' =>
      ∃ (m : Nat) (h : Int), e = .returned (.tuple #[.int .i64 m, .int .i64 h]) ∧ lo + 3 ≤ m ∧ m + 4 ≤ hi ∧ Kept No w w' := by
  have H := Lib.hid (fun w gs i j k s (hi : i < n) (hj : j < n) (hk : k < n) (hb : Blk w g T (bcells S ++ tail)) (hs : Blk w gs 3 [.int .i64 s]) => median_calls (w := w) g gs S tail n cap i j k s hl hn hi hj hk T hb hs)
  have B1 := Blk.new w 3 [.int .i64 0]
  have K1 := (Kept.refl No w).alloc (.cells #[.int .i64 0] 3)
  have hb1 := hb.kept K1 id
  have hg : ¬ g = w.heap.size := by have := hb.lt; omega
  obtain ⟨q, hq⟩ : ∃ q : Nat, q = (hi - lo) / 4 := ⟨_, rfl⟩
  have e1 : (lo : Int) + ((hi : Int) - lo) / 4 = ((lo + q : Nat) : Int) := by omega
  have e2 : (lo : Int) + ((hi : Int) - lo) / 4 * 2 = ((lo + q * 2 : Nat) : Int) := by omega
  have e3 : (lo : Int) + ((hi : Int) - lo) / 4 * 3 = ((lo + q * 3 : Nat) : Int) := by omega
  have d8 : decide ((8 : Int) ≤ (hi : Int) - lo) = true := decide_eq_true (by omega)
  have d50 : decide ((50 : Int) ≤ (hi : Int) - lo) = false := decide_eq_false (by omega)
  have E := Lib.hid (And.intro hq (And.intro e1 (And.intro e2 e3)))
  clear hq e1 e2 e3
  go_enter Try.func74, Try.ntmps74
  go_wp2_with fail
  obtain ⟨hq, e1, e2, e3⟩ := E.out
  rw [e1, e2, e3]
  refine (H.out _ w.heap.size (lo + q) (lo + q * 2) (lo + q * 3) 0 (by omega) (by omega) (by omega) hb1 B1 hg (by omega) (by omega)).mono ?_
  rintro _ w2 ⟨m, s', rfl, hm, s0, b2, k2⟩
  have c0 : w2.cell? ⟨w.heap.size, 0, none⟩ = some (.int .i64 s') := b2.cell 0
  clear e1 e2 e3 d8 d50
  have K2 := K1.above k2 fun c e => by rw [e]; exact Nat.le_refl _
  have hm1 : lo + 3 ≤ m ∧ m + 4 ≤ hi := by omega
  clear hq hm
  by_cases hs0 : s' = 0
  · subst hs0
    go_wp2
    go_ret2
    exact ⟨m, 1, rfl, hm1.1, hm1.2, K2⟩
  · have z0 : (s' == 0) = false := by rw [beq_eq_false_iff_ne]; exact hs0
    by_cases hs12 : s' = 12
    · subst hs12
      go_wp2
      go_ret2
      exact ⟨m, 2, rfl, hm1.1, hm1.2, K2⟩
    · have z12 : (s' == 12) = false := by rw [beq_eq_false_iff_ne]; exact hs12
      go_wp2
      go_ret2
      exact ⟨m, 0, rfl, hm1.1, hm1.2, K2⟩
end
end Go.Proofs.Ytencnfgmgcdiiaa
