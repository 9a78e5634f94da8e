/- What a network has, by the pure network; the law's probe 'alive'. -/
import Derived.Test.YtdolddgmemlofaaNetH
namespace Go.Proofs.Ytdolddgmemlofaa
open Go.RowKit Go.PM

/-- All blocks of S came behind w. -/
def New (w : World) (S : Nat → Prop) : Prop := ∀ b, S b → w.heap.size ≤ b

theorem Grows.new {w wi wj : World} {S S' : Nat → Prop} (hg : Grows S S' wi wj) (hk : Kept No w wi) (hn : New w S) : Kept No w wj ∧ New w S' :=
  ⟨hk.trans hg.kept (fun b hb hb' => absurd (hn b hb') (by omega)), fun b hb => (hg.grow b hb).elim (hn b) (fun h => Nat.le_trans hk.size h)⟩

section
variable {w : World} {p : Nat} {s : PN} {S : Nat → Prop}

theorem s_len (h : NetS w p s S) : Calls Try.prog 20 #[.pointer (some ⟨p, 0, none⟩)] w fun e w' => e = .returned (.int .i64 s.l.length) ∧ w = w' := by
  have hroom := h.room
  obtain ⟨a, cap, ml, hN, e⟩ := h
  have hlen : s.l.length = ml.length := by rw [← e]; simp
  rw [hlen]
  exact len_calls hN.box (by omega)

theorem s_lost (h : NetS w p s S) : Calls Try.prog 24 #[.pointer (some ⟨p, 0, none⟩)] w fun e w' => e = .returned (.int .i64 s.lost) ∧ w = w' := by
  have hroom := h.room
  obtain ⟨a, cap, ml, hN, e⟩ := h
  exact lost_calls hN.box (by omega) (by omega) (by omega)

theorem s_to (h : NetS w p s S) (n : Int) : Calls Try.prog 26 #[.pointer (some ⟨p, 0, none⟩), .int .u8 n] w (FreshI w (placesTo (s.l.map fun x => x.2.1) n s.l.length)) := by
  obtain ⟨a, cap, ml, hN, e⟩ := h
  have hlen : s.l.length = ml.length := by rw [← e]; simp
  have hm : (s.l.map fun x => x.2.1) = ml.map MW.t := by rw [← e]; simp [MW.w]
  rw [hlen, hm]
  exact to_calls hN n

theorem s_new {w w' : World} {room : Int} (h0 : 1 ≤ room) (h1 : room ≤ 256) (hb : NetB w' w.heap.size room none 0 0 0) (_hk : Kept No w w') : NetS w' w.heap.size ⟨room, 0, []⟩ (· = w.heap.size) :=
  ⟨none, 0, [], ⟨hb, Own.nil _ _ _, h0, h1, by simp; omega, Int.le_refl 0, (show (0 : Int) ≤ 4294967295 by omega), rfl, (fun k ⟨_, _, h, _⟩ => nomatch h), (fun m hm => by simp at hm), (fun k hk' => by subst hk'; exact hb.lt)⟩, rfl⟩
end

theorem icells_intc (l : List Nat) : icells l = intc (l.map fun (n : Nat) => (n : Int)) := by simp [icells, intc]

set_option maxRecDepth 100000 in
set_option maxHeartbeats 1000000 in
theorem net_alive (w : World) : Calls Try.prog 14 #[] w fun e w' => e = .returned (.bool true) ∧ Kept No w w' := by
  go_enter Try.func14, Try.ntmps14
  go_wp2_with (go_at_call 15; go_must (refine (new_calls 3 w (by omega) (by omega)).mono ?_))
  rintro e w1 ⟨rfl, hb, hk1⟩
  have hS1 := s_new (by omega) (by omega) hb hk1
  clear hb
  have hsz1 := hk1.size
  go_wp2_with (with_reducible refine wpList_conv_const rfl _ (.tmp 17) rfl _ Try.u_bytes2 Try.u_byte _ 1 1 _ ?c1 rfl ?_)
  case c1 => rfl
  have e1 : PN.send ⟨3, 0, []⟩ (0, 1, [97]) = (0, ⟨3, 0, [(0, 1, [97])]⟩) := by rfl
  refine (s_send (hS1.keptNo ((Kept.refl No w1).alloc _)) (0, 1, [97]) _ 1 (Rd.marked rfl _ _ _)).mono ?_
  rw [e1]
  rintro e w2 ⟨S2, rfl, hS2, hg2⟩
  clear e1
  go_wp2_with (with_reducible refine wpList_conv_const rfl _ (.tmp 25) rfl _ Try.u_bytes2 Try.u_byte _ 1 1 _ ?c2 rfl ?_)
  case c2 => rfl
  have e2 : PN.send ⟨3, 0, [(0, 1, [97])]⟩ (0, 1, [98]) = (0, ⟨3, 0, [(0, 1, [97]), (0, 1, [98])]⟩) := by rfl
  refine (s_send (hS2.keptNo ((Kept.refl No w2).alloc _)) (0, 1, [98]) _ 1 (Rd.marked rfl _ _ _)).mono ?_
  rw [e2]
  rintro e w3 ⟨S3, rfl, hS3, hg3⟩
  clear e2
  go_wp2_with fail
  have e3 : PN.late ⟨3, 0, [(0, 1, [97]), (0, 1, [98])]⟩ 0 = (0, ⟨3, 0, [(0, 1, [98]), (0, 1, [97])]⟩) := by rfl
  refine (s_late hS3 0).mono ?_
  rw [e3]
  rintro e w4 ⟨S4, rfl, hS4, hg4⟩
  clear e3
  go_wp2_with fail
  have e4 : PN.take ⟨3, 0, [(0, 1, [98]), (0, 1, [97])]⟩ 0 = ((0, 1, [98]), 0, ⟨3, 0, [(0, 1, [97])]⟩) := by rfl
  refine (s_take hS4 0).mono ?_
  rw [e4]
  rintro e w5 ⟨a2, c2, S5, rfl, hc5, hr5, ha5, hS5, hg5⟩
  clear e4
  have hr5' := fun X => hr5.keptNo ((Kept.refl No w5).alloc X)
  have hS5' := fun X => hS5.keptNo ((Kept.refl No w5).alloc X)
  go_wp2_with (first
    | (with_reducible refine wpList_conv_bytes rfl _ _ (.tmp 42) rfl _ Try.u_bytes2 Try.u_byte Try.u_string _ _ [98] rfl (hr5' _) ?_)
    | (go_at_call 20; go_must (refine (s_len (hS5' _)).mono ?_; rintro e w6 ⟨rfl, rfl⟩)))
  refine (s_to (hS5' _) 1).mono ?_
  rintro e w6 ⟨a6, c6, rfl, ho6, hk6, hat6⟩
  have hrd6 : Rd w6 a6 (intc [0]) := ho6.rd
  go_wp2_with fail
  refine (ints_calls a6 _ c6 1 [0] [0] (hrd6.keptNo ((Kept.refl No w6).alloc _)) (Rd.ofBlk' (Blk.new _ _ _)) (by simp)).mono ?_
  rintro e w7 ⟨rfl, d, rfl⟩
  go_wp2
  go_ret
  refine ⟨rfl, ?_⟩
  have n1 : New w (· = w.heap.size) := fun b hb => by subst hb; exact Nat.le_refl _
  obtain ⟨k2, n2⟩ := hg2.new (hk1.alloc _) n1
  obtain ⟨k3, n3⟩ := hg3.new (k2.alloc _) n2
  obtain ⟨k4, n4⟩ := hg4.new k3 n3
  obtain ⟨k5, n5⟩ := hg5.new k4 n4
  exact (((k5.alloc _).transNo hk6).alloc _).drewN d
end Go.Proofs.Ytdolddgmemlofaa
