/- NetCounts: the walk. -/
import Derived.Test.YtdolddgmemlofaaNetShort
import Derived.Test.YtdolddgmemlofaaNetCP
namespace Go.Proofs.Ytdolddgmemlofaa
open Go.RowKit Go.PM

def CntRel (w : World) (p : Nat) (room : Int) (n : Nat) (c g f i : Value) (wr : World) : Prop :=
  ∃ (k : Nat) (zc zg zf : Int) (s : PN) (S : Nat → Prop), k ≤ n ∧ i = .int .i64 k ∧ c = .int .i64 zc ∧ g = .int .i64 zg ∧ f = .int .i64 zf ∧
    0 ≤ zc ∧ zc ≤ k ∧ 0 ≤ zg ∧ zg ≤ k ∧ 0 ≤ zf ∧ zf ≤ k ∧ s.room = room ∧ (s.l.length : Int) = zc - zg ∧ s.lost ≤ zg + zf ∧ NetS wr p s S ∧ New w S ∧ Kept No w wr

theorem cnt_bits (q cd : Int) : 0 ≤ cntC q cd ∧ cntC q cd ≤ 1 ∧ 0 ≤ cntG q cd ∧ cntG q cd ≤ 1 ∧ 0 ≤ cntF q cd ∧ cntF q cd ≤ 1 := by
  unfold cntC cntG cntF
  refine ⟨?_, ?_, ?_, ?_, ?_, ?_⟩ <;> split <;> omega

set_option maxRecDepth 100000 in
set_option maxHeartbeats 4000000 in
theorem counts_calls (room8 room : Int) (a : Option Addr) (c : Nat) (l : List AM) (w : World) (h : InA w a c l) (h0 : 0 ≤ room8) (h1 : room8 ≤ 255) (hroom : room8 % 40 + 1 = room) :
    Calls Try.prog 6 #[.int .u8 room8, .slice a l.length c] w fun e w' => e = .returned (.bool true) ∧ Kept No w w' := by
  have hle := h.le
  have hmx := h.max
  have hr1 : 1 ≤ room := by omega
  have hr2 : room ≤ 40 := by omega
  obtain ⟨n, hn⟩ : ∃ n, n = min l.length 100 := ⟨_, rfl⟩
  have hn1 : n ≤ l.length := by omega
  have hn2 : n ≤ 100 := by omega
  have HN := Lib.hid hn
  clear hn
  go_enter Try.func6, Try.ntmps6
  go_wp2_with fail
  refine (long_calls a c l w h).mono ?_
  rintro e w1 ⟨⟨b, rfl⟩, hk1⟩
  cases b with
  | true =>
    go_wp2_with fail
    refine (net_alive _).mono ?_
    rintro e w2 ⟨rfl, hk2⟩
    go_wp2
    go_ret
    exact ⟨rfl, hk1.transNo hk2⟩
  | false =>
    go_wp2_with fail
    refine (new_calls room w1 hr1 (by omega)).mono ?_
    rintro e w2 ⟨rfl, hb, hk2⟩
    have hS0 := s_new hr1 (by omega) hb hk2
    clear hb
    go_wp2_with (go_at_call 16; go_must (refine (short_calls a l.length c _ hle hmx).mono ?_; rw [← HN.out]; rintro e w' ⟨rfl, rfl⟩))
    have hk12 := hk1.transNo hk2
    have hsz := hk1.size
    clear hmx hle
    go_loopw [8, 9, 10, 37] (fun cv gv fv i wr => CntRel w w1.heap.size room n cv gv fv i wr) (fun _ _ _ i _ => n - (intOf i).toNat)
    case atStart => exact ⟨0, 0, 0, 0, _, _, Nat.zero_le _, rfl, rfl, rfl, rfl, by omega, by omega, by omega, by omega, by omega, by omega, rfl, by simp, by simp, hS0, fun b hb => by omega, hk12⟩
    case round =>
      obtain ⟨k, zc, zg, zf, s, S, hk, rfl, rfl, rfl, rfl, c0, c1, g0, g1, f0, f1, hsr, hlen, hlost, hS, hnew, hkept⟩ := hrel
      by_cases hlt : k < n
      · obtain ⟨m, hm⟩ : ∃ m, l[k]? = some m := ⟨_, List.getElem?_eq_getElem (by omega)⟩
        have hin := (h.kept hkept).each m (List.mem_of_getElem? hm)
        obtain ⟨b, o, rfl, hb, d0, d1, d2, d3, d4⟩ := (h.kept hkept).at hm
        clear hm
        have hi0 : (0 : Int) ≤ k := by omega
        have hi1 : (k : Int) < n := by omega
        have hok := cnt_does s ⟨m.k, m.f, m.t, m.i, m.b⟩ hin.k0 (by have := hS.room; omega)
        have hbits := cnt_bits (m.k % 6) (s.does ⟨m.k, m.f, m.t, m.i, m.b⟩).2.1
        go_wp2_with fail
        refine (does_calls (hS.keptNo ((Kept.refl No wr).alloc _)) ⟨m.k, m.f, m.t, m.i, m.b⟩ m.a m.c (hin.b.rd.keptNo ((Kept.refl No wr).alloc _)) hin.k0).mono ?_
        generalize (s.does ⟨m.k, m.f, m.t, m.i, m.b⟩).1 = x
        generalize (s.does ⟨m.k, m.f, m.t, m.i, m.b⟩).2.1 = cd at *
        generalize (s.does ⟨m.k, m.f, m.t, m.i, m.b⟩).2.2 = s2 at *
        rintro e w4 ⟨a4, c4, S4, rfl, _, _, _, hS4, hg4⟩
        obtain ⟨hk4, hn4⟩ := hg4.new (hkept.alloc _) hnew
        have hroom2 := hS4.room
        have hact := (Blk.new' (w := wr) rfl 34 [.int .u8 m.k, .int .u8 m.f, .int .u8 m.t, .int .i64 m.i, .slice m.a m.b.length m.c]).kept hg4.kept (fun h' => by have := hS.lt _ h'; omega)
        have b0 := hact.cell 0
        have blt := hact.lt
        have l1 := hok.len
        have l2 := hok.lost
        have l3 := hok.nine
        have l4 := hok.fit
        have l5 := hok.room
        clear hok hbits
        have h6 : m.k % 6 = 0 ∨ m.k % 6 = 1 ∨ m.k % 6 = 2 ∨ m.k % 6 = 3 ∨ m.k % 6 = 4 ∨ m.k % 6 = 5 := by have := hin.k0; omega
        have hk0 := hin.k0
        have hk1 := hin.k1
        have hcd : cd = 0 ∨ cd = 9 ∨ (cd ≠ 0 ∧ cd ≠ 9) := by omega
        have n2 : decide ((s2.l.length : Int) > room) = false := decide_eq_false (by omega)
        rcases h6 with h6 | h6 | h6 | h6 | h6 | h6 <;> rcases hcd with rfl | rfl | ⟨hc0, hc9⟩
        · have e0 : cntC (m.k % 6) 0 = 1 := by unfold cntC; rw [if_pos]; omega
          have e1 : cntG (m.k % 6) 0 = 0 := by unfold cntG; rw [if_neg]; omega
          have e2 : cntF (m.k % 6) 0 = 0 := by unfold cntF; rw [if_neg]; omega
          rw [e0, e1] at l1
          rw [e1, e2] at l2
          clear e0 e1 e2
          have n1 : ((s2.l.length : Int) != zc + 1 - zg) = false := by rw [bne_eq_false_iff_eq]; omega
          have n3 : decide (s2.lost > zg + zf) = false := decide_eq_false (by omega)
          have q0 : ((m.k % 6) == 0) = true := by rw [beq_iff_eq]; omega
          have q1 : ((m.k % 6) == 1) = false := by rw [beq_eq_false_iff_ne]; omega
          have q3 : ((m.k % 6) == 3) = false := by rw [beq_eq_false_iff_ne]; omega
          have q4 : ((m.k % 6) == 4) = false := by rw [beq_eq_false_iff_ne]; omega
          have L1 := Lib.hid l1; have L2 := Lib.hid l2; have L5 := Lib.hid l5; have H6 := Lib.hid h6; clear l1 l2 l5 h6 l3
          go_wp2_with (first | (go_at_call 20; go_must (refine (s_len (hS4.keptNo ((Kept.refl No w4).alloc _))).mono ?_; rintro e w6 ⟨rfl, rfl⟩)) | (go_at_call 24; go_must (refine (s_lost (hS4.keptNo ((Kept.refl No w4).alloc _))).mono ?_; rintro e w6 ⟨rfl, rfl⟩)))
          go_roundw
          case rel => exact ⟨k + 1, zc + 1, zg, zf, s2, S4, by omega, by go_num, rfl, rfl, rfl, by omega, by omega, by omega, by omega, by omega, by omega, by rw [← hsr]; exact L5.out, by have := L1.out; omega, by have := L2.out; omega, hS4.keptNo ((Kept.refl No w4).alloc _), hn4, hk4.alloc _⟩
          case measure => simp [intOf]; omega
        · have e0 : cntC (m.k % 6) 9 = 0 := by unfold cntC; rw [if_neg]; omega
          have e1 : cntG (m.k % 6) 9 = 0 := by unfold cntG; rw [if_neg]; omega
          have e2 : cntF (m.k % 6) 9 = 1 := by unfold cntF; rw [if_pos]; omega
          rw [e0, e1] at l1
          rw [e1, e2] at l2
          clear e0 e1 e2
          have n1 : ((s2.l.length : Int) != zc - zg) = false := by rw [bne_eq_false_iff_eq]; omega
          have n3 : decide (s2.lost > zg + (zf + 1)) = false := decide_eq_false (by omega)
          have n4 : ((s2.l.length : Int) != room) = false := by rw [bne_eq_false_iff_eq]; have := l3 rfl; omega
          have q0 : ((m.k % 6) == 0) = true := by rw [beq_iff_eq]; omega
          have q1 : ((m.k % 6) == 1) = false := by rw [beq_eq_false_iff_ne]; omega
          have q3 : ((m.k % 6) == 3) = false := by rw [beq_eq_false_iff_ne]; omega
          have q4 : ((m.k % 6) == 4) = false := by rw [beq_eq_false_iff_ne]; omega
          have L1 := Lib.hid l1; have L2 := Lib.hid l2; have L5 := Lib.hid l5; have H6 := Lib.hid h6; clear l1 l2 l5 h6 l3
          go_wp2_with (first | (go_at_call 20; go_must (refine (s_len (hS4.keptNo ((Kept.refl No w4).alloc _))).mono ?_; rintro e w6 ⟨rfl, rfl⟩)) | (go_at_call 24; go_must (refine (s_lost (hS4.keptNo ((Kept.refl No w4).alloc _))).mono ?_; rintro e w6 ⟨rfl, rfl⟩)))
          go_roundw
          case rel => exact ⟨k + 1, zc, zg, zf + 1, s2, S4, by omega, by go_num, rfl, rfl, rfl, by omega, by omega, by omega, by omega, by omega, by omega, by rw [← hsr]; exact L5.out, by have := L1.out; omega, by have := L2.out; omega, hS4.keptNo ((Kept.refl No w4).alloc _), hn4, hk4.alloc _⟩
          case measure => simp [intOf]; omega
        · have e0 : cntC (m.k % 6) cd = 0 := by unfold cntC; rw [if_neg]; omega
          have e1 : cntG (m.k % 6) cd = 0 := by unfold cntG; rw [if_neg]; omega
          have e2 : cntF (m.k % 6) cd = 0 := by unfold cntF; rw [if_neg]; omega
          rw [e0, e1] at l1
          rw [e1, e2] at l2
          clear e0 e1 e2
          have n1 : ((s2.l.length : Int) != zc - zg) = false := by rw [bne_eq_false_iff_eq]; omega
          have n3 : decide (s2.lost > zg + zf) = false := decide_eq_false (by omega)
          have q0 : ((m.k % 6) == 0) = true := by rw [beq_iff_eq]; omega
          have q1 : ((m.k % 6) == 1) = false := by rw [beq_eq_false_iff_ne]; omega
          have q3 : ((m.k % 6) == 3) = false := by rw [beq_eq_false_iff_ne]; omega
          have q4 : ((m.k % 6) == 4) = false := by rw [beq_eq_false_iff_ne]; omega
          have x0 : (cd == 0) = false := by rw [beq_eq_false_iff_ne]; omega
          have x9 : (cd == 9) = false := by rw [beq_eq_false_iff_ne]; omega
          have L1 := Lib.hid l1; have L2 := Lib.hid l2; have L5 := Lib.hid l5; have H6 := Lib.hid h6; clear l1 l2 l5 h6 l3
          go_wp2_with (first | (go_at_call 20; go_must (refine (s_len (hS4.keptNo ((Kept.refl No w4).alloc _))).mono ?_; rintro e w6 ⟨rfl, rfl⟩)) | (go_at_call 24; go_must (refine (s_lost (hS4.keptNo ((Kept.refl No w4).alloc _))).mono ?_; rintro e w6 ⟨rfl, rfl⟩)))
          go_roundw
          case rel => exact ⟨k + 1, zc, zg, zf, s2, S4, by omega, by go_num, rfl, rfl, rfl, by omega, by omega, by omega, by omega, by omega, by omega, by rw [← hsr]; exact L5.out, by have := L1.out; omega, by have := L2.out; omega, hS4.keptNo ((Kept.refl No w4).alloc _), hn4, hk4.alloc _⟩
          case measure => simp [intOf]; omega
        · have e0 : cntC (m.k % 6) 0 = 0 := by unfold cntC; rw [if_neg]; omega
          have e1 : cntG (m.k % 6) 0 = 1 := by unfold cntG; rw [if_pos]; omega
          have e2 : cntF (m.k % 6) 0 = 0 := by unfold cntF; rw [if_neg]; omega
          rw [e0, e1] at l1
          rw [e1, e2] at l2
          clear e0 e1 e2
          have n1 : ((s2.l.length : Int) != zc - (zg + 1)) = false := by rw [bne_eq_false_iff_eq]; omega
          have n3 : decide (s2.lost > zg + 1 + zf) = false := decide_eq_false (by omega)
          have q0 : ((m.k % 6) == 0) = false := by rw [beq_eq_false_iff_ne]; omega
          have q1 : ((m.k % 6) == 1) = true := by rw [beq_iff_eq]; omega
          have q3 : ((m.k % 6) == 3) = false := by rw [beq_eq_false_iff_ne]; omega
          have q4 : ((m.k % 6) == 4) = false := by rw [beq_eq_false_iff_ne]; omega
          have L1 := Lib.hid l1; have L2 := Lib.hid l2; have L5 := Lib.hid l5; have H6 := Lib.hid h6; clear l1 l2 l5 h6 l3
          go_wp2_with (first | (go_at_call 20; go_must (refine (s_len (hS4.keptNo ((Kept.refl No w4).alloc _))).mono ?_; rintro e w6 ⟨rfl, rfl⟩)) | (go_at_call 24; go_must (refine (s_lost (hS4.keptNo ((Kept.refl No w4).alloc _))).mono ?_; rintro e w6 ⟨rfl, rfl⟩)))
          go_roundw
          case rel => exact ⟨k + 1, zc, zg + 1, zf, s2, S4, by omega, by go_num, rfl, rfl, rfl, by omega, by omega, by omega, by omega, by omega, by omega, by rw [← hsr]; exact L5.out, by have := L1.out; omega, by have := L2.out; omega, hS4.keptNo ((Kept.refl No w4).alloc _), hn4, hk4.alloc _⟩
          case measure => simp [intOf]; omega
        · have e0 : cntC (m.k % 6) 9 = 0 := by unfold cntC; rw [if_neg]; omega
          have e1 : cntG (m.k % 6) 9 = 0 := by unfold cntG; rw [if_neg]; omega
          have e2 : cntF (m.k % 6) 9 = 0 := by unfold cntF; rw [if_neg]; omega
          rw [e0, e1] at l1
          rw [e1, e2] at l2
          clear e0 e1 e2
          have n1 : ((s2.l.length : Int) != zc - zg) = false := by rw [bne_eq_false_iff_eq]; omega
          have n3 : decide (s2.lost > zg + zf) = false := decide_eq_false (by omega)
          have n4 : ((s2.l.length : Int) != room) = false := by rw [bne_eq_false_iff_eq]; have := l3 rfl; omega
          have q0 : ((m.k % 6) == 0) = false := by rw [beq_eq_false_iff_ne]; omega
          have q1 : ((m.k % 6) == 1) = true := by rw [beq_iff_eq]; omega
          have q3 : ((m.k % 6) == 3) = false := by rw [beq_eq_false_iff_ne]; omega
          have q4 : ((m.k % 6) == 4) = false := by rw [beq_eq_false_iff_ne]; omega
          have L1 := Lib.hid l1; have L2 := Lib.hid l2; have L5 := Lib.hid l5; have H6 := Lib.hid h6; clear l1 l2 l5 h6 l3
          go_wp2_with (first | (go_at_call 20; go_must (refine (s_len (hS4.keptNo ((Kept.refl No w4).alloc _))).mono ?_; rintro e w6 ⟨rfl, rfl⟩)) | (go_at_call 24; go_must (refine (s_lost (hS4.keptNo ((Kept.refl No w4).alloc _))).mono ?_; rintro e w6 ⟨rfl, rfl⟩)))
          go_roundw
          case rel => exact ⟨k + 1, zc, zg, zf, s2, S4, by omega, by go_num, rfl, rfl, rfl, by omega, by omega, by omega, by omega, by omega, by omega, by rw [← hsr]; exact L5.out, by have := L1.out; omega, by have := L2.out; omega, hS4.keptNo ((Kept.refl No w4).alloc _), hn4, hk4.alloc _⟩
          case measure => simp [intOf]; omega
        · have e0 : cntC (m.k % 6) cd = 0 := by unfold cntC; rw [if_neg]; omega
          have e1 : cntG (m.k % 6) cd = 0 := by unfold cntG; rw [if_neg]; omega
          have e2 : cntF (m.k % 6) cd = 0 := by unfold cntF; rw [if_neg]; omega
          rw [e0, e1] at l1
          rw [e1, e2] at l2
          clear e0 e1 e2
          have n1 : ((s2.l.length : Int) != zc - zg) = false := by rw [bne_eq_false_iff_eq]; omega
          have n3 : decide (s2.lost > zg + zf) = false := decide_eq_false (by omega)
          have q0 : ((m.k % 6) == 0) = false := by rw [beq_eq_false_iff_ne]; omega
          have q1 : ((m.k % 6) == 1) = true := by rw [beq_iff_eq]; omega
          have q3 : ((m.k % 6) == 3) = false := by rw [beq_eq_false_iff_ne]; omega
          have q4 : ((m.k % 6) == 4) = false := by rw [beq_eq_false_iff_ne]; omega
          have x0 : (cd == 0) = false := by rw [beq_eq_false_iff_ne]; omega
          have x9 : (cd == 9) = false := by rw [beq_eq_false_iff_ne]; omega
          have L1 := Lib.hid l1; have L2 := Lib.hid l2; have L5 := Lib.hid l5; have H6 := Lib.hid h6; clear l1 l2 l5 h6 l3
          go_wp2_with (first | (go_at_call 20; go_must (refine (s_len (hS4.keptNo ((Kept.refl No w4).alloc _))).mono ?_; rintro e w6 ⟨rfl, rfl⟩)) | (go_at_call 24; go_must (refine (s_lost (hS4.keptNo ((Kept.refl No w4).alloc _))).mono ?_; rintro e w6 ⟨rfl, rfl⟩)))
          go_roundw
          case rel => exact ⟨k + 1, zc, zg, zf, s2, S4, by omega, by go_num, rfl, rfl, rfl, by omega, by omega, by omega, by omega, by omega, by omega, by rw [← hsr]; exact L5.out, by have := L1.out; omega, by have := L2.out; omega, hS4.keptNo ((Kept.refl No w4).alloc _), hn4, hk4.alloc _⟩
          case measure => simp [intOf]; omega
        · have e0 : cntC (m.k % 6) 0 = 0 := by unfold cntC; rw [if_neg]; omega
          have e1 : cntG (m.k % 6) 0 = 0 := by unfold cntG; rw [if_neg]; omega
          have e2 : cntF (m.k % 6) 0 = 0 := by unfold cntF; rw [if_neg]; omega
          rw [e0, e1] at l1
          rw [e1, e2] at l2
          clear e0 e1 e2
          have n1 : ((s2.l.length : Int) != zc - zg) = false := by rw [bne_eq_false_iff_eq]; omega
          have n3 : decide (s2.lost > zg + zf) = false := decide_eq_false (by omega)
          have q0 : ((m.k % 6) == 0) = false := by rw [beq_eq_false_iff_ne]; omega
          have q1 : ((m.k % 6) == 1) = false := by rw [beq_eq_false_iff_ne]; omega
          have q3 : ((m.k % 6) == 3) = false := by rw [beq_eq_false_iff_ne]; omega
          have q4 : ((m.k % 6) == 4) = false := by rw [beq_eq_false_iff_ne]; omega
          have L1 := Lib.hid l1; have L2 := Lib.hid l2; have L5 := Lib.hid l5; have H6 := Lib.hid h6; clear l1 l2 l5 h6 l3
          go_wp2_with (first | (go_at_call 20; go_must (refine (s_len (hS4.keptNo ((Kept.refl No w4).alloc _))).mono ?_; rintro e w6 ⟨rfl, rfl⟩)) | (go_at_call 24; go_must (refine (s_lost (hS4.keptNo ((Kept.refl No w4).alloc _))).mono ?_; rintro e w6 ⟨rfl, rfl⟩)))
          go_roundw
          case rel => exact ⟨k + 1, zc, zg, zf, s2, S4, by omega, by go_num, rfl, rfl, rfl, by omega, by omega, by omega, by omega, by omega, by omega, by rw [← hsr]; exact L5.out, by have := L1.out; omega, by have := L2.out; omega, hS4.keptNo ((Kept.refl No w4).alloc _), hn4, hk4.alloc _⟩
          case measure => simp [intOf]; omega
        · have e0 : cntC (m.k % 6) 9 = 0 := by unfold cntC; rw [if_neg]; omega
          have e1 : cntG (m.k % 6) 9 = 0 := by unfold cntG; rw [if_neg]; omega
          have e2 : cntF (m.k % 6) 9 = 0 := by unfold cntF; rw [if_neg]; omega
          rw [e0, e1] at l1
          rw [e1, e2] at l2
          clear e0 e1 e2
          have n1 : ((s2.l.length : Int) != zc - zg) = false := by rw [bne_eq_false_iff_eq]; omega
          have n3 : decide (s2.lost > zg + zf) = false := decide_eq_false (by omega)
          have n4 : ((s2.l.length : Int) != room) = false := by rw [bne_eq_false_iff_eq]; have := l3 rfl; omega
          have q0 : ((m.k % 6) == 0) = false := by rw [beq_eq_false_iff_ne]; omega
          have q1 : ((m.k % 6) == 1) = false := by rw [beq_eq_false_iff_ne]; omega
          have q3 : ((m.k % 6) == 3) = false := by rw [beq_eq_false_iff_ne]; omega
          have q4 : ((m.k % 6) == 4) = false := by rw [beq_eq_false_iff_ne]; omega
          have L1 := Lib.hid l1; have L2 := Lib.hid l2; have L5 := Lib.hid l5; have H6 := Lib.hid h6; clear l1 l2 l5 h6 l3
          go_wp2_with (first | (go_at_call 20; go_must (refine (s_len (hS4.keptNo ((Kept.refl No w4).alloc _))).mono ?_; rintro e w6 ⟨rfl, rfl⟩)) | (go_at_call 24; go_must (refine (s_lost (hS4.keptNo ((Kept.refl No w4).alloc _))).mono ?_; rintro e w6 ⟨rfl, rfl⟩)))
          go_roundw
          case rel => exact ⟨k + 1, zc, zg, zf, s2, S4, by omega, by go_num, rfl, rfl, rfl, by omega, by omega, by omega, by omega, by omega, by omega, by rw [← hsr]; exact L5.out, by have := L1.out; omega, by have := L2.out; omega, hS4.keptNo ((Kept.refl No w4).alloc _), hn4, hk4.alloc _⟩
          case measure => simp [intOf]; omega
        · have e0 : cntC (m.k % 6) cd = 0 := by unfold cntC; rw [if_neg]; omega
          have e1 : cntG (m.k % 6) cd = 0 := by unfold cntG; rw [if_neg]; omega
          have e2 : cntF (m.k % 6) cd = 0 := by unfold cntF; rw [if_neg]; omega
          rw [e0, e1] at l1
          rw [e1, e2] at l2
          clear e0 e1 e2
          have n1 : ((s2.l.length : Int) != zc - zg) = false := by rw [bne_eq_false_iff_eq]; omega
          have n3 : decide (s2.lost > zg + zf) = false := decide_eq_false (by omega)
          have q0 : ((m.k % 6) == 0) = false := by rw [beq_eq_false_iff_ne]; omega
          have q1 : ((m.k % 6) == 1) = false := by rw [beq_eq_false_iff_ne]; omega
          have q3 : ((m.k % 6) == 3) = false := by rw [beq_eq_false_iff_ne]; omega
          have q4 : ((m.k % 6) == 4) = false := by rw [beq_eq_false_iff_ne]; omega
          have x0 : (cd == 0) = false := by rw [beq_eq_false_iff_ne]; omega
          have x9 : (cd == 9) = false := by rw [beq_eq_false_iff_ne]; omega
          have L1 := Lib.hid l1; have L2 := Lib.hid l2; have L5 := Lib.hid l5; have H6 := Lib.hid h6; clear l1 l2 l5 h6 l3
          go_wp2_with (first | (go_at_call 20; go_must (refine (s_len (hS4.keptNo ((Kept.refl No w4).alloc _))).mono ?_; rintro e w6 ⟨rfl, rfl⟩)) | (go_at_call 24; go_must (refine (s_lost (hS4.keptNo ((Kept.refl No w4).alloc _))).mono ?_; rintro e w6 ⟨rfl, rfl⟩)))
          go_roundw
          case rel => exact ⟨k + 1, zc, zg, zf, s2, S4, by omega, by go_num, rfl, rfl, rfl, by omega, by omega, by omega, by omega, by omega, by omega, by rw [← hsr]; exact L5.out, by have := L1.out; omega, by have := L2.out; omega, hS4.keptNo ((Kept.refl No w4).alloc _), hn4, hk4.alloc _⟩
          case measure => simp [intOf]; omega
        · have e0 : cntC (m.k % 6) 0 = 0 := by unfold cntC; rw [if_neg]; omega
          have e1 : cntG (m.k % 6) 0 = 1 := by unfold cntG; rw [if_pos]; omega
          have e2 : cntF (m.k % 6) 0 = 0 := by unfold cntF; rw [if_neg]; omega
          rw [e0, e1] at l1
          rw [e1, e2] at l2
          clear e0 e1 e2
          have n1 : ((s2.l.length : Int) != zc - (zg + 1)) = false := by rw [bne_eq_false_iff_eq]; omega
          have n3 : decide (s2.lost > zg + 1 + zf) = false := decide_eq_false (by omega)
          have q0 : ((m.k % 6) == 0) = false := by rw [beq_eq_false_iff_ne]; omega
          have q1 : ((m.k % 6) == 1) = false := by rw [beq_eq_false_iff_ne]; omega
          have q3 : ((m.k % 6) == 3) = true := by rw [beq_iff_eq]; omega
          have q4 : ((m.k % 6) == 4) = false := by rw [beq_eq_false_iff_ne]; omega
          have L1 := Lib.hid l1; have L2 := Lib.hid l2; have L5 := Lib.hid l5; have H6 := Lib.hid h6; clear l1 l2 l5 h6 l3
          go_wp2_with (first | (go_at_call 20; go_must (refine (s_len (hS4.keptNo ((Kept.refl No w4).alloc _))).mono ?_; rintro e w6 ⟨rfl, rfl⟩)) | (go_at_call 24; go_must (refine (s_lost (hS4.keptNo ((Kept.refl No w4).alloc _))).mono ?_; rintro e w6 ⟨rfl, rfl⟩)))
          go_roundw
          case rel => exact ⟨k + 1, zc, zg + 1, zf, s2, S4, by omega, by go_num, rfl, rfl, rfl, by omega, by omega, by omega, by omega, by omega, by omega, by rw [← hsr]; exact L5.out, by have := L1.out; omega, by have := L2.out; omega, hS4.keptNo ((Kept.refl No w4).alloc _), hn4, hk4.alloc _⟩
          case measure => simp [intOf]; omega
        · have e0 : cntC (m.k % 6) 9 = 0 := by unfold cntC; rw [if_neg]; omega
          have e1 : cntG (m.k % 6) 9 = 0 := by unfold cntG; rw [if_neg]; omega
          have e2 : cntF (m.k % 6) 9 = 0 := by unfold cntF; rw [if_neg]; omega
          rw [e0, e1] at l1
          rw [e1, e2] at l2
          clear e0 e1 e2
          have n1 : ((s2.l.length : Int) != zc - zg) = false := by rw [bne_eq_false_iff_eq]; omega
          have n3 : decide (s2.lost > zg + zf) = false := decide_eq_false (by omega)
          have n4 : ((s2.l.length : Int) != room) = false := by rw [bne_eq_false_iff_eq]; have := l3 rfl; omega
          have q0 : ((m.k % 6) == 0) = false := by rw [beq_eq_false_iff_ne]; omega
          have q1 : ((m.k % 6) == 1) = false := by rw [beq_eq_false_iff_ne]; omega
          have q3 : ((m.k % 6) == 3) = true := by rw [beq_iff_eq]; omega
          have q4 : ((m.k % 6) == 4) = false := by rw [beq_eq_false_iff_ne]; omega
          have L1 := Lib.hid l1; have L2 := Lib.hid l2; have L5 := Lib.hid l5; have H6 := Lib.hid h6; clear l1 l2 l5 h6 l3
          go_wp2_with (first | (go_at_call 20; go_must (refine (s_len (hS4.keptNo ((Kept.refl No w4).alloc _))).mono ?_; rintro e w6 ⟨rfl, rfl⟩)) | (go_at_call 24; go_must (refine (s_lost (hS4.keptNo ((Kept.refl No w4).alloc _))).mono ?_; rintro e w6 ⟨rfl, rfl⟩)))
          go_roundw
          case rel => exact ⟨k + 1, zc, zg, zf, s2, S4, by omega, by go_num, rfl, rfl, rfl, by omega, by omega, by omega, by omega, by omega, by omega, by rw [← hsr]; exact L5.out, by have := L1.out; omega, by have := L2.out; omega, hS4.keptNo ((Kept.refl No w4).alloc _), hn4, hk4.alloc _⟩
          case measure => simp [intOf]; omega
        · have e0 : cntC (m.k % 6) cd = 0 := by unfold cntC; rw [if_neg]; omega
          have e1 : cntG (m.k % 6) cd = 0 := by unfold cntG; rw [if_neg]; omega
          have e2 : cntF (m.k % 6) cd = 0 := by unfold cntF; rw [if_neg]; omega
          rw [e0, e1] at l1
          rw [e1, e2] at l2
          clear e0 e1 e2
          have n1 : ((s2.l.length : Int) != zc - zg) = false := by rw [bne_eq_false_iff_eq]; omega
          have n3 : decide (s2.lost > zg + zf) = false := decide_eq_false (by omega)
          have q0 : ((m.k % 6) == 0) = false := by rw [beq_eq_false_iff_ne]; omega
          have q1 : ((m.k % 6) == 1) = false := by rw [beq_eq_false_iff_ne]; omega
          have q3 : ((m.k % 6) == 3) = true := by rw [beq_iff_eq]; omega
          have q4 : ((m.k % 6) == 4) = false := by rw [beq_eq_false_iff_ne]; omega
          have x0 : (cd == 0) = false := by rw [beq_eq_false_iff_ne]; omega
          have x9 : (cd == 9) = false := by rw [beq_eq_false_iff_ne]; omega
          have L1 := Lib.hid l1; have L2 := Lib.hid l2; have L5 := Lib.hid l5; have H6 := Lib.hid h6; clear l1 l2 l5 h6 l3
          go_wp2_with (first | (go_at_call 20; go_must (refine (s_len (hS4.keptNo ((Kept.refl No w4).alloc _))).mono ?_; rintro e w6 ⟨rfl, rfl⟩)) | (go_at_call 24; go_must (refine (s_lost (hS4.keptNo ((Kept.refl No w4).alloc _))).mono ?_; rintro e w6 ⟨rfl, rfl⟩)))
          go_roundw
          case rel => exact ⟨k + 1, zc, zg, zf, s2, S4, by omega, by go_num, rfl, rfl, rfl, by omega, by omega, by omega, by omega, by omega, by omega, by rw [← hsr]; exact L5.out, by have := L1.out; omega, by have := L2.out; omega, hS4.keptNo ((Kept.refl No w4).alloc _), hn4, hk4.alloc _⟩
          case measure => simp [intOf]; omega
        · have e0 : cntC (m.k % 6) 0 = 1 := by unfold cntC; rw [if_pos]; omega
          have e1 : cntG (m.k % 6) 0 = 0 := by unfold cntG; rw [if_neg]; omega
          have e2 : cntF (m.k % 6) 0 = 0 := by unfold cntF; rw [if_neg]; omega
          rw [e0, e1] at l1
          rw [e1, e2] at l2
          clear e0 e1 e2
          have n1 : ((s2.l.length : Int) != zc + 1 - zg) = false := by rw [bne_eq_false_iff_eq]; omega
          have n3 : decide (s2.lost > zg + zf) = false := decide_eq_false (by omega)
          have q0 : ((m.k % 6) == 0) = false := by rw [beq_eq_false_iff_ne]; omega
          have q1 : ((m.k % 6) == 1) = false := by rw [beq_eq_false_iff_ne]; omega
          have q3 : ((m.k % 6) == 3) = false := by rw [beq_eq_false_iff_ne]; omega
          have q4 : ((m.k % 6) == 4) = true := by rw [beq_iff_eq]; omega
          have L1 := Lib.hid l1; have L2 := Lib.hid l2; have L5 := Lib.hid l5; have H6 := Lib.hid h6; clear l1 l2 l5 h6 l3
          go_wp2_with (first | (go_at_call 20; go_must (refine (s_len (hS4.keptNo ((Kept.refl No w4).alloc _))).mono ?_; rintro e w6 ⟨rfl, rfl⟩)) | (go_at_call 24; go_must (refine (s_lost (hS4.keptNo ((Kept.refl No w4).alloc _))).mono ?_; rintro e w6 ⟨rfl, rfl⟩)))
          go_roundw
          case rel => exact ⟨k + 1, zc + 1, zg, zf, s2, S4, by omega, by go_num, rfl, rfl, rfl, by omega, by omega, by omega, by omega, by omega, by omega, by rw [← hsr]; exact L5.out, by have := L1.out; omega, by have := L2.out; omega, hS4.keptNo ((Kept.refl No w4).alloc _), hn4, hk4.alloc _⟩
          case measure => simp [intOf]; omega
        · have e0 : cntC (m.k % 6) 9 = 0 := by unfold cntC; rw [if_neg]; omega
          have e1 : cntG (m.k % 6) 9 = 0 := by unfold cntG; rw [if_neg]; omega
          have e2 : cntF (m.k % 6) 9 = 0 := by unfold cntF; rw [if_neg]; omega
          rw [e0, e1] at l1
          rw [e1, e2] at l2
          clear e0 e1 e2
          have n1 : ((s2.l.length : Int) != zc - zg) = false := by rw [bne_eq_false_iff_eq]; omega
          have n3 : decide (s2.lost > zg + zf) = false := decide_eq_false (by omega)
          have n4 : ((s2.l.length : Int) != room) = false := by rw [bne_eq_false_iff_eq]; have := l3 rfl; omega
          have q0 : ((m.k % 6) == 0) = false := by rw [beq_eq_false_iff_ne]; omega
          have q1 : ((m.k % 6) == 1) = false := by rw [beq_eq_false_iff_ne]; omega
          have q3 : ((m.k % 6) == 3) = false := by rw [beq_eq_false_iff_ne]; omega
          have q4 : ((m.k % 6) == 4) = true := by rw [beq_iff_eq]; omega
          have L1 := Lib.hid l1; have L2 := Lib.hid l2; have L5 := Lib.hid l5; have H6 := Lib.hid h6; clear l1 l2 l5 h6 l3
          go_wp2_with (first | (go_at_call 20; go_must (refine (s_len (hS4.keptNo ((Kept.refl No w4).alloc _))).mono ?_; rintro e w6 ⟨rfl, rfl⟩)) | (go_at_call 24; go_must (refine (s_lost (hS4.keptNo ((Kept.refl No w4).alloc _))).mono ?_; rintro e w6 ⟨rfl, rfl⟩)))
          go_roundw
          case rel => exact ⟨k + 1, zc, zg, zf, s2, S4, by omega, by go_num, rfl, rfl, rfl, by omega, by omega, by omega, by omega, by omega, by omega, by rw [← hsr]; exact L5.out, by have := L1.out; omega, by have := L2.out; omega, hS4.keptNo ((Kept.refl No w4).alloc _), hn4, hk4.alloc _⟩
          case measure => simp [intOf]; omega
        · have e0 : cntC (m.k % 6) cd = 0 := by unfold cntC; rw [if_neg]; omega
          have e1 : cntG (m.k % 6) cd = 0 := by unfold cntG; rw [if_neg]; omega
          have e2 : cntF (m.k % 6) cd = 0 := by unfold cntF; rw [if_neg]; omega
          rw [e0, e1] at l1
          rw [e1, e2] at l2
          clear e0 e1 e2
          have n1 : ((s2.l.length : Int) != zc - zg) = false := by rw [bne_eq_false_iff_eq]; omega
          have n3 : decide (s2.lost > zg + zf) = false := decide_eq_false (by omega)
          have q0 : ((m.k % 6) == 0) = false := by rw [beq_eq_false_iff_ne]; omega
          have q1 : ((m.k % 6) == 1) = false := by rw [beq_eq_false_iff_ne]; omega
          have q3 : ((m.k % 6) == 3) = false := by rw [beq_eq_false_iff_ne]; omega
          have q4 : ((m.k % 6) == 4) = true := by rw [beq_iff_eq]; omega
          have x0 : (cd == 0) = false := by rw [beq_eq_false_iff_ne]; omega
          have x9 : (cd == 9) = false := by rw [beq_eq_false_iff_ne]; omega
          have L1 := Lib.hid l1; have L2 := Lib.hid l2; have L5 := Lib.hid l5; have H6 := Lib.hid h6; clear l1 l2 l5 h6 l3
          go_wp2_with (first | (go_at_call 20; go_must (refine (s_len (hS4.keptNo ((Kept.refl No w4).alloc _))).mono ?_; rintro e w6 ⟨rfl, rfl⟩)) | (go_at_call 24; go_must (refine (s_lost (hS4.keptNo ((Kept.refl No w4).alloc _))).mono ?_; rintro e w6 ⟨rfl, rfl⟩)))
          go_roundw
          case rel => exact ⟨k + 1, zc, zg, zf, s2, S4, by omega, by go_num, rfl, rfl, rfl, by omega, by omega, by omega, by omega, by omega, by omega, by rw [← hsr]; exact L5.out, by have := L1.out; omega, by have := L2.out; omega, hS4.keptNo ((Kept.refl No w4).alloc _), hn4, hk4.alloc _⟩
          case measure => simp [intOf]; omega
        · have e0 : cntC (m.k % 6) 0 = 0 := by unfold cntC; rw [if_neg]; omega
          have e1 : cntG (m.k % 6) 0 = 0 := by unfold cntG; rw [if_neg]; omega
          have e2 : cntF (m.k % 6) 0 = 0 := by unfold cntF; rw [if_neg]; omega
          rw [e0, e1] at l1
          rw [e1, e2] at l2
          clear e0 e1 e2
          have n1 : ((s2.l.length : Int) != zc - zg) = false := by rw [bne_eq_false_iff_eq]; omega
          have n3 : decide (s2.lost > zg + zf) = false := decide_eq_false (by omega)
          have q0 : ((m.k % 6) == 0) = false := by rw [beq_eq_false_iff_ne]; omega
          have q1 : ((m.k % 6) == 1) = false := by rw [beq_eq_false_iff_ne]; omega
          have q3 : ((m.k % 6) == 3) = false := by rw [beq_eq_false_iff_ne]; omega
          have q4 : ((m.k % 6) == 4) = false := by rw [beq_eq_false_iff_ne]; omega
          have L1 := Lib.hid l1; have L2 := Lib.hid l2; have L5 := Lib.hid l5; have H6 := Lib.hid h6; clear l1 l2 l5 h6 l3
          go_wp2_with (first | (go_at_call 20; go_must (refine (s_len (hS4.keptNo ((Kept.refl No w4).alloc _))).mono ?_; rintro e w6 ⟨rfl, rfl⟩)) | (go_at_call 24; go_must (refine (s_lost (hS4.keptNo ((Kept.refl No w4).alloc _))).mono ?_; rintro e w6 ⟨rfl, rfl⟩)))
          go_roundw
          case rel => exact ⟨k + 1, zc, zg, zf, s2, S4, by omega, by go_num, rfl, rfl, rfl, by omega, by omega, by omega, by omega, by omega, by omega, by rw [← hsr]; exact L5.out, by have := L1.out; omega, by have := L2.out; omega, hS4.keptNo ((Kept.refl No w4).alloc _), hn4, hk4.alloc _⟩
          case measure => simp [intOf]; omega
        · have e0 : cntC (m.k % 6) 9 = 0 := by unfold cntC; rw [if_neg]; omega
          have e1 : cntG (m.k % 6) 9 = 0 := by unfold cntG; rw [if_neg]; omega
          have e2 : cntF (m.k % 6) 9 = 0 := by unfold cntF; rw [if_neg]; omega
          rw [e0, e1] at l1
          rw [e1, e2] at l2
          clear e0 e1 e2
          have n1 : ((s2.l.length : Int) != zc - zg) = false := by rw [bne_eq_false_iff_eq]; omega
          have n3 : decide (s2.lost > zg + zf) = false := decide_eq_false (by omega)
          have n4 : ((s2.l.length : Int) != room) = false := by rw [bne_eq_false_iff_eq]; have := l3 rfl; omega
          have q0 : ((m.k % 6) == 0) = false := by rw [beq_eq_false_iff_ne]; omega
          have q1 : ((m.k % 6) == 1) = false := by rw [beq_eq_false_iff_ne]; omega
          have q3 : ((m.k % 6) == 3) = false := by rw [beq_eq_false_iff_ne]; omega
          have q4 : ((m.k % 6) == 4) = false := by rw [beq_eq_false_iff_ne]; omega
          have L1 := Lib.hid l1; have L2 := Lib.hid l2; have L5 := Lib.hid l5; have H6 := Lib.hid h6; clear l1 l2 l5 h6 l3
          go_wp2_with (first | (go_at_call 20; go_must (refine (s_len (hS4.keptNo ((Kept.refl No w4).alloc _))).mono ?_; rintro e w6 ⟨rfl, rfl⟩)) | (go_at_call 24; go_must (refine (s_lost (hS4.keptNo ((Kept.refl No w4).alloc _))).mono ?_; rintro e w6 ⟨rfl, rfl⟩)))
          go_roundw
          case rel => exact ⟨k + 1, zc, zg, zf, s2, S4, by omega, by go_num, rfl, rfl, rfl, by omega, by omega, by omega, by omega, by omega, by omega, by rw [← hsr]; exact L5.out, by have := L1.out; omega, by have := L2.out; omega, hS4.keptNo ((Kept.refl No w4).alloc _), hn4, hk4.alloc _⟩
          case measure => simp [intOf]; omega
        · have e0 : cntC (m.k % 6) cd = 0 := by unfold cntC; rw [if_neg]; omega
          have e1 : cntG (m.k % 6) cd = 0 := by unfold cntG; rw [if_neg]; omega
          have e2 : cntF (m.k % 6) cd = 0 := by unfold cntF; rw [if_neg]; omega
          rw [e0, e1] at l1
          rw [e1, e2] at l2
          clear e0 e1 e2
          have n1 : ((s2.l.length : Int) != zc - zg) = false := by rw [bne_eq_false_iff_eq]; omega
          have n3 : decide (s2.lost > zg + zf) = false := decide_eq_false (by omega)
          have q0 : ((m.k % 6) == 0) = false := by rw [beq_eq_false_iff_ne]; omega
          have q1 : ((m.k % 6) == 1) = false := by rw [beq_eq_false_iff_ne]; omega
          have q3 : ((m.k % 6) == 3) = false := by rw [beq_eq_false_iff_ne]; omega
          have q4 : ((m.k % 6) == 4) = false := by rw [beq_eq_false_iff_ne]; omega
          have x0 : (cd == 0) = false := by rw [beq_eq_false_iff_ne]; omega
          have x9 : (cd == 9) = false := by rw [beq_eq_false_iff_ne]; omega
          have L1 := Lib.hid l1; have L2 := Lib.hid l2; have L5 := Lib.hid l5; have H6 := Lib.hid h6; clear l1 l2 l5 h6 l3
          go_wp2_with (first | (go_at_call 20; go_must (refine (s_len (hS4.keptNo ((Kept.refl No w4).alloc _))).mono ?_; rintro e w6 ⟨rfl, rfl⟩)) | (go_at_call 24; go_must (refine (s_lost (hS4.keptNo ((Kept.refl No w4).alloc _))).mono ?_; rintro e w6 ⟨rfl, rfl⟩)))
          go_roundw
          case rel => exact ⟨k + 1, zc, zg, zf, s2, S4, by omega, by go_num, rfl, rfl, rfl, by omega, by omega, by omega, by omega, by omega, by omega, by rw [← hsr]; exact L5.out, by have := L1.out; omega, by have := L2.out; omega, hS4.keptNo ((Kept.refl No w4).alloc _), hn4, hk4.alloc _⟩
          case measure => simp [intOf]; omega
      · go_wp2_with fail
        refine (net_alive _).mono ?_
        rintro e w5 ⟨rfl, hk5⟩
        go_wp2
        go_ret
        exact ⟨rfl, hkept.transNo hk5⟩
end Go.Proofs.Ytdolddgmemlofaa
