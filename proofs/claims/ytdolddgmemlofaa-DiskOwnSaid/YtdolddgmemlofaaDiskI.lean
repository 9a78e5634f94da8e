/- The law's helpers short and long; the probe 'alive'. -/
import Derived.Test.YtdolddgmemlofaaDiskH
import Derived.Test.YtdolddgmemlofaaDiskArgs
namespace Go.Proofs.Ytdolddgmemlofaa
open Go.RowKit Go.PM
set_option maxRecDepth 100000

theorem Try.du_string : Try.prog.underlying 9 = some .string := by kernel_rfl

set_option maxHeartbeats 400000 in
theorem dshort_calls (a : Option Addr) (n c : Nat) (w : World) (hn : n ≤ c) (hc : c ≤ maxLen) :
    Calls Try.prog 42 #[.slice a n c] w fun e w' => e = .returned (.slice a (min n 100) c) ∧ w = w' := by
  unfold maxLen at hc
  by_cases h : n ≤ 100
  · have e : min n 100 = n := Nat.min_eq_left h
    rw [e]
    go_enter Try.func42, Try.ntmps42
    go_wp2
    all_goals (go_ret; exact ⟨rfl, rfl⟩)
  · have e : min n 100 = 100 := Nat.min_eq_right (by omega)
    rw [e]
    go_enter Try.func42, Try.ntmps42
    go_wp2
    all_goals (go_ret; exact ⟨rfl, rfl⟩)

/-- The cells of an act of a slice. -/
theorem InD.at {W : World} {a : Option Addr} {c : Nat} {l : List DM} (h : InD W a c l) {i : Nat} {x : DM} (hm : l[i]? = some x) : ∃ b o, a = some ⟨b, o, none⟩ ∧ b < W.heap.size ∧
    W.cell? ⟨b, o + i * 4, none⟩ = some (.int .u8 x.m.kind) ∧ W.cell? ⟨b, o + i * 4 + 1, none⟩ = some (.int .i64 x.m.n) ∧ W.cell? ⟨b, o + i * 4 + 2, none⟩ = some (.slice x.a x.m.b.length x.c) ∧
    W.cell? ⟨b, o + i * 4 + 3, none⟩ = some (.bool x.m.cut) := by
  obtain ⟨b, o, e, hc⟩ := InS.rd h i x hm
  have h0 := hc 0 _ rfl
  exact ⟨b, o, e, World.block_lt_of_cell? W _ h0, h0, hc 1 _ rfl, hc 2 _ rfl, hc 3 _ rfl⟩

def DLongRel (w : World) (n : Nat) (s i : Value) (wr : World) : Prop := ∃ (k : Nat) (z : Int), k ≤ n ∧ i = .int .i64 k ∧ s = .int .i64 z ∧ 0 ≤ z ∧ z ≤ k * 131072 ∧ Kept No w wr

set_option maxHeartbeats 1000000 in
theorem dlong_calls (a : Option Addr) (c : Nat) (l : List DM) (w : World) (h : InD w a c l) :
    Calls Try.prog 41 #[.slice a l.length c] w fun e w' => (∃ b, e = .returned (.bool b)) ∧ Kept No w w' := by
  have hle := InS.le h
  have hmx := InS.max h
  obtain ⟨n, hn⟩ : ∃ n, n = min l.length 100 := ⟨_, rfl⟩
  have hn1 : n ≤ l.length := by omega
  have hn2 : n ≤ 100 := by omega
  have HN := Lib.hid hn
  clear hn
  go_enter Try.func41, Try.ntmps41
  go_wp2_with (go_at_call 42; go_must (refine (dshort_calls a l.length c w hle hmx).mono ?_; rw [← HN.out]; rintro e w' ⟨rfl, rfl⟩))
  clear hmx hle
  go_loopw [3, 9] (fun s i wr => DLongRel w n s i wr) (fun _ i _ => n - (intOf i).toNat)
  case atStart => exact ⟨0, 0, Nat.zero_le _, rfl, rfl, by omega, by omega, Kept.refl _ _⟩
  case round =>
    obtain ⟨k, z, hk, rfl, rfl, hz0, hz1, hkept⟩ := hrel
    by_cases hlt : k < n
    · obtain ⟨m, hm⟩ : ∃ m, l[k]? = some m := ⟨_, List.getElem?_eq_getElem (by omega)⟩
      have hin := InS.each (h.kept hkept) m (List.mem_of_getElem? hm)
      have hb0 := hin.b.le
      have hb1 := hin.b.max
      unfold maxLen at hb1
      obtain ⟨b, o, rfl, hb, d0, d1, d2, d3⟩ := (h.kept hkept).at hm
      clear hm
      have hi0 : (0 : Int) ≤ k := by omega
      have hi1 : (k : Int) < n := by omega
      by_cases hbig : m.m.b.length ≤ 131072
      all_goals
        go_wp2
        all_goals
          go_roundw
          case rel => exact ⟨k + 1, _, by omega, by go_num, rfl, by omega, by omega, hkept.alloc _⟩
          case measure => simp [intOf]; omega
    · go_wp2
      go_ret
      exact ⟨⟨_, rfl⟩, hkept⟩

/-- All blocks of S came behind w. -/
def DNew (w : World) (S : Nat → Prop) : Prop := ∀ b, S b → w.heap.size ≤ b

theorem DGrows.new {w wi wj : World} {S S' : Nat → Prop} (hg : DGrows S S' wi wj) (hk : Kept No w wi) (hn : DNew w S) : Kept No w wj ∧ DNew w S' :=
  ⟨hk.trans hg.kept (fun b hb hb' => absurd (hn b hb') (by omega)), fun b hb => (hg.grow b hb).elim (hn b) (fun h => Nat.le_trans hk.size h)⟩

set_option maxHeartbeats 1000000 in
theorem disk_alive (w : World) : Calls Try.prog 40 #[] w fun e w' => e = .returned (.bool true) ∧ Kept No w w' := by
  go_enter Try.func40, Try.ntmps40
  go_wp2_with (go_at_call 32; go_must (refine (d_new 100 w (by omega) (by omega)).mono ?_))
  rintro e w1 ⟨rfl, ⟨a1, cap1, h1⟩, hk1⟩
  have n1 : DNew w (· = w.heap.size) := fun b hb => by subst hb; exact Nat.le_refl _
  go_wp2_with (with_reducible refine wpList_conv_const rfl _ (.tmp 19) rfl _ Try.du_bytes Try.du_byte _ 2 2 _ ?c1 rfl ?_)
  case c1 => rfl
  refine (d_append (h1.keptNo ((Kept.refl No w1).alloc _)) (by simp [PD.new]) [97, 98] _ 2 (Rd.marked rfl _ _ _) (fun h => nomatch h)).mono ?_
  have e1 : PD.append (PD.new 100) [97, 98] = (0, 0, ⟨0, [97, 98], 100, 0, 0, true, -1⟩) := by rfl
  rw [e1]
  rintro e w2 ⟨S2, rfl, ⟨a2, cap2, h2⟩, hg2⟩
  obtain ⟨k2, n2⟩ := hg2.new (hk1.alloc _) n1
  clear e1 hg2 h1 hk1
  go_wp2_with fail
  refine (d_force h2 (by simp)).mono ?_
  have e1 : PD.force ⟨0, [97, 98], 100, 0, 0, true, -1⟩ = (0, ⟨0, [97, 98], 100, 0, 2, true, -1⟩) := by rfl
  rw [e1]
  rintro e w3 ⟨S3, rfl, ⟨a3, cap3, h3⟩, hg3⟩
  obtain ⟨k3, n3⟩ := hg3.new k2 n2
  clear e1 hg3 h2
  go_wp2_with (with_reducible refine wpList_conv_const rfl _ (.tmp 36) rfl _ Try.du_bytes Try.du_byte _ 2 2 _ ?c2 rfl ?_)
  case c2 => rfl
  refine (d_append (h3.keptNo ((Kept.refl No w3).alloc _)) (by simp) [99, 100] _ 2 (Rd.marked rfl _ _ _) (fun h => nomatch h)).mono ?_
  have e1 : PD.append ⟨0, [97, 98], 100, 0, 2, true, -1⟩ [99, 100] = (2, 0, ⟨0, [97, 98, 99, 100], 100, 0, 2, true, -1⟩) := by rfl
  rw [e1]
  rintro e w4 ⟨S4, rfl, ⟨a4, cap4, h4⟩, hg4⟩
  obtain ⟨k4, n4⟩ := hg4.new (k3.alloc _) n3
  clear e1 hg4 h3
  go_wp2_with fail
  refine (d_fail h4).mono ?_
  have e1 : PD.fail ⟨0, [97, 98, 99, 100], 100, 0, 2, true, -1⟩ = (0, ⟨0, [97, 98, 99, 100], 100, 0, 2, false, -1⟩) := by rfl
  rw [e1]
  rintro e w5 ⟨S5, rfl, ⟨a5, cap5, h5⟩, hg5⟩
  obtain ⟨k5, n5⟩ := hg5.new k4 n4
  clear e1 hg5 h4
  go_wp2_with fail
  refine (d_start h5 (by simp) 1 (by omega) (by omega) false [] none 0 (Rd.nil _ _) (fun _ => rfl)).mono ?_
  have e1 : PD.start ⟨0, [97, 98, 99, 100], 100, 0, 2, false, -1⟩ 1 false [] = (0, ⟨0, [97, 98, 99], 100, 0, 3, true, -1⟩) := by rfl
  rw [e1]
  rintro e w6 ⟨S6, rfl, ⟨a6, cap6, h6⟩, hg6⟩
  obtain ⟨k6, n6⟩ := hg6.new k5 n5
  clear e1 hg6 h5
  go_wp2_with fail
  refine (d_read h6 (by simp)).mono ?_
  have e1 : PD.read ⟨0, [97, 98, 99], 100, 0, 3, true, -1⟩ = ([97, 98, 99], 0) := by rfl
  rw [e1]
  rintro e w7 ⟨a7, cap7, rfl, ho7, hk7, hat7⟩
  clear e1
  have hrd7 := ho7.rd
  have h7 := h6.keptNo hk7
  go_wp2_with (first
    | (with_reducible refine wpList_conv_bytes rfl _ _ (.tmp 52) rfl _ Try.du_bytes Try.du_byte Try.du_string _ _ [97, 98, 99] rfl hrd7 ?_)
    | (go_at_call 35; refine (d_end h7 (by simp)).mono ?_; rintro e w8 ⟨rfl, hk8⟩))
  go_ret
  exact ⟨rfl, (k6.transNo hk7).transNo hk8⟩
end Go.Proofs.Ytdolddgmemlofaa
