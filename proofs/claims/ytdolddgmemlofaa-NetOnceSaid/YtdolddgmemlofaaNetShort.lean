/- The law's helpers short and long. -/
import Derived.Test.YtdolddgmemlofaaNetI
import Derived.Test.YtdolddgmemlofaaNetArgs
import Derived.Deep.CutBlock
namespace Go.Proofs.Ytdolddgmemlofaa
open Go.RowKit Go.PM

theorem InA.take {W : World} {a : Option Addr} {c : Nat} {l : List AM} (h : InA W a c l) (n : Nat) : InA W a c (l.take n) :=
  ⟨fun i m hm => h.rd i m (by rw [List.getElem?_take] at hm; split at hm; exact hm; exact (nomatch hm)), fun m hm => h.each m (List.mem_of_mem_take hm), h.nil,
    by have := h.le; rw [List.length_take]; omega, h.max⟩

set_option maxHeartbeats 400000 in
theorem short_calls (a : Option Addr) (n c : Nat) (w : World) (hn : n ≤ c) (hc : c ≤ maxLen) :
    Calls Try.prog 16 #[.slice a n c] w fun e w' => e = .returned (.slice a (min n 100) c) ∧ w = w' := by
  unfold maxLen at hc
  by_cases h : n ≤ 100
  · have e : min n 100 = n := Nat.min_eq_left h
    rw [e]
    go_enter Try.func16, Try.ntmps16
    go_wp2
    all_goals (go_ret; exact ⟨rfl, rfl⟩)
  · have e : min n 100 = 100 := Nat.min_eq_right (by omega)
    rw [e]
    go_enter Try.func16, Try.ntmps16
    go_wp2
    all_goals (go_ret; exact ⟨rfl, rfl⟩)

/-- The cells of an act of a slice. -/
theorem InA.at {W : World} {a : Option Addr} {c : Nat} {l : List AM} (h : InA W a c l) {i : Nat} {m : AM} (hm : l[i]? = some m) : ∃ b o, a = some ⟨b, o, none⟩ ∧ b < W.heap.size ∧
    W.cell? ⟨b, o + i * 5, none⟩ = some (.int .u8 m.k) ∧ W.cell? ⟨b, o + i * 5 + 1, none⟩ = some (.int .u8 m.f) ∧ W.cell? ⟨b, o + i * 5 + 2, none⟩ = some (.int .u8 m.t) ∧
    W.cell? ⟨b, o + i * 5 + 3, none⟩ = some (.int .i64 m.i) ∧ W.cell? ⟨b, o + i * 5 + 4, none⟩ = some (.slice m.a m.b.length m.c) := by
  obtain ⟨b, o, e, hc⟩ := h.rd i m hm
  have h0 := hc 0 _ rfl
  exact ⟨b, o, e, World.block_lt_of_cell? W _ h0, h0, hc 1 _ rfl, hc 2 _ rfl, hc 3 _ rfl, hc 4 _ rfl⟩

def LongRel (w : World) (n : Nat) (s i : Value) (wr : World) : Prop := ∃ (k : Nat) (z : Int), k ≤ n ∧ i = .int .i64 k ∧ s = .int .i64 z ∧ 0 ≤ z ∧ z ≤ k * 65536 ∧ Kept No w wr

set_option maxRecDepth 100000 in
set_option maxHeartbeats 1000000 in
theorem long_calls (a : Option Addr) (c : Nat) (l : List AM) (w : World) (h : InA w a c l) :
    Calls Try.prog 13 #[.slice a l.length c] w fun e w' => (∃ b, e = .returned (.bool b)) ∧ Kept No w w' := by
  have hle := h.le
  have hmx := h.max
  obtain ⟨n, hn⟩ : ∃ n, n = min l.length 100 := ⟨_, rfl⟩
  have hn1 : n ≤ l.length := by omega
  have hn2 : n ≤ 100 := by omega
  have HN := Lib.hid hn
  clear hn
  go_enter Try.func13, Try.ntmps13
  go_wp2_with (go_at_call 16; go_must (refine (short_calls a l.length c w hle hmx).mono ?_; rw [← HN.out]; rintro e w' ⟨rfl, rfl⟩))
  clear hmx hle
  go_loopw [3, 9] (fun s i wr => LongRel w n s i wr) (fun _ i _ => n - (intOf i).toNat)
  case atStart => exact ⟨0, 0, Nat.zero_le _, rfl, rfl, by omega, by omega, Kept.refl _ _⟩
  case round =>
    obtain ⟨k, z, hk, rfl, rfl, hz0, hz1, hkept⟩ := hrel
    by_cases hlt : k < n
    · obtain ⟨m, hm⟩ : ∃ m, l[k]? = some m := ⟨_, List.getElem?_eq_getElem (by omega)⟩
      have hin := (h.kept hkept).each m (List.mem_of_getElem? hm)
      have hb0 := hin.b.le
      have hb1 := hin.b.max
      unfold maxLen at hb1
      obtain ⟨b, o, rfl, hb, d0, d1, d2, d3, d4⟩ := (h.kept hkept).at hm
      clear hm
      have hi0 : (0 : Int) ≤ k := by omega
      have hi1 : (k : Int) < n := by omega
      by_cases hbig : m.b.length ≤ 65536
      all_goals
        go_wp2
        all_goals
          go_roundw
          case rel => exact ⟨k + 1, _, by omega, by go_num, rfl, by omega, by omega, hkept.alloc _⟩
          case measure => simp [intOf]; omega
    · go_wp2
      go_ret
      exact ⟨⟨_, rfl⟩, hkept⟩
end Go.Proofs.Ytdolddgmemlofaa
