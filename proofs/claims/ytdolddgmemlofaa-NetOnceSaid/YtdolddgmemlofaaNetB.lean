/- The walks of package net's greater functions. -/
import Derived.Test.YtdolddgmemlofaaNetA
namespace Go.Proofs.Ytdolddgmemlofaa
open Go.RowKit Go.PM

/-- A wire in memory: from, to, the block of its bytes, the bytes. -/
structure MW where
  f : Int
  t : Int
  g : Nat
  b : List UInt8
def MW.val (m : MW) : Value := .slice (some ⟨m.g, 0, none⟩) m.b.length m.b.length
def MW.cells (m : MW) : List Value := [.int .u8 m.f, .int .u8 m.t, m.val]
def mcells (l : List MW) : List Value := l.flatMap MW.cells

theorem mcells_length (l : List MW) : (mcells l).length = l.length * 3 := by
  induction l with
  | nil => rfl
  | cons m l ih => simp only [mcells, List.flatMap_cons, List.length_append] at *; simp [ih, MW.cells]; omega
theorem mcells_append (l l' : List MW) : mcells (l ++ l') = mcells l ++ mcells l' := by simp [mcells]
theorem mcells_get (l : List MW) (i : Nat) (m : MW) (h : l[i]? = some m) :
    (mcells l)[i * 3]? = some (.int .u8 m.f) ∧ (mcells l)[i * 3 + 1]? = some (.int .u8 m.t) ∧ (mcells l)[i * 3 + 2]? = some m.val := by
  induction l generalizing i with
  | nil => simp at h
  | cons x l ih =>
    have e : mcells (x :: l) = x.cells ++ mcells l := by simp [mcells]
    cases i with
    | zero => simp at h; subst h; rw [e]; simp [MW.cells]
    | succ i =>
      have h' : l[i]? = some m := by simpa using h
      obtain ⟨h0, h1, h2⟩ := ih i h'
      rw [e]
      have e3 : x.cells.length = 3 := rfl
      refine ⟨?_, ?_, ?_⟩
      · rw [List.getElem?_append_right (by omega), e3, show (i + 1) * 3 - 3 = i * 3 by omega]; exact h0
      · rw [List.getElem?_append_right (by omega), e3, show (i + 1) * 3 + 1 - 3 = i * 3 + 1 by omega]; exact h1
      · rw [List.getElem?_append_right (by omega), e3, show (i + 1) * 3 + 2 - 3 = i * 3 + 2 by omega]; exact h2
theorem mcells_one (l : List MW) : ∀ u ∈ mcells l, u.oneCell' = true := by
  intro u hu
  simp only [mcells, List.mem_flatMap, MW.cells, List.mem_cons, List.not_mem_nil, or_false] at hu
  obtain ⟨m, _, rfl | rfl | rfl⟩ := hu <;> rfl

/-- A network that was made: its struct at p, its wires, the blocks S that are its own. -/
structure NetX (w : World) (p : Nat) (room : Int) (a : Option Addr) (cap : Nat) (lost : Int) (l : List MW) (S : Nat → Prop) : Prop where
  box : NetB w p room a l.length cap lost
  own : Own w 36 3 a l.length cap (mcells l)
  room1 : 1 ≤ room
  room2 : room ≤ 256
  fits : (l.length : Int) ≤ room
  lost0 : 0 ≤ lost
  lost1 : lost ≤ 4294967295
  sp : S p
  sa : ∀ k, At a k → S k ∧ k ≠ p
  bytes : ∀ m ∈ l, S m.g ∧ m.g ≠ p ∧ ¬ At a m.g ∧ Blk w m.g 5 (bcells m.b) ∧ m.b.length ≤ 4096
  lt : ∀ k, S k → k < w.heap.size

theorem NetX.kept {w w' : World} {p : Nat} {room : Int} {a : Option Addr} {cap : Nat} {lost : Int} {l : List MW} {S T : Nat → Prop} (h : NetX w p room a cap lost l S) (k : Kept T w w') (hd : ∀ b, S b → ¬ T b) : NetX w' p room a cap lost l S :=
  ⟨Blk.kept h.box k (hd p h.sp), h.own.kept k (fun b hb => hd b (h.sa b hb).1), h.room1, h.room2, h.fits, h.lost0, h.lost1, h.sp, h.sa,
    fun m hm => (h.bytes m hm).imp id fun r => ⟨r.1, r.2.1, r.2.2.1.kept k (hd _ (h.bytes m hm).1), r.2.2.2⟩, fun b hb => k.lt (h.lt b hb)⟩
theorem NetX.keptNo {w w' : World} {p : Nat} {room : Int} {a : Option Addr} {cap : Nat} {lost : Int} {l : List MW} {S : Nat → Prop} (h : NetX w p room a cap lost l S) (k : Kept No w w') : NetX w' p room a cap lost l S := h.kept k fun _ _ h => h

/-- What At answers: a wire whose bytes lie in a block of their own. -/
def WirePost (w : World) (f t : Int) (b : List UInt8) (code : Int) (e : Ending) (w' : World) : Prop :=
  ∃ g, e = .returned (.tuple #[.agg #[.int .u8 f, .int .u8 t, .slice (some ⟨g, 0, none⟩) b.length b.length], .int .i64 code]) ∧ w.heap.size ≤ g ∧ Blk w' g 5 (bcells b) ∧ Kept No w w'

section
variable {w : World} {p : Nat} {room : Int} {a : Option Addr} {cap : Nat} {lost : Int} {l : List MW} {S : Nat → Prop}

set_option maxRecDepth 100000 in
set_option maxHeartbeats 400000 in
theorem at_calls (h : NetX w p room a cap lost l S) (i : Nat) (m : MW) (hm : l[i]? = some m) :
    Calls Try.prog 17 #[.pointer (some ⟨p, 0, none⟩), .int .i64 i] w (WirePost w m.f m.t m.b 0) := by
  have hbox := h.box
  have hp := hbox.lt
  have hr : 0 < room := by have := h.room1; omega
  have hlt : i < l.length := (List.getElem?_eq_some_iff.1 hm).1
  have hl : l.length ≤ 256 := by have := h.fits; have := h.room2; omega
  have c1 := hbox.c1
  obtain ⟨g, rfl, hg⟩ : ∃ g, a = some ⟨g, 0, none⟩ ∧ g < w.heap.size := by
    rcases h.own.addr with ⟨_, h0, _⟩ | h'
    · omega
    · exact h'
  have hrd := h.own.rd
  obtain ⟨m0, m1, m2⟩ := mcells_get l i m hm
  have hml := mcells_length l
  have d0 : w.cell? ⟨g, i * 3, none⟩ = some (.int .u8 m.f) := by obtain ⟨b, o, e, hc⟩ := hrd _ _ m0; simp at e; obtain ⟨rfl, rfl⟩ := e; simpa using hc
  have d1 : w.cell? ⟨g, i * 3 + 1, none⟩ = some (.int .u8 m.t) := by obtain ⟨b, o, e, hc⟩ := hrd _ _ m1; simp at e; obtain ⟨rfl, rfl⟩ := e; simpa using hc
  have d2 : w.cell? ⟨g, i * 3 + 2, none⟩ = some (.slice (some ⟨m.g, 0, none⟩) m.b.length m.b.length) := by obtain ⟨b, o, e, hc⟩ := hrd _ _ m2; simp at e; obtain ⟨rfl, rfl⟩ := e; simpa [MW.val] using hc
  have hmem : m ∈ l := List.mem_of_getElem? hm
  obtain ⟨_, _, _, hmb, hmn⟩ := h.bytes m hmem
  clear hrd m0 m1 m2 hml hm hmem h
  go_enter Try.func17, Try.ntmps17
  go_wp2_with (first
    | (go_at_call 56; go_must (refine (ok_calls (hbox.alloc _) hr).mono ?_; rintro e w' ⟨rfl, rfl⟩))
    | (go_at_call 57; go_must (refine (copied_calls m.f m.t (some ⟨m.g, 0, none⟩) m.b.length m.b _ ?_ ?_).mono ?_)))
  case refine_1 => exact Rd.ofBlk' (hmb.alloc _)
  case refine_2 => omega
  rintro e w1 ⟨v, rfl, ⟨g1, rfl, hge, hgb⟩, hk⟩
  have hbx : Blk w1 w.heap.size 36 [.int .u8 0, .int .u8 0, .slice none 0 0] := (Blk.new w _ _).kept hk id
  have x0 := hbx.cell 0
  have x1 := hbx.cell 1
  have x2 := hbx.cell 2
  have y0 := hbx.frozen 0
  have y1 := hbx.frozen 1
  have y2 := hbx.frozen 2
  go_wp2
  have hne : g1 ≠ w.heap.size := by simp at hge; omega
  refine bodyPost_ret (v := .tuple #[.agg #[.int .u8 m.f, .int .u8 m.t, .slice (some ⟨g1, 0, none⟩) m.b.length m.b.length], .int .i64 0]) (by simp [results, Try.results17, go_sem, x0, x1, x2]) rfl
    ⟨g1, rfl, by simp at hge; omega, ?_, ?_⟩
  · exact ((hgb.setOther hne _).setOther hne _).setOther hne _
  · have hk0 : Kept No w w1 := ((Kept.refl No w).alloc _).transNo hk
    have hw : w.heap.size < w.heap.size → No w.heap.size := fun h => absurd h (Nat.lt_irrefl _)
    exact ((hk0.setCell (a := ⟨_, _, none⟩) hw _).setCell (a := ⟨_, _, none⟩) hw _).setCell (a := ⟨_, _, none⟩) hw _

/-- What At answers where there is none. -/
def NonePost (w : World) (code : Int) (e : Ending) (w' : World) : Prop :=
  e = .returned (.tuple #[.agg #[.int .u8 0, .int .u8 0, .slice none 0 0], .int .i64 code]) ∧ Kept No w w'

set_option maxRecDepth 100000 in
set_option maxHeartbeats 400000 in
theorem at_none (h : NetX w p room a cap lost l S) (i : Int) (hi : i < 0 ∨ (l.length : Int) ≤ i) :
    Calls Try.prog 17 #[.pointer (some ⟨p, 0, none⟩), .int .i64 i] w (NonePost w 6) := by
  have hbox := h.box
  have hp := hbox.lt
  have hr : 0 < room := by have := h.room1; omega
  have c1 := hbox.c1
  have hi' : i < 0 ∨ (0 ≤ i ∧ (l.length : Int) ≤ i) := by omega
  clear hi h
  have hw : w.heap.size < w.heap.size → No w.heap.size := fun h => absurd h (Nat.lt_irrefl _)
  rcases hi' with hi | ⟨hi0, hi⟩
  all_goals
    go_enter Try.func17, Try.ntmps17
    go_wp2_with (go_at_call 56; go_must (refine (ok_calls (hbox.alloc _) hr).mono ?_; rintro e w' ⟨rfl, rfl⟩))
    refine bodyPost_ret (v := .tuple #[.agg #[.int .u8 0, .int .u8 0, .slice none 0 0], .int .i64 6]) (by simp [results, Try.results17, go_sem]) rfl
      ⟨rfl, (Kept.refl No w).alloc _⟩

theorem Try.inf_wire : (Try.prog.info? 36).map (fun i => (i.zero, i.size, i.bytes)) = some (some (.agg #[.int .u8 0, .int .u8 0, .slice none 0 0]), 3, 32) := by kernel_rfl
theorem Try.u_wires : Try.prog.underlying 62 = some (.slice 36) := by kernel_rfl
end

end Go.Proofs.Ytdolddgmemlofaa
