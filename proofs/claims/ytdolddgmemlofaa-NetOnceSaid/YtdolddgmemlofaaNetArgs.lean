/- What the arguments of package parrellaw08's laws read as: acts. -/
import Derived.Test.YtdolddgmemlofaaRows
import Derived.Test.YtdolddgmemlofaaArgs
namespace Go.Proofs.Ytdolddgmemlofaa
open Go.ChangeShapes Go.WideShapes Go.ChangeAt Go.RowKit Go.PM

theorem Try.cellsAct : Try.prog.cellsOf 34 = 5 := by kernel_rfl
theorem Try.cellsByte : Try.prog.cellsOf 5 = 1 := by kernel_rfl
theorem Try.cellsInt : Try.prog.cellsOf 3 = 1 := by kernel_rfl
theorem Try.cellsBytes : Try.prog.cellsOf 32 = 1 := by kernel_rfl

theorem list5 {α : Type} {l : List α} (h : l.length = 5) : ∃ a b c d e, l = [a, b, c, d, e] := by
  match l, h with
  | [a, b, c, d, e], _ => exact ⟨a, b, c, d, e, rfl⟩

/-- An act in memory. -/
structure AM where
  k : Int
  f : Int
  t : Int
  i : Int
  a : Option Addr
  c : Nat
  b : List UInt8
def AM.cells (m : AM) : List Value := [.int .u8 m.k, .int .u8 m.f, .int .u8 m.t, .int .i64 m.i, .slice m.a m.b.length m.c]
structure AM.In (W : World) (m : AM) : Prop where
  b : InB W m.a m.c m.b
  k0 : 0 ≤ m.k
  k1 : m.k ≤ 255
  f0 : 0 ≤ m.f
  f1 : m.f ≤ 255
  t0 : 0 ≤ m.t
  t1 : m.t ≤ 255
  i0 : -9223372036854775808 ≤ m.i
  i1 : m.i ≤ 9223372036854775807
theorem AM.In.kept {W W' : World} {m : AM} (h : m.In W) (k : Kept No W W') : m.In W' := { h with b := h.b.kept k }

section
variable {H : Type} {enc : TypeId × Value → H} {W : World} {fuel : Nat} {x : DataW H × List MemPlace} {cs : List Value}

theorem open_act (h : DataW.trod enc Try.prog W 0 (fun _ => true) true fuel 34 cs = some x) : ∃ m : AM, cs = m.cells ∧ m.In W := by
  obtain ⟨xs, n, _, _, hl, hxs, hf⟩ := DataW.trod_struct Try.underlying34 h
  rw [Try.cellsAct] at hl
  obtain ⟨c0, c1, c2, c3, c4, rfl⟩ := list5 hl
  have hxs' : xs.length = 5 := hxs
  have g0 := hf 0 _ rfl
  have g1 := hf 1 _ rfl
  have g2 := hf 2 _ rfl
  have g3 := hf 3 _ rfl
  have g4 := hf 4 _ rfl
  simp only [List.getElem_toArray, List.getElem_cons_zero, List.getElem_cons_succ, Try.cellsByte, Try.cellsInt, Try.cellsBytes, List.drop_zero, List.drop_succ_cons, List.take_succ_cons, List.take_zero] at g0 g1 g2 g3 g4
  rw [List.getElem?_eq_getElem (by omega)] at g0 g1 g2 g3 g4
  obtain ⟨k, e0, _, w0⟩ := DataW.trod_int Try.underlying5 g0
  obtain ⟨f, e1, _, w1⟩ := DataW.trod_int Try.underlying5 g1
  obtain ⟨t, e2, _, w2⟩ := DataW.trod_int Try.underlying5 g2
  obtain ⟨i, e3, _, w3⟩ := DataW.trod_int Try.underlying3 g3
  obtain ⟨a, c, l, e4, hb⟩ := open_bytes Try.underlying32 Try.underlying5 Try.cellsByte g4
  simp only [List.cons.injEq, and_true] at e0 e1 e2 e3 e4
  subst e0; subst e1; subst e2; subst e3; subst e4
  have b0 := bounds_u8 w0
  have b1 := bounds_u8 w1
  have b2 := bounds_u8 w2
  have b3 := bounds_i64 w3
  exact ⟨⟨k, f, t, i, a, c, l⟩, rfl, ⟨hb, b0.1, b0.2, b1.1, b1.2, b2.1, b2.2, b3.1, b3.2⟩⟩

def acells (l : List AM) : List Value := l.flatMap AM.cells
theorem acells_length (l : List AM) : (acells l).length = l.length * 5 := by
  induction l with
  | nil => rfl
  | cons m l ih => simp only [acells, List.flatMap_cons, List.length_append] at *; simp [ih, AM.cells]; omega
theorem acells_get (l : List AM) (i : Nat) (m : AM) (h : l[i]? = some m) : ∀ j v, m.cells[j]? = some v → (acells l)[i * 5 + j]? = some v := by
  induction l generalizing i with
  | nil => simp at h
  | cons x l ih =>
    intro j v hj
    have e : acells (x :: l) = x.cells ++ acells l := by simp [acells]
    have e5 : x.cells.length = 5 := rfl
    cases i with
    | zero =>
      simp at h; subst h
      have hlt := (List.getElem?_eq_some_iff.1 hj).1
      rw [e, Nat.zero_mul, Nat.zero_add, List.getElem?_append_left hlt]; exact hj
    | succ i =>
      have h' : l[i]? = some m := by simpa using h
      rw [e, List.getElem?_append_right (by omega), e5, show (i + 1) * 5 + j - 5 = i * 5 + j by omega]
      exact ih i h' j v hj

/-- A slice of acts that came in. -/
structure InA (W : World) (a : Option Addr) (c : Nat) (l : List AM) : Prop where
  rd : ∀ (i : Nat) (m : AM), l[i]? = some m → ∃ b o, a = some ⟨b, o, none⟩ ∧ ∀ j v, m.cells[j]? = some v → W.cell? ⟨b, o + i * 5 + j, none⟩ = some v
  each : ∀ m ∈ l, m.In W
  nil : a = none → c = 0
  le : l.length ≤ c
  max : c ≤ maxLen
theorem InA.kept {W W' : World} {a : Option Addr} {c : Nat} {l : List AM} (h : InA W a c l) (k : Kept No W W') : InA W' a c l :=
  ⟨fun i m hm => let ⟨b, o, e, hc⟩ := h.rd i m hm; ⟨b, o, e, fun j v hj => (k.cell (World.block_lt_of_cell? W _ (hc j v hj)) id).trans (hc j v hj)⟩, fun m hm => (h.each m hm).kept k, h.nil, h.le, h.max⟩

theorem open_acts (h : DataW.trod enc Try.prog W 0 (fun _ => true) true fuel 22 cs = some x) : ∃ a c l, cs = [.slice a l.length c] ∧ InA W a c l := by
  rcases DataW.trod_slice Try.underlying22 h with ⟨hcs, _⟩ | ⟨a, len, cap, elems, rest, n, _, hcs, _, _, hl, hm, hlen, hel, _⟩
  · exact ⟨none, 0, [], hcs, ⟨fun i m hm => by simp at hm, fun m hm => by simp at hm, fun _ => rfl, Nat.le_refl _, by simp [maxLen]⟩⟩
  · have key : ∀ i, i < len → ∃ m : AM, m.In W ∧ ∀ j v, m.cells[j]? = some v → W.cell? (a.add (i * 5 + j)) = some v := by
      intro i hi
      have := hel i hi
      rw [List.getElem?_eq_getElem (by omega), Try.cellsAct, Option.bind_eq_some_iff] at this
      obtain ⟨ds, hds, hd⟩ := this
      obtain ⟨m, rfl, hin⟩ := open_act hd
      refine ⟨m, hin, fun j v hj => ?_⟩
      have hj5 : j < 5 := (List.getElem?_eq_some_iff.1 hj).1
      unfold World.cells? at hds
      rw [if_pos (Nat.zero_le _)] at hds
      have h1 := mapM_some_get hds j j (by simp [hj5])
      rw [hj] at h1
      have hadd : (a.add (i * 5)).add j = a.add (i * 5 + j) := by
        unfold Addr.add
        by_cases h0 : i * 5 = 0
        · simp [h0]
        · by_cases h2 : j = 0
          · simp [h2]
          · simp [h0, h2, Nat.add_assoc]
      rw [← hadd]; exact h1
    obtain ⟨l, hll, hl2⟩ : ∃ l : List AM, l.length = len ∧ ∀ (i : Nat) (m : AM), l[i]? = some m → m.In W ∧ ∀ j v, m.cells[j]? = some v → W.cell? (a.add (i * 5 + j)) = some v := by
      refine ⟨(List.finRange len).map fun i => Classical.choose (key i.1 i.2), by simp, fun i m hm => ?_⟩
      rw [List.getElem?_map] at hm
      have hi : i < len := by
        rcases Nat.lt_or_ge i len with h | h
        · exact h
        · rw [List.getElem?_eq_none (by simpa using h)] at hm; cases hm
      rw [List.getElem?_eq_getElem (by simpa using hi)] at hm
      simp at hm
      have := Classical.choose_spec (key i hi)
      rw [hm] at this
      exact this
    have hspot : ∀ (i : Nat) (m : AM), l[i]? = some m → ∃ u, W.cell? (a.add 0) = some u := by
      intro i m hm
      have h0 : 0 < l.length := by have := (List.getElem?_eq_some_iff.1 hm).1; omega
      exact ⟨_, (hl2 0 l[0] (by simp [h0])).2 0 _ rfl⟩
    refine ⟨some a, cap, l, by rw [hcs, hll], ⟨fun i m hm => ?_, fun m hm => ?_, fun h => (nomatch h), by omega, hm⟩⟩
    · obtain ⟨b, o, rfl, _⟩ := add_cell ((hl2 i m hm).2 0 _ rfl) (hspot i m hm)
      refine ⟨b, o, rfl, fun j v hj => ?_⟩
      obtain ⟨b', o', e, hc⟩ := add_cell ((hl2 i m hm).2 j v hj) (hspot i m hm)
      cases e
      rw [Nat.add_assoc]; exact hc
    · obtain ⟨i, hi⟩ := List.getElem?_of_mem hm
      exact (hl2 i m hi).1
end
end Go.Proofs.Ytdolddgmemlofaa
