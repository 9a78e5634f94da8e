/- What the arguments of package parrellaw07's laws read as: acts. -/
import Derived.Test.YtdolddgmemlofaaRows
import Derived.Test.YtdolddgmemlofaaArgsS
import Derived.Test.YtdolddgmemlofaaDiskP
namespace Go.Proofs.Ytdolddgmemlofaa
open Go.ChangeShapes Go.WideShapes Go.ChangeAt Go.RowKit Go.PM

theorem Try.cellsDAct : Try.prog.cellsOf 83 = 4 := by kernel_rfl
theorem Try.dcellsByte : Try.prog.cellsOf 5 = 1 := by kernel_rfl
theorem Try.dcellsInt : Try.prog.cellsOf 3 = 1 := by kernel_rfl
theorem Try.dcellsBool : Try.prog.cellsOf 4 = 1 := by kernel_rfl
theorem Try.dcellsBytes : Try.prog.cellsOf 32 = 1 := by kernel_rfl
theorem Try.dcellsU16 : Try.prog.cellsOf 68 = 1 := by kernel_rfl

theorem list4 {α : Type} {l : List α} (h : l.length = 4) : ∃ a b c d, l = [a, b, c, d] := by
  match l, h with
  | [a, b, c, d], _ => exact ⟨a, b, c, d, rfl⟩

/-- An act in memory. -/
structure DM where
  m : DAct
  a : Option Addr
  c : Nat
def DM.cells (x : DM) : List Value := [.int .u8 x.m.kind, .int .i64 x.m.n, .slice x.a x.m.b.length x.c, .bool x.m.cut]
structure DM.In (W : World) (x : DM) : Prop where
  b : InB W x.a x.c x.m.b
  k0 : 0 ≤ x.m.kind
  k1 : x.m.kind ≤ 255
  n0 : -9223372036854775808 ≤ x.m.n
  n1 : x.m.n ≤ 9223372036854775807
theorem DM.In.kept {W W' : World} {x : DM} (h : x.In W) (k : Kept No W W') : x.In W' := { h with b := h.b.kept k }

/-- A slice of acts that came in. -/
def InD (W : World) (a : Option Addr) (c : Nat) (l : List DM) : Prop := InS 4 DM.cells (fun W m => DM.In W m) W a c l
theorem InD.kept {W W' : World} {a : Option Addr} {c : Nat} {l : List DM} (h : InD W a c l) (k : Kept No W W') : InD W' a c l := InS.kept h (fun m hm => (h.each m hm).kept k) k

section
variable {H : Type} {enc : TypeId × Value → H} {W : World} {fuel : Nat} {x : DataW H × List MemPlace} {cs : List Value}

theorem open_dact (h : DataW.trod enc Try.prog W 0 (fun _ => true) true fuel 83 cs = some x) : ∃ m : DM, cs = m.cells ∧ m.In W := by
  obtain ⟨xs, n, _, _, hl, hxs, hf⟩ := DataW.trod_struct Try.underlying83 h
  rw [Try.cellsDAct] at hl
  obtain ⟨c0, c1, c2, c3, rfl⟩ := list4 hl
  have hxs' : xs.length = 4 := hxs
  have g0 := hf 0 _ rfl
  have g1 := hf 1 _ rfl
  have g2 := hf 2 _ rfl
  have g3 := hf 3 _ rfl
  simp only [List.getElem_toArray, List.getElem_cons_zero, List.getElem_cons_succ, Try.dcellsByte, Try.dcellsInt, Try.dcellsBytes, Try.dcellsBool, List.drop_zero, List.drop_succ_cons, List.take_succ_cons, List.take_zero] at g0 g1 g2 g3
  rw [List.getElem?_eq_getElem (by omega)] at g0 g1 g2 g3
  obtain ⟨k, e0, _, w0⟩ := DataW.trod_int Try.underlying5 g0
  obtain ⟨i, e1, _, w1⟩ := DataW.trod_int Try.underlying3 g1
  obtain ⟨a, c, l, e2, hb⟩ := open_bytes Try.underlying32 Try.underlying5 Try.dcellsByte g2
  obtain ⟨b, e3, _⟩ := DataW.trod_bool Try.underlying4 g3
  simp only [List.cons.injEq, and_true] at e0 e1 e2 e3
  subst e0; subst e1; subst e2; subst e3
  have b0 := bounds_u8 w0
  have b1 := bounds_i64 w1
  exact ⟨⟨⟨k, i, l, b⟩, a, c⟩, rfl, ⟨hb, b0.1, b0.2, b1.1, b1.2⟩⟩

theorem open_dacts (h : DataW.trod enc Try.prog W 0 (fun _ => true) true fuel 79 cs = some x) : ∃ a c l, cs = [.slice a l.length c] ∧ InD W a c l :=
  open_slice Try.underlying79 Try.cellsDAct (by decide) (fun _ => rfl) (fun h => open_dact h) h
end
end Go.Proofs.Ytdolddgmemlofaa
