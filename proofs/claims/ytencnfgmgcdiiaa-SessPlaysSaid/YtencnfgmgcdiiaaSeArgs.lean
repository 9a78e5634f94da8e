/- What the arguments of package parrellaw22's laws read as: acts. -/
import Derived.Test.YtencnfgmgcdiiaaSeJ
import Derived.Test.YtencnfgmgcdiiaaArgsS
namespace Go.Proofs.Ytencnfgmgcdiiaa
open Go.ChangeShapes Go.WideShapes Go.ChangeAt Go.RowKit Go.PM
set_option maxRecDepth 100000

theorem Try.cellsSAct : Try.prog.cellsOf 35 = 9 := by kernel_rfl
theorem Try.cellsSAns : Try.prog.cellsOf 33 = 6 := by kernel_rfl
theorem Try.cellsTx : Try.prog.cellsOf 31 = 3 := by kernel_rfl
theorem Try.scellsByte : Try.prog.cellsOf 5 = 1 := by kernel_rfl
theorem Try.scellsU32 : Try.prog.cellsOf 28 = 1 := by kernel_rfl
theorem Try.scellsErr : Try.prog.cellsOf 29 = 1 := by kernel_rfl
theorem Try.scellsStr : Try.prog.cellsOf 9 = 1 := by kernel_rfl

/-- An answer's numbers are in range. -/
structure _root_.Go.PM.PA.In (a : PA) : Prop where
  w0 : -9223372036854775808 ≤ a.why
  w1 : a.why ≤ 9223372036854775807
  v0 : 0 ≤ a.ver
  v1 : a.ver < 4294967296
  s : a.val.size ≤ maxLen
/-- An act. -/
structure SA where
  kind : UInt8
  client : UInt8
  seq : Int
  a : PA
def SA.cells (x : SA) : List Value := [.int .u8 x.kind.toNat, .int .u8 x.client.toNat, .int .u32 x.seq, .int .i64 x.a.why, .int .u8 x.a.node, .int .u32 x.a.boot, .int .u32 x.a.num, .string x.a.val, .int .u32 x.a.ver]
structure SA.In (x : SA) : Prop where
  q0 : 0 ≤ x.seq
  q1 : x.seq < 4294967296
  a : x.a.In
def InSA (W : World) (a : Option Addr) (c : Nat) (l : List SA) : Prop := InS 9 SA.cells (fun _ m => m.In) W a c l
theorem InSA.kept {W W' : World} {a : Option Addr} {c : Nat} {l : List SA} (h : InSA W a c l) (k : Kept No W W') : InSA W' a c l := InS.kept h (fun m hm => h.each m hm) k

theorem u8_of {k : Int} (w : (Lit.int .u8 k).wf = true) : ∃ b : UInt8, k = b.toNat := by
  have b0 := bounds_u8 w
  refine ⟨UInt8.ofNat k.toNat, ?_⟩
  rw [UInt8.toNat_ofNat']
  omega

section
variable {H : Type} {enc : TypeId × Value → H} {W : World} {fuel : Nat} {x : DataW H × List MemPlace} {cs : List Value}
theorem open_tx (h : DataW.trod enc Try.prog W 0 (fun _ => true) true fuel 31 cs = some x) : ∃ n b m : Int, cs = [.int .u8 n, .int .u32 b, .int .u32 m] := by
  obtain ⟨xs, n, _, _, hl, hxs, hf⟩ := DataW.trod_struct Try.underlying31 h
  rw [Try.cellsTx] at hl
  have hxs' : xs.length = 3 := hxs
  match cs, hl with
  | [c0, c1, c2], _ =>
  have g0 := hf 0 _ rfl
  have g1 := hf 1 _ rfl
  have g2 := hf 2 _ rfl
  simp only [List.getElem_toArray, List.getElem_cons_zero, List.getElem_cons_succ, Try.scellsByte, Try.scellsU32, List.drop_zero, List.drop_succ_cons, List.take_succ_cons, List.take_zero] at g0 g1 g2
  rw [List.getElem?_eq_getElem (by omega)] at g0 g1 g2
  obtain ⟨k0, e0, _, w0⟩ := DataW.trod_int Try.underlying5 g0
  obtain ⟨k1, e1, _, w1⟩ := DataW.trod_int Try.underlying28 g1
  obtain ⟨k2, e2, _, w2⟩ := DataW.trod_int Try.underlying28 g2
  simp only [List.cons.injEq, and_true] at e0 e1 e2
  subst e0; subst e1; subst e2
  exact ⟨_, _, _, rfl⟩
theorem open_sans (h : DataW.trod enc Try.prog W 0 (fun _ => true) true fuel 33 cs = some x) : ∃ a : PA, cs = a.cells ∧ a.In := by
  obtain ⟨xs, n, _, _, hl, hxs, hf⟩ := DataW.trod_struct Try.underlying33 h
  rw [Try.cellsSAns] at hl
  have hxs' : xs.length = 4 := hxs
  match cs, hl with
  | [c0, c1, c2, c3, c4, c5], _ =>
  have g0 := hf 0 _ rfl
  have g1 := hf 1 _ rfl
  have g2 := hf 2 _ rfl
  have g3 := hf 3 _ rfl
  simp only [List.getElem_toArray, List.getElem_cons_zero, List.getElem_cons_succ, Try.cellsTx, Try.scellsU32, Try.scellsErr, Try.scellsStr, List.drop_zero, List.drop_succ_cons, List.take_succ_cons, List.take_zero] at g0 g1 g2 g3
  rw [List.getElem?_eq_getElem (by omega)] at g0 g1 g2 g3
  obtain ⟨k0, e0, _, w0⟩ := DataW.trod_int Try.underlying29 g0
  obtain ⟨n1, b1, m1, e1⟩ := open_tx g1
  obtain ⟨s, e2, _, w2⟩ := DataW.trod_string Try.underlying9 g2
  obtain ⟨k3, e3, _, w3⟩ := DataW.trod_int Try.underlying28 g3
  simp only [List.cons.injEq, and_true] at e0 e1 e2 e3
  obtain ⟨rfl, rfl, rfl⟩ := e1
  subst e0; subst e2; subst e3
  have b0 := bounds_i64 w0
  have b3 := bounds_u32 w3
  exact ⟨⟨k0, n1, b1, m1, s, k3⟩, rfl, ⟨b0.1, b0.2, b3.1, Int.lt_of_le_of_lt b3.2 (by decide), w2⟩⟩
theorem open_sact (h : DataW.trod enc Try.prog W 0 (fun _ => true) true fuel 35 cs = some x) : ∃ m : SA, cs = m.cells ∧ m.In := by
  obtain ⟨xs, n, _, _, hl, hxs, hf⟩ := DataW.trod_struct Try.underlying35 h
  rw [Try.cellsSAct] at hl
  have hxs' : xs.length = 4 := hxs
  match cs, hl with
  | [c0, c1, c2, c3, c4, c5, c6, c7, c8], _ =>
  have g0 := hf 0 _ rfl
  have g1 := hf 1 _ rfl
  have g2 := hf 2 _ rfl
  have g3 := hf 3 _ rfl
  simp only [List.getElem_toArray, List.getElem_cons_zero, List.getElem_cons_succ, Try.scellsByte, Try.scellsU32, Try.cellsSAns, List.drop_zero, List.drop_succ_cons, List.take_succ_cons, List.take_zero] at g0 g1 g2 g3
  rw [List.getElem?_eq_getElem (by omega)] at g0 g1 g2 g3
  obtain ⟨k0, e0, _, w0⟩ := DataW.trod_int Try.underlying5 g0
  obtain ⟨k1, e1, _, w1⟩ := DataW.trod_int Try.underlying5 g1
  obtain ⟨k2, e2, _, w2⟩ := DataW.trod_int Try.underlying28 g2
  obtain ⟨a, e3, w3⟩ := open_sans g3
  simp only [List.cons.injEq, and_true, PA.cells] at e0 e1 e2 e3
  obtain ⟨rfl, rfl, rfl, rfl, rfl, rfl⟩ := e3
  obtain ⟨d0, rfl⟩ := u8_of w0
  obtain ⟨d1, rfl⟩ := u8_of w1
  subst e0; subst e1; subst e2
  have b2 := bounds_u32 w2
  exact ⟨⟨d0, d1, k2, a⟩, rfl, ⟨b2.1, Int.lt_of_le_of_lt b2.2 (by decide), w3⟩⟩
theorem open_sacts (h : DataW.trod enc Try.prog W 0 (fun _ => true) true fuel 22 cs = some x) : ∃ a c l, cs = [.slice a l.length c] ∧ InSA W a c l :=
  open_slice Try.underlying22 Try.cellsSAct (by decide) (fun _ => rfl) (fun h => open_sact h) h
end
end Go.Proofs.Ytencnfgmgcdiiaa
