/- What a configuration is, and which one may be. Helper lemmas alone. -/
import Derived.Test.YtjfmidcaekhhgaaGreatDoorBase
import Derived.Test.YtjfmidcaekhhgaaGreatDoorAvP
import Derived.Test.YtjfmidcaekhhgaaGreatDoorRows
namespace Go.PM
theorem Kept.above {S : Nat → Prop} {w w' w'' : World} (h : Kept No w w') (k : Kept S w' w'') (hS : ∀ b, S b → w.heap.size ≤ b) : Kept No w w'' :=
  h.trans k fun b hb hs => absurd (hS b hs) (by omega)
end Go.PM
namespace Go.Proofs.YtjfmidcaekhhgaaGreatDoor
open Go.RowKit Go.PM

/-- The byte at a place, as a number; 0 where there is none. -/
def vsOf (l : List UInt8) (n : Nat) : Nat := (l.getD n 0).toNat
theorem vsOf_lt (l : List UInt8) (k : Nat) : vsOf l k < 256 := UInt8.toNat_lt _
theorem upcell (u : List UInt8) {k : Nat} (hk : k < u.length) : (bcells u)[k]? = some (.int .u8 (vsOf u k)) := by
  rw [bcells_get u k hk]
  simp [vsOf, List.getD_eq_getElem?_getD, hk]

/-- A configuration as the machine holds it. -/
def cfgc (e r v : Nat) (l : List UInt8) : List Value := .int .u32 e :: .int .u8 r :: .int .u8 v :: bcells l
theorem cfgc_votes (e r v : Nat) (l : List UInt8) {k : Nat} (hk : k < l.length) : (cfgc e r v l)[3 + k]? = some (.int .u8 (vsOf l k)) := by
  rw [show 3 + k = k + 1 + 1 + 1 by omega]
  simp only [cfgc, List.getElem?_cons_succ]
  rw [bcells_get l k hk]
  simp [vsOf, List.getD_eq_getElem?_getD, hk]

def OfRel (_w : World) (ws : World) (l : List UInt8) (set : Nat) (n i : Value) (wr : World) : Prop :=
  ∃ k : Nat, k ≤ 8 ∧ n = .int .i64 (avOf (vsOf l) k set) ∧ i = .int .i64 k ∧ wr = ws

theorem avOf_le (l : List UInt8) (k set : Nat) : avOf (vsOf l) k set ≤ 255 * k := by
  induction k with
  | zero => exact Nat.le_refl _
  | succ k ih =>
    unfold avOf
    have := vsOf_lt l k
    split <;> omega

theorem list8 (l : List UInt8) (hl : l.length = 8) : ∃ a b c d e f g h, l = [a, b, c, d, e, f, g, h] := by
  match l, hl with
  | [a, b, c, d, e, f, g, h], _ => exact ⟨a, b, c, d, e, f, g, h, rfl⟩
theorem cfg_eq (e r v : Nat) (l : List UInt8) (hl : l.length = 8) : #[Value.int .u32 e, .int .u8 r, .int .u8 v, .int .u8 (vsOf l 0), .int .u8 (vsOf l 1), .int .u8 (vsOf l 2), .int .u8 (vsOf l 3), .int .u8 (vsOf l 4), .int .u8 (vsOf l 5), .int .u8 (vsOf l 6), .int .u8 (vsOf l 7)] = (cfgc e r v l).toArray := by
  obtain ⟨a, b, c, d, e, f, g, h, rfl⟩ := list8 l hl
  rfl
theorem up_eq (l : List UInt8) (hl : l.length = 8) : #[Value.int .u8 (vsOf l 0), .int .u8 (vsOf l 1), .int .u8 (vsOf l 2), .int .u8 (vsOf l 3), .int .u8 (vsOf l 4), .int .u8 (vsOf l 5), .int .u8 (vsOf l 6), .int .u8 (vsOf l 7)] = (bcells l).toArray := by
  obtain ⟨a, b, c, d, e, f, g, h, rfl⟩ := list8 l hl
  rfl
theorem cfg_cells {w : World} {b : Nat} {T : TypeId} {e r v : Nat} {l : List UInt8} (hb : Blk w b T (cfgc e r v l)) (hl : l.length = 8) :
    w.cell? ⟨b, 0, none⟩ = some (.int .u32 e) ∧ w.cell? ⟨b, 1, none⟩ = some (.int .u8 r) ∧ w.cell? ⟨b, 2, none⟩ = some (.int .u8 v) ∧ w.cell? ⟨b, 3, none⟩ = some (.int .u8 (vsOf l 0)) ∧ w.cell? ⟨b, 4, none⟩ = some (.int .u8 (vsOf l 1)) ∧ w.cell? ⟨b, 5, none⟩ = some (.int .u8 (vsOf l 2)) ∧ w.cell? ⟨b, 6, none⟩ = some (.int .u8 (vsOf l 3)) ∧ w.cell? ⟨b, 7, none⟩ = some (.int .u8 (vsOf l 4)) ∧ w.cell? ⟨b, 8, none⟩ = some (.int .u8 (vsOf l 5)) ∧ w.cell? ⟨b, 9, none⟩ = some (.int .u8 (vsOf l 6)) ∧ w.cell? ⟨b, 10, none⟩ = some (.int .u8 (vsOf l 7)) := by
  obtain ⟨a, b, c, d, e, f, g, h, rfl⟩ := list8 l hl
  refine ⟨hb.cell 0, hb.cell 1, hb.cell 2, hb.cell 3, hb.cell 4, hb.cell 5, hb.cell 6, hb.cell 7, hb.cell 8, hb.cell 9, hb.cell 10⟩
theorem up_cells {w : World} {b : Nat} {T : TypeId} {l : List UInt8} (hb : Blk w b T (bcells l)) (hl : l.length = 8) :
    w.cell? ⟨b, 0, none⟩ = some (.int .u8 (vsOf l 0)) ∧ w.cell? ⟨b, 1, none⟩ = some (.int .u8 (vsOf l 1)) ∧ w.cell? ⟨b, 2, none⟩ = some (.int .u8 (vsOf l 2)) ∧ w.cell? ⟨b, 3, none⟩ = some (.int .u8 (vsOf l 3)) ∧ w.cell? ⟨b, 4, none⟩ = some (.int .u8 (vsOf l 4)) ∧ w.cell? ⟨b, 5, none⟩ = some (.int .u8 (vsOf l 5)) ∧ w.cell? ⟨b, 6, none⟩ = some (.int .u8 (vsOf l 6)) ∧ w.cell? ⟨b, 7, none⟩ = some (.int .u8 (vsOf l 7)) := by
  obtain ⟨a, b, c, d, e, f, g, h, rfl⟩ := list8 l hl
  exact ⟨hb.cell 0, hb.cell 1, hb.cell 2, hb.cell 3, hb.cell 4, hb.cell 5, hb.cell 6, hb.cell 7⟩

/-- Votes of no node are more than may be. -/
def vOk (l : List UInt8) : Bool := l.all fun x => x.toNat ≤ 15
/-- A configuration that may be. -/
def avMay (e r v : Nat) (l : List UInt8) : Bool :=
  vOk l && decide (1 ≤ e ∧ e ≤ 2147483647 ∧ 1 ≤ r ∧ 1 ≤ v ∧ r ≤ avOf (vsOf l) 8 255 ∧ v ≤ avOf (vsOf l) 8 255 ∧ avOf (vsOf l) 8 255 < r + v ∧ avOf (vsOf l) 8 255 < 2 * v)
theorem vOk_le {u : List UInt8} (h : vOk u = true) (k : Nat) : vsOf u k ≤ 15 := by
  unfold vsOf
  rw [List.getD_eq_getElem?_getD]
  unfold vOk at h
  simp only [List.all_eq_true, decide_eq_true_eq] at h
  cases e : u[k]? with
  | none => simp
  | some x => exact h x (List.mem_of_getElem? e)
theorem vOk_step {u : List UInt8} {k : Nat} (hk : k < u.length) (h : vOk (u.take k) = true) : vOk (u.take (k + 1)) = decide (vsOf u k ≤ 15) := by
  rw [List.take_succ_eq_append_getElem hk]
  unfold vOk at *
  rw [List.all_append, h]
  simp [vsOf, List.getD_eq_getElem?_getD, hk]

theorem avMay_no {e r v : Nat} {l : List UInt8} (h : ¬ (1 ≤ e ∧ e ≤ 2147483647 ∧ 1 ≤ r ∧ 1 ≤ v ∧ r ≤ avOf (vsOf l) 8 255 ∧ v ≤ avOf (vsOf l) 8 255 ∧ avOf (vsOf l) 8 255 < r + v ∧ avOf (vsOf l) 8 255 < 2 * v)) : avMay e r v l = false := by
  unfold avMay
  rw [decide_eq_false h, Bool.and_false]

end Go.Proofs.YtjfmidcaekhhgaaGreatDoor
