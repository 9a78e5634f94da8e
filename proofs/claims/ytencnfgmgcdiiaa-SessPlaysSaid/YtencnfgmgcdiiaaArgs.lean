/- What the arguments of these laws read as: bytes. Helper lemmas alone. -/
import Derived.Test.YtencnfgmgcdiiaaMem
import Derived.ProofKit
import Derived.OpenShut
namespace Go.PM
open Go.ChangeShapes Go.WideShapes Go.ChangeAt Go.RowKit

section
variable {H : Type} {enc : TypeId × Value → H} {P : Program} {W : World} {fuel : Nat} {x : DataW H × List MemPlace} {cs : List Value}

theorem bcells_ofInts (zs : List Int) (h : ∀ n ∈ zs, (Lit.int .u8 n).wf = true) : bcells (zs.map fun n => UInt8.ofNat n.toNat) = zs.map (Value.int .u8) := by
  induction zs with
  | nil => rfl
  | cons n zs ih =>
    have hn := h n (by simp)
    have hb : 0 ≤ n ∧ n < 256 := by
      have := bounds_u8 hn
      omega
    have e : ((UInt8.ofNat n.toNat).toNat : Int) = n := by
      rw [UInt8.toNat_ofNat']
      omega
    have ih' := ih fun m hm => h m (by simp [hm])
    simp only [bcells, List.map_cons, List.cons.injEq] at ih' ⊢
    exact ⟨by rw [e], ih'⟩

/-- A slice of bytes that came in. -/
structure InB (W : World) (a : Option Addr) (c : Nat) (l : List UInt8) : Prop where
  rd : Rd W a (bcells l)
  nil : a = none → c = 0
  le : l.length ≤ c
  max : c ≤ maxLen

theorem InB.kept {W' : World} {a : Option Addr} {c : Nat} {l : List UInt8} (h : InB W a c l) (k : Kept No W W') : InB W' a c l := ⟨h.rd.keptNo k, h.nil, h.le, h.max⟩

theorem cell_add {W : World} {a : Addr} {i : Nat} {v : Value} (h : W.cell? (a.add i) = some v) : a.spot = none ∨ i ≠ 0 := by
  by_cases hi : i = 0
  · left
    subst hi
    simp only [Addr.add, if_true] at h
    unfold World.cell? at h
    split at h
    · split at h
      · cases h
      · rename_i hs; simpa using hs
    · cases h
  · exact .inr hi

theorem add_cell {W : World} {a : Addr} {i : Nat} {v : Value} (h : W.cell? (a.add i) = some v) (h0 : ∃ u, W.cell? (a.add 0) = some u) : ∃ b o, a = ⟨b, o, none⟩ ∧ W.cell? ⟨b, o + i, none⟩ = some v := by
  obtain ⟨u, hu⟩ := h0
  have hs : a.spot = none := (cell_add hu).resolve_right (by simp)
  obtain ⟨b, o, s⟩ := a
  simp at hs
  subst hs
  refine ⟨b, o, rfl, ?_⟩
  have e : (⟨b, o, none⟩ : Addr).add i = ⟨b, o + i, none⟩ := by
    unfold Addr.add; split
    · subst_vars; rfl
    · rfl
  rwa [e] at h

theorem rd_ofCells {W : World} {a : Addr} {xs : List Value} (h : ∀ j v, xs[j]? = some v → W.cell? (a.add j) = some v) : Rd W (some a) xs := by
  intro j v hj
  have h0 : ∃ u, W.cell? (a.add 0) = some u := by
    have hlt : 0 < xs.length := by have := (List.getElem?_eq_some_iff.1 hj).1; omega
    exact ⟨xs[0], h 0 _ (by simp [hlt])⟩
  obtain ⟨b, o, rfl, hc⟩ := add_cell (h j v hj) h0
  exact ⟨b, o, rfl, hc⟩

theorem open_bytes {t e : TypeId} (ht : P.underlying t = some (.slice e)) (he : P.underlying e = some (.int .u8)) (hc : P.cellsOf e = 1) (h : DataW.trod enc P W 0 (fun _ => true) true fuel t cs = some x) :
    ∃ a c l, cs = [.slice a l.length c] ∧ InB W a c l := by
  rcases open_ints ht he hc h with ⟨hcs, _⟩ | ⟨a, len, cap, zs, hcs, _, hl, hm, hz, _, hcell, hwf⟩
  · exact ⟨none, 0, [], hcs, Rd.nil _ _, fun _ => rfl, Nat.le_refl _, by simp [maxLen]⟩
  · simp at hz
    refine ⟨some a, cap, (zs.take len).map fun n => UInt8.ofNat n.toNat, by rw [hcs]; simp; omega, rd_ofCells ?_, fun h => (nomatch h), by simp; omega, hm⟩
    rw [bcells_ofInts _ (fun n hn => hwf n (List.mem_of_mem_take hn))]
    intro j v hj
    rw [List.getElem?_map, List.getElem?_take] at hj
    split at hj
    · rename_i hjl
      have hjz : j < zs.length := by omega
      have := hcell j hjz
      rw [this]
      simp [hjz] at hj
      rw [← hj]; simp [List.getD, hjz]
    · simp at hj
end
end Go.PM
