/- Slices of structs that came in, of any kind of element. Helper lemmas alone, over any program. -/
import Derived.Test.YtencnfgmgcdiiaaArgs
namespace Go.PM
open Go.ChangeShapes Go.WideShapes Go.ChangeAt Go.RowKit

/-- A slice that came in: k cells an element. -/
structure InS {E : Type} (k : Nat) (cells : E → List Value) (good : World → E → Prop) (W : World) (a : Option Addr) (c : Nat) (l : List E) : Prop where
  rd : ∀ (i : Nat) (m : E), l[i]? = some m → ∃ b o, a = some ⟨b, o, none⟩ ∧ ∀ j v, (cells m)[j]? = some v → W.cell? ⟨b, o + i * k + j, none⟩ = some v
  each : ∀ m ∈ l, good W m
  nil : a = none → c = 0
  le : l.length ≤ c
  max : c ≤ maxLen

section
variable {E : Type} {k : Nat} {cells : E → List Value} {good : World → E → Prop}
theorem InS.kept {W W' : World} {a : Option Addr} {c : Nat} {l : List E} (h : InS k cells good W a c l) (hg : ∀ m ∈ l, good W' m) (kp : Kept No W W') : InS k cells good W' a c l :=
  ⟨fun i m hm => let ⟨b, o, e, hc⟩ := h.rd i m hm; ⟨b, o, e, fun j v hj => (kp.cell (World.block_lt_of_cell? W _ (hc j v hj)) id).trans (hc j v hj)⟩, hg, h.nil, h.le, h.max⟩
theorem InS.take {W : World} {a : Option Addr} {c : Nat} {l : List E} (h : InS k cells good W a c l) (n : Nat) : InS k cells good W a c (l.take n) :=
  ⟨fun i m hm => h.rd i m (by rw [List.getElem?_take] at hm; split at hm; exact hm; exact (nomatch hm)), fun m hm => h.each m (List.mem_of_mem_take hm), h.nil,
    by have := h.le; rw [List.length_take]; omega, h.max⟩

theorem open_slice {H : Type} {enc : TypeId × Value → H} {P : Program} {W : World} {fuel : Nat} {x : DataW H × List MemPlace} {cs : List Value} {t e : TypeId}
    (ht : P.underlying t = some (.slice e)) (hk : P.cellsOf e = k) (hk0 : 0 < k) (hlen : ∀ m, (cells m).length = k)
    (hel : ∀ {fuel : Nat} {x : DataW H × List MemPlace} {ds : List Value}, DataW.trod enc P W 0 (fun _ => true) true fuel e ds = some x → ∃ m, ds = cells m ∧ good W m)
    (h : DataW.trod enc P W 0 (fun _ => true) true fuel t cs = some x) : ∃ a c l, cs = [.slice a l.length c] ∧ InS k cells good W a c l := by
  rcases DataW.trod_slice ht h with ⟨hcs, _⟩ | ⟨a, len, cap, elems, rest, n, _, hcs, _, _, hl, hm, hle, hel', _⟩
  · exact ⟨none, 0, [], hcs, ⟨fun i m hm => by simp at hm, fun m hm => by simp at hm, fun _ => rfl, Nat.le_refl _, by simp [maxLen]⟩⟩
  · have key : ∀ i, i < len → ∃ m : E, good W m ∧ ∀ j v, (cells m)[j]? = some v → W.cell? (a.add (i * k + j)) = some v := by
      intro i hi
      have := hel' i hi
      rw [List.getElem?_eq_getElem (by omega), hk, Option.bind_eq_some_iff] at this
      obtain ⟨ds, hds, hd⟩ := this
      obtain ⟨m, rfl, hin⟩ := hel hd
      refine ⟨m, hin, fun j v hj => ?_⟩
      have hjk : j < k := by have := (List.getElem?_eq_some_iff.1 hj).1; rw [hlen] at this; exact this
      unfold World.cells? at hds
      rw [if_pos (Nat.zero_le _)] at hds
      have h1 := mapM_some_get hds j j (by simp [hjk])
      rw [hj] at h1
      have hadd : (a.add (i * k)).add j = a.add (i * k + j) := by
        unfold Addr.add
        by_cases h0 : i * k = 0
        · simp [h0]
        · by_cases h2 : j = 0
          · simp [h2]
          · simp [h0, h2, Nat.add_assoc]
      rw [← hadd]; exact h1
    obtain ⟨l, hll, hl2⟩ : ∃ l : List E, l.length = len ∧ ∀ (i : Nat) (m : E), l[i]? = some m → good W m ∧ ∀ j v, (cells m)[j]? = some v → W.cell? (a.add (i * k + j)) = some v := by
      refine ⟨(List.finRange len).map fun i => Classical.choose (key i.1 i.2), by simp, fun i m hm => ?_⟩
      rw [List.getElem?_map] at hm
      have hi : i < len := by
        rcases Nat.lt_or_ge i len with h | h
        · exact h
        · rw [List.getElem?_eq_none (by simpa using h)] at hm; cases hm
      rw [List.getElem?_eq_getElem (by simpa using hi)] at hm
      simp at hm
      have := Classical.choose_spec (key i hi)
      rw [hm] at this
      exact this
    have hfirst : ∀ m : E, ∃ v, (cells m)[0]? = some v := fun m => ⟨(cells m)[0]'(by rw [hlen]; exact hk0), by rw [List.getElem?_eq_getElem]⟩
    have hspot : ∀ (i : Nat) (m : E), l[i]? = some m → ∃ u, W.cell? (a.add 0) = some u := by
      intro i m hm
      have h0 : 0 < l.length := by have := (List.getElem?_eq_some_iff.1 hm).1; omega
      obtain ⟨v, hv⟩ := hfirst l[0]
      have := (hl2 0 l[0] (by simp [h0])).2 0 v hv
      simp only [Nat.zero_mul, Nat.add_zero] at this
      exact ⟨_, this⟩
    refine ⟨some a, cap, l, by rw [hcs, hll], ⟨fun i m hm => ?_, fun m hm => ?_, fun h => (nomatch h), by omega, hm⟩⟩
    · obtain ⟨v, hv⟩ := hfirst m
      obtain ⟨b, o, rfl, _⟩ := add_cell ((hl2 i m hm).2 0 v hv) (hspot i m hm)
      refine ⟨b, o, rfl, fun j v hj => ?_⟩
      obtain ⟨b', o', e, hc⟩ := add_cell ((hl2 i m hm).2 j v hj) (hspot i m hm)
      cases e
      rw [Nat.add_assoc]; exact hc
    · obtain ⟨i, hi⟩ := List.getElem?_of_mem hm
      exact (hl2 i m hi).1
end

/-- A slice of whole numbers that came in. -/
structure InI (k : IntKind) (W : World) (a : Option Addr) (c : Nat) (l : List Int) : Prop where
  rd : Rd W a (l.map (.int k))
  wf : ∀ n ∈ l, (Lit.int k n).wf = true
  nil : a = none → c = 0
  le : l.length ≤ c
  max : c ≤ maxLen
theorem InI.kept {k : IntKind} {W W' : World} {a : Option Addr} {c : Nat} {l : List Int} (h : InI k W a c l) (kp : Kept No W W') : InI k W' a c l := ⟨h.rd.keptNo kp, h.wf, h.nil, h.le, h.max⟩
theorem InI.at {k : IntKind} {W : World} {a : Option Addr} {c : Nat} {l : List Int} (h : InI k W a c l) {i : Nat} {n : Int} (hi : l[i]? = some n) : ∃ b o, a = some ⟨b, o, none⟩ ∧ W.cell? ⟨b, o + i, none⟩ = some (.int k n) ∧ (Lit.int k n).wf = true := by
  obtain ⟨b, o, e, hc⟩ := h.rd i (.int k n) (by simp [hi])
  exact ⟨b, o, e, hc, h.wf n (List.mem_of_getElem? hi)⟩

theorem open_intl {H : Type} {enc : TypeId × Value → H} {P : Program} {W : World} {fuel : Nat} {x : DataW H × List MemPlace} {cs : List Value} {t e : TypeId} {k : IntKind}
    (ht : P.underlying t = some (.slice e)) (he : P.underlying e = some (.int k)) (hc : P.cellsOf e = 1) (h : DataW.trod enc P W 0 (fun _ => true) true fuel t cs = some x) :
    ∃ a c l, cs = [.slice a l.length c] ∧ InI k W a c l := by
  rcases open_ints ht he hc h with ⟨hcs, _⟩ | ⟨a, len, cap, zs, hcs, _, hl, hm, hz, _, hcell, hwf⟩
  · exact ⟨none, 0, [], hcs, Rd.nil _ _, fun n hn => by simp at hn, fun _ => rfl, Nat.le_refl _, by simp [maxLen]⟩
  · simp at hz
    refine ⟨some a, cap, zs.take len, by rw [hcs]; simp; omega, rd_ofCells ?_, fun n hn => hwf n (List.mem_of_mem_take hn), fun h => (nomatch h), by simp; omega, hm⟩
    intro j v hj
    rw [List.getElem?_map, List.getElem?_take] at hj
    split at hj
    · rename_i hjl
      have hjz : j < zs.length := by omega
      have := hcell j hjz
      rw [this]
      simp [hjz] at hj
      rw [← hj]; simp [List.getD, hjz]
    · simp at hj
end Go.PM
