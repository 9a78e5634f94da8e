/- What the arguments of these laws read as: bytes. Helper lemmas alone. Slices of structs that came in, of any kind of element. Helper lemmas alone, over any program. Slices of structs that came in, of any kind of element, with what they weigh. Helper lemmas alone, over any program. -/
import Derived.Test.YtjfmidcaekhhgaaGreatDoorBase
import Derived.ProofKit
import Derived.OpenShut
import Derived.SizedLaws
namespace Go.PM
open Go.ChangeShapes Go.WideShapes Go.ChangeAt Go.RowKit

section
variable {H : Type} {enc : TypeId × Value → H} {P : Program} {W : World} {fuel : Nat} {x : DataW H × List MemPlace} {cs : List Value}

theorem bcells_ofInts (zs : List Int) (h : ∀ n ∈ zs, (Lit.int .u8 n).wf = true) : bcells (zs.map fun n => UInt8.ofNat n.toNat) = zs.map (Value.int .u8) := by
  induction zs with
  | nil => rfl
  | cons n zs ih =>
    have hn := h n (by simp)
    have hb : 0 ≤ n ∧ n < 256 := by
      have := bounds_u8 hn
      omega
    have e : ((UInt8.ofNat n.toNat).toNat : Int) = n := by
      rw [UInt8.toNat_ofNat']
      omega
    have ih' := ih fun m hm => h m (by simp [hm])
    simp only [bcells, List.map_cons, List.cons.injEq] at ih' ⊢
    exact ⟨by rw [e], ih'⟩

/-- A slice of bytes that came in. -/
structure InB (W : World) (a : Option Addr) (c : Nat) (l : List UInt8) : Prop where
  rd : Rd W a (bcells l)
  nil : a = none → c = 0
  le : l.length ≤ c
  max : c ≤ maxLen

theorem InB.kept {W' : World} {a : Option Addr} {c : Nat} {l : List UInt8} (h : InB W a c l) (k : Kept No W W') : InB W' a c l := ⟨h.rd.keptNo k, h.nil, h.le, h.max⟩

theorem cell_add {W : World} {a : Addr} {i : Nat} {v : Value} (h : W.cell? (a.add i) = some v) : a.spot = none ∨ i ≠ 0 := by
  by_cases hi : i = 0
  · left
    subst hi
    simp only [Addr.add, if_true] at h
    unfold World.cell? at h
    split at h
    · split at h
      · cases h
      · rename_i hs; simpa using hs
    · cases h
  · exact .inr hi

theorem add_cell {W : World} {a : Addr} {i : Nat} {v : Value} (h : W.cell? (a.add i) = some v) (h0 : ∃ u, W.cell? (a.add 0) = some u) : ∃ b o, a = ⟨b, o, none⟩ ∧ W.cell? ⟨b, o + i, none⟩ = some v := by
  obtain ⟨u, hu⟩ := h0
  have hs : a.spot = none := (cell_add hu).resolve_right (by simp)
  obtain ⟨b, o, s⟩ := a
  simp at hs
  subst hs
  refine ⟨b, o, rfl, ?_⟩
  have e : (⟨b, o, none⟩ : Addr).add i = ⟨b, o + i, none⟩ := by
    unfold Addr.add; split
    · subst_vars; rfl
    · rfl
  rwa [e] at h

theorem rd_ofCells {W : World} {a : Addr} {xs : List Value} (h : ∀ j v, xs[j]? = some v → W.cell? (a.add j) = some v) : Rd W (some a) xs := by
  intro j v hj
  have h0 : ∃ u, W.cell? (a.add 0) = some u := by
    have hlt : 0 < xs.length := by have := (List.getElem?_eq_some_iff.1 hj).1; omega
    exact ⟨xs[0], h 0 _ (by simp [hlt])⟩
  obtain ⟨b, o, rfl, hc⟩ := add_cell (h j v hj) h0
  exact ⟨b, o, rfl, hc⟩

theorem open_bytes {t e : TypeId} (ht : P.underlying t = some (.slice e)) (he : P.underlying e = some (.int .u8)) (hc : P.cellsOf e = 1) (h : DataW.trod enc P W 0 (fun _ => true) true fuel t cs = some x) :
    ∃ a c l, cs = [.slice a l.length c] ∧ InB W a c l := by
  rcases open_ints ht he hc h with ⟨hcs, _⟩ | ⟨a, len, cap, zs, hcs, _, hl, hm, hz, _, hcell, hwf⟩
  · exact ⟨none, 0, [], hcs, Rd.nil _ _, fun _ => rfl, Nat.le_refl _, by simp [maxLen]⟩
  · simp at hz
    refine ⟨some a, cap, (zs.take len).map fun n => UInt8.ofNat n.toNat, by rw [hcs]; simp; omega, rd_ofCells ?_, fun h => (nomatch h), by simp; omega, hm⟩
    rw [bcells_ofInts _ (fun n hn => hwf n (List.mem_of_mem_take hn))]
    intro j v hj
    rw [List.getElem?_map, List.getElem?_take] at hj
    split at hj
    · rename_i hjl
      have hjz : j < zs.length := by omega
      have := hcell j hjz
      rw [this]
      simp [hjz] at hj
      rw [← hj]; simp [List.getD, hjz]
    · simp at hj
end
end Go.PM

namespace Go.PM
open Go.ChangeShapes Go.WideShapes Go.ChangeAt Go.RowKit

/-- A slice that came in: k cells an element. -/
structure InS {E : Type} (k : Nat) (cells : E → List Value) (good : World → E → Prop) (W : World) (a : Option Addr) (c : Nat) (l : List E) : Prop where
  rd : ∀ (i : Nat) (m : E), l[i]? = some m → ∃ b o, a = some ⟨b, o, none⟩ ∧ ∀ j v, (cells m)[j]? = some v → W.cell? ⟨b, o + i * k + j, none⟩ = some v
  each : ∀ m ∈ l, good W m
  nil : a = none → c = 0
  le : l.length ≤ c
  max : c ≤ maxLen

section
variable {E : Type} {k : Nat} {cells : E → List Value} {good : World → E → Prop}
theorem InS.kept {W W' : World} {a : Option Addr} {c : Nat} {l : List E} (h : InS k cells good W a c l) (hg : ∀ m ∈ l, good W' m) (kp : Kept No W W') : InS k cells good W' a c l :=
  ⟨fun i m hm => let ⟨b, o, e, hc⟩ := h.rd i m hm; ⟨b, o, e, fun j v hj => (kp.cell (World.block_lt_of_cell? W _ (hc j v hj)) id).trans (hc j v hj)⟩, hg, h.nil, h.le, h.max⟩
theorem InS.take {W : World} {a : Option Addr} {c : Nat} {l : List E} (h : InS k cells good W a c l) (n : Nat) : InS k cells good W a c (l.take n) :=
  ⟨fun i m hm => h.rd i m (by rw [List.getElem?_take] at hm; split at hm; exact hm; exact (nomatch hm)), fun m hm => h.each m (List.mem_of_mem_take hm), h.nil,
    by have := h.le; rw [List.length_take]; omega, h.max⟩

theorem open_slice {H : Type} {enc : TypeId × Value → H} {P : Program} {W : World} {fuel : Nat} {x : DataW H × List MemPlace} {cs : List Value} {t e : TypeId}
    (ht : P.underlying t = some (.slice e)) (hk : P.cellsOf e = k) (hk0 : 0 < k) (hlen : ∀ m, (cells m).length = k)
    (hel : ∀ {fuel : Nat} {x : DataW H × List MemPlace} {ds : List Value}, DataW.trod enc P W 0 (fun _ => true) true fuel e ds = some x → ∃ m, ds = cells m ∧ good W m)
    (h : DataW.trod enc P W 0 (fun _ => true) true fuel t cs = some x) : ∃ a c l, cs = [.slice a l.length c] ∧ InS k cells good W a c l := by
  rcases DataW.trod_slice ht h with ⟨hcs, _⟩ | ⟨a, len, cap, elems, rest, n, _, hcs, _, _, hl, hm, hle, hel', _⟩
  · exact ⟨none, 0, [], hcs, ⟨fun i m hm => by simp at hm, fun m hm => by simp at hm, fun _ => rfl, Nat.le_refl _, by simp [maxLen]⟩⟩
  · have key : ∀ i, i < len → ∃ m : E, good W m ∧ ∀ j v, (cells m)[j]? = some v → W.cell? (a.add (i * k + j)) = some v := by
      intro i hi
      have := hel' i hi
      rw [List.getElem?_eq_getElem (by omega), hk, Option.bind_eq_some_iff] at this
      obtain ⟨ds, hds, hd⟩ := this
      obtain ⟨m, rfl, hin⟩ := hel hd
      refine ⟨m, hin, fun j v hj => ?_⟩
      have hjk : j < k := by have := (List.getElem?_eq_some_iff.1 hj).1; rw [hlen] at this; exact this
      unfold World.cells? at hds
      rw [if_pos (Nat.zero_le _)] at hds
      have h1 := mapM_some_get hds j j (by simp [hjk])
      rw [hj] at h1
      have hadd : (a.add (i * k)).add j = a.add (i * k + j) := by
        unfold Addr.add
        by_cases h0 : i * k = 0
        · simp [h0]
        · by_cases h2 : j = 0
          · simp [h2]
          · simp [h0, h2, Nat.add_assoc]
      rw [← hadd]; exact h1
    obtain ⟨l, hll, hl2⟩ : ∃ l : List E, l.length = len ∧ ∀ (i : Nat) (m : E), l[i]? = some m → good W m ∧ ∀ j v, (cells m)[j]? = some v → W.cell? (a.add (i * k + j)) = some v := by
      refine ⟨(List.finRange len).map fun i => Classical.choose (key i.1 i.2), by simp, fun i m hm => ?_⟩
      rw [List.getElem?_map] at hm
      have hi : i < len := by
        rcases Nat.lt_or_ge i len with h | h
        · exact h
        · rw [List.getElem?_eq_none (by simpa using h)] at hm; cases hm
      rw [List.getElem?_eq_getElem (by simpa using hi)] at hm
      simp at hm
      have := Classical.choose_spec (key i hi)
      rw [hm] at this
      exact this
    have hfirst : ∀ m : E, ∃ v, (cells m)[0]? = some v := fun m => ⟨(cells m)[0]'(by rw [hlen]; exact hk0), by rw [List.getElem?_eq_getElem]⟩
    have hspot : ∀ (i : Nat) (m : E), l[i]? = some m → ∃ u, W.cell? (a.add 0) = some u := by
      intro i m hm
      have h0 : 0 < l.length := by have := (List.getElem?_eq_some_iff.1 hm).1; omega
      obtain ⟨v, hv⟩ := hfirst l[0]
      have := (hl2 0 l[0] (by simp [h0])).2 0 v hv
      simp only [Nat.zero_mul, Nat.add_zero] at this
      exact ⟨_, this⟩
    refine ⟨some a, cap, l, by rw [hcs, hll], ⟨fun i m hm => ?_, fun m hm => ?_, fun h => (nomatch h), by omega, hm⟩⟩
    · obtain ⟨v, hv⟩ := hfirst m
      obtain ⟨b, o, rfl, _⟩ := add_cell ((hl2 i m hm).2 0 v hv) (hspot i m hm)
      refine ⟨b, o, rfl, fun j v hj => ?_⟩
      obtain ⟨b', o', e, hc⟩ := add_cell ((hl2 i m hm).2 j v hj) (hspot i m hm)
      cases e
      rw [Nat.add_assoc]; exact hc
    · obtain ⟨i, hi⟩ := List.getElem?_of_mem hm
      exact (hl2 i m hi).1
end

/-- A slice of whole numbers that came in. -/
structure InI (k : IntKind) (W : World) (a : Option Addr) (c : Nat) (l : List Int) : Prop where
  rd : Rd W a (l.map (.int k))
  wf : ∀ n ∈ l, (Lit.int k n).wf = true
  nil : a = none → c = 0
  le : l.length ≤ c
  max : c ≤ maxLen
theorem InI.kept {k : IntKind} {W W' : World} {a : Option Addr} {c : Nat} {l : List Int} (h : InI k W a c l) (kp : Kept No W W') : InI k W' a c l := ⟨h.rd.keptNo kp, h.wf, h.nil, h.le, h.max⟩
theorem InI.at {k : IntKind} {W : World} {a : Option Addr} {c : Nat} {l : List Int} (h : InI k W a c l) {i : Nat} {n : Int} (hi : l[i]? = some n) : ∃ b o, a = some ⟨b, o, none⟩ ∧ W.cell? ⟨b, o + i, none⟩ = some (.int k n) ∧ (Lit.int k n).wf = true := by
  obtain ⟨b, o, e, hc⟩ := h.rd i (.int k n) (by simp [hi])
  exact ⟨b, o, e, hc, h.wf n (List.mem_of_getElem? hi)⟩

theorem open_intl {H : Type} {enc : TypeId × Value → H} {P : Program} {W : World} {fuel : Nat} {x : DataW H × List MemPlace} {cs : List Value} {t e : TypeId} {k : IntKind}
    (ht : P.underlying t = some (.slice e)) (he : P.underlying e = some (.int k)) (hc : P.cellsOf e = 1) (h : DataW.trod enc P W 0 (fun _ => true) true fuel t cs = some x) :
    ∃ a c l, cs = [.slice a l.length c] ∧ InI k W a c l := by
  rcases open_ints ht he hc h with ⟨hcs, _⟩ | ⟨a, len, cap, zs, hcs, _, hl, hm, hz, _, hcell, hwf⟩
  · exact ⟨none, 0, [], hcs, Rd.nil _ _, fun n hn => by simp at hn, fun _ => rfl, Nat.le_refl _, by simp [maxLen]⟩
  · simp at hz
    refine ⟨some a, cap, zs.take len, by rw [hcs]; simp; omega, rd_ofCells ?_, fun n hn => hwf n (List.mem_of_mem_take hn), fun h => (nomatch h), by simp; omega, hm⟩
    intro j v hj
    rw [List.getElem?_map, List.getElem?_take] at hj
    split at hj
    · rename_i hjl
      have hjz : j < zs.length := by omega
      have := hcell j hjz
      rw [this]
      simp [hjz] at hj
      rw [← hj]; simp [List.getD, hjz]
    · simp at hj
end Go.PM

namespace Go.PM
open Go.ChangeShapes Go.WideShapes Go.ChangeAt Go.RowKit

/-- A datum weighs no more than a machine bears. -/
def Light {H : Type} (P : Program) (t : TypeId) (d : DataW H) : Prop := ∀ n ∈ d.weights P t, n ≤ reachBytes
theorem weights_mem_all {H : Type} {P : Program} {e : TypeId} {d : DataW H} {n : Nat} (hn : n ∈ d.weights P e) : ∀ {ds : List (DataW H)}, d ∈ ds → n ∈ DataW.weightsAll P e ds
  | d0 :: ds, h => by
    simp only [DataW.weightsAll, List.mem_append]
    rcases List.mem_cons.1 h with rfl | h
    · exact .inl hn
    · exact .inr (weights_mem_all hn h)
theorem Light.part {H : Type} {P : Program} {t : TypeId} {fs : Array Field} {parts : List (DataW H)} (ht : P.underlying t = some (.struct fs)) (hz : Light P t (.agg parts)) {j : Nat} {f : Field} {d : DataW H} (hf : fs[j]? = some f) (hd : parts[j]? = some d) : Light P f.type d := by
  intro n hn
  refine hz n ?_
  unfold DataW.weights
  rw [ht]
  exact DataW.weights_mem_each (j := j) (by simp [hf]) hd n hn
theorem Light.str {H : Type} {P : Program} {t : TypeId} {s : List UInt8} (hz : Light P t (.lit (.string s) : DataW H)) : s.length ≤ 140737488351232 := by
  have := hz s.length (by simp [DataW.weights])
  unfold reachBytes at this
  exact this
theorem Light.arg {H : Type} {P : Program} {ts : List TypeId} {ds : List (DataW H)} (h : (DataW.weightsEach P ts ds).all (· ≤ reachBytes) = true) {j : Nat} {t : TypeId} {d : DataW H} (ht : ts[j]? = some t) (hd : ds[j]? = some d) : Light P t d := fun n hn => by
  have := List.all_eq_true.1 h _ (DataW.weights_mem_each ht hd n hn)
  simpa using this

section
variable {E : Type} {k : Nat} {cells : E → List Value} {good : World → E → Prop}
theorem open_slice_z {H : Type} {enc : TypeId × Value → H} {P : Program} {W : World} {fuel : Nat} {x : DataW H × List MemPlace} {cs : List Value} {t e : TypeId}
    (ht : P.underlying t = some (.slice e)) (hk : P.cellsOf e = k) (hk0 : 0 < k) (hlen : ∀ m, (cells m).length = k)
    (hel : ∀ {fuel : Nat} {x : DataW H × List MemPlace} {ds : List Value}, DataW.trod enc P W 0 (fun _ => true) true fuel e ds = some x → Light P e x.1 → ∃ m, ds = cells m ∧ good W m)
    (h : DataW.trod enc P W 0 (fun _ => true) true fuel t cs = some x) (hz : Light P t x.1) : ∃ a c l, cs = [.slice a l.length c] ∧ InS k cells good W a c l := by
  rcases DataW.trod_slice ht h with ⟨hcs, _⟩ | ⟨a, len, cap, elems, rest, n, _, hcs, hx, _, hl, hm, hle, hel', _⟩
  · exact ⟨none, 0, [], hcs, ⟨fun i m hm => by simp at hm, fun m hm => by simp at hm, fun _ => rfl, Nat.le_refl _, by simp [maxLen]⟩⟩
  · have hze : ∀ y ∈ elems, Light P e y.1 := fun y hy n hn => by
      refine hz n ?_
      rw [hx]
      simp only
      unfold DataW.weights
      rw [ht]
      simp only [List.mem_cons, List.mem_append]
      exact .inr (.inl (weights_mem_all hn (List.mem_map_of_mem hy)))
    have key : ∀ i, i < len → ∃ m : E, good W m ∧ ∀ j v, (cells m)[j]? = some v → W.cell? (a.add (i * k + j)) = some v := by
      intro i hi
      have := hel' i hi
      rw [List.getElem?_eq_getElem (by omega), hk, Option.bind_eq_some_iff] at this
      obtain ⟨ds, hds, hd⟩ := this
      obtain ⟨m, rfl, hin⟩ := hel hd (hze _ (List.getElem_mem _))
      refine ⟨m, hin, fun j v hj => ?_⟩
      have hjk : j < k := by have := (List.getElem?_eq_some_iff.1 hj).1; rw [hlen] at this; exact this
      unfold World.cells? at hds
      rw [if_pos (Nat.zero_le _)] at hds
      have h1 := mapM_some_get hds j j (by simp [hjk])
      rw [hj] at h1
      have hadd : (a.add (i * k)).add j = a.add (i * k + j) := by
        unfold Addr.add
        by_cases h0 : i * k = 0
        · simp [h0]
        · by_cases h2 : j = 0
          · simp [h2]
          · simp [h0, h2, Nat.add_assoc]
      rw [← hadd]; exact h1
    obtain ⟨l, hll, hl2⟩ : ∃ l : List E, l.length = len ∧ ∀ (i : Nat) (m : E), l[i]? = some m → good W m ∧ ∀ j v, (cells m)[j]? = some v → W.cell? (a.add (i * k + j)) = some v := by
      refine ⟨(List.finRange len).map fun i => Classical.choose (key i.1 i.2), by simp, fun i m hm => ?_⟩
      rw [List.getElem?_map] at hm
      have hi : i < len := by
        rcases Nat.lt_or_ge i len with h | h
        · exact h
        · rw [List.getElem?_eq_none (by simpa using h)] at hm; cases hm
      rw [List.getElem?_eq_getElem (by simpa using hi)] at hm
      simp at hm
      have := Classical.choose_spec (key i hi)
      rw [hm] at this
      exact this
    have hfirst : ∀ m : E, ∃ v, (cells m)[0]? = some v := fun m => ⟨(cells m)[0]'(by rw [hlen]; exact hk0), by rw [List.getElem?_eq_getElem]⟩
    have hspot : ∀ (i : Nat) (m : E), l[i]? = some m → ∃ u, W.cell? (a.add 0) = some u := by
      intro i m hm
      have h0 : 0 < l.length := by have := (List.getElem?_eq_some_iff.1 hm).1; omega
      obtain ⟨v, hv⟩ := hfirst l[0]
      have := (hl2 0 l[0] (by simp [h0])).2 0 v hv
      simp only [Nat.zero_mul, Nat.add_zero] at this
      exact ⟨_, this⟩
    refine ⟨some a, cap, l, by rw [hcs, hll], ⟨fun i m hm => ?_, fun m hm => ?_, fun h => (nomatch h), by omega, hm⟩⟩
    · obtain ⟨v, hv⟩ := hfirst m
      obtain ⟨b, o, rfl, _⟩ := add_cell ((hl2 i m hm).2 0 v hv) (hspot i m hm)
      refine ⟨b, o, rfl, fun j v hj => ?_⟩
      obtain ⟨b', o', e, hc⟩ := add_cell ((hl2 i m hm).2 j v hj) (hspot i m hm)
      cases e
      rw [Nat.add_assoc]; exact hc
    · obtain ⟨i, hi⟩ := List.getElem?_of_mem hm
      exact (hl2 i m hi).1
/-- How long a slice that came in may be. -/
theorem slice_reach {H : Type} {enc : TypeId × Value → H} {P : Program} {W : World} {fuel : Nat} {x : DataW H × List MemPlace} {t e : TypeId} {a : Option Addr} {n c : Nat} (ht : P.underlying t = some (.slice e)) (hb : 0 < P.bytesOf e)
    (h : DataW.trod enc P W 0 (fun _ => true) true fuel t [.slice a n c] = some x) (hz : Light P t x.1) : n ≤ 140737488351232 := by
  rcases DataW.trod_slice ht h with ⟨hcs, _⟩ | ⟨a, len, cap, elems, rest, m, _, hcs, hx, _, hl, hm, hle, hel', _⟩
  · simp at hcs; omega
  · simp at hcs
    have := hz ((elems.length + rest.length) * P.bytesOf e) (by
      rw [hx]
      simp only
      unfold DataW.weights
      rw [ht]
      simp)
    unfold reachBytes at this
    have h2 : elems.length + rest.length ≤ (elems.length + rest.length) * P.bytesOf e := Nat.le_mul_of_pos_right _ hb
    omega
end
end Go.PM
