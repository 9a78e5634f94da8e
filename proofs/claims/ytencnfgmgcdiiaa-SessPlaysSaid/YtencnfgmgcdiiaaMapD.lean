/- A map with byte keys, as what the kit's laws on a range over a map ask for. -/
import Derived.Test.YtencnfgmgcdiiaaMapC
import Derived.Test.YtencnfgmgcdiiaaMaps
import Derived.Maps.Range
import Derived.Sort.KeysCollected
namespace Go.PM
open Go.RowKit Go.Maps Go.MapKept Go.WideElems

/-- Every value reads as one and the same literal: of a range over keys nothing else is asked. -/
def R0 : Value → Option (DataW Nat × List MemPlace) := fun _ => some (.lit (.bool true), [])
def ekB (k : UInt8) : Value := .int .u8 k.toNat

theorem MapR.owns {P : Program} {kt : TypeId} {ν : Type} {ev : ν → Value} {w : World} {b : Nat} {D : List (UInt8 × ν)} (hk : P.underlying kt = some (.int .u8)) (h : MapR w b ekB ev D) (hl : D.length ≤ maxLen) :
    ∃ DM : DataW Nat, w.ownsMap P kt R0 b D.length DM ∧ ∀ c : UInt8, has DM (.int .u8 c.toNat) = true ↔ c ∈ D.map (·.1) := by
  obtain ⟨es, clock, h1, h2, h3⟩ := h
  have hsz : es.size = D.length := by simpa using congrArg List.length h2
  have hkeys : es.toList.map (·.key) = D.map (fun p => ekB p.1) := by
    have := congrArg (List.map Prod.fst) h2
    simpa [List.map_map, Function.comp_def] using this
  have hall : ∀ x ∈ es.toList, ∃ p ∈ D, x.key = ekB p.1 := by
    intro x hx
    have : x.key ∈ es.toList.map (·.key) := List.mem_map.2 ⟨x, hx, rfl⟩
    rw [hkeys] at this
    obtain ⟨p, hp, e⟩ := List.mem_map.1 this
    exact ⟨p, hp, e.symm⟩
  have hrd : ∀ x ∈ es.toList, ∀ p : UInt8 × ν, x.key = ekB p.1 → rd P kt R0 x = some (.int .u8 p.1.toNat, .lit (.bool true)) := by
    intro x _ p e
    unfold rd
    rw [e, show keyOf P kt (ekB p.1) = some (.int .u8 p.1.toNat) from keyOf_int_mk hk (wf_byte p.1)]
    rfl
  refine ⟨_, ⟨es, clock, h1, ⟨by omega, h3, fun x hx => ?_⟩, by omega, rfl⟩, fun c => ?_⟩
  · obtain ⟨p, _, e⟩ := hall x hx
    exact ⟨_, hrd x hx p e⟩
  · rw [has_eq, List.any_eq_true]
    constructor
    · rintro ⟨y, hy, hs⟩
      obtain ⟨x, hx, rfl⟩ := List.mem_map.1 (mem_sorted.1 hy)
      obtain ⟨p, hp, e⟩ := hall x hx
      rw [rg_of (hrd x hx p e)] at hs
      have : p.1 = c := by
        have h' : (p.1.toNat : Int) = c.toNat := by simpa [Lit.sameKey] using hs
        exact UInt8.toNat_inj.1 (by omega)
      exact List.mem_map.2 ⟨p, hp, this⟩
    · intro hc
      obtain ⟨p, hp, rfl⟩ := List.mem_map.1 hc
      have : ekB p.1 ∈ es.toList.map (·.key) := by rw [hkeys]; exact List.mem_map.2 ⟨p, hp, rfl⟩
      obtain ⟨x, hx, e⟩ := List.mem_map.1 this
      refine ⟨_, mem_sorted.2 (List.mem_map.2 ⟨x, hx, rfl⟩), ?_⟩
      rw [rg_of (hrd x hx p e)]
      simp [Lit.sameKey]
end Go.PM
