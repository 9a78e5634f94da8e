/- Maps from bytes that a call makes: to bool, to int. Over any program. -/
import Derived.Maps.Own
import Derived.Maps.OwnOps
import Derived.Maps.Views
import Derived.Test.YtencnfgmgcdiiaaMem
namespace Go.PM
open Go.RowKit Go.Maps

section
variable {P : Program} {kt et mt : TypeId} {w w' : World} {b : Nat}

theorem plainElem_bool_inv {H : Type} {e : TypeId} (he : P.underlying e = some .bool) {v : Value} {z : DataW H × List MemPlace} (h : plainElem P e v = some z) : ∃ a, v = .bool a ∧ z = (.lit (.bool a), []) := by
  unfold plainElem at h
  rw [he] at h
  cases v <;> simp at h
  exact ⟨_, rfl, h.symm⟩

/-- Block b is a map from bytes to bool that answers f, with at most n entries. -/
def MapB (w : World) (P : Program) (kt et : TypeId) (b n : Nat) (f : UInt8 → Bool) : Prop :=
  ∃ D : DataW Nat, w.ownsMap P kt (plainElem P et) b n D ∧ IsMap D ∧ ∀ k : UInt8, D.atKey (.int .u8 k.toNat) (.lit (.bool false)) = .lit (.bool (f k))
/-- .. and to int. -/
def MapI (w : World) (P : Program) (kt et : TypeId) (b n : Nat) (f : UInt8 → Int) : Prop :=
  ∃ D : DataW Nat, w.ownsMap P kt (plainElem P et) b n D ∧ IsMap D ∧ ∀ k : UInt8, D.atKey (.int .u8 k.toNat) (.lit (.int .i64 0)) = .lit (.int .i64 (f k))

theorem wf_byte (k : UInt8) : (Lit.int .u8 (k.toNat : Int)).wf = true := by
  have := k.toNat_lt
  have h0 : IntKind.u8.min = 0 := rfl
  have h1 : IntKind.u8.max = 255 := rfl
  simp [Lit.wf, h0, h1]; omega

theorem ownsMap_heap {H : Type} {R : Value → Option (DataW H × List MemPlace)} {n : Nat} {D : DataW H} (h : w.ownsMap P kt R b n D) (e : w'.heap[b]? = w.heap[b]?) : w'.ownsMap P kt R b n D := by
  obtain ⟨es, clock, hb, F, hs, hD⟩ := h
  exact ⟨es, clock, e.trans hb, F, hs, hD⟩
theorem ownsMap_lt {H : Type} {R : Value → Option (DataW H × List MemPlace)} {n : Nat} {D : DataW H} (h : w.ownsMap P kt R b n D) : b < w.heap.size := by
  obtain ⟨es, clock, hb, _⟩ := h
  exact lt_of_heap hb
theorem MapB.lt {n : Nat} {f : UInt8 → Bool} (h : MapB w P kt et b n f) : b < w.heap.size := let ⟨_, h, _⟩ := h; ownsMap_lt h
theorem MapI.lt {n : Nat} {f : UInt8 → Int} (h : MapI w P kt et b n f) : b < w.heap.size := let ⟨_, h, _⟩ := h; ownsMap_lt h
theorem MapB.kept {S : Nat → Prop} {n : Nat} {f : UInt8 → Bool} (h : MapB w P kt et b n f) (k : Kept S w w') (hn : ¬ S b) : MapB w' P kt et b n f :=
  let ⟨D, h1, h2, h3⟩ := h; ⟨D, ownsMap_heap h1 (k.block b (ownsMap_lt h1) hn), h2, h3⟩
theorem MapI.kept {S : Nat → Prop} {n : Nat} {f : UInt8 → Int} (h : MapI w P kt et b n f) (k : Kept S w w') (hn : ¬ S b) : MapI w' P kt et b n f :=
  let ⟨D, h1, h2, h3⟩ := h; ⟨D, ownsMap_heap h1 (k.block b (ownsMap_lt h1) hn), h2, h3⟩
theorem MapB.new (w : World) (P : Program) (kt et : TypeId) : MapB (w.alloc (.map #[] 0)) P kt et w.heap.size 0 fun _ => false :=
  ⟨.map [], World.ownsMap_made _ _ _ _, isMap_empty, fun _ => rfl⟩
theorem MapI.new (w : World) (P : Program) (kt et : TypeId) : MapI (w.alloc (.map #[] 0)) P kt et w.heap.size 0 fun _ => 0 :=
  ⟨.map [], World.ownsMap_made _ _ _ _, isMap_empty, fun _ => rfl⟩

theorem MapB.look {n : Nat} {f : UInt8 → Bool} (h : MapB w P kt et b n f) (hk : P.underlying kt = some (.int .u8)) (he : P.underlying et = some .bool) (ht : P.underlying mt = some (.map kt et)) (hz : (zeroValue et).run P w = .ok (.bool false) w) (k : UInt8) :
    (Instr.lookup mt (.map (some b)) (.int .u8 k.toNat) false).run P w = .ok (.bool (f k)) w := by
  obtain ⟨D, h1, h2, h3⟩ := h
  obtain ⟨v, ps, hrun, hv⟩ := h1.lookup (int_keyed hk) ht hz (plainElem_bool he false) (keyOf_int_mk hk (wf_byte k))
  obtain ⟨c, rfl, hc⟩ := plainElem_bool_inv he hv
  simp only [Prod.mk.injEq] at hc
  rw [h3 k] at hc
  simp only [DataW.lit.injEq, Lit.bool.injEq] at hc
  rw [hrun, hc.1]

theorem MapI.look {n : Nat} {f : UInt8 → Int} (h : MapI w P kt et b n f) (hk : P.underlying kt = some (.int .u8)) (he : P.underlying et = some (.int .i64)) (ht : P.underlying mt = some (.map kt et)) (hz : (zeroValue et).run P w = .ok (.int .i64 0) w) (k : UInt8) :
    (Instr.lookup mt (.map (some b)) (.int .u8 k.toNat) false).run P w = .ok (.int .i64 (f k)) w := by
  obtain ⟨D, h1, h2, h3⟩ := h
  obtain ⟨c, hrun, hc, _⟩ := h1.lookup_int (int_keyed hk) ht he hz (keyOf_int_mk hk (wf_byte k))
  rw [h3 k] at hc
  simp only [DataW.lit.injEq, Lit.int.injEq, true_and] at hc
  rw [hrun, hc]

theorem grown_kept {w w' : World} {b : Nat} (h : w.grownBy w' (some b)) : Kept (· = b) w w' := Kept.ofGrown h fun k e => by simpa using e.symm

theorem byte_ne {j k : UInt8} (h : j ≠ k) : (Lit.int .u8 (j.toNat : Int)) ≠ Lit.int .u8 (k.toNat : Int) := by
  intro e
  simp only [Lit.int.injEq, true_and] at e
  exact h (UInt8.toNat_inj.1 (by omega))

theorem MapB.put {n : Nat} {f : UInt8 → Bool} (h : MapB w P kt et b n f) (hk : P.underlying kt = some (.int .u8)) (he : P.underlying et = some .bool) (ht : P.underlying mt = some (.map kt et)) (hn : n < maxLen) (k : UInt8) (v : Bool) :
    ∃ w', (Instr.mapUpdate mt (.map (some b)) (.int .u8 k.toNat) (.bool v)).run P w = .ok () w' ∧ MapB w' P kt et b (n + 1) (fun j => if j = k then v else f j) ∧ Kept (· = b) w w' := by
  obtain ⟨D, h1, h2, h3⟩ := h
  obtain ⟨w', hrun, ho, hg⟩ := h1.update (int_keyed hk) ht hn (keyOf_int_mk hk (wf_byte k)) (plainElem_bool he v)
  refine ⟨w', hrun, ⟨_, ho, h2.put _ _, fun j => ?_⟩, grown_kept hg⟩
  show _ = DataW.lit (.bool (if j = k then v else f j))
  by_cases e : j = k
  · subst e; rw [if_pos rfl, atKey_put_same h2 (show WideAt.IsKeyLit (Lit.int .u8 _) from trivial)]
  · rw [if_neg e, atKey_put_other (byte_ne e), h3 j]

theorem MapI.put {n : Nat} {f : UInt8 → Int} (h : MapI w P kt et b n f) (hk : P.underlying kt = some (.int .u8)) (he : P.underlying et = some (.int .i64)) (ht : P.underlying mt = some (.map kt et)) (hn : n < maxLen) (k : UInt8) (v : Int) (hv : (Lit.int .i64 v).wf = true) :
    ∃ w', (Instr.mapUpdate mt (.map (some b)) (.int .u8 k.toNat) (.int .i64 v)).run P w = .ok () w' ∧ MapI w' P kt et b (n + 1) (fun j => if j = k then v else f j) ∧ Kept (· = b) w w' := by
  obtain ⟨D, h1, h2, h3⟩ := h
  obtain ⟨w', hrun, ho, hg⟩ := h1.update (int_keyed hk) ht hn (keyOf_int_mk hk (wf_byte k)) (plainElem_int he hv)
  refine ⟨w', hrun, ⟨_, ho, h2.put _ _, fun j => ?_⟩, grown_kept hg⟩
  show _ = DataW.lit (.int .i64 (if j = k then v else f j))
  by_cases e : j = k
  · subst e; rw [if_pos rfl, atKey_put_same h2 (show WideAt.IsKeyLit (Lit.int .u8 _) from trivial)]
  · rw [if_neg e, atKey_put_other (byte_ne e), h3 j]
end
end Go.PM
