/- Maps with keys and values of any encoding: the raw block, its entries as a list, the operations on it. Over any program. -/
import Derived.MapKept
import Derived.ChangeMaps4
import Derived.WideMake
import Derived.Test.YtencnfgmgcdiiaaMem
namespace Go.PM
open Go.RowKit Go.MapKept

/-- How keys of type kt, encoded by enc, are checked, found and kept. -/
structure KeyOf (P : Program) (kt : TypeId) {κ : Type} (enc : κ → Value) : Prop where
  inj : ∀ a b, enc a = enc b → a = b
  check : ∀ (w : World) e k, (Instr.checkKey e 10000 kt (enc k)).run P w = .ok () w
  none : ∀ (w : World) k (l : List MapEntry), (∀ x ∈ l, ∃ a, x.key = enc a ∧ a ≠ k) → (Instr.findKey kt (enc k) l).run P w = .ok none w
  some : ∀ (w : World) k (l : List MapEntry) j e, (∀ x ∈ l, ∃ a, x.key = enc a) → (l.map (·.key)).Nodup → l[j]? = some e → e.key = enc k → (Instr.findKey kt (enc k) l).run P w = .ok (some (j, e.val)) w
  stays : ∀ (w : World) k, (Instr.keyThatStays (enc k) (enc k)).run P w = .ok (enc k) w

section pure
variable {κ ν : Type} [DecidableEq κ]
/-- The value at k. -/
def getK (D : List (κ × ν)) (k : κ) : Option ν := (D.find? (fun p => p.1 = k)).map (·.2)
/-- The value at k laid anew: in its place, or at the end. -/
def putK : List (κ × ν) → κ → ν → List (κ × ν)
  | [], k, v => [(k, v)]
  | p :: D, k, v => if p.1 = k then (k, v) :: D else p :: putK D k v
/-- k taken out. -/
def delK (D : List (κ × ν)) (k : κ) : List (κ × ν) := D.filter (fun p => p.1 ≠ k)

@[simp] theorem getK_nil (k : κ) : getK ([] : List (κ × ν)) k = none := rfl
theorem getK_cons (p : κ × ν) (D : List (κ × ν)) (k : κ) : getK (p :: D) k = if p.1 = k then some p.2 else getK D k := by
  by_cases h : p.1 = k <;> simp [getK, h]
theorem getK_put (D : List (κ × ν)) (k : κ) (v : ν) (j : κ) : getK (putK D k v) j = if j = k then some v else getK D j := by
  induction D with
  | nil => simp [putK, getK_cons, eq_comm]
  | cons p D ih =>
    by_cases h : p.1 = k
    · simp only [putK, h, if_true, getK_cons]
      by_cases e : k = j
      · simp [e]
      · simp [e, Ne.symm e]
    · simp only [putK, h, if_false, getK_cons, ih]
      by_cases e : p.1 = j
      · subst e; simp [h]
      · simp [e]
theorem getK_del (D : List (κ × ν)) (k j : κ) : getK (delK D k) j = if j = k then none else getK D j := by
  induction D with
  | nil => simp [delK]
  | cons p D ih =>
    by_cases h : p.1 = k
    · have : delK (p :: D) k = delK D k := by simp [delK, h]
      rw [this, ih, getK_cons]
      by_cases e : j = k
      · simp [e]
      · simp [e, show ¬ p.1 = j from fun h' => e (h'.symm.trans h)]
    · have : delK (p :: D) k = p :: delK D k := by simp [delK, h]
      rw [this, getK_cons, getK_cons, ih]
      by_cases e : p.1 = j
      · subst e; simp [h]
      · simp [e]
theorem getK_none {D : List (κ × ν)} {k : κ} : getK D k = none ↔ ∀ p ∈ D, p.1 ≠ k := by
  simp [getK]
theorem getK_some {D : List (κ × ν)} (hD : (D.map (·.1)).Nodup) {k : κ} {v : ν} : getK D k = some v ↔ (k, v) ∈ D := by
  induction D with
  | nil => simp
  | cons p D ih =>
    simp only [List.map_cons, List.nodup_cons] at hD
    rw [getK_cons]
    by_cases h : p.1 = k
    · subst h
      simp only [if_true, Option.some.injEq, List.mem_cons]
      constructor
      · rintro rfl; exact .inl rfl
      · rintro (h | h)
        · rw [← h]
        · exact absurd (List.mem_map.2 ⟨_, h, rfl⟩) hD.1
    · rw [if_neg h, ih hD.2, List.mem_cons]
      constructor
      · exact .inr
      · rintro (rfl | h')
        · exact absurd rfl h
        · exact h'
theorem putK_new {D : List (κ × ν)} {k : κ} {v : ν} (h : ∀ p ∈ D, p.1 ≠ k) : putK D k v = D ++ [(k, v)] := by
  induction D with
  | nil => rfl
  | cons p D ih => simp [putK, h p (.head _), ih fun q hq => h q (.tail _ hq)]
theorem putK_old {D : List (κ × ν)} {k : κ} {v v0 : ν} {j : Nat} (hD : (D.map (·.1)).Nodup) (h : D[j]? = some (k, v0)) : putK D k v = D.set j (k, v) := by
  induction D generalizing j with
  | nil => simp at h
  | cons p D ih =>
    simp only [List.map_cons, List.nodup_cons] at hD
    cases j with
    | zero =>
      simp only [List.getElem?_cons_zero, Option.some.injEq] at h
      subst h; simp [putK]
    | succ j =>
      simp only [List.getElem?_cons_succ] at h
      have hne : p.1 ≠ k := fun e => hD.1 (List.mem_map.2 ⟨_, List.mem_of_getElem? h, e.symm⟩)
      simp [putK, hne, ih hD.2 h]
theorem delK_old {D : List (κ × ν)} {k : κ} {v0 : ν} {j : Nat} (hD : (D.map (·.1)).Nodup) (h : D[j]? = some (k, v0)) : delK D k = D.eraseIdx j := by
  induction D generalizing j with
  | nil => simp at h
  | cons p D ih =>
    simp only [List.map_cons, List.nodup_cons] at hD
    cases j with
    | zero =>
      simp only [List.getElem?_cons_zero, Option.some.injEq] at h
      subst h
      have : ∀ q ∈ D, q.1 ≠ k := fun q hq e => hD.1 (List.mem_map.2 ⟨_, hq, e⟩)
      simp only [List.eraseIdx_cons_zero, delK, ne_eq, not_true_eq_false, decide_false, Bool.false_eq_true, not_false_eq_true, List.filter_cons_of_neg]
      exact List.filter_eq_self.2 fun q hq => by simpa using this q hq
    | succ j =>
      simp only [List.getElem?_cons_succ] at h
      have hne : p.1 ≠ k := fun e => hD.1 (List.mem_map.2 ⟨_, List.mem_of_getElem? h, e.symm⟩)
      have : delK (p :: D) k = p :: delK D k := by simp [delK, hne]
      rw [this, ih hD.2 h, List.eraseIdx_cons_succ]
theorem delK_new {D : List (κ × ν)} {k : κ} (h : ∀ p ∈ D, p.1 ≠ k) : delK D k = D :=
  List.filter_eq_self.2 fun q hq => by simpa using h q hq
theorem length_putK_le (D : List (κ × ν)) (k : κ) (v : ν) : (putK D k v).length ≤ D.length + 1 := by
  induction D with
  | nil => simp [putK]
  | cons p D ih => by_cases h : p.1 = k <;> simp [putK, h, ih]
end pure

section
variable {P : Program} {κ ν : Type} {ek : κ → Value} {ev : ν → Value} {w w' : World} {b : Nat} {D : List (κ × ν)} {mt kt et : TypeId}

/-- Block b is a map with the entries D, in the order in which they came. -/
def MapR (w : World) (b : Nat) (ek : κ → Value) (ev : ν → Value) (D : List (κ × ν)) : Prop :=
  ∃ es clock, w.heap[b]? = some (.map es clock) ∧ es.toList.map (fun e => (e.key, e.val)) = D.map (fun p => (ek p.1, ev p.2)) ∧ Stamped es clock

theorem MapR.lt (h : MapR w b ek ev D) : b < w.heap.size := by obtain ⟨es, clock, h, _⟩ := h; exact lt_of_heap h
theorem MapR.kept {S : Nat → Prop} (h : MapR w b ek ev D) (k : Kept S w w') (hn : ¬ S b) : MapR w' b ek ev D := by
  have hlt := h.lt
  obtain ⟨es, clock, h1, h2, h3⟩ := h
  exact ⟨es, clock, (k.block b hlt hn).trans h1, h2, h3⟩
theorem MapR.new (w : World) (ek : κ → Value) (ev : ν → Value) : MapR (w.alloc (.map #[] 0)) w.heap.size ek ev [] :=
  ⟨#[], 0, (heap_alloc w _).1, rfl, stamped_empty 0⟩

theorem MapR.keys (_K : KeyOf P kt ek) {es : Array MapEntry} {clock : Nat} (h2 : es.toList.map (fun e => (e.key, e.val)) = D.map (fun p => (ek p.1, ev p.2))) (h3 : Stamped es clock) :
    es.toList.map (·.key) = D.map (fun p => ek p.1) ∧ (D.map (·.1)).Nodup := by
  have e1 : es.toList.map (·.key) = D.map (fun p => ek p.1) := by
    have := congrArg (List.map Prod.fst) h2
    simpa [List.map_map, Function.comp_def] using this
  refine ⟨e1, ?_⟩
  have := h3.2.2
  rw [e1] at this
  rw [List.Nodup, List.pairwise_map] at this ⊢
  exact this.imp fun h e => h (congrArg ek e)
theorem MapR.nodup (K : KeyOf P kt ek) (h : MapR w b ek ev D) : (D.map (·.1)).Nodup := by
  obtain ⟨es, clock, h1, h2, h3⟩ := h
  exact (MapR.keys K h2 h3).2

theorem entry_at {es : Array MapEntry} (h2 : es.toList.map (fun e => (e.key, e.val)) = D.map (fun p => (ek p.1, ev p.2))) {j : Nat} {p : κ × ν} (h : D[j]? = some p) :
    ∃ e, es.toList[j]? = some e ∧ e.key = ek p.1 ∧ e.val = ev p.2 := by
  have := congrArg (·[j]?) h2
  simp only [List.getElem?_map, h, Option.map_some] at this
  cases he : es.toList[j]? with
  | none => simp [he] at this
  | some e => simp only [he, Option.map_some, Option.some.injEq, Prod.mk.injEq] at this; exact ⟨e, rfl, this.1, this.2⟩

theorem setBlock_kept (w : World) (b : Nat) (o : Obj) : Kept (· = b) w (ChangeMaps.setBlock w b o) := by
  refine ⟨rfl, rfl, rfl, by simp [ChangeMaps.setBlock], fun k hk hn => ?_⟩
  show (w.heap.setIfInBounds b o)[k]? = _
  rw [Array.getElem?_setIfInBounds_ne (Ne.symm hn)]

section
variable [DecidableEq κ]
theorem MapR.find (K : KeyOf P kt ek) {es : Array MapEntry} {clock : Nat} (h2 : es.toList.map (fun e => (e.key, e.val)) = D.map (fun p => (ek p.1, ev p.2))) (h3 : Stamped es clock) (w : World) (k : κ) :
    (getK D k = none ∧ (∀ p ∈ D, p.1 ≠ k) ∧ (∀ x ∈ es.toList, x.key ≠ ek k) ∧ (Instr.findKey kt (ek k) es.toList).run P w = .ok none w) ∨
    ∃ j v e, getK D k = some v ∧ D[j]? = some (k, v) ∧ es.toList[j]? = some e ∧ e.key = ek k ∧ (Instr.findKey kt (ek k) es.toList).run P w = .ok (some (j, ev v)) w := by
  obtain ⟨e1, hD⟩ := MapR.keys K h2 h3
  have hall : ∀ x ∈ es.toList, ∃ p ∈ D, x.key = ek p.1 := by
    intro x hx
    have : x.key ∈ es.toList.map (·.key) := List.mem_map.2 ⟨x, hx, rfl⟩
    rw [e1] at this
    obtain ⟨p, hp, e⟩ := List.mem_map.1 this
    exact ⟨p, hp, e.symm⟩
  cases hg : getK D k with
  | none =>
    have hn := getK_none.1 hg
    refine .inl ⟨rfl, hn, ?_, K.none w k _ ?_⟩
    · intro x hx e
      obtain ⟨p, hp, e'⟩ := hall x hx
      exact hn p hp (K.inj _ _ (e'.symm.trans e))
    · intro x hx
      obtain ⟨p, hp, e'⟩ := hall x hx
      exact ⟨p.1, e', hn p hp⟩
  | some v =>
    obtain ⟨j, hj⟩ := List.getElem?_of_mem ((getK_some hD).1 hg)
    obtain ⟨e, he, hk, hv⟩ := entry_at h2 hj
    refine .inr ⟨j, v, e, rfl, hj, he, hk, ?_⟩
    rw [← show e.val = ev v from hv]
    exact K.some w k _ j e (fun x hx => let ⟨p, _, e'⟩ := hall x hx; ⟨p.1, e'⟩) h3.2.2 he hk

theorem MapR.look (K : KeyOf P kt ek) (h : MapR w b ek ev D) (ht : P.underlying mt = some (.map kt et)) {z : ν} (hz : (zeroValue et).run P w = .ok (ev z) w) (k : κ) :
    (Instr.lookup mt (.map (some b)) (ek k) false).run P w = .ok (ev ((getK D k).getD z)) w := by
  obtain ⟨es, clock, hb, h2, h3⟩ := h
  rcases MapR.find K h2 h3 w k with ⟨hg, _, _, hf⟩ | ⟨j, v, e, hg, _, _, _, hf⟩
  · simp [Instr.lookup, run_underlying ht, MapKept.run_getObj_map hb, K.check, hf, hz, hg, Result.andThen]
  · simp [Instr.lookup, run_underlying ht, MapKept.run_getObj_map hb, K.check, hf, hg, Result.andThen]
theorem MapR.look_ok (K : KeyOf P kt ek) (h : MapR w b ek ev D) (ht : P.underlying mt = some (.map kt et)) {z : ν} (hz : (zeroValue et).run P w = .ok (ev z) w) (k : κ) :
    (Instr.lookup mt (.map (some b)) (ek k) true).run P w = .ok (.tuple #[ev ((getK D k).getD z), .bool (getK D k).isSome]) w := by
  obtain ⟨es, clock, hb, h2, h3⟩ := h
  rcases MapR.find K h2 h3 w k with ⟨hg, _, _, hf⟩ | ⟨j, v, e, hg, _, _, _, hf⟩
  · simp [Instr.lookup, run_underlying ht, MapKept.run_getObj_map hb, K.check, hf, hz, hg, Result.andThen]
  · simp [Instr.lookup, run_underlying ht, MapKept.run_getObj_map hb, K.check, hf, hg, Result.andThen]

theorem MapR.update (K : KeyOf P kt ek) (h : MapR w b ek ev D) (ht : P.underlying mt = some (.map kt et)) (k : κ) (v : ν) :
    ∃ w', (Instr.mapUpdate mt (.map (some b)) (ek k) (ev v)).run P w = .ok () w' ∧ MapR w' b ek ev (putK D k v) ∧ Kept (· = b) w w' := by
  obtain ⟨es, clock, hb, h2, h3⟩ := h
  rcases MapR.find K h2 h3 w k with ⟨hg, hn, hx, hf⟩ | ⟨j, v0, e, hg, hj, he, hk, hf⟩
  · refine ⟨ChangeMaps.setBlock w b (.map (es.push ⟨ek k, ev v, clock⟩) (clock + 1)), ?_, ⟨_, _, (heap_set hb).1, ?_, stamped_push h3 hx⟩, setBlock_kept _ _ _⟩
    · simp [Instr.mapUpdate, run_underlying ht, MapKept.run_getObj_map hb, K.check, hf, MapKept.run_setObj_map _ hb, Result.andThen, ChangeMaps.setBlock]
    · rw [putK_new hn]; simp [h2]
  · have hj' : es[j]? = some e := by simpa using he
    have hkf : ∀ e', es[j]? = some e' → ({ e' with key := ek k, val := ev v } : MapEntry).key = e'.key := fun e' he' => by rw [hj'] at he'; cases he'; exact hk.symm
    refine ⟨ChangeMaps.setBlock w b (.map (es.modify j fun e' => { e' with key := ek k, val := ev v }) clock), ?_, ⟨_, _, (heap_set hb).1, ?_, stamped_modify h3 _ _ (fun _ _ => rfl) (fun e' _ he' => hkf e' he')⟩, setBlock_kept _ _ _⟩
    · simp [Instr.mapUpdate, run_underlying ht, MapKept.run_getObj_map hb, K.check, hf, hj', hk, K.stays, MapKept.run_setObj_map _ hb, Result.andThen, ChangeMaps.setBlock]
    · rw [putK_old (MapR.keys K h2 h3).2 hj, Array.toList_modify, ChangeMaps.modify_eq_set _ _ _ _ he, List.map_set, List.map_set, h2]

theorem MapR.delete (K : KeyOf P kt ek) (h : MapR w b ek ev D) (ht : P.underlying mt = some (.map kt et)) (ty : TypeId) (k : κ) :
    ∃ w', (Builtin.delete_ #[mt, kt] ty #[.map (some b), ek k]).run P w = .ok (.tuple #[]) w' ∧ MapR w' b ek ev (delK D k) ∧ Kept (· = b) w w' := by
  obtain ⟨es, clock, hb, h2, h3⟩ := h
  rcases MapR.find K h2 h3 w k with ⟨hg, hn, hx, hf⟩ | ⟨j, v0, e, hg, hj, he, hk, hf⟩
  · refine ⟨ChangeMaps.setBlock w b (.map es clock), ?_, ⟨_, _, (heap_set hb).1, ?_, h3⟩, setBlock_kept _ _ _⟩
    · simp [Builtin.delete_, run_underlying ht, MapKept.run_getObj_map hb, K.check, hf, MapKept.run_setObj_map _ hb, Result.andThen, ChangeMaps.setBlock]
    · rw [delK_new hn]; exact h2
  · have hjs : j < es.size := by simpa using (List.getElem?_eq_some_iff.1 he).1
    have hsub : (es.eraseIdxIfInBounds j).toList = es.toList.eraseIdx j := by
      unfold Array.eraseIdxIfInBounds
      rw [dif_pos hjs]; simp
    refine ⟨ChangeMaps.setBlock w b (.map (es.eraseIdxIfInBounds j) clock), ?_, ⟨_, _, (heap_set hb).1, ?_, stamped_erase h3 j⟩, setBlock_kept _ _ _⟩
    · simp [Builtin.delete_, run_underlying ht, MapKept.run_getObj_map hb, K.check, hf, MapKept.run_setObj_map _ hb, Result.andThen, ChangeMaps.setBlock]
    · rw [delK_old (MapR.keys K h2 h3).2 hj, hsub, ChangeMaps.map_eraseIdx, ChangeMaps.map_eraseIdx, h2]

end

theorem MapR.len (h : MapR w b ek ev D) (ht : P.underlying mt = some (.map kt et)) (ty : TypeId) :
    (Builtin.len_ #[mt] ty #[.map (some b)]).run P w = .ok (.int .i64 D.length) w := by
  obtain ⟨es, clock, hb, h2, h3⟩ := h
  have hl : es.size = D.length := by simpa using congrArg List.length h2
  simp [Builtin.len_, run_underlying ht, MapKept.run_getObj_map hb, hl, goInt, Result.andThen]

/-- Keys that are numbers, strings or booleans. -/
theorem keyOf_plain {d : TypeDesc} (hd : P.underlying kt = some d) (hk : ∀ k, IsKey d (ek k)) (hi : ∀ a b, ek a = ek b → a = b) : KeyOf P kt ek where
  inj := hi
  check w e k := run_checkKey hd (hk k) e 9999
  none w k l h := by
    rcases findNow_spec (hk k) l 0 (fun x hx => by obtain ⟨a, ha, _⟩ := h x hx; rw [ha]; exact hk a) with ⟨h1, _⟩ | ⟨j, e, _, h2, h3⟩
    · exact run_findKey hd h1
    · obtain ⟨a, ha, hne⟩ := h e (List.mem_of_getElem? h2)
      exact absurd (hi _ _ (ha.symm.trans h3)) hne
  some w k l j e h hn he hk' := by
    rcases findNow_spec (hk k) l 0 (fun x hx => by obtain ⟨a, ha⟩ := h x hx; rw [ha]; exact hk a) with ⟨_, h2⟩ | ⟨j', e', h1, h2, h3⟩
    · exact absurd hk' (h2 e (List.mem_of_getElem? he))
    · have : j' = j := by
        have a1 : (l.map (·.key))[j']? = some (ek k) := by simp [h2, h3]
        have a2 : (l.map (·.key))[j]? = some (ek k) := by simp [he, hk']
        exact (List.getElem?_inj (List.getElem?_eq_some_iff.1 a1).1 hn).1 (a1.trans a2.symm)
      subst this
      rw [h2] at he; cases he
      rw [Nat.zero_add] at h1
      exact run_findKey hd h1
  stays w k := run_keyThatStays (hk k)
end
end Go.PM
