/- Maps whose keys are structs. Helper lemmas alone, over any program. -/
import Derived.Test.YtencnfgmgcdiiaaMapC
import Derived.Laws.StructEq
namespace Go.PM
open Go.RowKit Go.MapKept

section
variable {P : Program} {κ : Type} [DecidableEq κ] {enc : κ → Value} {kt : TypeId}

theorem run_asking_none (he : ∀ a b (w : World), (Op.equal kt (enc a) (enc b)).run P w = .ok (decide (a = b)) w) (w : World) (k : κ) (l : List MapEntry) (i : Nat) (h : ∀ x ∈ l, ∃ a, x.key = enc a ∧ a ≠ k) :
    (Instr.findAsking kt (enc k) l i).run P w = .ok none w := by
  induction l generalizing i with
  | nil => rfl
  | cons x l ih =>
    obtain ⟨a, ha, hne⟩ := h x (.head _)
    simp only [Instr.findAsking, Sem.run_bind, ha, he, Result.andThen_ok]
    rw [decide_eq_false (fun e => hne e.symm)]
    simp only [Bool.false_eq_true, if_false]
    exact ih (i + 1) fun y hy => h y (.tail _ hy)

theorem run_asking_some (_hi : ∀ a b, enc a = enc b → a = b) (he : ∀ a b (w : World), (Op.equal kt (enc a) (enc b)).run P w = .ok (decide (a = b)) w) (w : World) (k : κ) (l : List MapEntry) (i j : Nat) (e : MapEntry) (h : ∀ x ∈ l, ∃ a, x.key = enc a) (hn : (l.map (·.key)).Nodup)
    (hj : l[j]? = some e) (hk : e.key = enc k) : (Instr.findAsking kt (enc k) l i).run P w = .ok (some (i + j, e.val)) w := by
  induction l generalizing i j with
  | nil => simp at hj
  | cons x l ih =>
    simp only [List.map_cons, List.nodup_cons] at hn
    cases j with
    | zero =>
      simp only [List.getElem?_cons_zero, Option.some.injEq] at hj
      subst hj
      simp only [Instr.findAsking, Sem.run_bind, hk, he, Result.andThen_ok, decide_true, if_true, Nat.add_zero]
      rfl
    | succ j =>
      simp only [List.getElem?_cons_succ] at hj
      obtain ⟨a, ha⟩ := h x (.head _)
      have hne : ¬ k = a := fun e' => hn.1 (List.mem_map.2 ⟨e, List.mem_of_getElem? hj, by rw [hk, ha, e']⟩)
      simp only [Instr.findAsking, Sem.run_bind, ha, he, Result.andThen_ok]
      rw [decide_eq_false hne]
      simp only [Bool.false_eq_true, if_false]
      rw [ih (i + 1) j (fun y hy => h y (.tail _ hy)) hn.2 hj]
      congr 3; omega

theorem keyOf_asking {d : TypeDesc} (hd : P.underlying kt = some d) (hn : ∀ a b, Instr.sameNow d (enc a) (enc b) = none) (hi : ∀ a b, enc a = enc b → a = b)
    (hc : ∀ (w : World) e k, (Instr.checkKey e 10000 kt (enc k)).run P w = .ok () w) (he : ∀ a b (w : World), (Op.equal kt (enc a) (enc b)).run P w = .ok (decide (a = b)) w)
    (hs : ∀ (w : World) k, (Instr.keyThatStays (enc k) (enc k)).run P w = .ok (enc k) w) : KeyOf P kt enc where
  inj := hi
  check := hc
  none w k l h := by
    unfold Instr.findKey
    simp only [Sem.run_bind, run_underlying hd, Result.andThen_ok]
    cases l with
    | nil => rfl
    | cons x l =>
      obtain ⟨a, ha, hne⟩ := h x (.head _)
      have e : Instr.findNow d (enc k) (x :: l) 0 = none := by simp only [Instr.findNow, ha, hn]
      rw [e]
      exact run_asking_none he w k _ 0 h
  some w k l j e h hnd hj hk := by
    unfold Instr.findKey
    simp only [Sem.run_bind, run_underlying hd, Result.andThen_ok]
    cases l with
    | nil => simp at hj
    | cons x l =>
      obtain ⟨a, ha⟩ := h x (.head _)
      have e' : Instr.findNow d (enc k) (x :: l) 0 = none := by simp only [Instr.findNow, ha, hn]
      rw [e']
      have := run_asking_some hi he w k (x :: l) 0 j e h hnd hj hk
      simpa using this
  stays := hs
end
end Go.PM
