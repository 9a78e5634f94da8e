/- Two desks, in plain lists: what SessApart keeps. No Go here. -/
import Derived.Test.YtencnfgmgcdiiaaSeL
namespace Go.Proofs.Ytencnfgmgcdiiaa
open Go.PM

theorem nodup_subset_length {α : Type} [DecidableEq α] : ∀ {l m : List α}, l.Nodup → (∀ x ∈ l, x ∈ m) → l.length ≤ m.length
  | [], _, _, _ => Nat.zero_le _
  | a :: l, m, hn, hs => by
    have ha := hs a (.head _)
    have hn' := List.nodup_cons.1 hn
    have := nodup_subset_length hn'.2 (m := m.erase a) (fun x hx => (List.mem_erase_of_ne (fun e => hn'.1 (by rw [e] at hx; exact hx))).2 (hs x (.tail _ hx)))
    rw [List.length_erase_of_mem ha] at this
    have : 0 < m.length := List.length_pos_of_mem ha
    simp only [List.length_cons]; omega

section
variable {κ ν : Type} [DecidableEq κ]
theorem getK_mem {D : List (κ × ν)} {k : κ} : (getK D k).isSome = true ↔ k ∈ D.map (·.1) := by
  induction D with
  | nil => simp
  | cons p D ih =>
    rw [getK_cons]
    by_cases h : p.1 = k
    · simp [h]
    · rw [if_neg h, ih]; simp [Ne.symm h]
end

/-- An act done at a desk. -/
def stepD (D : List (UInt8 × PC)) (m : SA) : List (UInt8 × PC) :=
  if (m.kind.toNat : Int) % 4 = 2 then (pTell D m.client (m.num (lk D m.client).last) ⟨0, 0, 0, 0, ⟨#[]⟩, m.a.ver⟩).2
  else if (m.kind.toNat : Int) % 4 = 3 then delK D m.client
  else (pCome D m.client (m.num (lk D m.client).last)).2.2.2

theorem DOk.step {D : List (UInt8 × PC)} (h : DOk D) (m : SA) : DOk (stepD D m) := by
  unfold stepD
  split
  · exact h.tell _ _ _
  · split
    · exact h.del _
    · exact h.come _ _

theorem tell_put (D : List (UInt8 × PC)) (c : UInt8) (q : Int) (a : PA) : (pTell D c q a).2 = D ∨ (pTell D c q a).2 = putK D c ⟨q, false, a⟩ := by
  unfold pTell; split
  · exact .inr rfl
  · exact .inl rfl
theorem come_put (D : List (UInt8 × PC)) (c : UInt8) (q : Int) : (pCome D c q).2.2.2 = D ∨ (pCome D c q).2.2.2 = putK D c ⟨q, true, .zero⟩ := by
  unfold pCome; dsimp only
  repeat' split
  all_goals first | exact .inl rfl | exact .inr rfl
theorem step_cases (D : List (UInt8 × PC)) (m : SA) : stepD D m = D ∨ stepD D m = delK D m.client ∨ ∃ v, stepD D m = putK D m.client v := by
  unfold stepD
  split
  · rcases tell_put D m.client (m.num (lk D m.client).last) ⟨0, 0, 0, 0, ⟨#[]⟩, m.a.ver⟩ with h | h
    · exact .inl h
    · exact .inr (.inr ⟨_, h⟩)
  · split
    · exact .inr (.inl rfl)
    · rcases come_put D m.client (m.num (lk D m.client).last) with h | h
      · exact .inl h
      · exact .inr (.inr ⟨_, h⟩)
theorem step_other {D : List (UInt8 × PC)} {m : SA} {k : UInt8} (hk : k ≠ m.client) : getK (stepD D m) k = getK D k := by
  rcases step_cases D m with h | h | ⟨v, h⟩
  · rw [h]
  · rw [h, getK_del, if_neg hk]
  · rw [h, getK_put, if_neg hk]
theorem step_some {D : List (UInt8 × PC)} {m : SA} {k : UInt8} (h : (getK (stepD D m) k).isSome = true) : (getK D k).isSome = true ∨ k = m.client := by
  by_cases hk : k = m.client
  · exact .inr hk
  · rw [step_other hk] at h; exact .inl h
theorem come_same {Da Db : List (UInt8 × PC)} {c : UInt8} (q : Int) (h : getK Da c = getK Db c) (ha : (getK Da c).isSome = false → ¬ Da.length = 16) (hb : (getK Db c).isSome = false → ¬ Db.length = 16) :
    (pCome Da c q).1 = (pCome Db c q).1 ∧ (pCome Da c q).2.1 = (pCome Db c q).2.1 ∧ (pCome Da c q).2.2.1 = (pCome Db c q).2.2.1 ∧ getK (pCome Da c q).2.2.2 c = getK (pCome Db c q).2.2.2 c := by
  have na : ¬ ((getK Da c).isSome = false ∧ Da.length = 16) := fun x => ha x.1 x.2
  have nb : ¬ ((getK Db c).isSome = false ∧ Db.length = 16) := fun x => hb x.1 x.2
  unfold pCome; dsimp only
  rw [if_neg na, if_neg nb, h]
  repeat' split
  all_goals first | exact ⟨rfl, rfl, rfl, h⟩ | (refine ⟨rfl, rfl, rfl, ?_⟩; rw [getK_put, getK_put]; simp)
theorem step_same {Da Db : List (UInt8 × PC)} {m : SA} (h : getK Da m.client = getK Db m.client) (ha : (getK Da m.client).isSome = false → ¬ Da.length = 16) (hb : (getK Db m.client).isSome = false → ¬ Db.length = 16) :
    getK (stepD Da m) m.client = getK (stepD Db m) m.client := by
  have hl : lk Da m.client = lk Db m.client := by unfold lk; rw [h]
  unfold stepD
  rw [hl]
  split
  · unfold pTell
    rw [h]
    split
    · rw [getK_put, getK_put]; simp
    · exact h
  · split
    · rw [getK_del, getK_del]; simp
    · exact (come_same _ h ha hb).2.2.2

structure ApInv (Da Db : List (UInt8 × PC)) (M : List (UInt8 × Bool)) (cl : UInt8) : Prop where
  same : getK Da cl = getK Db cl
  met : ∀ k, (getK Da k).isSome = true → (getK M k).isSome = true
  me : (getK M cl).isSome = true
  own : ∀ k, (getK Db k).isSome = true → k = cl
theorem ApInv.roomA {Da Db : List (UInt8 × PC)} {M : List (UInt8 × Bool)} {cl : UInt8} (h : ApInv Da Db M cl) (nd : (Da.map (·.1)).Nodup) (hM : M.length ≤ 16) (hn : (getK Da cl).isSome = false) : ¬ Da.length = 16 := by
  intro e
  have h1 : cl ∉ Da.map (·.1) := fun hc => by have := getK_mem.2 hc; rw [hn] at this; cases this
  have := nodup_subset_length (l := cl :: Da.map (·.1)) (m := M.map (·.1)) (List.nodup_cons.2 ⟨h1, nd⟩) (fun x hx => by
    rcases List.mem_cons.1 hx with rfl | hx
    · exact getK_mem.1 h.me
    · exact getK_mem.1 (h.met x (getK_mem.2 hx)))
  simp at this; omega
theorem ApInv.roomB {Da Db : List (UInt8 × PC)} {M : List (UInt8 × Bool)} {cl : UInt8} (h : ApInv Da Db M cl) (nd : (Db.map (·.1)).Nodup) : ¬ Db.length = 16 := by
  intro e
  have := nodup_subset_length (m := [cl]) nd (fun x hx => by rw [h.own x (getK_mem.2 hx)]; simp)
  simp at this; omega
/-- Behind a round. -/
theorem ApInv.step {Da Db : List (UInt8 × PC)} {M : List (UInt8 × Bool)} {cl : UInt8} (h : ApInv Da Db M cl) (na : (Da.map (·.1)).Nodup) (nb : (Db.map (·.1)).Nodup) (m : SA) (hM : (putK M m.client true).length ≤ 16) (hMn : M.length ≤ (putK M m.client true).length) :
    ApInv (stepD Da m) (if m.client = cl then stepD Db m else Db) (putK M m.client true) cl := by
  refine ⟨?_, fun k hk => ?_, ?_, fun k hk => ?_⟩
  · by_cases hc : m.client = cl
    · rw [if_pos hc]
      subst hc
      exact step_same h.same (fun hn => h.roomA na (by omega) hn) (fun _ => h.roomB nb)
    · rw [if_neg hc, step_other (Ne.symm hc)]; exact h.same
  · rw [getK_put]; split
    · rfl
    · rename_i hne
      rcases step_some hk with hk | hk
      · exact h.met k hk
      · exact absurd hk hne
  · rw [getK_put]; split
    · rfl
    · exact h.me
  · by_cases hc : m.client = cl
    · rw [if_pos hc] at hk
      rcases step_some hk with hk | hk
      · exact h.own k hk
      · exact hk.trans hc
    · rw [if_neg hc] at hk; exact h.own k hk
theorem length_put_ge {κ ν : Type} [DecidableEq κ] (D : List (κ × ν)) (k : κ) (v : ν) : D.length ≤ (putK D k v).length := by
  induction D with
  | nil => simp [putK]
  | cons p D ih => by_cases h : p.1 = k <;> simp [putK, h, ih]
/-- The last call once more. -/
theorem again {D : List (UInt8 × PC)} {c : UInt8} (h : DOk D) (hn : (lk D c).last ≠ 0) :
    pCome D c (lk D c).last = if (lk D c).opn = true then (2, .zero, 0, D) else (3, (lk D c).a, 0, D) := by
  have hb := h.bd c
  have hs : (getK D c).isSome = true := by
    cases hs : (getK D c).isSome with
    | true => rfl
    | false => rw [lk_none hs] at hn; exact absurd rfl hn
  unfold pCome; dsimp only
  rw [show (getK D c).getD .zero = lk D c from rfl, if_neg (by omega), if_neg (by rw [hs]; simp), if_neg (by omega)]
  cases ho : (lk D c).opn <;> simp
end Go.Proofs.Ytencnfgmgcdiiaa
