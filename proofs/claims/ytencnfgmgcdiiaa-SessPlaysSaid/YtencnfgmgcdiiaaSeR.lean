/- The document's desk, a list that rises, in plain lists. No Go here. -/
import Derived.Test.YtencnfgmgcdiiaaSePA
import Derived.Test.YtencnfgmgcdiiaaSeH
namespace Go.Proofs.Ytencnfgmgcdiiaa
open Go.PM

theorem u8_eq {a b : UInt8} : a = b ↔ a.toNat = b.toNat := UInt8.toNat_inj.symm
/-- The client c so, in its place. -/
def insS : List (UInt8 × PC) → UInt8 → PC → List (UInt8 × PC)
  | [], c, v => [(c, v)]
  | p :: L, c, v => if p.1.toNat < c.toNat then p :: insS L c v else if p.1 = c then (c, v) :: L else (c, v) :: p :: L
def delS : List (UInt8 × PC) → UInt8 → List (UInt8 × PC)
  | [], _ => []
  | p :: L, c => if p.1.toNat < c.toNat then p :: delS L c else if p.1 = c then L else p :: L
/-- Where c stands, or would. -/
def posS : List (UInt8 × PC) → UInt8 → Nat
  | [], _ => 0
  | p :: L, c => if p.1.toNat < c.toNat then posS L c + 1 else 0
def Rises (L : List (UInt8 × PC)) : Prop := L.Pairwise fun p q => p.1.toNat < q.1.toNat

theorem posS_le (L : List (UInt8 × PC)) (c : UInt8) : posS L c ≤ L.length := by
  induction L with
  | nil => simp [posS]
  | cons p L ih => unfold posS; split <;> simp <;> omega
theorem posS_lt (L : List (UInt8 × PC)) (c : UInt8) (k : Nat) (h : k < posS L c) : ∃ p, L[k]? = some p ∧ p.1.toNat < c.toNat := by
  induction L generalizing k with
  | nil => simp [posS] at h
  | cons p L ih =>
    unfold posS at h
    split at h
    · rename_i hp
      cases k with
      | zero => exact ⟨p, rfl, hp⟩
      | succ k => exact ih k (by omega)
    · omega
theorem posS_at (L : List (UInt8 × PC)) (c : UInt8) (p : UInt8 × PC) (h : L[posS L c]? = some p) : ¬ p.1.toNat < c.toNat := by
  induction L with
  | nil => simp [posS] at h
  | cons q L ih =>
    unfold posS at h
    split at h
    · exact ih (by simpa using h)
    · simp at h; subst h; assumption
theorem posS_uniq (L : List (UInt8 × PC)) (c : UInt8) (k : Nat) (hk : k ≤ L.length) (h1 : ∀ j, j < k → ∃ p, L[j]? = some p ∧ p.1.toNat < c.toNat) (h2 : ∀ p, L[k]? = some p → ¬ p.1.toNat < c.toNat) : k = posS L c := by
  induction L generalizing k with
  | nil => simp [posS] at hk ⊢; omega
  | cons q L ih =>
    unfold posS
    cases k with
    | zero => rw [if_neg (h2 q rfl)]
    | succ k =>
      obtain ⟨p, hp, hlt⟩ := h1 0 (by omega)
      simp at hp; subst hp
      rw [if_pos hlt, ih k (by simpa using hk) (fun j hj => by simpa using h1 (j + 1) (by omega)) (fun p hp => h2 p (by simpa using hp))]
theorem getK_none_gt {L : List (UInt8 × PC)} {c : UInt8} (h : ∀ p ∈ L, c.toNat < p.1.toNat) : getK L c = none :=
  getK_none.2 fun p hp e => by have := h p hp; rw [e] at this; omega
theorem at_pos {L : List (UInt8 × PC)} (h : Rises L) (c : UInt8) : getK L c = ((L[posS L c]?).bind fun p => if p.1 = c then some p.2 else none) := by
  induction L with
  | nil => simp [posS]
  | cons p L ih =>
    have hp := List.pairwise_cons.1 h
    rw [getK_cons]
    unfold posS
    by_cases h1 : p.1.toNat < c.toNat
    · rw [if_neg (fun e => by rw [e] at h1; omega), if_pos h1, ih hp.2]; simp
    · rw [if_neg h1]
      by_cases h2 : p.1 = c
      · simp [h2]
      · have h3 : ¬ p.1.toNat = c.toNat := fun e => h2 (u8_eq.2 e)
        rw [if_neg h2, getK_none_gt (fun q hq => by have := hp.1 q hq; omega)]; simp [h2]
theorem insS_is {L : List (UInt8 × PC)} (h : Rises L) {c : UInt8} (v : PC) (hs : (getK L c).isSome = true) : insS L c v = L.set (posS L c) (c, v) := by
  induction L with
  | nil => simp at hs
  | cons p L ih =>
    have hp := List.pairwise_cons.1 h
    rw [getK_cons] at hs
    unfold insS posS
    by_cases h1 : p.1.toNat < c.toNat
    · rw [if_neg (fun e => by rw [e] at h1; omega)] at hs
      rw [if_pos h1, if_pos h1, ih hp.2 hs]; simp
    · rw [if_neg h1, if_neg h1]
      by_cases h2 : p.1 = c
      · rw [if_pos h2]; rfl
      · have h3 : ¬ p.1.toNat = c.toNat := fun e => h2 (u8_eq.2 e)
        rw [if_neg h2, getK_none_gt (fun q hq => by have := hp.1 q hq; omega)] at hs; cases hs
theorem insS_new {L : List (UInt8 × PC)} {c : UInt8} (v : PC) (hs : (getK L c).isSome = false) : insS L c v = L.take (posS L c) ++ [(c, v)] ++ L.drop (posS L c) := by
  induction L with
  | nil => rfl
  | cons p L ih =>
    rw [getK_cons] at hs
    unfold insS posS
    by_cases h2 : p.1 = c
    · rw [if_pos h2] at hs; cases hs
    · rw [if_neg h2] at hs
      by_cases h1 : p.1.toNat < c.toNat
      · rw [if_pos h1, if_pos h1, ih hs]; simp
      · rw [if_neg h1, if_neg h1, if_neg h2]; simp
theorem delS_is {L : List (UInt8 × PC)} (h : Rises L) {c : UInt8} (hs : (getK L c).isSome = true) : delS L c = L.take (posS L c) ++ L.drop (posS L c + 1) := by
  induction L with
  | nil => simp at hs
  | cons p L ih =>
    have hp := List.pairwise_cons.1 h
    rw [getK_cons] at hs
    unfold delS posS
    by_cases h1 : p.1.toNat < c.toNat
    · rw [if_neg (fun e => by rw [e] at h1; omega)] at hs
      rw [if_pos h1, if_pos h1, ih hp.2 hs]; simp
    · rw [if_neg h1, if_neg h1]
      by_cases h2 : p.1 = c
      · rw [if_pos h2]; rfl
      · have h3 : ¬ p.1.toNat = c.toNat := fun e => h2 (u8_eq.2 e)
        rw [if_neg h2, getK_none_gt (fun q hq => by have := hp.1 q hq; omega)] at hs; cases hs
theorem insS_mem {L : List (UInt8 × PC)} {c : UInt8} {v : PC} {q : UInt8 × PC} (h : q ∈ insS L c v) : q = (c, v) ∨ q ∈ L := by
  induction L with
  | nil => simp [insS] at h; exact .inl h
  | cons p L ih =>
    unfold insS at h
    split at h
    · rcases List.mem_cons.1 h with h | h
      · exact .inr (h ▸ .head _)
      · exact (ih h).imp id (.tail _)
    · split at h
      · exact (List.mem_cons.1 h).imp id (.tail _)
      · exact (List.mem_cons.1 h)
theorem insS_rises {L : List (UInt8 × PC)} (h : Rises L) (c : UInt8) (v : PC) : Rises (insS L c v) := by
  induction L with
  | nil => simp [insS, Rises]
  | cons p L ih =>
    have hp := List.pairwise_cons.1 h
    unfold insS
    split
    · rename_i h1
      refine List.pairwise_cons.2 ⟨fun q hq => ?_, ih hp.2⟩
      rcases insS_mem hq with rfl | hq
      · exact h1
      · exact hp.1 q hq
    · rename_i h1
      split
      · rename_i h2
        exact List.pairwise_cons.2 ⟨fun q hq => by have := hp.1 q hq; rw [h2] at this; exact this, hp.2⟩
      · rename_i h2
        have h3 : ¬ p.1.toNat = c.toNat := fun e => h2 (u8_eq.2 e)
        refine List.pairwise_cons.2 ⟨fun q hq => ?_, h⟩
        rcases List.mem_cons.1 hq with rfl | hq
        · show c.toNat < _; omega
        · have := hp.1 q hq; show c.toNat < _; omega
theorem getK_insS {L : List (UInt8 × PC)} (c : UInt8) (v : PC) (j : UInt8) : getK (insS L c v) j = if j = c then some v else getK L j := by
  induction L with
  | nil => simp [insS, getK_cons, eq_comm]
  | cons p L ih =>
    unfold insS
    split
    · rename_i h1
      rw [getK_cons, getK_cons, ih]
      by_cases e : p.1 = j
      · have : ¬ j = c := fun h => by rw [← h, ← e] at h1; omega
        simp [e, this]
      · simp [e]
    · split
      · rename_i h2
        rw [getK_cons, getK_cons]
        by_cases e : c = j
        · simp [e]
        · simp [h2, e, Ne.symm e]
      · rw [getK_cons]
        by_cases e : c = j
        · simp [e]
        · simp [e, Ne.symm e]
theorem delS_mem {L : List (UInt8 × PC)} {c : UInt8} {q : UInt8 × PC} (h : q ∈ delS L c) : q ∈ L := by
  induction L with
  | nil => simp [delS] at h
  | cons p L ih =>
    unfold delS at h
    split at h
    · rcases List.mem_cons.1 h with h | h
      · exact h ▸ .head _
      · exact .tail _ (ih h)
    · split at h
      · exact .tail _ h
      · exact h
theorem delS_rises {L : List (UInt8 × PC)} (h : Rises L) (c : UInt8) : Rises (delS L c) := by
  induction L with
  | nil => simp [delS, Rises]
  | cons p L ih =>
    have hp := List.pairwise_cons.1 h
    unfold delS
    split
    · exact List.pairwise_cons.2 ⟨fun q hq => hp.1 q (delS_mem hq), ih hp.2⟩
    · split
      · exact hp.2
      · exact h
theorem getK_delS {L : List (UInt8 × PC)} (h : Rises L) (c j : UInt8) : getK (delS L c) j = if j = c then none else getK L j := by
  induction L with
  | nil => simp [delS]
  | cons p L ih =>
    have hp := List.pairwise_cons.1 h
    unfold delS
    split
    · rename_i h1
      rw [getK_cons, getK_cons, ih hp.2]
      by_cases e : p.1 = j
      · have : ¬ j = c := fun h => by rw [← h, ← e] at h1; omega
        simp [e, this]
      · simp [e]
    · rename_i h1
      split
      · rename_i h2
        rw [getK_cons]
        by_cases e : j = c
        · rw [if_pos e, e]; exact getK_none_gt fun q hq => by have := hp.1 q hq; rw [h2] at this; exact this
        · rw [if_neg e, if_neg (fun h : p.1 = j => e (h.symm.trans h2))]
      · rename_i h2
        by_cases e : j = c
        · rw [if_pos e, e]
          have h3 : ¬ p.1.toNat = c.toNat := fun e => h2 (u8_eq.2 e)
          exact getK_none_gt fun q hq => by
            rcases List.mem_cons.1 hq with rfl | hq
            · omega
            · have := hp.1 q hq; omega
        · rw [if_neg e]

/-- The list is the map. -/
structure Ref (L D : List (UInt8 × PC)) : Prop where
  up : Rises L
  same : ∀ c, getK L c = getK D c
theorem Ref.nil : Ref [] [] := ⟨List.Pairwise.nil, fun _ => rfl⟩
theorem Ref.put {L D : List (UInt8 × PC)} (h : Ref L D) (c : UInt8) (v : PC) : Ref (insS L c v) (putK D c v) :=
  ⟨insS_rises h.up c v, fun j => by rw [getK_insS, getK_put, h.same]⟩
theorem Ref.del {L D : List (UInt8 × PC)} (h : Ref L D) (c : UInt8) : Ref (delS L c) (delK D c) :=
  ⟨delS_rises h.up c, fun j => by rw [getK_delS h.up, getK_del, h.same]⟩
theorem Rises.nodup {L : List (UInt8 × PC)} (h : Rises L) : (L.map (·.1)).Nodup := by
  rw [List.Nodup, List.pairwise_map]
  exact h.imp fun h e => by rw [e] at h; omega
theorem Ref.perm {L D : List (UInt8 × PC)} (h : Ref L D) (hn : (D.map (·.1)).Nodup) : (L.map (·.1)).Perm (D.map (·.1)) :=
  (List.perm_ext_iff_of_nodup h.up.nodup hn).2 fun c => by rw [← getK_mem, ← getK_mem, h.same]
theorem Ref.len {L D : List (UInt8 × PC)} (h : Ref L D) (hn : (D.map (·.1)).Nodup) : L.length = D.length := by
  simpa using (h.perm hn).length_eq
theorem sorted_uniq : ∀ {l m : List UInt8}, l.Pairwise (fun a b => a.toNat < b.toNat) → m.Pairwise (fun a b => a.toNat < b.toNat) → (∀ x, x ∈ l ↔ x ∈ m) → l = m
  | [], [], _, _, _ => rfl
  | [], b :: m, _, _, h => by have := (h b).2 (.head _); cases this
  | a :: l, [], _, _, h => by have := (h a).1 (.head _); cases this
  | a :: l, b :: m, hl, hm, h => by
    have hl' := List.pairwise_cons.1 hl
    have hm' := List.pairwise_cons.1 hm
    have e : a = b := by
      rcases List.mem_cons.1 ((h a).1 (.head _)) with e | e
      · exact e
      · rcases List.mem_cons.1 ((h b).2 (.head _)) with e' | e'
        · exact e'.symm
        · have := hm'.1 a e; have := hl'.1 b e'; omega
    subst e
    rw [sorted_uniq hl'.2 hm'.2 fun x => ?_]
    constructor
    · intro hx
      rcases List.mem_cons.1 ((h x).1 (.tail _ hx)) with e | e
      · have := hl'.1 x hx; rw [e] at this; omega
      · exact e
    · intro hx
      rcases List.mem_cons.1 ((h x).2 (.tail _ hx)) with e | e
      · have := hm'.1 x hx; rw [e] at this; omega
      · exact e
/-- The open calls of the list. -/
def openL (L : List (UInt8 × PC)) : List (UInt8 × Int) := L.filterMap fun p => if p.2.opn = true then some (p.1, p.2.last) else none
theorem Ref.open {L D : List (UInt8 × PC)} (h : Ref L D) {S : List UInt8} (hn : (D.map (·.1)).Nodup) (hp : S.Perm (D.map (·.1))) (hs : SrtW 0 S.length S) : openOf D S = openL L := by
  have hSn : S.Nodup := hp.symm.nodup hn
  have e : S = L.map (·.1) := by
    refine sorted_uniq ?_ ?_ fun x => ?_
    · rw [List.pairwise_iff_getElem]
      intro i j hi hj hij
      have h1 := hs i j (by omega) hij hj
      unfold vsOf at h1
      simp only [List.getD_eq_getElem?_getD, List.getElem?_eq_getElem hi, List.getElem?_eq_getElem hj, Option.getD_some] at h1
      have h2 : ¬ S[i] = S[j] := fun e => by
        have := (List.getElem?_inj (i := i) (j := j) hi hSn).1 ((List.getElem?_eq_getElem hi).trans ((congrArg some e).trans (List.getElem?_eq_getElem hj).symm))
        omega
      have h3 : ¬ S[i].toNat = S[j].toNat := fun e => h2 (u8_eq.2 e)
      omega
    · rw [List.pairwise_map]; exact h.up
    · rw [hp.mem_iff, (h.perm hn).mem_iff]
  rw [e]
  have key : ∀ M : List (UInt8 × PC), (∀ p ∈ M, lk D p.1 = p.2) → openOf D (M.map (·.1)) = openL M := by
    intro M
    induction M with
    | nil => intro _; rfl
    | cons p M ih =>
      intro hM
      have h1 := hM p (.head _)
      unfold lk at h1
      simp only [openOf, openL, List.map_cons, List.filterMap_cons, h1] at ih ⊢
      rw [ih fun q hq => hM q (.tail _ hq)]
  refine key L fun p hp' => ?_
  have : getK L p.1 = some p.2 := (getK_some h.up.nodup).2 hp'
  unfold lk; rw [← h.same, this]; rfl
end Go.Proofs.Ytencnfgmgcdiiaa
