/- Desks, in plain lists: what holds behind Come, Tell, Leave. No Go here. -/
import Derived.Test.YtencnfgmgcdiiaaSeC
namespace Go.Proofs.Ytencnfgmgcdiiaa
open Go.PM

/-- A client's last call, or none. -/
def lk (D : List (UInt8 × PC)) (c : UInt8) : PC := (getK D c).getD .zero
theorem lk_put (D : List (UInt8 × PC)) (c : UInt8) (v : PC) (j : UInt8) : lk (putK D c v) j = if j = c then v else lk D j := by
  unfold lk; rw [getK_put]; split <;> rfl
theorem lk_del (D : List (UInt8 × PC)) (c j : UInt8) : lk (delK D c) j = if j = c then .zero else lk D j := by
  unfold lk; rw [getK_del]; split <;> rfl
theorem lk_none {D : List (UInt8 × PC)} {c : UInt8} (h : (getK D c).isSome = false) : lk D c = .zero := by
  unfold lk; cases hg : getK D c with
  | none => rfl
  | some v => rw [hg] at h; cases h

structure DOk (D : List (UInt8 × PC)) : Prop where
  len : D.length ≤ 16
  bd : ∀ c, 0 ≤ (lk D c).last ∧ (lk D c).last ≤ 2147483647
theorem DOk.nil : DOk [] := ⟨by simp, fun c => by simp [lk, PC.zero]⟩

theorem length_put_is {D : List (UInt8 × PC)} {c : UInt8} {v : PC} (h : (getK D c).isSome = true) : (putK D c v).length = D.length := by
  induction D with
  | nil => simp at h
  | cons p D ih =>
    by_cases e : p.1 = c
    · simp [putK, e]
    · rw [getK_cons, if_neg e] at h
      simp [putK, e, ih h]

/-- Come, by cases. -/
theorem pCome_cases (D : List (UInt8 × PC)) (c : UInt8) (q : Int) (h : DOk D) :
    (∃ er, er ≠ 0 ∧ pCome D c q = (0, .zero, er, D)) ∨
    (pCome D c q = (1, .zero, 0, putK D c ⟨q, true, .zero⟩) ∧ 1 ≤ q ∧ q ≤ 2147483647 ∧ q = (lk D c).last + 1 ∧ (lk D c).opn = false ∧ ((getK D c).isSome = true ∨ D.length < 16)) ∨
    (pCome D c q = (2, .zero, 0, D) ∧ 1 ≤ q ∧ q = (lk D c).last ∧ (lk D c).opn = true) ∨
    (pCome D c q = (3, (lk D c).a, 0, D) ∧ 1 ≤ q ∧ q = (lk D c).last ∧ (lk D c).opn = false) := by
  have hl := h.len
  unfold pCome
  dsimp only
  change let x := lk D c; _
  rw [show (getK D c).getD .zero = lk D c from rfl]
  dsimp only
  split
  · exact .inl ⟨1, by decide, rfl⟩
  · rename_i h0
    split
    · exact .inl ⟨5, by decide, rfl⟩
    · rename_i h1
      split
      · exact .inl ⟨13, by decide, rfl⟩
      · rename_i h2
        split
        · rename_i h3
          exact .inr (.inr (.inl ⟨rfl, by omega, h3.1, h3.2⟩))
        · rename_i h3
          split
          · rename_i h4
            refine .inr (.inr (.inr ⟨rfl, by omega, h4, ?_⟩))
            cases hx : (lk D c).opn with
            | false => rfl
            | true => exact absurd ⟨h4, hx⟩ h3
          · rename_i h4
            split
            · exact .inl ⟨11, by decide, rfl⟩
            · rename_i h5
              refine .inr (.inl ⟨rfl, by omega, by omega, by omega, ?_, ?_⟩)
              · cases hx : (lk D c).opn with
                | false => rfl
                | true => exact absurd (.inl hx) h5
              · cases hs : (getK D c).isSome with
                | true => exact .inl rfl
                | false => exact .inr (by have : ¬ D.length = 16 := fun e => h1 ⟨hs, e⟩; omega)

theorem DOk.put {D : List (UInt8 × PC)} (h : DOk D) {c : UInt8} {v : PC} (h0 : 0 ≤ v.last) (h1 : v.last ≤ 2147483647) (hr : (getK D c).isSome = true ∨ D.length < 16) : DOk (putK D c v) := by
  refine ⟨?_, fun j => ?_⟩
  · rcases hr with hr | hr
    · rw [length_put_is hr]; exact h.len
    · have := length_putK_le D c v; omega
  · rw [lk_put]; split
    · exact ⟨h0, h1⟩
    · exact h.bd j
theorem DOk.come {D : List (UInt8 × PC)} (h : DOk D) (c : UInt8) (q : Int) : DOk (pCome D c q).2.2.2 := by
  rcases pCome_cases D c q h with ⟨er, _, e⟩ | ⟨e, h1, h2, _, _, hr⟩ | ⟨e, _⟩ | ⟨e, _⟩
  · rw [e]; exact h
  · rw [e]; exact h.put (by show (0 : Int) ≤ q; omega) h2 hr
  · rw [e]; exact h
  · rw [e]; exact h
theorem opn_some {D : List (UInt8 × PC)} {c : UInt8} (h : (lk D c).opn = true) : (getK D c).isSome = true := by
  cases hs : (getK D c).isSome with
  | true => rfl
  | false => rw [lk_none hs] at h; cases h
theorem DOk.tell {D : List (UInt8 × PC)} (h : DOk D) (c : UInt8) (q : Int) (a : PA) : DOk (pTell D c q a).2 := by
  unfold pTell
  split
  · rename_i hc
    have hc' : (lk D c).opn = true ∧ (lk D c).last = q := hc
    have := h.bd c
    exact h.put (by show (0 : Int) ≤ q; omega) (by show q ≤ _; omega) (.inl (opn_some hc'.1))
  · exact h
theorem DOk.del {D : List (UInt8 × PC)} (h : DOk D) (c : UInt8) : DOk (delK D c) := by
  refine ⟨Nat.le_trans (List.length_filter_le _ _) h.len, fun j => ?_⟩
  rw [lk_del]; split
  · simp [PC.zero]
  · exact h.bd j

/-- What SessOnce keeps. -/
structure OnceInv (D : List (UInt8 × PC)) (Y : List ((UInt8 × Int) × Bool)) (T : List ((UInt8 × Int) × PA)) : Prop where
  now : ∀ c s, ((getK Y (c, s)).getD false = true ∧ (getK T (c, s)).isSome = false) ↔ ((lk D c).opn = true ∧ s = (lk D c).last)
  young : ∀ c s, (getK Y (c, s)).getD false = true → s ≤ (lk D c).last
  told : ∀ c s, (getK T (c, s)).isSome = true → s ≤ (lk D c).last
  ans : ∀ c, (lk D c).opn = false → 1 ≤ (lk D c).last → getK T (c, (lk D c).last) = some (lk D c).a
theorem OnceInv.start : OnceInv [] [] [] := ⟨fun c s => by simp [lk, PC.zero], fun c s h => by simp at h, fun c s h => by simp at h, fun c h h1 => by simp [lk, PC.zero] at h1⟩

section
variable {D : List (UInt8 × PC)} {Y : List ((UInt8 × Int) × Bool)} {T : List ((UInt8 × Int) × PA)}
theorem OnceInv.come (I : OnceInv D Y T) {c : UInt8} {q : Int} (hq : q = (lk D c).last + 1) (ho : (lk D c).opn = false) :
    (getK Y (c, q)).getD false = false ∧ OnceInv (putK D c ⟨q, true, .zero⟩) (putK Y (c, q) true) T := by
  have hy : (getK Y (c, q)).getD false = false := by
    cases h : (getK Y (c, q)).getD false with
    | false => rfl
    | true => have := I.young c q h; omega
  have ht : (getK T (c, q)).isSome = false := by
    cases h : (getK T (c, q)).isSome with
    | false => rfl
    | true => have := I.told c q h; omega
  refine ⟨hy, ⟨fun j s => ?_, fun j s h => ?_, fun j s h => ?_, fun j h h1 => ?_⟩⟩
  · rw [getK_put, lk_put]
    by_cases hj : j = c
    · subst hj
      simp only [if_true, Prod.mk.injEq, true_and]
      by_cases hs : s = q
      · subst hs; simp [ht]
      · rw [if_neg hs, I.now]; simp [ho, hs]
    · rw [if_neg hj, if_neg (fun e => hj (Prod.mk.inj e).1)]; exact I.now j s
  · rw [getK_put] at h; rw [lk_put]
    by_cases hj : j = c
    · subst hj
      simp only [if_true, Prod.mk.injEq, true_and] at h ⊢
      by_cases hs : s = q
      · subst hs; exact Int.le_refl _
      · rw [if_neg hs] at h; have := I.young j s h; omega
    · rw [if_neg (fun e => hj (Prod.mk.inj e).1)] at h; rw [if_neg hj]; exact I.young j s h
  · rw [lk_put]
    by_cases hj : j = c
    · subst hj; rw [if_pos rfl]; have := I.told j s h; show s ≤ q; omega
    · rw [if_neg hj]; exact I.told j s h
  · rw [lk_put] at h h1 ⊢
    by_cases hj : j = c
    · subst hj; rw [if_pos rfl] at h; cases h
    · rw [if_neg hj] at h h1 ⊢; exact I.ans j h h1
theorem OnceInv.open_ (I : OnceInv D Y T) {c : UInt8} {q : Int} (hq : q = (lk D c).last) (ho : (lk D c).opn = true) : (getK Y (c, q)).getD false = true ∧ (getK T (c, q)).isSome = false :=
  (I.now c q).2 ⟨ho, hq⟩
theorem OnceInv.told_ (I : OnceInv D Y T) {c : UInt8} {q : Int} (h1 : 1 ≤ q) (hq : q = (lk D c).last) (ho : (lk D c).opn = false) : getK T (c, q) = some (lk D c).a := by
  subst hq; exact I.ans c ho h1
/-- Tell, by cases. -/
theorem OnceInv.tell (I : OnceInv D Y T) (c : UInt8) (q : Int) (a : PA) :
    (pTell D c q a = (0, putK D c ⟨q, false, a⟩) ∧ (getK Y (c, q)).getD false = true ∧ (getK T (c, q)).isSome = false ∧ OnceInv (putK D c ⟨q, false, a⟩) Y (putK T (c, q) a)) ∨
    (pTell D c q a = (6, D) ∧ ¬ ((getK Y (c, q)).getD false = true ∧ (getK T (c, q)).isSome = false)) := by
  by_cases h : (lk D c).opn = true ∧ (lk D c).last = q
  · left
    have hn := (I.now c q).2 ⟨h.1, h.2.symm⟩
    refine ⟨if_pos h, hn.1, hn.2, ⟨fun j s => ?_, fun j s hy => ?_, fun j s ht => ?_, fun j ho h1 => ?_⟩⟩
    · rw [getK_put, lk_put]
      by_cases hj : j = c
      · subst hj
        simp only [if_true, Prod.mk.injEq, true_and]
        by_cases hs : s = q
        · subst hs; simp
        · rw [if_neg hs, I.now]; simp [h.2, hs]
      · rw [if_neg hj, if_neg (fun e => hj (Prod.mk.inj e).1)]; exact I.now j s
    · rw [lk_put]
      by_cases hj : j = c
      · subst hj; rw [if_pos rfl]; have := I.young j s hy; show s ≤ q; omega
      · rw [if_neg hj]; exact I.young j s hy
    · rw [getK_put] at ht; rw [lk_put]
      by_cases hj : j = c
      · subst hj
        simp only [if_true, Prod.mk.injEq, true_and] at ht ⊢
        by_cases hs : s = q
        · subst hs; exact Int.le_refl _
        · rw [if_neg hs] at ht; have := I.told j s ht; omega
      · rw [if_neg (fun e => hj (Prod.mk.inj e).1)] at ht; rw [if_neg hj]; exact I.told j s ht
    · rw [lk_put] at ho h1 ⊢
      rw [getK_put]
      by_cases hj : j = c
      · subst hj; simp
      · rw [if_neg hj] at ho h1 ⊢; rw [if_neg (fun e => hj (Prod.mk.inj e).1)]; exact I.ans j ho h1
  · right
    exact ⟨if_neg h, fun hn => h (let ⟨a, b⟩ := (I.now c q).1 hn; ⟨a, b.symm⟩)⟩
end
end Go.Proofs.Ytencnfgmgcdiiaa
