/- The document's desk in memory; find, as a walk. -/
import Derived.Test.YtencnfgmgcdiiaaSeR
import Derived.Test.YtencnfgmgcdiiaaSeOnce
namespace Go.PM
theorem flat_get {α : Type} (f : α → List Value) (k : Nat) (hf : ∀ x, (f x).length = k) : ∀ (L : List α) (i : Nat) (x : α), L[i]? = some x → ∀ j, j < k → (L.flatMap f)[i * k + j]? = (f x)[j]?
  | [], i, x, h, _, _ => by simp at h
  | y :: L, 0, x, h, j, hj => by
    simp at h; subst h
    rw [List.flatMap_cons, List.getElem?_append_left (by rw [hf]; omega)]; simp
  | y :: L, i + 1, x, h, j, hj => by
    rw [List.flatMap_cons, List.getElem?_append_right (by rw [hf, Nat.add_mul]; omega), hf, show (i + 1) * k + j - k = i * k + j by rw [Nat.add_mul]; omega]
    exact flat_get f k hf L i x (by simpa using h) j hj
theorem flat_len {α : Type} (f : α → List Value) (k : Nat) (hf : ∀ x, (f x).length = k) (L : List α) : (L.flatMap f).length = L.length * k := by
  induction L with
  | nil => simp
  | cons x L ih => rw [List.flatMap_cons, List.length_append, hf, ih, List.length_cons, Nat.add_mul]; omega
theorem flat_take {α : Type} (f : α → List Value) (k : Nat) (hf : ∀ x, (f x).length = k) (L : List α) (n : Nat) (hn : n ≤ L.length) : (L.take n).flatMap f = (L.flatMap f).take (n * k) := by
  have e : L.flatMap f = (L.take n).flatMap f ++ (L.drop n).flatMap f := by rw [← List.flatMap_append, List.take_append_drop]
  rw [e, List.take_left' (by rw [flat_len f k hf, List.length_take, Nat.min_eq_left hn])]
theorem flat_drop {α : Type} (f : α → List Value) (k : Nat) (hf : ∀ x, (f x).length = k) (L : List α) (n : Nat) (hn : n ≤ L.length) : (L.drop n).flatMap f = (L.flatMap f).drop (n * k) := by
  have e : L.flatMap f = (L.take n).flatMap f ++ (L.drop n).flatMap f := by rw [← List.flatMap_append, List.take_append_drop]
  rw [e, List.drop_left' (by rw [flat_len f k hf, List.length_take, Nat.min_eq_left hn])]
def rcell (p : UInt8 × PC) : List Value := [.int .u8 p.1.toNat, .int .u32 p.2.last, .bool p.2.opn, .int .i64 p.2.a.why, .int .u8 p.2.a.node, .int .u32 p.2.a.boot, .int .u32 p.2.a.num, .string p.2.a.val, .int .u32 p.2.a.ver]
def rcells (L : List (UInt8 × PC)) : List Value := L.flatMap rcell
theorem rcell_len (p : UInt8 × PC) : (rcell p).length = 9 := rfl
theorem rcells_len (L : List (UInt8 × PC)) : (rcells L).length = L.length * 9 := flat_len rcell 9 rcell_len L
end Go.PM
namespace Go.Proofs.Ytencnfgmgcdiiaa
open Go.RowKit Go.PM
set_option maxRecDepth 100000

/-- Block q is the document's desk with the clients L, whose slice is a, cap. -/
structure RefC (w : World) (q : Nat) (L : List (UInt8 × PC)) (a : Option Addr) (cap : Nat) : Prop where
  st : Blk w q 64 [.slice a L.length cap]
  rd : Rd w a (rcells L)
  le : L.length ≤ cap
  max : cap ≤ maxLen
  nil : a = none → cap = 0
  far : ∀ b, At a b → b ≠ q
def RefB (w : World) (q : Nat) (L : List (UInt8 × PC)) : Prop := ∃ a cap, RefC w q L a cap

section
variable {w w' : World} {q : Nat} {L : List (UInt8 × PC)} {a : Option Addr} {cap : Nat}
theorem RefC.kept {S : Nat → Prop} (h : RefC w q L a cap) (k : Kept S w w') (hq : ¬ S q) (ha : ∀ b, At a b → ¬ S b) : RefC w' q L a cap :=
  ⟨h.st.kept k hq, h.rd.kept k ha, h.le, h.max, h.nil, h.far⟩
theorem RefC.keptNo (h : RefC w q L a cap) (k : Kept No w w') : RefC w' q L a cap := h.kept k id fun _ _ => id
theorem RefB.keptNo (h : RefB w q L) (k : Kept No w w') : RefB w' q L := let ⟨a, cap, h⟩ := h; ⟨a, cap, h.keptNo k⟩
theorem rd9 (h : Rd w a (rcells L)) {i : Nat} {p : UInt8 × PC} (hp : L[i]? = some p) : ∃ b o, a = some ⟨b, o, none⟩ ∧ b < w.heap.size ∧
    w.cell? ⟨b, o + i * 9, none⟩ = some (.int .u8 p.1.toNat) ∧ w.cell? ⟨b, o + i * 9 + 1, none⟩ = some (.int .u32 p.2.last) ∧ w.cell? ⟨b, o + i * 9 + 2, none⟩ = some (.bool p.2.opn) ∧
    w.cell? ⟨b, o + i * 9 + 3, none⟩ = some (.int .i64 p.2.a.why) ∧ w.cell? ⟨b, o + i * 9 + 4, none⟩ = some (.int .u8 p.2.a.node) ∧ w.cell? ⟨b, o + i * 9 + 5, none⟩ = some (.int .u32 p.2.a.boot) ∧ w.cell? ⟨b, o + i * 9 + 6, none⟩ = some (.int .u32 p.2.a.num) ∧
    w.cell? ⟨b, o + i * 9 + 7, none⟩ = some (.string p.2.a.val) ∧ w.cell? ⟨b, o + i * 9 + 8, none⟩ = some (.int .u32 p.2.a.ver) := by
  have hi := (List.getElem?_eq_some_iff.1 hp).1
  have hl := rcells_len L
  obtain ⟨b, o, e, hb⟩ := h.addr (by rw [hl]; omega)
  subst e
  have key : ∀ k v, k < 9 → (rcell p)[k]? = some v → w.cell? ⟨b, o + i * 9 + k, none⟩ = some v := by
    intro k v hk hv
    have hg := flat_get rcell 9 rcell_len L i p hp k hk
    rw [hv] at hg
    obtain ⟨b', o', e', hc⟩ := h (i * 9 + k) v hg
    simp only [Option.some.injEq, Addr.mk.injEq, and_true] at e'
    obtain ⟨rfl, rfl⟩ := e'
    rw [Nat.add_assoc]; exact hc
  exact ⟨b, o, rfl, hb, key 0 _ (by omega) rfl, key 1 _ (by omega) rfl, key 2 _ (by omega) rfl, key 3 _ (by omega) rfl, key 4 _ (by omega) rfl, key 5 _ (by omega) rfl, key 6 _ (by omega) rfl, key 7 _ (by omega) rfl, key 8 _ (by omega) rfl⟩

theorem RefC.at (h : RefC w q L a cap) {i : Nat} {p : UInt8 × PC} (hp : L[i]? = some p) : ∃ b o, a = some ⟨b, o, none⟩ ∧ b < w.heap.size ∧
    w.cell? ⟨b, o + i * 9, none⟩ = some (.int .u8 p.1.toNat) ∧ w.cell? ⟨b, o + i * 9 + 1, none⟩ = some (.int .u32 p.2.last) ∧ w.cell? ⟨b, o + i * 9 + 2, none⟩ = some (.bool p.2.opn) ∧
    w.cell? ⟨b, o + i * 9 + 3, none⟩ = some (.int .i64 p.2.a.why) ∧ w.cell? ⟨b, o + i * 9 + 4, none⟩ = some (.int .u8 p.2.a.node) ∧ w.cell? ⟨b, o + i * 9 + 5, none⟩ = some (.int .u32 p.2.a.boot) ∧ w.cell? ⟨b, o + i * 9 + 6, none⟩ = some (.int .u32 p.2.a.num) ∧
    w.cell? ⟨b, o + i * 9 + 7, none⟩ = some (.string p.2.a.val) ∧ w.cell? ⟨b, o + i * 9 + 8, none⟩ = some (.int .u32 p.2.a.ver) := rd9 h.rd hp

theorem is_at (h : Rises L) (c : UInt8) : (getK L c).isSome = true ↔ ∃ p, L[posS L c]? = some p ∧ p.1 = c := by
  rw [at_pos h]
  cases hp : L[posS L c]? with
  | none => simp
  | some p => by_cases e : p.1 = c <;> simp [e]

set_option maxHeartbeats 1000000 in
theorem r_find (h : RefC w q L a cap) (hr : Rises L) (hl : L.length ≤ 16) (c : UInt8) :
    Calls Try.prog 49 #[.pointer (some ⟨q, 0, none⟩), .int .u8 c.toNat] w fun e w' => e = .returned (.tuple #[.int .i64 (posS L c), .bool (getK L c).isSome]) ∧ Kept No w w' := by
  have c0 : w.cell? ⟨q, 0, none⟩ = some (.slice a L.length cap) := h.st.cell 0
  have hle := posS_le L c
  obtain ⟨z, hz⟩ : ∃ z, (getK L c).isSome = z := ⟨_, rfl⟩
  have hia := is_at hr c
  have hlow := posS_lt L c
  have hat := posS_at L c
  rw [hz] at hia ⊢
  generalize posS L c = P at *
  go_enter Try.func49, Try.ntmps49
  go_wp2
  go_loopw [6] (fun t wr => ∃ i : Nat, t = .int .i64 i ∧ i ≤ P ∧ Kept No w wr ∧ wr = w) (fun t _ => P - (intOf t).toNat)
  case atStart => exact ⟨0, rfl, Nat.zero_le _, Kept.refl _ _, by first | rfl | trivial⟩
  case round =>
    obtain ⟨i, rfl, hi, _, rfl⟩ := hrel
    have i0 : (0 : Int) ≤ i := by omega
    by_cases hlt : i < P
    · obtain ⟨p, hp, hpc⟩ := hlow i hlt
      obtain ⟨b, o, rfl, hb, d0, _⟩ := h.at hp
      have i1 : (i : Int) < L.length := by omega
      have hlt' : (p.1.toNat : Int) < c.toNat := by omega
      go_wp2
      exact ⟨⟨i + 1, by go_num, by omega, Kept.refl _ _, by first | rfl | trivial⟩, by simp [intOf]; omega⟩
    · obtain rfl : P = i := by omega
      by_cases hlen : P < L.length
      · obtain ⟨p, hp⟩ : ∃ p, L[P]? = some p := ⟨_, List.getElem?_eq_getElem hlen⟩
        have hpc := hat p hp
        obtain ⟨b, o, rfl, hb, d0, _⟩ := h.at hp
        rw [hp] at hia
        have i1 : (P : Int) < L.length := by omega
        have hlt' : ¬ (p.1.toNat : Int) < c.toNat := by omega
        clear hlow hat
        cases z with
        | true =>
          obtain ⟨p', e1, e2⟩ := hia.1 rfl
          cases e1
          have deq : ((p.1.toNat : Int) == c.toNat) = true := by rw [e2]; simp
          clear hia e2
          go_wp2
          go_quiet (fail)
          go_wp2
          go_ret2
          exact ⟨rfl, (Kept.refl _ _).drewN _⟩
        | false =>
          have deq : ((p.1.toNat : Int) == c.toNat) = false := by
            rw [beq_eq_false_iff_ne]
            intro e
            have := hia.2 ⟨p, rfl, u8_eq.2 (by omega)⟩
            cases this
          clear hia
          go_wp2
          go_quiet (fail)
          go_wp2
          go_ret2
          exact ⟨rfl, (Kept.refl _ _).drewN _⟩
      · have hnone : L[P]? = none := List.getElem?_eq_none (by omega)
        rw [hnone] at hia
        have i1 : ¬ (P : Int) < L.length := by omega
        obtain rfl : z = false := by
          cases z with
          | false => rfl
          | true => obtain ⟨p', e1, _⟩ := hia.1 rfl; cases e1
        clear hia hlow hat
        go_wp2
        go_quiet (fail)
        go_wp2
        go_ret2
        exact ⟨rfl, (Kept.refl _ _).drewN _⟩
end
end Go.Proofs.Ytencnfgmgcdiiaa
