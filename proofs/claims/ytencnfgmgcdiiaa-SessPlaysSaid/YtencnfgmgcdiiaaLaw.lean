/- Laws for operations on slices that a call owns: make, append, copy. Helper lemmas alone, over any program. -/
import Derived.Test.YtencnfgmgcdiiaaMem
namespace Go.PM
open Go.RowKit

/-- The call returned, and X holds of the value and the world. -/
def Ret (X : Value → World → Prop) (e : Ending) (w : World) : Prop := ∃ v, e = .returned v ∧ X v w
theorem Ret.mk {X : Value → World → Prop} {v : Value} {w : World} (h : X v w) : Ret X (.returned v) w := ⟨v, rfl, h⟩

/-- A slice (address a, n elements of s cells, capacity cap) that owns its array: nil, or at the head of a block of its own. -/
structure Own (w : World) (T : TypeId) (s : Nat) (a : Option Addr) (n cap : Nat) (xs : List Value) : Prop where
  len : xs.length = n * s
  le : n ≤ cap
  max : cap ≤ maxLen
  row : (a = none ∧ n = 0 ∧ cap = 0) ∨ ∃ g cur, a = some ⟨g, 0, none⟩ ∧ Blk w g T cur ∧ cur.length = cap * s ∧ cur.take (n * s) = xs

section
variable {w w' : World} {T : TypeId} {s : Nat} {a : Option Addr} {n cap : Nat} {xs : List Value}

theorem Own.nil (w : World) (T : TypeId) (s : Nat) : Own w T s none 0 0 [] := ⟨by simp, Nat.le_refl _, by simp [maxLen], .inl ⟨rfl, rfl, rfl⟩⟩
theorem Own.ofBlk {g : Nat} {cur : List Value} (h : Blk w g T cur) (hc : cur.length = cap * s) (hl : n ≤ cap) (hm : cap ≤ maxLen) : Own w T s (some ⟨g, 0, none⟩) n cap (cur.take (n * s)) :=
  ⟨by rw [List.length_take, hc]; exact Nat.min_eq_left (Nat.mul_le_mul_right _ hl), hl, hm, .inr ⟨g, cur, rfl, h, hc, rfl⟩⟩
theorem Own.full {g : Nat} (h : Blk w g T xs) (hc : xs.length = n * s) (hm : n ≤ maxLen) : Own w T s (some ⟨g, 0, none⟩) n n xs :=
  ⟨hc, Nat.le_refl _, hm, .inr ⟨g, xs, rfl, h, hc, List.take_of_length_le (by omega)⟩⟩
theorem Own.kept {S : Nat → Prop} (h : Own w T s a n cap xs) (k : Kept S w w') (hn : ∀ b, At a b → ¬ S b) : Own w' T s a n cap xs :=
  ⟨h.len, h.le, h.max, h.row.imp id fun ⟨g, cur, ha, hb, hc, ht⟩ => ⟨g, cur, ha, hb.kept k (hn g ⟨g, 0, ha, rfl⟩), hc, ht⟩⟩
theorem Own.keptNo (h : Own w T s a n cap xs) (k : Kept No w w') : Own w' T s a n cap xs := h.kept k fun _ _ h => h
theorem Own.rd (h : Own w T s a n cap xs) : Rd w a xs := by
  rcases h.row with ⟨_, hn, _⟩ | ⟨g, cur, rfl, hb, _, ht⟩
  · have := h.len
    have : xs = [] := List.eq_nil_of_length_eq_zero (by rw [this, hn]; simp)
    subst this; exact Rd.nil _ _
  · exact Rd.ofBlk hb fun j x hj => by
      rw [← ht, List.getElem?_take] at hj
      split at hj
      · exact hj
      · exact (nomatch hj)
theorem Own.lt (h : Own w T s a n cap xs) : ∀ b, At a b → b < w.heap.size := by
  rintro b ⟨g, o, rfl, rfl⟩
  rcases h.row with ⟨h', _⟩ | ⟨g, cur, h', hb, _⟩
  · cases h'
  · simp only [Option.some.injEq, Addr.mk.injEq] at h'; obtain ⟨rfl, _⟩ := h'; exact hb.lt
theorem Own.toRow (h : Own w T s a n cap xs) : w.ownsRow 0 T s (.slice a n cap) n xs :=
  ⟨h.len, h.row.imp (fun ⟨h1, h2, h3⟩ => ⟨by rw [h1, h2, h3], h2⟩) fun ⟨g, cur, ha, hb, hc, ht⟩ => ⟨g, cap, cur.toArray, by rw [ha], Nat.zero_le _, hb, h.le, h.max, by simpa using hc, by simpa using ht⟩⟩
theorem Own.ofRow {v : Value} (h : w.ownsRow 0 T s v n xs) : ∃ a cap, v = .slice a n cap ∧ Own w T s a n cap xs := by
  obtain ⟨hl, ⟨rfl, rfl⟩ | ⟨g, cap, cur, rfl, _, hb, hle, hm, hc, ht⟩⟩ := h
  · exact ⟨none, 0, rfl, hl, Nat.le_refl _, by simp [maxLen], .inl ⟨rfl, rfl, rfl⟩⟩
  · exact ⟨_, cap, rfl, hl, hle, hm, .inr ⟨g, cur.toList, rfl, hb, by simpa using hc, ht⟩⟩
theorem Own.block {g : Nat} (h : Own w T s (some ⟨g, 0, none⟩) n cap xs) : ∃ cur, Blk w g T cur ∧ cur.length = cap * s ∧ cur.take (n * s) = xs := by
  rcases h.row with ⟨h', _⟩ | ⟨g, cur, h', r⟩
  · cases h'
  · simp only [Option.some.injEq, Addr.mk.injEq, and_true] at h'; subst h'; exact ⟨cur, r⟩
/-- Its address: none, or a block's head. -/
theorem Own.addr (h : Own w T s a n cap xs) : a = none ∧ n = 0 ∧ cap = 0 ∧ xs = [] ∨ ∃ g, a = some ⟨g, 0, none⟩ ∧ g < w.heap.size := by
  rcases h.row with ⟨h1, h2, h3⟩ | ⟨g, cur, h', hb, _⟩
  · exact .inl ⟨h1, h2, h3, List.eq_nil_of_length_eq_zero (by rw [h.len, h2]; simp)⟩
  · exact .inr ⟨g, h', hb.lt⟩
end

theorem take_splice_at {α : Type} (L : List α) (off : Nat) (cs : List α) (h : off ≤ L.length) : (splice L off cs).take off = L.take off := by
  unfold splice
  rw [List.take_append_of_le_length (by rw [List.length_take]; omega), List.take_take, Nat.min_self]
theorem take_splice_end {α : Type} (L : List α) (off : Nat) (cs : List α) (h : off ≤ L.length) : (splice L off cs).take (off + cs.length) = L.take off ++ cs := by
  unfold splice
  rw [← List.append_assoc]
  have : off + cs.length = (L.take off ++ cs).length := by rw [List.length_append, List.length_take]; omega
  rw [this]; exact List.take_left

/-- What an append makes of an owned slice. -/
structure Appended (w w' : World) (T : TypeId) (s : Nat) (a : Option Addr) (a' : Option Addr) (n' cap' : Nat) (ys : List Value) : Prop where
  own : Own w' T s a' n' cap' ys
  kept : Kept (At a) w w'
  at_ : ∀ k, At a' k → At a k ∨ w.heap.size ≤ k

section
variable {P : Program} (w : World)

theorem run_append (t ty e : TypeId) (i : TypeInfo) (z : Value) (size bytes : Nat) (ht : P.underlying t = some (.slice e)) (hi : P.info? e = some i) (hz : i.zero = some z)
    (hsize : i.size = size) (hby : i.bytes = bytes) (hzs : z.cells.size = size) (hsz : 0 < size)
    (a : Option Addr) (n cap : Nat) (xs : List Value) (hown : Own w e size a n cap xs)
    (a2 : Option Addr) (m c : Nat) (news : List Value) (hc : a2 = none → c = 0) (hl : news.length = m * size) (hnews : Rd w a2 news) (h1 : ∀ u ∈ news, u.oneCell' = true)
    (h63 : n + m ≤ maxLen) (hbytes : (n + m) * bytes ≤ 140737488355328) :
    ∃ a' cap' w', (Builtin.append_ #[t, t] ty #[.slice a n cap, .slice a2 m c]).run P w = .ok (.slice a' (n + m) cap') w' ∧ Appended w w' e size a a' (n + m) cap' (xs ++ news) := by
  cases a2 with
  | none =>
    have hm : m = 0 := by
      rcases Nat.eq_zero_or_pos m with h | h
      · exact h
      · have : 0 < news.length := by rw [hl]; exact Nat.mul_pos h hsz
        obtain ⟨b, o, h', _⟩ := hnews.addr this; cases h'
    subst hm
    have hn0 : news = [] := List.eq_nil_of_length_eq_zero (by simpa using hl)
    subst hn0
    have hc0 : c = 0 := hc rfl
    subst hc0
    refine ⟨a, cap, w, by simpa using run_append_owned_none (P := P) w 0 t ty e i size ht hi _ n xs hown.toRow, ?_⟩
    simp only [List.append_nil, Nat.add_zero]
    exact ⟨hown, Kept.refl _ _, fun k h => .inl h⟩
  | some ad =>
    have hsrc : ∀ j u, news[j]? = some u → w.cell? (ad.add j) = some u := by
      intro j u hj
      have h0 : 0 < news.length := by have := (List.getElem?_eq_some_iff.1 hj).1; omega
      obtain ⟨ad', e', h'⟩ := hnews.src h0
      cases e'; exact h' j u hj
    obtain ⟨v', w', hr, ho, hg, _⟩ := run_append_own (P := P) w 0 t ty e i z size bytes ht hi hz hsize hby hzs hsz _ n xs hown.toRow ad m c news hl hsrc h1 h63 hbytes (Nat.zero_le _)
    obtain ⟨a', cap', rfl, ho'⟩ := Own.ofRow ho
    have hrow : ∀ k, (Value.slice a n cap).ownBlock = some k → At a k := by
      intro k hk
      rcases hown.addr with ⟨rfl, _⟩ | ⟨g, rfl, _⟩
      · simp [Value.ownBlock] at hk
      · simp [Value.ownBlock] at hk; exact ⟨g, 0, rfl, hk.symm⟩
    have hk : Kept (At a) w w' := Kept.ofGrown hg hrow
    refine ⟨a', cap', w', hr, ho', hk, ?_⟩
    rintro k ⟨g, o, rfl, rfl⟩
    -- the new array: the old one, or beyond all
    rcases Nat.lt_or_ge k w.heap.size with hlt | hge
    · left
      rcases hown.addr with ⟨rfl, rfl, rfl, rfl⟩ | ⟨g0, rfl, _⟩
      · rcases ho'.addr with ⟨h', _⟩ | ⟨g1, h', _⟩
        · cases h'
        · simp only [Option.some.injEq, Addr.mk.injEq] at h'; obtain ⟨rfl, _⟩ := h'
          exfalso
          by_cases hm : m = 0
          · subst hm
            have := run_append_owned_none (P := P) w 0 t ty e i size ht hi (.slice none 0 0) 0 [] (Own.nil w e size).toRow
            have hn0 : news = [] := List.eq_nil_of_length_eq_zero (by simpa using hl)
            subst hn0
            have h0 : (Builtin.append_ #[t, t] ty #[.slice none 0 0, .slice (some ad) 0 c]).run P w = .ok (.slice none 0 0) w := by
              simp [Builtin.append_, run_underlying ht, sizeOf, typeInfo, hi, Builtin.lenOf, Builtin.firstCells, loadCells, loadCellsFrom]
            rw [h0] at hr
            simp at hr
          · have hrn := run_append_nil (P := P) w t ty e i z ht hi hz ad m c news (by rw [hsize]; exact hl) hsrc (by omega) (by simp only [maxLen] at h63; omega) (by rw [hby]; simp only [Nat.zero_add] at hbytes; omega)
            rw [hrn] at hr
            simp at hr
            try omega
      · by_cases hroom : n + m ≤ cap
        · obtain ⟨cur, hb, hcl, _⟩ := hown.block
          have hrr := run_append_room (P := P) w t ty e i ht hi g0 n cap cur.toArray hb ad m c news (by rw [hsize]; exact hl) hsrc h1 hroom (by
            rw [hsize, hl, ← Nat.add_mul]; simp only [List.size_toArray, hcl]; exact Nat.mul_le_mul_right _ hroom)
          rw [hrr] at hr
          simp only [Result.ok.injEq, Value.slice.injEq, Option.some.injEq, Addr.mk.injEq] at hr
          exact ⟨g0, 0, rfl, hr.1.1.1.symm⟩
        · exfalso
          have holds : ∀ j u, xs[j]? = some u → w.cell? ((⟨g0, 0, none⟩ : Addr).add j) = some u := by
            intro j u hj
            have h0 : 0 < xs.length := by have := (List.getElem?_eq_some_iff.1 hj).1; omega
            obtain ⟨ad', e', h'⟩ := hown.rd.src h0
            cases e'; exact h' j u hj
          have hrg := run_append_grow (P := P) w t ty e i z ht hi hz ⟨g0, 0, none⟩ n cap xs (by rw [hsize]; exact hown.len) holds ad m c news (by rw [hsize]; exact hl) hsrc (by omega) (by simp only [maxLen] at h63; omega) (by rw [hby]; exact growslice_fits (by omega) hbytes)
          rw [hrg] at hr
          simp only [Result.ok.injEq, Value.slice.injEq, Option.some.injEq, Addr.mk.injEq] at hr
          omega
    · exact .inr hge

section
variable {w}
variable {ops : Array Oper} {rest : List Oper} {o : Oper} {a : Act} {K : Act → World → Prop} {Q : Exit → Act → World → Prop} {E : Prop}

theorem step_wp (hg : o.guard = none) (h : o.wp P a w K Q) : if Region.wanted o (yielded ops a.tmps) = true then Oper.wp P o a w K Q else E := by
  rw [if_pos (by simp [Region.wanted, hg])]; exact h

theorem wp_append (s x : Operand) (t : TypeId)
    (ho : o.op = .call { callee := .builtin .append, args := #[s, x], argTypes := #[t, t] })
    (e : TypeId) (i : TypeInfo) (z : Value) (size bytes : Nat) (ht : P.underlying t = some (.slice e)) (hi : P.info? e = some i) (hz : i.zero = some z)
    (hsize : i.size = size) (hby : i.bytes = bytes) (hzs : z.cells.size = size) (hsz : 0 < size)
    (ad : Option Addr) (n cap : Nat) (xs : List Value) (hs : a.eval s = .slice ad n cap) (hown : Own w e size ad n cap xs)
    (a2 : Option Addr) (m c : Nat) (news : List Value) (hx : a.eval x = .slice a2 m c) (hc : a2 = none → c = 0) (hl : news.length = m * size) (hnews : Rd w a2 news) (h1 : ∀ u ∈ news, u.oneCell' = true)
    (h63 : n + m ≤ maxLen) (hbytes : (n + m) * bytes ≤ 140737488355328)
    (h : ∀ a' cap' w', Appended w w' e size ad a' (n + m) cap' (xs ++ news) → K (a.put o.dst (.slice a' (n + m) cap')) w') : o.wp P a w K Q := by
  obtain ⟨a', cap', w', hr, hap⟩ := run_append (P := P) w t o.type e i z size bytes ht hi hz hsize hby hzs hsz ad n cap xs hown a2 m c news hc hl hnews h1 h63 hbytes
  unfold Oper.wp execOp
  simp only [ho, resolve, invoke, builtin, Sem.run_bind, Sem.run_pure, Result.andThen_ok, List.map_toArray, List.map_cons, List.map_nil, hs, hx, hr]
  exact h a' cap' w' hap

theorem wpList_append (hg : o.guard = none) (s x : Operand) (t : TypeId)
    (ho : o.op = .call { callee := .builtin .append, args := #[s, x], argTypes := #[t, t] })
    (e : TypeId) (i : TypeInfo) (z : Value) (size bytes : Nat) (ht : P.underlying t = some (.slice e)) (hi : P.info? e = some i) (hz : i.zero = some z)
    (hsize : i.size = size) (hby : i.bytes = bytes) (hzs : z.cells.size = size) (hsz : 0 < size)
    (ad : Option Addr) (n cap : Nat) (xs : List Value) (hs : a.eval s = .slice ad n cap) (hown : Own w e size ad n cap xs)
    (a2 : Option Addr) (m c : Nat) (news : List Value) (hx : a.eval x = .slice a2 m c) (hc : a2 = none → c = 0) (hl : news.length = m * size) (hnews : Rd w a2 news) (h1 : ∀ u ∈ news, u.oneCell' = true)
    (h63 : n + m ≤ maxLen) (hbytes : (n + m) * bytes ≤ 140737488355328)
    (h : ∀ a' cap' w', Appended w w' e size ad a' (n + m) cap' (xs ++ news) → wpList P ops Q rest (a.put o.dst (.slice a' (n + m) cap')) w') : wpList P ops Q (o :: rest) a w :=
  wpList_plain hg fun _ hK => wp_append s x t ho e i z size bytes ht hi hz hsize hby hzs hsz ad n cap xs hs hown a2 m c news hx hc hl hnews h1 h63 hbytes fun a' c' w' h2 => hK _ _ (h a' c' w' h2)

theorem wp_copy (d s : Operand) (dT sT : TypeId)
    (ho : o.op = .call { callee := .builtin .copy, args := #[d, s], argTypes := #[dT, sT] }) (elem : TypeId) (hu : P.underlying dT = some (.slice elem)) (hsz : (P.info? elem).map (·.size) = some 1)
    (g off dLen dCap : Nat) (sp : Option Addr) (sLen sCap : Nat) (hd : a.eval d = .slice (some ⟨g, off, none⟩) dLen dCap) (hs : a.eval s = .slice sp sLen sCap)
    (T : TypeId) (cur : List Value) (hb : Blk w g T cur) (cs : List Value) (hn : cs.length = Nat.min sLen dLen) (hsrc : Rd w sp cs)
    (hfit : off + cs.length ≤ cur.length) (h1 : ∀ v ∈ cs, v.oneCell' = true)
    (h : K (a.put o.dst (.int .i64 cs.length)) (w.setRow g (splice cur off cs).toArray)) : o.wp P a w K Q := by
  by_cases h0 : cs.length = 0
  · obtain rfl : cs = [] := List.eq_nil_of_length_eq_zero h0
    have hrun := run_copy_none (P := P) w dT sT o.type elem (some ⟨g, off, none⟩) sp dLen dCap sLen sCap hu hsz (by simpa using hn.symm)
    have hsame : w.setRow g (splice cur off []).toArray = w := by
      have : splice cur off [] = cur := by simp [splice]
      rw [this]; exact setRow_self w g _ T _ hb
    rw [hsame] at h
    unfold Oper.wp
    simp [execOp, ho, resolve, invoke, builtin, hd, hs, hrun, Result.andThen]
    exact h
  · obtain ⟨ad, rfl, hsrc'⟩ := hsrc.src (by omega)
    have hrun := run_copy_row (P := P) w dT sT o.type elem g off dLen dCap ad sLen sCap cur.toArray T cs hu hsz hb hn hsrc' (by simpa using hfit) h1
    unfold Oper.wp
    have hrun' : (Builtin.copy_ #[dT, sT] o.type #[.slice (some ⟨g, off, none⟩) dLen dCap, .slice (some ad) sLen sCap]).run P w = .ok (.int .i64 cs.length) (w.setRow g (splice cur off cs).toArray) := by
      rw [hrun]; simp [splice, goInt]
    simp [execOp, ho, resolve, invoke, builtin, hd, hs, hrun', Result.andThen]
    exact h

theorem wpList_copy (hg : o.guard = none) (d s : Operand) (dT sT : TypeId)
    (ho : o.op = .call { callee := .builtin .copy, args := #[d, s], argTypes := #[dT, sT] }) (elem : TypeId) (hu : P.underlying dT = some (.slice elem)) (hsz : (P.info? elem).map (·.size) = some 1)
    (g off dLen dCap : Nat) (sp : Option Addr) (sLen sCap : Nat) (hd : a.eval d = .slice (some ⟨g, off, none⟩) dLen dCap) (hs : a.eval s = .slice sp sLen sCap)
    (T : TypeId) (cur : List Value) (hb : Blk w g T cur) (cs : List Value) (hn : cs.length = Nat.min sLen dLen) (hsrc : Rd w sp cs)
    (hfit : off + cs.length ≤ cur.length) (h1 : ∀ v ∈ cs, v.oneCell' = true)
    (h : wpList P ops Q rest (a.put o.dst (.int .i64 cs.length)) (w.setRow g (splice cur off cs).toArray)) : wpList P ops Q (o :: rest) a w :=
  wpList_plain hg fun _ hK => wp_copy d s dT sT ho elem hu hsz g off dLen dCap sp sLen sCap hd hs T cur hb cs hn hsrc hfit h1 (hK _ _ h)

/-- A whole fresh array of one-cell elements is copied over: the array lies last. -/
theorem wpList_copy_last {w0 : World} (hg : o.guard = none) (d s : Operand) (dT sT : TypeId)
    (ho : o.op = .call { callee := .builtin .copy, args := #[d, s], argTypes := #[dT, sT] }) (elem : TypeId) (hu : P.underlying dT = some (.slice elem)) (hsz : (P.info? elem).map (·.size) = some 1)
    (g n dCap : Nat) (sp : Option Addr) (sCap : Nat) (hd : a.eval d = .slice (some ⟨g, 0, none⟩) n dCap) (hs : a.eval s = .slice sp n sCap) (hgw : g = w0.heap.size)
    (T : TypeId) (cur : List Value) (hcur : cur.length = n) (cs : List Value) (hn : cs.length = n) (hsrc : Rd w0 sp cs) (h1 : ∀ v ∈ cs, v.oneCell' = true)
    (h : wpList P ops Q rest (a.put o.dst (.int .i64 n)) (w0.alloc (.cells cs.toArray T))) : wpList P ops Q (o :: rest) a (w0.alloc (.cells cur.toArray T)) := by
  subst hgw
  have hb := Blk.new w0 T cur
  refine wpList_copy hg d s dT sT ho elem hu hsz w0.heap.size 0 n dCap sp n sCap hd hs T cur hb cs (by rw [hn]; exact (Nat.min_self n).symm) (hsrc.keptNo ((Kept.refl No w0).alloc _)) (by omega) h1 ?_
  have e1 : splice cur 0 cs = cs := by simp [splice]; omega
  have e2 : (w0.alloc (.cells cur.toArray T)).setRow w0.heap.size cs.toArray = w0.alloc (.cells cs.toArray T) := by
    unfold World.setRow World.alloc
    congr 1
    apply Array.ext_getElem?
    intro k
    rw [Array.getElem?_modify, Array.getElem?_push, Array.getElem?_push]
    by_cases hk : k = w0.heap.size
    · simp [hk]
    · simp [hk, Ne.symm hk]
  rw [e1, e2, hn]
  exact h

/-- append within the capacity of a known block, wherever the source lies. -/
theorem wp_append_room (s x : Operand) (t : TypeId)
    (ho : o.op = .call { callee := .builtin .append, args := #[s, x], argTypes := #[t, t] })
    (e : TypeId) (i : TypeInfo) (size : Nat) (ht : P.underlying t = some (.slice e)) (hi : P.info? e = some i) (hsize : i.size = size) (hsz : 0 < size)
    (g n cap : Nat) (cur : List Value) (hs : a.eval s = .slice (some ⟨g, 0, none⟩) n cap) (hb : Blk w g e cur)
    (a2 : Option Addr) (m c : Nat) (news : List Value) (hx : a.eval x = .slice a2 m c) (hc : a2 = none → c = 0) (hl : news.length = m * size) (hnews : Rd w a2 news) (h1 : ∀ u ∈ news, u.oneCell' = true)
    (hroom : n + m ≤ cap) (hfit : n * size + news.length ≤ cur.length)
    (h : K (a.put o.dst (.slice (some ⟨g, 0, none⟩) (n + m) cap)) (w.setRow g (splice cur (n * size) news).toArray)) : o.wp P a w K Q := by
  subst hsize
  have hrun : (Builtin.append_ #[t, t] o.type #[.slice (some ⟨g, 0, none⟩) n cap, .slice a2 m c]).run P w = .ok (.slice (some ⟨g, 0, none⟩) (n + m) cap) (w.setRow g (splice cur (n * i.size) news).toArray) := by
    cases a2 with
    | none =>
      have hm : m = 0 := by
        rcases Nat.eq_zero_or_pos m with h | h
        · exact h
        · have : 0 < news.length := by rw [hl]; exact Nat.mul_pos h hsz
          obtain ⟨b, o, h', _⟩ := hnews.addr this; cases h'
      subst hm
      have hn0 : news = [] := List.eq_nil_of_length_eq_zero (by simpa using hl)
      subst hn0
      have hc0 : c = 0 := hc rfl
      subst hc0
      have hsame : w.setRow g (splice cur (n * i.size) []).toArray = w := by
        have : splice cur (n * i.size) [] = cur := by simp [splice]
        rw [this]; exact setRow_self w g _ e _ hb
      rw [hsame]
      have hn : n ≤ cap := by omega
      simp [Builtin.append_, run_underlying ht, sizeOf, typeInfo, hi, Builtin.lenOf, Builtin.firstCells, hn, storeCells]
    | some ad =>
      have hsrc : ∀ j u, news[j]? = some u → w.cell? (ad.add j) = some u := by
        intro j u hj
        have h0 : 0 < news.length := by have := (List.getElem?_eq_some_iff.1 hj).1; omega
        obtain ⟨ad', e', h'⟩ := hnews.src h0
        cases e'; exact h' j u hj
      have hr := run_append_room (P := P) w t o.type e i ht hi g n cap cur.toArray hb ad m c news hl hsrc h1 hroom (by simpa using hfit)
      rw [hr]; simp [splice]
  unfold Oper.wp execOp
  simp only [ho, resolve, invoke, builtin, Sem.run_bind, Sem.run_pure, Result.andThen_ok, List.map_toArray, List.map_cons, List.map_nil, hs, hx, hrun]
  exact h

/-- clear of elements of a known block. -/
theorem run_clear (t ty e : TypeId) (i : TypeInfo) (z : Value) (ht : P.underlying t = some (.slice e)) (hi : P.info? e = some i) (hz : i.zero = some z)
    (g off n c : Nat) (cur : List Value) (hb : Blk w g e cur) (h0 : 0 < n) (zs : List Value) (hzs : (Builtin.zeroCells z.cells n).toList = zs) (hfit : off + zs.length ≤ cur.length) (h1 : ∀ u ∈ zs, u.oneCell' = true) :
    (Builtin.clear_ #[t] ty #[.slice (some ⟨g, off, none⟩) n c]).run P w = .ok (.tuple #[]) (w.setRow g (splice cur off zs).toArray) := by
  subst hzs
  have hst := run_storeCells_at P g off e (Builtin.zeroCells z.cells n).toList 0 cur.toArray w hb (by simpa using hfit) h1
  obtain ⟨n, rfl⟩ : ∃ k, n = k + 1 := ⟨n - 1, by omega⟩
  simp only [Nat.add_zero] at hst
  simp [Builtin.clear_, run_underlying ht, zeroValue, typeInfo, hi, hz, hst, splice]

theorem wp_clear (s : Operand) (t : TypeId)
    (ho : o.op = .call { callee := .builtin .clear, args := #[s], argTypes := #[t] })
    (e : TypeId) (i : TypeInfo) (z : Value) (ht : P.underlying t = some (.slice e)) (hi : P.info? e = some i) (hz : i.zero = some z)
    (g off n c : Nat) (cur : List Value) (hs : a.eval s = .slice (some ⟨g, off, none⟩) n c) (hb : Blk w g e cur) (h0 : 0 < n) (zs : List Value) (hzs : (Builtin.zeroCells z.cells n).toList = zs) (hfit : off + zs.length ≤ cur.length) (h1 : ∀ u ∈ zs, u.oneCell' = true)
    (h : K (a.put o.dst (.tuple #[])) (w.setRow g (splice cur off zs).toArray)) : o.wp P a w K Q := by
  have hrun := run_clear (P := P) t o.type e i z ht hi hz g off n c cur hb h0 zs hzs hfit h1
  unfold Oper.wp execOp
  simp only [ho, resolve, invoke, builtin, Sem.run_bind, Sem.run_pure, Result.andThen_ok, List.map_toArray, List.map_cons, List.map_nil, hs, hrun]
  exact h

theorem wpList_clear (hg : o.guard = none) (s : Operand) (t : TypeId)
    (ho : o.op = .call { callee := .builtin .clear, args := #[s], argTypes := #[t] })
    (e : TypeId) (i : TypeInfo) (z : Value) (ht : P.underlying t = some (.slice e)) (hi : P.info? e = some i) (hz : i.zero = some z)
    (g off n c : Nat) (cur : List Value) (hs : a.eval s = .slice (some ⟨g, off, none⟩) n c) (hb : Blk w g e cur) (h0 : 0 < n) (zs : List Value) (hzs : (Builtin.zeroCells z.cells n).toList = zs) (hfit : off + zs.length ≤ cur.length) (h1 : ∀ u ∈ zs, u.oneCell' = true)
    (h : wpList P ops Q rest (a.put o.dst (.tuple #[])) (w.setRow g (splice cur off zs).toArray)) : wpList P ops Q (o :: rest) a w :=
  wpList_plain hg fun _ hK => wp_clear s t ho e i z ht hi hz g off n c cur hs hb h0 zs hzs hfit h1 (hK _ _ h)

/-- The zero cells of n elements. -/
def zrow (z : Value) (n : Nat) : List Value := (madeCells z.cells (n * z.cells.size)).toList
theorem zrow_length (z : Value) (n : Nat) : (zrow z n).length = n * z.cells.size := by simp [zrow, madeCells]
theorem zrow_one (z : Value) (h : z.cells = #[z]) (n : Nat) : zrow z n = List.replicate n z := by
  unfold zrow; rw [h]; simpa using toList_madeCells_one z n

theorem wpList_make (hg : o.guard = none) (l c : Operand) (t : TypeId) (hop : o.op = Op.makeSlice t l c)
    (e : TypeId) (i : TypeInfo) (z : Value) (h1 : P.underlying t = some (.slice e)) (h2 : P.info? e = some i) (h3 : i.zero = some z) (size bytes : Nat) (h4' : i.size = size) (h5 : i.bytes = bytes) (h6 : z.cells.size = size)
    (kl kc : IntKind) (L C : Int) (n m : Nat) (hl : a.eval l = .int kl L) (hc : a.eval c = .int kc C) (hL : L = (n : Int)) (hC : C = (m : Int)) (hnm : n ≤ m) (b2 : bytes * m ≤ 281474976710656) (b3 : m ≤ 9223372036854775807)
    (hK : wpList P ops Q rest (a.put o.dst (.slice (some ⟨w.heap.size, 0, none⟩) n m)) (w.alloc (.cells (zrow z m).toArray e))) :
    wpList P ops Q (o :: rest) a w := by
  refine wpList_plain hg fun K hK' => ?_
  subst h5
  have h4 : i.size = z.cells.size := h4'.trans h6.symm
  have hb2 : (i.bytes : Int) * (m : Int) ≤ 281474976710656 := by
    have h : ((i.bytes * m : Nat) : Int) ≤ 281474976710656 := by omega
    rwa [Int.natCast_mul] at h
  have hrun := run_make (P := P) w t e i z h1 h2 h3 kl kc (n : Int) (m : Int) (by omega) (by omega) hb2 (by omega)
  subst hL
  subst hC
  have hrun' : (Instr.makeSlice t (.int kl (n : Int)) (.int kc (m : Int))).run P w = .ok (.slice (some ⟨w.heap.size, 0, none⟩) n m) (w.alloc (.cells (zrow z m).toArray e)) := by
    rw [hrun]; simp [zrow, h4]
  unfold Oper.wp
  simp [execOp, hop, hl, hc, hrun', Result.andThen]
  exact hK' _ _ hK
end
end
end Go.PM
