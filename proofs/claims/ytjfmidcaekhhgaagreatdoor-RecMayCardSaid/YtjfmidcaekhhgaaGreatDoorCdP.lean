/- The pure short numbers, and readers. No Go here. -/
namespace Go.PM

/-- The bytes of a short number. -/
def short (n : Nat) : List UInt8 := if n < 128 then [UInt8.ofNat n] else UInt8.ofNat (n % 128 + 128) :: short (n / 128)
termination_by n
decreasing_by omega

/-- The number at the head, behind i bytes that made n: its value, how many bytes it has, its error. -/
def longAt (i n : Nat) : List UInt8 → Nat × Nat × Nat
  | [] => (0, 0, 4)
  | c :: l =>
    if i = 9 ∧ 1 < c.toNat then (0, 0, 3)
    else if 128 ≤ c.toNat then longAt (i + 1) (n + c.toNat % 128 * 2 ^ (7 * i)) l
    else if c.toNat = 0 ∧ 0 < i then (0, 0, 3)
    else (n + c.toNat % 128 * 2 ^ (7 * i), i + 1, 0)
def long (l : List UInt8) : Nat × Nat × Nat := longAt 0 0 l

theorem short_small {n : Nat} (h : n < 128) : short n = [UInt8.ofNat n] := by unfold short; rw [if_pos h]
theorem short_big {n : Nat} (h : 128 ≤ n) : short n = UInt8.ofNat (n % 128 + 128) :: short (n / 128) := by rw [short.eq_1, if_neg (by omega)]
theorem short_le {n k : Nat} (h : n < 128 ^ (k + 1)) : (short n).length ≤ k + 1 := by
  induction k generalizing n with
  | zero => rw [short_small (by simpa using h)]; simp
  | succ k ih =>
    by_cases h1 : n < 128
    · rw [short_small h1]; simp
    · rw [short_big (by omega), List.length_cons]
      have : n / 128 < 128 ^ (k + 1) := by
        rw [Nat.div_lt_iff_lt_mul (by omega), ← Nat.pow_succ]; exact h
      have := ih this
      omega
theorem short_pos (n : Nat) : 0 < (short n).length := by
  unfold short; split <;> simp

/-- What was written is read, whatever stands behind. -/
theorem longAt_short (n i m : Nat) (t : List UInt8) (h : n * 2 ^ (7 * i) < 2 ^ 64) (h0 : i = 0 ∨ 0 < n) :
    longAt i m (short n ++ t) = (m + n * 2 ^ (7 * i), i + (short n).length, 0) := by
  induction n using short.induct generalizing i m with
  | case1 n hn =>
    have e : (UInt8.ofNat n).toNat = n := by simp; omega
    rw [short_small hn, List.singleton_append, longAt, e, if_neg ?_, if_neg (by omega), if_neg (by omega), Nat.mod_eq_of_lt hn]
    · rfl
    · rintro ⟨rfl, h1⟩
      have : 2 * 2 ^ (7 * 9) ≤ n * 2 ^ (7 * 9) := Nat.mul_le_mul_right _ h1
      omega
  | case2 n hn ih =>
    have e : (UInt8.ofNat (n % 128 + 128)).toNat = n % 128 + 128 := by simp; omega
    have p : 2 ^ (7 * (i + 1)) = 128 * 2 ^ (7 * i) := by rw [show 7 * (i + 1) = 7 + 7 * i by omega, Nat.pow_add]
    have hq : n / 128 * 2 ^ (7 * (i + 1)) = n / 128 * 128 * 2 ^ (7 * i) := by rw [p, Nat.mul_assoc]
    have hd : n / 128 * 128 * 2 ^ (7 * i) + n % 128 * 2 ^ (7 * i) = n * 2 ^ (7 * i) := by rw [← Nat.add_mul]; congr 1; omega
    rw [short_big (by omega), List.cons_append, longAt, e, if_neg ?_, if_pos (by omega), show (n % 128 + 128) % 128 = n % 128 by omega, ih (i + 1) _ (by omega) (.inr (by omega)), hq, List.length_cons]
    · refine Prod.ext ?_ (Prod.ext ?_ rfl)
      · simp only; omega
      · simp only; omega
    · rintro ⟨rfl, h1⟩
      have : 128 * 2 ^ (7 * 9) ≤ n * 2 ^ (7 * 9) := Nat.mul_le_mul_right _ (by omega)
      omega
theorem long_short (n : Nat) (t : List UInt8) (h : n < 2 ^ 64) : long (short n ++ t) = (n, (short n).length, 0) := by
  unfold long
  rw [longAt_short n 0 0 t (by simpa using h) (.inl rfl)]
  simp

/-- What was read is what is written. -/
theorem longAt_takes (l : List UInt8) (i m : Nat) (hi : i ≤ 9) (hm : m < 2 ^ (7 * i)) {n k : Nat} (h : longAt i m l = (n, k, 0)) :
    ∃ q j, n = m + q * 2 ^ (7 * i) ∧ k = i + j ∧ j ≤ l.length ∧ 0 < j ∧ l.take j = short q ∧ (i = 0 ∨ 0 < q) ∧ n < 2 ^ 64 := by
  induction l generalizing i m with
  | nil => rw [longAt] at h; cases h
  | cons c l ih =>
    rw [longAt] at h
    have c256 : c.toNat < 256 := c.toNat_lt
    have hp : 0 < 2 ^ (7 * i) := Nat.two_pow_pos _
    by_cases h1 : i = 9 ∧ 1 < c.toNat
    · rw [if_pos h1] at h; cases h
    · rw [if_neg h1] at h
      by_cases h2 : 128 ≤ c.toNat
      · rw [if_pos h2] at h
        have p : 2 ^ (7 * (i + 1)) = 128 * 2 ^ (7 * i) := by rw [show 7 * (i + 1) = 7 + 7 * i by omega, Nat.pow_add]
        have hb : c.toNat % 128 * 2 ^ (7 * i) ≤ 127 * 2 ^ (7 * i) := Nat.mul_le_mul_right _ (by omega)
        obtain ⟨q, j, e1, e2, e3, e4, e5, e6, e7⟩ := ih (i + 1) _ (by omega) (by rw [p]; omega) h
        have hq : 0 < q := e6.resolve_left (by omega)
        have hc : c = UInt8.ofNat ((c.toNat % 128 + 128 * q) % 128 + 128) := by
          apply UInt8.toNat_inj.1
          rw [UInt8.toNat_ofNat']
          omega
        refine ⟨c.toNat % 128 + 128 * q, j + 1, ?_, by omega, by simp; omega, by omega, ?_, .inr (by omega), e7⟩
        · rw [e1, p, Nat.add_mul, Nat.add_assoc]
          congr 2
          rw [Nat.mul_left_comm, Nat.mul_assoc]
        · rw [short_big (by omega), List.take_succ_cons, e5, ← hc]
          congr 2
          omega
      · rw [if_neg h2] at h
        by_cases h3 : c.toNat = 0 ∧ 0 < i
        · rw [if_pos h3] at h; cases h
        · rw [if_neg h3] at h
          cases h
          refine ⟨c.toNat, 1, ?_, rfl, by simp, by omega, ?_, by omega, ?_⟩
          · rw [Nat.mod_eq_of_lt (by omega)]
          · rw [short_small (by omega)]; simp
          · have hb : c.toNat % 128 * 2 ^ (7 * i) ≤ 127 * 2 ^ (7 * i) := Nat.mul_le_mul_right _ (by omega)
            rcases Nat.lt_or_ge i 9 with h9 | h9
            · have : 2 ^ (7 * i) ≤ 2 ^ 56 := Nat.pow_le_pow_right (by omega) (by omega)
              omega
            · have : i = 9 := by omega
              subst this
              have : c.toNat % 128 * 2 ^ (7 * 9) ≤ 1 * 2 ^ (7 * 9) := Nat.mul_le_mul_right _ (by omega)
              omega
theorem long_takes (l : List UInt8) {n k : Nat} (h : long l = (n, k, 0)) : k ≤ l.length ∧ 0 < k ∧ l.take k = short n ∧ n < 2 ^ 64 := by
  obtain ⟨q, j, e1, e2, e3, e4, e5, _, e7⟩ := longAt_takes l 0 0 (by omega) (by simp) h
  simp at e1 e2
  subst e1 e2
  exact ⟨e3, e4, e5, e7⟩

/-- A reader: its bytes, how many went, its fault and where that is. -/
structure PR where
  b : List UInt8
  pos : Nat
  why : Nat
  fat : Nat

def PR.rest (s : PR) : List UInt8 := s.b.drop s.pos
def PR.fail (s : PR) (e : Nat) : PR := { s with why := e, fat := s.pos }
def PR.go (s : PR) (k : Nat) : PR := { s with pos := s.pos + k }
def PR.num (s : PR) (most : Nat) : Nat × PR :=
  if s.why = 0 then
    if (long s.rest).2.2 = 0 then (if (long s.rest).1 ≤ most then ((long s.rest).1, s.go (long s.rest).2.1) else (0, s.fail 5))
    else (0, s.fail (long s.rest).2.2)
  else (0, s)
def PR.byte (s : PR) : Nat × PR := if s.why = 0 then (match s.rest with | [] => (0, s.fail 4) | c :: _ => (c.toNat, s.go 1)) else (0, s)
def PR.text (s : PR) (most : Nat) : List UInt8 × PR :=
  if s.why = 0 then
    if (long s.rest).2.2 = 0 then
      if (long s.rest).1 ≤ most then
        if (long s.rest).1 ≤ s.rest.length - (long s.rest).2.1 then ((s.rest.drop (long s.rest).2.1).take (long s.rest).1, s.go ((long s.rest).2.1 + (long s.rest).1))
        else ([], s.fail 4)
      else ([], s.fail 5)
    else ([], s.fail (long s.rest).2.2)
  else ([], s)
def zeros8 : List UInt8 := [0, 0, 0, 0, 0, 0, 0, 0]
def PR.key (s : PR) : List UInt8 × PR := if s.why = 0 then (if 8 ≤ s.rest.length then (s.rest.take 8, s.go 8) else (zeros8, s.fail 4)) else (zeros8, s)
def PR.left (s : PR) : Nat := if s.why = 0 then s.rest.length else 0
def PR.end_ (s : PR) : PR := if 0 < s.left then s.fail 3 else s
def PR.new (b : List UInt8) : PR := ⟨b, 0, 0, 0⟩

/-- What holds of every reader. -/
structure PR.Ok (s : PR) : Prop where
  pos : s.pos ≤ s.b.length
  fat : s.fat ≤ s.b.length
  why : s.why ≤ 17
  none : s.why = 0 → s.fat = 0

/-- A field: how it is read, how it is written, which ones may be. -/
structure Codec (α : Type) where
  get : PR → α × PR
  put : α → List UInt8
  may : α → Prop
  /-- A fault stays. -/
  stays : ∀ s, s.why ≠ 0 → (get s).2 = s
  ok : ∀ s, s.Ok → (get s).2.Ok
  same : ∀ s, (get s).2.b = s.b
  /-- What is written is read. -/
  back : ∀ s a t, s.why = 0 → may a → s.rest = put a ++ t → get s = (a, s.go (put a).length)
  /-- What is read is written. -/
  one : ∀ s, s.Ok → (get s).2.why = 0 → s.why = 0 ∧ (get s).2 = s.go (put (get s).1).length ∧ s.rest = put (get s).1 ++ (get s).2.rest

theorem PR.rest_go (s : PR) (k : Nat) : (s.go k).rest = s.rest.drop k := by simp [PR.rest, PR.go]
theorem PR.rest_append {s : PR} {p t : List UInt8} (h : s.rest = p ++ t) : (s.go p.length).rest = t := by rw [PR.rest_go, h]; simp
theorem PR.Ok.go {s : PR} (h : s.Ok) {k : Nat} (hk : k ≤ s.rest.length) : (s.go k).Ok := by
  have h1 := h.pos
  have h2 : s.rest.length = s.b.length - s.pos := by simp [PR.rest]
  exact ⟨by simp only [PR.go]; omega, h.fat, h.why, h.none⟩
theorem PR.Ok.fail {s : PR} (h : s.Ok) {e : Nat} (h1 : e ≠ 0) (h2 : e ≤ 17) : (s.fail e).Ok := ⟨h.pos, h.pos, h2, fun h' => absurd h' h1⟩
theorem PR.Ok.new (b : List UInt8) : (PR.new b).Ok := ⟨Nat.zero_le _, Nat.zero_le _, Nat.zero_le _, fun _ => rfl⟩
theorem PR.go_go (s : PR) (i j : Nat) : (s.go i).go j = s.go (i + j) := by simp [PR.go, Nat.add_assoc]
theorem PR.go_why (s : PR) (i : Nat) : (s.go i).why = s.why := rfl

theorem longAt_err (l : List UInt8) (i n : Nat) : (longAt i n l).2.2 = 0 ∨ (longAt i n l).2.2 = 3 ∨ (longAt i n l).2.2 = 4 := by
  induction l generalizing i n with
  | nil => exact .inr (.inr rfl)
  | cons c l ih =>
    rw [longAt]
    split
    · exact .inr (.inl rfl)
    · split
      · exact ih _ _
      · split
        · exact .inr (.inl rfl)
        · exact .inl rfl
theorem long_err (l : List UInt8) : (long l).2.2 = 0 ∨ (long l).2.2 = 3 ∨ (long l).2.2 = 4 := longAt_err l 0 0
theorem long_eq {l : List UInt8} (h : (long l).2.2 = 0) : long l = ((long l).1, (long l).2.1, 0) := Prod.ext rfl (Prod.ext rfl h)

def numC (most : Nat) (hm : most < 2 ^ 64) : Codec Nat where
  get s := s.num most
  put := short
  may n := n ≤ most
  stays s h := by simp [PR.num, h]
  ok s h := by
    unfold PR.num
    have he := long_err s.rest
    by_cases h0 : s.why = 0
    · rw [if_pos h0]
      by_cases h1 : (long s.rest).2.2 = 0
      · rw [if_pos h1]
        obtain ⟨k1, _, _, _⟩ := long_takes _ (long_eq h1)
        split
        · exact h.go k1
        · exact h.fail (by omega) (by omega)
      · rw [if_neg h1]
        exact h.fail h1 (by omega)
    · rw [if_neg h0]; exact h
  same s := by
    unfold PR.num
    repeat' split
    all_goals rfl
  back s a t h0 ha hr := by
    have hl := long_short a t (by omega)
    unfold PR.num
    rw [if_pos h0, hr, hl, if_pos rfl, if_pos ha]
  one s h hw := by
    unfold PR.num at *
    by_cases h0 : s.why = 0
    · rw [if_pos h0] at hw ⊢
      by_cases h1 : (long s.rest).2.2 = 0
      · rw [if_pos h1] at hw ⊢
        by_cases h2 : (long s.rest).1 ≤ most
        · rw [if_pos h2] at hw ⊢
          obtain ⟨k1, k2, k3, k4⟩ := long_takes _ (long_eq h1)
          have k5 : (short (long s.rest).1).length = (long s.rest).2.1 := by rw [← k3, List.length_take]; omega
          refine ⟨h0, by rw [k5], ?_⟩
          rw [PR.rest_go, ← k3, List.take_append_drop]
        · rw [if_neg h2] at hw; cases hw
      · rw [if_neg h1] at hw; exact absurd hw h1
    · rw [if_neg h0] at hw; exact absurd hw h0

def byteC : Codec Nat where
  get s := s.byte
  put n := [UInt8.ofNat n]
  may n := n < 256
  stays s h := by simp [PR.byte, h]
  ok s h := by
    unfold PR.byte
    split
    · split
      · exact h.fail (by omega) (by omega)
      · rename_i e; exact h.go (by rw [e]; simp)
    · exact h
  same s := by
    unfold PR.byte
    repeat' split
    all_goals rfl
  back s a t h0 ha hr := by
    unfold PR.byte
    rw [if_pos h0, hr]
    simp only [List.singleton_append, List.length_cons, List.length_nil]
    rw [UInt8.toNat_ofNat', Nat.mod_eq_of_lt (by simpa using ha)]
  one s h hw := by
    unfold PR.byte at *
    by_cases h0 : s.why = 0
    · rw [if_pos h0] at hw ⊢
      cases e : s.rest with
      | nil => rw [e] at hw; cases hw
      | cons c l =>
        rw [e] at hw
        refine ⟨h0, rfl, ?_⟩
        simp only
        rw [PR.rest_go, e]
        simp
    · rw [if_neg h0] at hw; exact absurd hw h0

def keyC : Codec (List UInt8) where
  get s := s.key
  put l := l
  may l := l.length = 8
  stays s h := by simp [PR.key, h]
  ok s h := by
    unfold PR.key
    split
    · split
      · rename_i e; exact h.go e
      · exact h.fail (by omega) (by omega)
    · exact h
  same s := by
    unfold PR.key
    repeat' split
    all_goals rfl
  back s a t h0 ha hr := by
    unfold PR.key
    rw [if_pos h0, hr, if_pos (by rw [List.length_append]; omega), ← ha, List.take_left]
  one s h hw := by
    unfold PR.key at *
    by_cases h0 : s.why = 0
    · rw [if_pos h0] at hw ⊢
      by_cases h1 : 8 ≤ s.rest.length
      · rw [if_pos h1] at hw ⊢
        refine ⟨h0, by rw [List.length_take, Nat.min_eq_left h1], ?_⟩
        rw [PR.rest_go, List.take_append_drop]
      · rw [if_neg h1] at hw; cases hw
    · rw [if_neg h0] at hw; exact absurd hw h0

def textC (most : Nat) (hm : most < 2 ^ 64) : Codec (List UInt8) where
  get s := s.text most
  put l := short l.length ++ l
  may l := l.length ≤ most
  stays s h := by simp [PR.text, h]
  ok s h := by
    unfold PR.text
    have he := long_err s.rest
    by_cases h0 : s.why = 0
    · rw [if_pos h0]
      by_cases h1 : (long s.rest).2.2 = 0
      · rw [if_pos h1]
        obtain ⟨k1, _, _, _⟩ := long_takes _ (long_eq h1)
        split
        · split
          · exact h.go (by omega)
          · exact h.fail (by omega) (by omega)
        · exact h.fail (by omega) (by omega)
      · rw [if_neg h1]
        exact h.fail h1 (by omega)
    · rw [if_neg h0]; exact h
  same s := by
    unfold PR.text
    repeat' split
    all_goals rfl
  back s a t h0 ha hr := by
    have hl := long_short a.length (a ++ t) (by omega)
    rw [List.append_assoc] at hr
    unfold PR.text
    rw [if_pos h0, hr, hl, if_pos rfl, if_pos ha, if_pos (by simp only [List.length_append]; omega)]
    simp
  one s h hw := by
    unfold PR.text at *
    by_cases h0 : s.why = 0
    · rw [if_pos h0] at hw ⊢
      by_cases h1 : (long s.rest).2.2 = 0
      · rw [if_pos h1] at hw ⊢
        by_cases h2 : (long s.rest).1 ≤ most
        · rw [if_pos h2] at hw ⊢
          by_cases h3 : (long s.rest).1 ≤ s.rest.length - (long s.rest).2.1
          · rw [if_pos h3] at hw ⊢
            obtain ⟨k1, k2, k3, k4⟩ := long_takes _ (long_eq h1)
            have k5 : (short (long s.rest).1).length = (long s.rest).2.1 := by rw [← k3, List.length_take]; omega
            have k6 : ((s.rest.drop (long s.rest).2.1).take (long s.rest).1).length = (long s.rest).1 := by rw [List.length_take, List.length_drop]; omega
            refine ⟨h0, ?_, ?_⟩
            · simp only
              rw [k6, List.length_append, k5, k6]
            · simp only
              rw [k6, PR.rest_go, ← k3, ← List.drop_drop, List.append_assoc, List.take_append_drop, List.take_append_drop]
          · rw [if_neg h3] at hw; cases hw
        · rw [if_neg h2] at hw; cases hw
      · rw [if_neg h1] at hw; exact absurd hw h1
    · rw [if_neg h0] at hw; exact absurd hw h0

/-- One field, and then another one. -/
def Codec.seq {α β : Type} (c : Codec α) (d : Codec β) : Codec (α × β) where
  get s := (((c.get s).1, (d.get (c.get s).2).1), (d.get (c.get s).2).2)
  put x := c.put x.1 ++ d.put x.2
  may x := c.may x.1 ∧ d.may x.2
  stays s h := by simp only; rw [c.stays s h, d.stays s h]
  ok s h := d.ok _ (c.ok _ h)
  same s := (d.same _).trans (c.same s)
  back s a t h0 ha hr := by
    rw [List.append_assoc] at hr
    have h1 := c.back s a.1 _ h0 ha.1 hr
    have h2 := d.back (s.go (c.put a.1).length) a.2 t h0 ha.2 (PR.rest_append hr)
    rw [h1, h2, List.length_append, PR.go_go]
  one s h hw := by
    simp only at hw ⊢
    obtain ⟨a1, a2, a3⟩ := d.one _ (c.ok s h) hw
    obtain ⟨b1, b2, b3⟩ := c.one s h a1
    refine ⟨b1, ?_, ?_⟩
    · rw [a2, List.length_append, ← PR.go_go, ← b2]
    · rw [b3, a3, List.append_assoc]

/-- Other words for the same, and nothing at a fault. -/
def Codec.map {α β : Type} (c : Codec α) (f : α → β) (g : β → α) (zero : β) (gf : ∀ s, s.Ok → g (f (c.get s).1) = (c.get s).1) (fg : ∀ b, c.may (g b) → f (g b) = b) : Codec β where
  get s := (if (c.get s).2.why = 0 then f (c.get s).1 else zero, (c.get s).2)
  put b := c.put (g b)
  may b := c.may (g b)
  stays s h := c.stays s h
  ok s h := c.ok s h
  same s := c.same s
  back s a t h0 ha hr := by
    have := c.back s (g a) t h0 ha hr
    rw [this]
    simp only [PR.go_why, h0, if_true, fg a ha]
  one s h hw := by
    simp only at hw ⊢
    rw [if_pos hw, gf s h]
    exact c.one s h hw

/-- At a fault it is nothing. -/
def Codec.orZero {α : Type} (c : Codec α) (zero : α) : Codec α where
  get s := (if (c.get s).2.why = 0 then (c.get s).1 else zero, (c.get s).2)
  put := c.put
  may := c.may
  stays s h := c.stays s h
  ok s h := c.ok s h
  same s := c.same s
  back s a t h0 ha hr := by
    have := c.back s a t h0 ha hr
    rw [this]
    simp only [PR.go_why, h0, if_true]
  one s h hw := by
    simp only at hw ⊢
    rw [if_pos hw]
    exact c.one s h hw

/-- n fields, one behind another. -/
def Codec.getN {α : Type} (c : Codec α) : Nat → PR → List α × PR
  | 0, s => ([], s)
  | n + 1, s => ((c.get s).1 :: (c.getN n (c.get s).2).1, (c.getN n (c.get s).2).2)
theorem Codec.getN_length {α : Type} (c : Codec α) (n : Nat) (s : PR) : (c.getN n s).1.length = n := by
  induction n generalizing s with
  | zero => rfl
  | succ n ih => simp [Codec.getN, ih]
theorem Codec.getN_stays {α : Type} (c : Codec α) (n : Nat) (s : PR) (h : s.why ≠ 0) : (c.getN n s).2 = s := by
  induction n with
  | zero => rfl
  | succ n ih => simp only [Codec.getN]; rw [c.stays s h, ih]
theorem Codec.getN_ok {α : Type} (c : Codec α) (n : Nat) (s : PR) (h : s.Ok) : (c.getN n s).2.Ok := by
  induction n generalizing s with
  | zero => exact h
  | succ n ih => exact ih _ (c.ok s h)
theorem Codec.getN_same {α : Type} (c : Codec α) (n : Nat) (s : PR) : (c.getN n s).2.b = s.b := by
  induction n generalizing s with
  | zero => rfl
  | succ n ih => exact (ih _).trans (c.same s)
def Codec.puts {α : Type} (c : Codec α) (l : List α) : List UInt8 := l.flatMap c.put
theorem Codec.getN_back {α : Type} (c : Codec α) (l : List α) (s : PR) (t : List UInt8) (h0 : s.why = 0) (ha : ∀ a ∈ l, c.may a) (hr : s.rest = c.puts l ++ t) : c.getN l.length s = (l, s.go (c.puts l).length) := by
  induction l generalizing s with
  | nil => simp [Codec.getN, Codec.puts, PR.go]
  | cons a l ih =>
    have e : c.puts (a :: l) = c.put a ++ c.puts l := by simp [Codec.puts]
    rw [e, List.append_assoc] at hr
    have h1 := c.back s a _ h0 (ha a (by simp)) hr
    have h2 := ih (s.go (c.put a).length) h0 (fun a h => ha a (by simp [h])) (PR.rest_append hr)
    rw [List.length_cons, Codec.getN, h1, h2, e, List.length_append, PR.go_go]
theorem Codec.getN_one {α : Type} (c : Codec α) (n : Nat) (s : PR) (h : s.Ok) (hw : (c.getN n s).2.why = 0) :
    s.why = 0 ∧ (c.getN n s).2 = s.go (c.puts (c.getN n s).1).length ∧ s.rest = c.puts (c.getN n s).1 ++ (c.getN n s).2.rest := by
  induction n generalizing s with
  | zero => exact ⟨hw, rfl, rfl⟩
  | succ n ih =>
    simp only [Codec.getN] at hw ⊢
    obtain ⟨a1, a2, a3⟩ := ih _ (c.ok s h) hw
    obtain ⟨b1, b2, b3⟩ := c.one s h a1
    have e : ∀ a l, c.puts (a :: l) = c.put a ++ c.puts l := fun a l => by simp [Codec.puts]
    refine ⟨b1, ?_, ?_⟩
    · rw [a2, e, List.length_append, ← PR.go_go, ← b2]
    · rw [b3, a3, e, List.append_assoc]

/-- As many as a number tells. -/
def Codec.many {α : Type} (c : Codec α) (most : Nat) (hm : most < 2 ^ 64) : Codec (List α) where
  get s := (if (c.getN (s.num most).1 (s.num most).2).2.why = 0 then (c.getN (s.num most).1 (s.num most).2).1 else [], (c.getN (s.num most).1 (s.num most).2).2)
  put l := short l.length ++ c.puts l
  may l := l.length ≤ most ∧ ∀ a ∈ l, c.may a
  stays s h := by
    have := (numC most hm).stays s h
    simp only [numC] at this
    simp only
    rw [this, c.getN_stays _ s h]
  ok s h := c.getN_ok _ _ ((numC most hm).ok s h)
  same s := (c.getN_same _ _).trans ((numC most hm).same s)
  back s a t h0 ha hr := by
    rw [List.append_assoc] at hr
    have h1 := (numC most hm).back s a.length _ h0 ha.1 hr
    simp only [numC] at h1
    have h2 := c.getN_back a (s.go (short a.length).length) t h0 ha.2 (PR.rest_append hr)
    rw [h1]
    simp only
    rw [h2, List.length_append, PR.go_go]
    simp only [PR.go_why, h0, if_true]
  one s h hw := by
    simp only at hw ⊢
    rw [if_pos hw]
    have k : (s.num most).2.Ok := (numC most hm).ok s h
    obtain ⟨a1, a2, a3⟩ := c.getN_one _ _ k hw
    obtain ⟨b1, b2, b3⟩ := (numC most hm).one s h a1
    simp only [numC] at b2 b3
    refine ⟨b1, ?_, ?_⟩
    · rw [a2, c.getN_length, List.length_append, ← PR.go_go, ← b2]
    · rw [c.getN_length, b3, a3, List.append_assoc]
theorem PR.num_le (s : PR) (most : Nat) : (s.num most).1 ≤ most := by
  unfold PR.num
  repeat' split
  all_goals first | assumption | exact Nat.zero_le _
theorem PR.byte_lt (s : PR) : s.byte.1 < 256 := by
  unfold PR.byte
  repeat' split
  · exact Nat.succ_pos _
  · exact UInt8.toNat_lt _
  · exact Nat.succ_pos _
theorem PR.key_length (s : PR) : s.key.1.length = 8 := by
  unfold PR.key
  repeat' split
  · rw [List.length_take]; omega
  · rfl
  · rfl
theorem PR.text_le (s : PR) (most : Nat) : (s.text most).1.length ≤ most := by
  unfold PR.text
  repeat' split
  · rw [List.length_take]; omega
  all_goals exact Nat.zero_le _
end Go.PM
