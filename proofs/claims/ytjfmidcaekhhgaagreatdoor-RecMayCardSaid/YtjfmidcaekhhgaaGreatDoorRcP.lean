/- The pure records: how they are written and read. No Go here. -/
import Derived.Test.YtjfmidcaekhhgaaGreatDoorMsP
namespace Go.Proofs.YtjfmidcaekhhgaaGreatDoor
open Go.PM

/-- The record. -/
structure PRec where
  kind : Nat
  n : Nat
  tx : PTx
  reg : PReg
  members : Nat
  writes : List PW
  missing : List Nat
  key : List UInt8
  item : PItem

def setC : Codec Nat := numC 255 (by decide)
/-- Writes, and a set for each of them. -/
def bothC : Codec (List PW × List Nat) where
  get s := (((writesC.get s).1, (setC.getN (writesC.get s).1.length (writesC.get s).2).1), (setC.getN (writesC.get s).1.length (writesC.get s).2).2)
  put x := writesC.put x.1 ++ setC.puts x.2
  may x := writesC.may x.1 ∧ x.2.length = x.1.length ∧ ∀ a ∈ x.2, setC.may a
  stays s h := by simp only; rw [writesC.stays s h, setC.getN_stays _ s h]
  ok s h := setC.getN_ok _ _ (writesC.ok s h)
  same s := (setC.getN_same _ _).trans (writesC.same s)
  back s a t h0 ha hr := by
    rw [List.append_assoc] at hr
    have h1 := writesC.back s a.1 _ h0 ha.1 hr
    have h2 := setC.getN_back a.2 (s.go (writesC.put a.1).length) t h0 ha.2.2 (PR.rest_append hr)
    rw [ha.2.1] at h2
    rw [h1]
    simp only
    rw [h2, List.length_append, PR.go_go]
  one s h hw := by
    simp only at hw ⊢
    obtain ⟨a1, a2, a3⟩ := setC.getN_one _ _ (writesC.ok s h) hw
    obtain ⟨b1, b2, b3⟩ := writesC.one s h a1
    refine ⟨b1, ?_, ?_⟩
    · rw [a2, List.length_append, ← PR.go_go, ← b2]
    · rw [b3, a3, List.append_assoc]

inductive Re where
  | n | tx | reg | members | writes | both | key | item
  deriving DecidableEq
def Re.T : Re → Type
  | .n => Nat | .tx => PTx | .reg => PReg | .members => Nat | .writes => List PW | .both => List PW × List Nat | .key => List UInt8 | .item => PItem
def Re.c : (f : Re) → Codec f.T
  | .n => countC | .tx => txC | .reg => regC | .members => setC | .writes => writesC | .both => bothC | .key => keyC | .item => itemC
def Re.of : (f : Re) → PRec → f.T
  | .n, m => m.n | .tx, m => m.tx | .reg, m => m.reg | .members, m => m.members | .writes, m => m.writes | .both, m => (m.writes, m.missing) | .key, m => m.key | .item, m => m.item
def Re.set : (f : Re) → PRec → f.T → PRec
  | .n, m, x => { m with n := x } | .tx, m, x => { m with tx := x } | .reg, m, x => { m with reg := x } | .members, m, x => { m with members := x }
  | .writes, m, x => { m with writes := x } | .both, m, x => { m with writes := x.1, missing := x.2 } | .key, m, x => { m with key := x } | .item, m, x => { m with item := x }
/-- Fields that touch nothing in common. -/
def Re.apart : Re → Re → Bool
  | .writes, .both => false
  | .both, .writes => false
  | f, g => decide (f ≠ g)
theorem Re.of_set (f : Re) (m : PRec) (x : f.T) : f.of (f.set m x) = x := by cases f <;> rfl
theorem Re.of_other (f g : Re) (h : f.apart g = true) (m : PRec) (x : g.T) : f.of (g.set m x) = f.of m := by
  cases f <;> cases g <;> first | rfl | cases h

/-- One field of a record. -/
def Re.get (f : Re) (x : PRec × PR) : PRec × PR := (f.set x.1 (f.c.get x.2).1, (f.c.get x.2).2)
def Re.put (f : Re) (m : PRec) : List UInt8 := f.c.put (f.of m)
def Re.gets (l : List Re) (x : PRec × PR) : PRec × PR := l.foldl (fun x f => f.get x) x
def Re.puts (l : List Re) (m : PRec) : List UInt8 := l.flatMap fun f => f.put m
def Re.sets (l : List Re) (a m : PRec) : PRec := l.foldl (fun a f => f.set a (f.of m)) a

theorem Re.gets_stays (l : List Re) (m : PRec) (s : PR) (h : s.why ≠ 0) : (Re.gets l (m, s)).2 = s := by
  induction l generalizing m with
  | nil => rfl
  | cons f l ih =>
    show (Re.gets l (f.get (m, s))).2 = s
    unfold Re.get
    rw [f.c.stays s h]
    exact ih _
theorem Re.gets_ok (l : List Re) (m : PRec) (s : PR) (h : s.Ok) : (Re.gets l (m, s)).2.Ok := by
  induction l generalizing m s with
  | nil => exact h
  | cons f l ih => exact ih _ _ (f.c.ok s h)
theorem Re.gets_same (l : List Re) (m : PRec) (s : PR) : (Re.gets l (m, s)).2.b = s.b := by
  induction l generalizing m s with
  | nil => rfl
  | cons f l ih => exact (ih _ _).trans (f.c.same s)
theorem Re.gets_back (l : List Re) (a m : PRec) (s : PR) (t : List UInt8) (h0 : s.why = 0) (hm : ∀ f ∈ l, f.c.may (f.of m)) (hr : s.rest = Re.puts l m ++ t) :
    Re.gets l (a, s) = (Re.sets l a m, s.go (Re.puts l m).length) := by
  induction l generalizing a s with
  | nil => simp [Re.gets, Re.sets, Re.puts, PR.go]
  | cons f l ih =>
    have e : Re.puts (f :: l) m = f.put m ++ Re.puts l m := by simp [Re.puts]
    rw [e, List.append_assoc] at hr
    have h1 := f.c.back s (f.of m) _ h0 (hm f (by simp)) hr
    have h2 := ih (f.set a (f.of m)) (s.go (f.put m).length) h0 (fun g hg => hm g (by simp [hg])) (PR.rest_append hr)
    have h3 : Re.gets (f :: l) (a, s) = Re.gets l (f.set a (f.of m), s.go (f.put m).length) := by
      show Re.gets l (f.get (a, s)) = _
      unfold Re.get
      simp only [h1]
      rfl
    rw [h3, h2, e, List.length_append, PR.go_go]
    rfl
theorem Re.of_gets (l : List Re) (g : Re) (hg : ∀ f ∈ l, g.apart f = true) (x : PRec × PR) : g.of (Re.gets l x).1 = g.of x.1 := by
  induction l generalizing x with
  | nil => rfl
  | cons f l ih =>
    exact (ih (fun f h => hg f (by simp [h])) _).trans (Re.of_other g f (hg f (by simp)) _ _)
theorem Re.gets_one (l : List Re) (hl : l.Pairwise fun f g => f.apart g = true) (a : PRec) (s : PR) (h : s.Ok) (hw : (Re.gets l (a, s)).2.why = 0) :
    s.why = 0 ∧ (Re.gets l (a, s)).2 = s.go (Re.puts l (Re.gets l (a, s)).1).length ∧ s.rest = Re.puts l (Re.gets l (a, s)).1 ++ (Re.gets l (a, s)).2.rest := by
  induction l generalizing a s with
  | nil => exact ⟨hw, rfl, rfl⟩
  | cons f l ih =>
    rw [List.pairwise_cons] at hl
    have e : ∀ m, Re.puts (f :: l) m = f.put m ++ Re.puts l m := fun m => by simp [Re.puts]
    have e2 : Re.gets (f :: l) (a, s) = Re.gets l (f.get (a, s)) := rfl
    rw [e2] at hw ⊢
    obtain ⟨a1, a2, a3⟩ := ih hl.2 _ _ (f.c.ok s h) hw
    obtain ⟨b1, b2, b3⟩ := f.c.one s h a1
    have hf : f.put (Re.gets l (f.get (a, s))).1 = f.c.put (f.c.get s).1 := by
      unfold Re.put
      rw [Re.of_gets l f hl.1]
      exact congrArg _ (f.of_set a _)
    refine ⟨b1, ?_, ?_⟩
    · rw [e, hf, List.length_append, ← PR.go_go, ← b2]; exact a2
    · rw [e, hf, b3, List.append_assoc]; exact congrArg _ a3

/-- The fields of a kind. -/
def rdx (k : Nat) : List Re :=
  if k = 1 then [.n]
  else if k = 2 then [.tx, .reg, .writes]
  else if k = 3 ∨ k = 4 ∨ k = 6 then [.tx]
  else if k = 5 then [.tx, .members, .both]
  else if k = 7 then [.key, .item]
  else []
theorem rdx_cases (k : Nat) : rdx k = [] ∨ k = 1 ∨ k = 2 ∨ k = 3 ∨ k = 4 ∨ k = 5 ∨ k = 6 ∨ k = 7 := by
  rcases Nat.lt_or_ge 7 k with h | h
  · left
    unfold rdx
    rw [if_neg (by omega), if_neg (by omega), if_neg (by omega), if_neg (by omega), if_neg (by omega)]
  · rcases Nat.eq_zero_or_pos k with h0 | h0
    · subst h0; exact .inl rfl
    · right; omega
theorem rdx_apart (k : Nat) : (rdx k).Pairwise fun f g => f.apart g = true := by
  rcases rdx_cases k with h | h | h | h | h | h | h | h
  · rw [h]; exact List.Pairwise.nil
  all_goals subst h; decide

def isSet (n : Nat) : Bool := decide (n ≤ 255)
def someMay (m : PRec) : Bool := decide (m.writes ≠ []) && writesMay m.writes
def missMay (m : PRec) : Bool := decide (m.missing.length = m.writes.length) && m.missing.all isSet
/-- A record that may be. -/
def rMay (m : PRec) : Bool :=
  if m.kind = 1 then isCount m.n && decide (m.tx = (0, 0, 0) ∧ m.reg = (0, 0) ∧ m.members = 0 ∧ m.writes = [] ∧ m.missing = [] ∧ m.key = zeros8 ∧ m.item = noItem)
  else if m.kind = 2 then txMay m.tx && regMay m.reg && someMay m && decide (m.n = 0 ∧ m.members = 0 ∧ m.missing = [] ∧ m.key = zeros8 ∧ m.item = noItem)
  else if m.kind = 3 ∨ m.kind = 4 ∨ m.kind = 6 then txMay m.tx && decide (m.n = 0 ∧ m.reg = (0, 0) ∧ m.members = 0 ∧ m.writes = [] ∧ m.missing = [] ∧ m.key = zeros8 ∧ m.item = noItem)
  else if m.kind = 5 then txMay m.tx && isSet m.members && someMay m && missMay m && decide (m.n = 0 ∧ m.reg = (0, 0) ∧ m.key = zeros8 ∧ m.item = noItem)
  else if m.kind = 7 then keyOk m.key && itemMay m.item && decide (m.n = 0 ∧ m.tx = (0, 0, 0) ∧ m.reg = (0, 0) ∧ m.members = 0 ∧ m.writes = [] ∧ m.missing = [])
  else false
def zeroRec (k : Nat) : PRec := ⟨k, 0, (0, 0, 0), (0, 0), 0, [], [], zeros8, noItem⟩
def rEnc (m : PRec) : List UInt8 := UInt8.ofNat m.kind :: Re.puts (rdx m.kind) m
def rFin (x : PRec × PR) : PRec × Nat × Nat :=
  if x.2.end_.why = 0 then (if rMay x.1 then (x.1, 0, 0) else (zeroRec 0, 3, 0)) else (zeroRec 0, x.2.end_.why, x.2.end_.fat)
def rGo (k : Nat) (s : PR) : PRec × Nat × Nat :=
  if s.why = 0 then (if rdx k = [] then (zeroRec 0, 3, 0) else rFin (Re.gets (rdx k) (zeroRec k, s))) else (zeroRec 0, s.why, s.fat)
def rDec (b : List UInt8) : PRec × Nat × Nat := rGo (PR.new b).byte.1 (PR.new b).byte.2

/-- What holds of the values of Go's types. -/
structure PRec.Wf (m : PRec) : Prop where
  kind : m.kind < 256
  n : m.n < 4294967296
  tx : wfTx m.tx
  reg : wfReg m.reg
  members : m.members < 18446744073709551616
  writes : ∀ x ∈ m.writes, x.1.length = 8 ∧ wfItem x.2
  missing : ∀ x ∈ m.missing, x < 18446744073709551616
  key : m.key.length = 8
  item : wfItem m.item

theorem txMay_may {t : PTx} (h : txMay t = true) : txC.may t := by
  simp only [txMay, isCount, Bool.and_eq_true, decide_eq_true_eq] at h
  exact ⟨by show t.1 < 256; omega, h.1.2.2, h.2.2⟩
theorem regMay_may {g : PReg} (h : regMay g = true) : regC.may g := by
  simp only [regMay, isCount, Bool.and_eq_true, decide_eq_true_eq] at h
  exact ⟨h.1.2, h.2.2⟩
theorem writesMay_may {l : List PW} (hw : ∀ x ∈ l, x.1.length = 8 ∧ wfItem x.2) (h : writesMay l = true) : writesC.may l := by
  simp only [writesMay, Bool.and_eq_true, decide_eq_true_eq] at h
  refine ⟨h.2, fun x hx => ?_⟩
  obtain ⟨i, hi, rfl⟩ := List.getElem_of_mem hx
  have := wTo_at h.1 hi
  simp only [wAt, Bool.and_eq_true] at this
  have e : l.getD i noW = l[i] := by simp [List.getD_eq_getElem?_getD, hi]
  rw [e] at this
  exact ⟨(hw _ hx).1, itemMay_may (hw _ hx).2 this.1.2⟩
/-- The fields of a record that may be: those that count can be written, and are all. -/
theorem rMay_fields {m : PRec} (hw : m.Wf) (h : rMay m = true) : rdx m.kind ≠ [] ∧ (∀ f ∈ rdx m.kind, f.c.may (f.of m)) ∧ Re.sets (rdx m.kind) (zeroRec m.kind) m = m := by
  obtain ⟨w1, w2, w3, w4, w5, w6, w7, w8, w9⟩ := hw
  obtain ⟨kind, n, tx, reg, members, writes, missing, key, item⟩ := m
  rcases rdx_cases kind with e | e | e | e | e | e | e | e
  · exfalso
    have hk : kind = 0 ∨ 7 < kind := by
      apply Classical.byContradiction
      intro hn
      have : kind = 1 ∨ kind = 2 ∨ kind = 3 ∨ kind = 4 ∨ kind = 5 ∨ kind = 6 ∨ kind = 7 := by omega
      rcases this with rfl | rfl | rfl | rfl | rfl | rfl | rfl <;> simp [rdx] at e
    unfold rMay at h
    simp only at h
    rw [if_neg (by omega), if_neg (by omega), if_neg (by omega), if_neg (by omega), if_neg (by omega)] at h
    cases h
  all_goals
    simp only at w1 w2 w3 w4 w5 w6 w7 w8 w9
    subst e
    simp [rMay, isCount, isSet, someMay, missMay] at h
  · obtain ⟨⟨h0, h1⟩, rfl, rfl, rfl, rfl, rfl, rfl, rfl⟩ := h
    exact ⟨by simp [rdx], by simp [rdx]; exact h1, rfl⟩
  · obtain ⟨⟨⟨h0, h1⟩, h2, h3⟩, rfl, rfl, rfl, rfl, rfl⟩ := h
    exact ⟨by simp [rdx], by simp [rdx]; exact ⟨txMay_may h0, regMay_may h1, writesMay_may w6 h3⟩, rfl⟩
  · obtain ⟨h0, rfl, rfl, rfl, rfl, rfl, rfl, rfl⟩ := h
    exact ⟨by simp [rdx], by simp [rdx]; exact txMay_may h0, rfl⟩
  · obtain ⟨h0, rfl, rfl, rfl, rfl, rfl, rfl, rfl⟩ := h
    exact ⟨by simp [rdx], by simp [rdx]; exact txMay_may h0, rfl⟩
  · obtain ⟨⟨⟨⟨h0, h1⟩, h2, h3⟩, h4, h5⟩, rfl, rfl, rfl, rfl⟩ := h
    exact ⟨by simp [rdx], by simp [rdx]; exact ⟨txMay_may h0, h1, writesMay_may w6 h3, h4, h5⟩, rfl⟩
  · obtain ⟨h0, rfl, rfl, rfl, rfl, rfl, rfl, rfl⟩ := h
    exact ⟨by simp [rdx], by simp [rdx]; exact txMay_may h0, rfl⟩
  · obtain ⟨⟨h0, h1⟩, rfl, rfl, rfl, rfl, rfl, rfl⟩ := h
    exact ⟨by simp [rdx], by simp [rdx]; exact ⟨w8, itemMay_may w9 h1⟩, rfl⟩
theorem rDec_enc {m : PRec} (hw : m.Wf) (h : rMay m = true) : rDec (rEnc m) = (m, 0, 0) := by
  have hb : (PR.new (rEnc m)).byte = (m.kind, (PR.new (rEnc m)).go 1) := by
    have h1 : (PR.new (rEnc m)).rest = byteC.put m.kind ++ Re.puts (rdx m.kind) m := by simp [PR.rest, PR.new, byteC, rEnc]
    exact byteC.back (PR.new (rEnc m)) m.kind (Re.puts (rdx m.kind) m) rfl hw.kind h1
  have hr : ((PR.new (rEnc m)).go 1).rest = Re.puts (rdx m.kind) m ++ [] := by simp [PR.rest, PR.new, PR.go, rEnc]
  obtain ⟨f1, f2, f3⟩ := rMay_fields hw h
  have hg := Re.gets_back (rdx m.kind) (zeroRec m.kind) m ((PR.new (rEnc m)).go 1) [] rfl f2 hr
  have he : (((PR.new (rEnc m)).go 1).go (Re.puts (rdx m.kind) m).length).left = 0 := by
    have h1 := PR.rest_append hr
    have h2 : (((PR.new (rEnc m)).go 1).go (Re.puts (rdx m.kind) m).length).why = 0 := rfl
    unfold PR.left
    rw [if_pos h2, h1]
    rfl
  unfold rDec
  rw [hb]
  unfold rGo
  rw [if_pos (show ((PR.new (rEnc m)).go 1).why = 0 from rfl), if_neg f1, hg, f3]
  unfold rFin PR.end_
  simp only
  rw [he, if_neg (Nat.lt_irrefl 0), if_pos (show (((PR.new (rEnc m)).go 1).go (Re.puts (rdx m.kind) m).length).why = 0 from rfl), if_pos h]

theorem Re.kind_set (f : Re) (m : PRec) (x : f.T) : (f.set m x).kind = m.kind := by cases f <;> rfl
theorem Re.kind_gets (l : List Re) (x : PRec × PR) : (Re.gets l x).1.kind = x.1.kind := by
  induction l generalizing x with
  | nil => rfl
  | cons f l ih => exact (ih (f.get x)).trans (Re.kind_set f x.1 _)
/-- What a decoding gives: the record of its bytes, or its fault within them. -/
theorem rDec_one (b : List UInt8) :
    ((rDec b).2.1 = 0 ∧ (rDec b).2.2 = 0 ∧ rEnc (rDec b).1 = b ∧ rMay (rDec b).1 = true) ∨ ((rDec b).2.1 ≠ 0 ∧ (rDec b).2.1 ≤ 17 ∧ (rDec b).2.2 ≤ b.length ∧ (rDec b).1 = zeroRec 0) := by
  have n0 := PR.Ok.new b
  have n1 : (PR.new b).byte.2.Ok := byteC.ok _ n0
  have hb : (PR.new b).byte.2.b = b := byteC.same _
  unfold rDec rGo
  by_cases h0 : (PR.new b).byte.2.why = 0
  · rw [if_pos h0]
    obtain ⟨b1, b2, b3⟩ := byteC.one (PR.new b) n0 h0
    have b3 : (PR.new b).rest = UInt8.ofNat (PR.new b).byte.1 :: (PR.new b).byte.2.rest := b3
    have b4 : (PR.new b).rest = b := by simp [PR.rest, PR.new]
    rw [b4] at b3
    have hlt : (PR.new b).byte.1 < 256 := PR.byte_lt _
    generalize (PR.new b).byte.1 = k at *
    by_cases h1 : rdx k = []
    · rw [if_pos h1]
      exact .inr ⟨by simp, by simp, Nat.zero_le _, rfl⟩
    · rw [if_neg h1]
      have n2 := Re.gets_ok (rdx k) (zeroRec k) _ n1
      have n3 := Re.gets_same (rdx k) (zeroRec k) (PR.new b).byte.2
      have n4 := PR.end_ok n2
      unfold rFin
      by_cases h2 : (Re.gets (rdx k) (zeroRec k, (PR.new b).byte.2)).2.end_.why = 0
      · rw [if_pos h2]
        by_cases h3 : rMay (Re.gets (rdx k) (zeroRec k, (PR.new b).byte.2)).1 = true
        · rw [if_pos h3]
          obtain ⟨e1, e2⟩ := PR.end_why h2
          obtain ⟨c1, c2, c3⟩ := Re.gets_one (rdx k) (rdx_apart k) (zeroRec k) _ n1 e1
          refine .inl ⟨rfl, rfl, ?_, h3⟩
          have hk : (Re.gets (rdx k) (zeroRec k, (PR.new b).byte.2)).1.kind = k := Re.kind_gets _ _
          unfold rEnc
          simp only
          rw [hk]
          rw [e2, List.append_nil] at c3
          rw [← c3]
          exact b3.symm
        · rw [if_neg h3]
          exact .inr ⟨by simp, by simp, Nat.zero_le _, rfl⟩
      · rw [if_neg h2]
        refine .inr ⟨h2, n4.why, ?_, rfl⟩
        have := n4.fat
        rw [PR.end_same, n3, hb] at this
        exact this
  · rw [if_neg h0]
    refine .inr ⟨h0, n1.why, ?_, rfl⟩
    have := n1.fat
    rw [hb] at this
    exact this


def Re.most : Re → Nat
  | .n => 5 | .tx => 11 | .reg => 10 | .members => 2 | .writes => 1521 | .both => 1553 | .key => 8 | .item => 87
theorem Re.put_le (f : Re) (m : PRec) (h : f.c.may (f.of m)) : (f.put m).length ≤ f.most := by
  cases f
  · exact count_le h
  · exact txC_le h
  · exact regC_le h
  · exact short_le (k := 1) (Nat.lt_of_le_of_lt h (by decide))
  · exact writesC_le h
  · obtain ⟨h1, h2, h3⟩ := h
    have k1 := writesC_le h1
    have k0 : m.writes.length ≤ 16 := h1.1
    have h2 : m.missing.length = m.writes.length := h2
    have k2 := puts_le setC m.missing 2 fun a ha => short_le (k := 1) (Nat.lt_of_le_of_lt (h3 a ha) (by decide))
    show (writesC.put m.writes ++ setC.puts m.missing).length ≤ 1553
    rw [List.length_append]
    have k1 : (writesC.put m.writes).length ≤ 1521 := k1
    omega
  · exact Nat.le_of_eq h
  · exact itemC_le h
theorem Re.puts_le (l : List Re) (m : PRec) (h : ∀ f ∈ l, f.c.may (f.of m)) : (Re.puts l m).length ≤ (l.map Re.most).sum := by
  induction l with
  | nil => exact Nat.le_refl 0
  | cons f l ih =>
    have e : Re.puts (f :: l) m = f.put m ++ Re.puts l m := by simp [Re.puts]
    have h1 := Re.put_le f m (h f (by simp))
    have h2 := ih fun g hg => h g (by simp [hg])
    rw [e, List.length_append, List.map_cons, List.sum_cons]
    omega
theorem rdx_most (k : Nat) : ((rdx k).map Re.most).sum ≤ 2000 := by
  rcases rdx_cases k with h | h | h | h | h | h | h | h
  · rw [h]; exact Nat.zero_le _
  all_goals subst h; decide
/-- The bytes of a record fit into a frame. -/
theorem rEnc_le {m : PRec} (hw : m.Wf) (h : rMay m = true) : (rEnc m).length ≤ 4096 := by
  have h1 := Re.puts_le (rdx m.kind) m (rMay_fields hw h).2.1
  have h2 := rdx_most m.kind
  unfold rEnc
  rw [List.length_cons]
  omega
end Go.Proofs.YtjfmidcaekhhgaaGreatDoor
