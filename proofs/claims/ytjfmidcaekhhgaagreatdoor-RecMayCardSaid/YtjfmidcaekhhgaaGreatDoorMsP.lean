/- The pure messages: how they are written and read. No Go here. -/
import Derived.Test.YtjfmidcaekhhgaaGreatDoorCdP
import Derived.Test.YtjfmidcaekhhgaaGreatDoorCfM
namespace Go.Proofs.YtjfmidcaekhhgaaGreatDoor
open Go.PM

abbrev PTx := Nat × Nat × Nat
abbrev PReg := Nat × Nat
abbrev PCfg := Nat × Nat × Nat × List UInt8
abbrev PItem := Nat × List UInt8 × PCfg
abbrev PW := List UInt8 × PItem
def maxC : Nat := 2147483647
def noCfg : PCfg := (0, 0, 0, zeros8)
def noItem : PItem := (0, [], noCfg)

/-- A byte as it is. -/
def byteU : Codec UInt8 where
  get s := (UInt8.ofNat s.byte.1, s.byte.2)
  put c := [c]
  may _ := True
  stays s h := byteC.stays s h
  ok s h := byteC.ok s h
  same s := byteC.same s
  back s a t h0 _ hr := by
    have := byteC.back s a.toNat t h0 a.toNat_lt (by simpa [byteC] using hr)
    simp only [byteC] at this
    rw [this]
    simp
  one s h hw := by
    have := byteC.one s h hw
    simpa [byteC] using this
def Codec.times {α : Type} (c : Codec α) (n : Nat) : Codec (List α) where
  get := c.getN n
  put := c.puts
  may l := l.length = n ∧ ∀ a ∈ l, c.may a
  stays s h := c.getN_stays n s h
  ok s h := c.getN_ok n s h
  same s := c.getN_same n s
  back s a t h0 ha hr := by rw [← ha.1]; exact c.getN_back a s t h0 ha.2 hr
  one s h hw := c.getN_one n s h hw

def countC : Codec Nat := numC maxC (by decide)
def txC : Codec PTx := (byteC.seq (countC.seq countC)).orZero (0, 0, 0)
def regC : Codec PReg := (countC.seq countC).orZero (0, 0)
def cfgC : Codec PCfg := (countC.seq ((numC 255 (by decide)).seq ((numC 255 (by decide)).seq (Codec.times byteU 8)))).orZero noCfg
def itemC : Codec PItem := (countC.seq ((textC 64 (by decide)).seq cfgC)).orZero noItem
def writeC : Codec PW := keyC.seq itemC
def writesC : Codec (List PW) := writeC.many 16 (by decide)

/-- The message. -/
structure PMsg where
  kind : Nat
  tx : PTx
  time : Nat
  reg : PReg
  key : List UInt8
  mode : Nat
  no : Nat
  why : Nat
  yes : Nat
  item : PItem
  writes : List PW

inductive Fd where
  | tx | time | reg | key | mode | no | why | yes | item | writes
  deriving DecidableEq
def Fd.T : Fd → Type
  | .tx => PTx | .time => Nat | .reg => PReg | .key => List UInt8 | .mode => Nat | .no => Nat | .why => Nat | .yes => Nat | .item => PItem | .writes => List PW
def Fd.c : (f : Fd) → Codec f.T
  | .tx => txC | .time => countC | .reg => regC | .key => keyC | .mode => byteC | .no => countC | .why => numC 17 (by decide) | .yes => byteC | .item => itemC | .writes => writesC
def Fd.of : (f : Fd) → PMsg → f.T
  | .tx, m => m.tx | .time, m => m.time | .reg, m => m.reg | .key, m => m.key | .mode, m => m.mode | .no, m => m.no | .why, m => m.why | .yes, m => m.yes | .item, m => m.item | .writes, m => m.writes
def Fd.set : (f : Fd) → PMsg → f.T → PMsg
  | .tx, m, x => { m with tx := x } | .time, m, x => { m with time := x } | .reg, m, x => { m with reg := x } | .key, m, x => { m with key := x }
  | .mode, m, x => { m with mode := x } | .no, m, x => { m with no := x } | .why, m, x => { m with why := x } | .yes, m, x => { m with yes := x }
  | .item, m, x => { m with item := x } | .writes, m, x => { m with writes := x }
theorem Fd.of_set (f : Fd) (m : PMsg) (x : f.T) : f.of (f.set m x) = x := by cases f <;> rfl
theorem Fd.of_other (f g : Fd) (h : f ≠ g) (m : PMsg) (x : g.T) : f.of (g.set m x) = f.of m := by
  cases f <;> cases g <;> first | rfl | exact absurd rfl h

/-- One field of a message. -/
def Fd.get (f : Fd) (x : PMsg × PR) : PMsg × PR := (f.set x.1 (f.c.get x.2).1, (f.c.get x.2).2)
def Fd.put (f : Fd) (m : PMsg) : List UInt8 := f.c.put (f.of m)
def Fd.gets (l : List Fd) (x : PMsg × PR) : PMsg × PR := l.foldl (fun x f => f.get x) x
def Fd.puts (l : List Fd) (m : PMsg) : List UInt8 := l.flatMap fun f => f.put m
def Fd.sets (l : List Fd) (a m : PMsg) : PMsg := l.foldl (fun a f => f.set a (f.of m)) a

theorem Fd.gets_stays (l : List Fd) (m : PMsg) (s : PR) (h : s.why ≠ 0) : (Fd.gets l (m, s)).2 = s := by
  induction l generalizing m with
  | nil => rfl
  | cons f l ih =>
    show (Fd.gets l (f.get (m, s))).2 = s
    unfold Fd.get
    rw [f.c.stays s h]
    exact ih _
theorem Fd.gets_ok (l : List Fd) (m : PMsg) (s : PR) (h : s.Ok) : (Fd.gets l (m, s)).2.Ok := by
  induction l generalizing m s with
  | nil => exact h
  | cons f l ih => exact ih _ _ (f.c.ok s h)
theorem Fd.gets_same (l : List Fd) (m : PMsg) (s : PR) : (Fd.gets l (m, s)).2.b = s.b := by
  induction l generalizing m s with
  | nil => rfl
  | cons f l ih => exact (ih _ _).trans (f.c.same s)
theorem Fd.gets_back (l : List Fd) (a m : PMsg) (s : PR) (t : List UInt8) (h0 : s.why = 0) (hm : ∀ f ∈ l, f.c.may (f.of m)) (hr : s.rest = Fd.puts l m ++ t) :
    Fd.gets l (a, s) = (Fd.sets l a m, s.go (Fd.puts l m).length) := by
  induction l generalizing a s with
  | nil => simp [Fd.gets, Fd.sets, Fd.puts, PR.go]
  | cons f l ih =>
    have e : Fd.puts (f :: l) m = f.put m ++ Fd.puts l m := by simp [Fd.puts]
    rw [e, List.append_assoc] at hr
    have h1 := f.c.back s (f.of m) _ h0 (hm f (by simp)) hr
    have h2 := ih (f.set a (f.of m)) (s.go (f.put m).length) h0 (fun g hg => hm g (by simp [hg])) (PR.rest_append hr)
    have h3 : Fd.gets (f :: l) (a, s) = Fd.gets l (f.set a (f.of m), s.go (f.put m).length) := by
      show Fd.gets l (f.get (a, s)) = _
      unfold Fd.get
      simp only [h1]
      rfl
    rw [h3, h2, e, List.length_append, PR.go_go]
    rfl
theorem Fd.of_gets (l : List Fd) (g : Fd) (hg : g ∉ l) (x : PMsg × PR) : g.of (Fd.gets l x).1 = g.of x.1 := by
  induction l generalizing x with
  | nil => rfl
  | cons f l ih =>
    have h1 : g ≠ f := fun e => hg (by simp [e])
    exact (ih (fun h => hg (by simp [h])) _).trans (Fd.of_other g f h1 _ _)
theorem Fd.gets_one (l : List Fd) (hl : l.Nodup) (a : PMsg) (s : PR) (h : s.Ok) (hw : (Fd.gets l (a, s)).2.why = 0) :
    s.why = 0 ∧ (Fd.gets l (a, s)).2 = s.go (Fd.puts l (Fd.gets l (a, s)).1).length ∧ s.rest = Fd.puts l (Fd.gets l (a, s)).1 ++ (Fd.gets l (a, s)).2.rest := by
  induction l generalizing a s with
  | nil => exact ⟨hw, rfl, rfl⟩
  | cons f l ih =>
    rw [List.nodup_cons] at hl
    have e : ∀ m, Fd.puts (f :: l) m = f.put m ++ Fd.puts l m := fun m => by simp [Fd.puts]
    have e2 : Fd.gets (f :: l) (a, s) = Fd.gets l (f.get (a, s)) := rfl
    rw [e2] at hw ⊢
    obtain ⟨a1, a2, a3⟩ := ih hl.2 _ _ (f.c.ok s h) hw
    obtain ⟨b1, b2, b3⟩ := f.c.one s h a1
    have hf : f.put (Fd.gets l (f.get (a, s))).1 = f.c.put (f.c.get s).1 := by
      unfold Fd.put
      rw [Fd.of_gets l f hl.1]
      exact congrArg _ (f.of_set a _)
    refine ⟨b1, ?_, ?_⟩
    · rw [e, hf, List.length_append, ← PR.go_go, ← b2]; exact a2
    · rw [e, hf, b3, List.append_assoc]; exact congrArg _ a3

/-- The fields of a kind. -/
def idx (k : Nat) : List Fd :=
  if k = 1 then [.tx, .time, .reg, .key, .mode, .no]
  else if k = 2 then [.tx, .reg, .key, .mode, .no, .item]
  else if k = 3 then [.tx, .no, .why]
  else if k = 4 then [.tx, .reg]
  else if k = 5 then [.tx, .reg, .writes]
  else if k = 6 then [.tx, .reg, .yes]
  else if k = 7 then [.tx, .yes]
  else if k = 8 ∨ k = 9 then [.tx]
  else if k = 10 then [.tx, .key, .item]
  else if k = 11 then [.tx, .key]
  else []
theorem idx_cases (k : Nat) : idx k = [] ∨ k = 1 ∨ k = 2 ∨ k = 3 ∨ k = 4 ∨ k = 5 ∨ k = 6 ∨ k = 7 ∨ k = 8 ∨ k = 9 ∨ k = 10 ∨ k = 11 := by
  rcases Nat.lt_or_ge 11 k with h | h
  · left
    unfold idx
    rw [if_neg (by omega), if_neg (by omega), if_neg (by omega), if_neg (by omega), if_neg (by omega), if_neg (by omega), if_neg (by omega), if_neg (by omega), if_neg (by omega), if_neg (by omega)]
  · rcases Nat.eq_zero_or_pos k with h0 | h0
    · subst h0; exact .inl rfl
    · right; omega
theorem idx_nodup (k : Nat) : (idx k).Nodup := by
  rcases idx_cases k with h | h | h | h | h | h | h | h | h | h | h | h
  · rw [h]; exact List.nodup_nil
  all_goals subst h; decide

/-- Which keys may be: bytes, and zeros behind them. -/
def keyOk (l : List UInt8) : Bool := !(l.takeWhile (· != 0)).isEmpty && (l.dropWhile (· != 0)).all (· == 0)
def isCount (n : Nat) : Bool := decide (1 ≤ n ∧ n ≤ maxC)
def txMay (t : PTx) : Bool := decide (t.1 < 8) && isCount t.2.1 && isCount t.2.2
def regMay (g : PReg) : Bool := isCount g.1 && isCount g.2
def itemMay (i : PItem) : Bool := decide (i.1 ≤ maxC ∧ i.2.1.length ≤ 64) && avMay i.2.2.1 i.2.2.2.1 i.2.2.2.2.1 i.2.2.2.2.2
/-- Which of two keys is less. -/
def cmpB : List UInt8 → List UInt8 → Int
  | a :: x, b :: y => if a.toNat < b.toNat then -1 else if b.toNat < a.toNat then 1 else cmpB x y
  | _, _ => 0
def noW : PW := ([], noItem)
def wAt (l : List PW) (i : Nat) : Bool := keyOk (l.getD i noW).1 && itemMay (l.getD i noW).2 && (decide (i = 0) || decide (cmpB (l.getD (i - 1) noW).1 (l.getD i noW).1 < 0))
def wTo (l : List PW) : Nat → Bool
  | 0 => true
  | n + 1 => wTo l n && wAt l n
def writesMay (l : List PW) : Bool := wTo l l.length && decide (l.length ≤ 16)
theorem wTo_at {l : List PW} {n : Nat} (h : wTo l n = true) {i : Nat} (hi : i < n) : wAt l i = true := by
  induction n with
  | zero => omega
  | succ n ih =>
    rw [wTo, Bool.and_eq_true] at h
    rcases Nat.lt_succ_iff_lt_or_eq.1 hi with h1 | h1
    · exact ih h.1 h1
    · rw [h1]; exact h.2

def Fd.may (m : PMsg) : Fd → Bool
  | .tx => txMay m.tx
  | .time => decide (m.time ≤ maxC)
  | .reg => regMay m.reg || decide (m.reg = (0, 0)) && decide (m.kind = 1 ∨ m.kind = 5)
  | .key => keyOk m.key
  | .mode => decide (m.mode = 1 ∨ m.mode = 2)
  | .no => decide (m.no ≤ maxC)
  | .why => decide (1 ≤ m.why ∧ m.why ≤ 17)
  | .yes => decide (m.yes = 1 ∨ m.yes = 2 ∨ m.yes = 3 ∧ m.kind = 6)
  | .item => itemMay m.item
  | .writes => writesMay m.writes
def Fd.zero (m : PMsg) : Fd → Bool
  | .tx => decide (m.tx = (0, 0, 0))
  | .time => decide (m.time = 0)
  | .reg => decide (m.reg = (0, 0))
  | .key => decide (m.key = zeros8)
  | .mode => decide (m.mode = 0)
  | .no => decide (m.no = 0)
  | .why => decide (m.why = 0)
  | .yes => decide (m.yes = 0)
  | .item => decide (m.item = noItem)
  | .writes => decide (m.writes = [])
/-- May a field stand so? -/
def Fd.ok (m : PMsg) (f : Fd) : Bool := if f ∈ idx m.kind then f.may m else f.zero m
def Fd.all : List Fd := [.tx, .time, .reg, .key, .mode, .no, .why, .yes, .item, .writes]
def mMay (m : PMsg) : Bool := Fd.all.all (Fd.ok m) && decide (idx m.kind ≠ [])
def zeroMsg (k : Nat) : PMsg := ⟨k, (0, 0, 0), 0, (0, 0), zeros8, 0, 0, 0, 0, noItem, []⟩
def mEnc (m : PMsg) : List UInt8 := UInt8.ofNat m.kind :: Fd.puts (idx m.kind) m
def mFin (x : PMsg × PR) : PMsg × Nat × Nat :=
  if x.2.end_.why = 0 then (if mMay x.1 then (x.1, 0, 0) else (zeroMsg 0, 3, 0)) else (zeroMsg 0, x.2.end_.why, x.2.end_.fat)
def mGo (k : Nat) (s : PR) : PMsg × Nat × Nat :=
  if s.why = 0 then (if idx k = [] then (zeroMsg 0, 3, 0) else mFin (Fd.gets (idx k) (zeroMsg k, s))) else (zeroMsg 0, s.why, s.fat)
def mDec (b : List UInt8) : PMsg × Nat × Nat := mGo (PR.new b).byte.1 (PR.new b).byte.2

/-- What holds of the values of Go's types. -/
def wfCfg (c : PCfg) : Prop := c.1 < 4294967296 ∧ c.2.1 < 256 ∧ c.2.2.1 < 256 ∧ c.2.2.2.length = 8
def wfItem (i : PItem) : Prop := i.1 < 4294967296 ∧ wfCfg i.2.2
def wfTx (t : PTx) : Prop := t.1 < 256 ∧ t.2.1 < 4294967296 ∧ t.2.2 < 4294967296
def wfReg (g : PReg) : Prop := g.1 < 4294967296 ∧ g.2 < 4294967296
structure PMsg.Wf (m : PMsg) : Prop where
  kind : m.kind < 256
  tx : wfTx m.tx
  time : m.time < 4294967296
  reg : wfReg m.reg
  key : m.key.length = 8
  mode : m.mode < 256
  no : m.no < 4294967296
  why : m.why < 256
  yes : m.yes < 256
  item : wfItem m.item
  writes : ∀ x ∈ m.writes, x.1.length = 8 ∧ wfItem x.2

theorem itemMay_may {i : PItem} (hw : wfItem i) (h : itemMay i = true) : itemC.may i := by
  unfold itemMay avMay at h
  simp only [Bool.and_eq_true, decide_eq_true_eq] at h
  obtain ⟨⟨h1, h2⟩, h3, h4⟩ := h
  obtain ⟨w1, w2, w3, w4, w5⟩ := hw
  exact ⟨h1, h2, h4.2.1, by show _ ≤ 255; omega, by show _ ≤ 255; omega, w5, fun _ _ => trivial⟩
theorem Fd.may_may {m : PMsg} (hw : m.Wf) (f : Fd) (h : f.may m = true) : f.c.may (f.of m) := by
  cases f
  · simp only [Fd.may, txMay, isCount, Bool.and_eq_true, decide_eq_true_eq] at h
    exact ⟨by show m.tx.1 < 256; omega, h.1.2.2, h.2.2⟩
  · show m.time ≤ maxC; simpa [Fd.may] using h
  · simp only [Fd.may, regMay, isCount, Bool.and_eq_true, decide_eq_true_eq, Bool.or_eq_true] at h
    rcases h with h | h
    · exact ⟨h.1.2, h.2.2⟩
    · show regC.may m.reg
      rw [h.1]
      exact ⟨Nat.zero_le _, Nat.zero_le _⟩
  · exact hw.key
  · exact hw.mode
  · show m.no ≤ maxC; simpa [Fd.may] using h
  · simp only [Fd.may, decide_eq_true_eq] at h
    exact h.2
  · exact hw.yes
  · exact itemMay_may hw.item h
  · simp only [Fd.may, writesMay, Bool.and_eq_true, decide_eq_true_eq] at h
    refine ⟨h.2, fun x hx => ?_⟩
    obtain ⟨i, hi, rfl⟩ := List.getElem_of_mem hx
    have hi : i < m.writes.length := hi
    have := wTo_at h.1 hi
    simp only [wAt, Bool.and_eq_true] at this
    have e : m.writes.getD i noW = m.writes[i] := by simp [List.getD_eq_getElem?_getD, hi]
    rw [e] at this
    exact ⟨(hw.writes _ hx).1, itemMay_may (hw.writes _ hx).2 this.1.2⟩

theorem mMay_ok {m : PMsg} (h : mMay m = true) (f : Fd) : f.ok m = true := by
  unfold mMay at h
  rw [Bool.and_eq_true, List.all_eq_true] at h
  exact h.1 f (by cases f <;> decide)
theorem mMay_idx {m : PMsg} (h : mMay m = true) : idx m.kind ≠ [] := by
  unfold mMay at h
  rw [Bool.and_eq_true, decide_eq_true_eq] at h
  exact h.2
/-- The fields that count are the message: the others are zero. -/
theorem sets_eq {m : PMsg} (h : mMay m = true) : Fd.sets (idx m.kind) (zeroMsg m.kind) m = m := by
  have hk := mMay_idx h
  have a := fun f => mMay_ok h f
  have a1 := a .tx; have a2 := a .time; have a3 := a .reg; have a4 := a .key; have a5 := a .mode; have a6 := a .no; have a7 := a .why; have a8 := a .yes; have a9 := a .item; have a0 := a .writes
  clear a
  obtain ⟨kind, tx, time, reg, key, mode, no, why, yes, item, writes⟩ := m
  rcases idx_cases kind with e | e | e | e | e | e | e | e | e | e | e | e
  · exact absurd e hk
  all_goals
    subst e
    simp only [Fd.ok, idx, Fd.zero] at a1 a2 a3 a4 a5 a6 a7 a8 a9 a0
    simp at a1 a2 a3 a4 a5 a6 a7 a8 a9 a0
    simp [Fd.sets, Fd.set, Fd.of, idx, zeroMsg, *]
theorem UInt8.of_lt {n : Nat} (h : n < 256) : (UInt8.ofNat n).toNat = n := by rw [UInt8.toNat_ofNat', Nat.mod_eq_of_lt (by simpa using h)]
theorem mDec_enc {m : PMsg} (hw : m.Wf) (h : mMay m = true) : mDec (mEnc m) = (m, 0, 0) := by
  have hb : (PR.new (mEnc m)).byte = (m.kind, (PR.new (mEnc m)).go 1) := by
    have h1 : (PR.new (mEnc m)).rest = byteC.put m.kind ++ Fd.puts (idx m.kind) m := by simp [PR.rest, PR.new, byteC, mEnc]
    exact byteC.back (PR.new (mEnc m)) m.kind (Fd.puts (idx m.kind) m) rfl hw.kind h1
  have hr : ((PR.new (mEnc m)).go 1).rest = Fd.puts (idx m.kind) m ++ [] := by simp [PR.rest, PR.new, PR.go, mEnc]
  have hg := Fd.gets_back (idx m.kind) (zeroMsg m.kind) m ((PR.new (mEnc m)).go 1) [] rfl (fun f hf => Fd.may_may hw f (by
    have := mMay_ok h f
    unfold Fd.ok at this
    rwa [if_pos hf] at this)) hr
  have he : (((PR.new (mEnc m)).go 1).go (Fd.puts (idx m.kind) m).length).left = 0 := by
    have h1 := PR.rest_append hr
    have h2 : (((PR.new (mEnc m)).go 1).go (Fd.puts (idx m.kind) m).length).why = 0 := rfl
    unfold PR.left
    rw [if_pos h2, h1]
    rfl
  unfold mDec
  rw [hb]
  unfold mGo
  rw [if_pos (show ((PR.new (mEnc m)).go 1).why = 0 from rfl), if_neg (mMay_idx h), hg, sets_eq h]
  unfold mFin PR.end_
  simp only
  rw [he, if_neg (Nat.lt_irrefl 0), if_pos (show (((PR.new (mEnc m)).go 1).go (Fd.puts (idx m.kind) m).length).why = 0 from rfl), if_pos h]

theorem Fd.kind_set (f : Fd) (m : PMsg) (x : f.T) : (f.set m x).kind = m.kind := by cases f <;> rfl
theorem Fd.kind_gets (l : List Fd) (x : PMsg × PR) : (Fd.gets l x).1.kind = x.1.kind := by
  induction l generalizing x with
  | nil => rfl
  | cons f l ih => exact (ih (f.get x)).trans (Fd.kind_set f x.1 _)
theorem PR.end_why {s : PR} (h : s.end_.why = 0) : s.why = 0 ∧ s.rest = [] := by
  unfold PR.end_ at h
  by_cases h1 : 0 < s.left
  · rw [if_pos h1] at h; cases h
  · rw [if_neg h1] at h
    unfold PR.left at h1
    rw [if_pos h] at h1
    exact ⟨h, List.eq_nil_of_length_eq_zero (by omega)⟩
theorem PR.end_ok {s : PR} (h : s.Ok) : s.end_.Ok := by
  unfold PR.end_
  split
  · exact h.fail (by omega) (by omega)
  · exact h
theorem PR.end_same (s : PR) : s.end_.b = s.b := by
  unfold PR.end_
  split <;> rfl

/-- What a decoding gives: the message of its bytes, or its fault within them. -/
theorem mDec_one (b : List UInt8) :
    ((mDec b).2.1 = 0 ∧ (mDec b).2.2 = 0 ∧ mEnc (mDec b).1 = b ∧ mMay (mDec b).1 = true) ∨ ((mDec b).2.1 ≠ 0 ∧ (mDec b).2.1 ≤ 17 ∧ (mDec b).2.2 ≤ b.length ∧ (mDec b).1 = zeroMsg 0) := by
  have n0 := PR.Ok.new b
  have n1 : (PR.new b).byte.2.Ok := byteC.ok _ n0
  have hb : (PR.new b).byte.2.b = b := byteC.same _
  unfold mDec mGo
  by_cases h0 : (PR.new b).byte.2.why = 0
  · rw [if_pos h0]
    obtain ⟨b1, b2, b3⟩ := byteC.one (PR.new b) n0 h0
    have b3 : (PR.new b).rest = UInt8.ofNat (PR.new b).byte.1 :: (PR.new b).byte.2.rest := b3
    have b4 : (PR.new b).rest = b := by simp [PR.rest, PR.new]
    rw [b4] at b3
    have hlt : (PR.new b).byte.1 < 256 := PR.byte_lt _
    generalize (PR.new b).byte.1 = k at *
    by_cases h1 : idx k = []
    · rw [if_pos h1]
      exact .inr ⟨by simp, by simp, Nat.zero_le _, rfl⟩
    · rw [if_neg h1]
      have n2 := Fd.gets_ok (idx k) (zeroMsg k) _ n1
      have n3 := Fd.gets_same (idx k) (zeroMsg k) (PR.new b).byte.2
      have n4 := PR.end_ok n2
      unfold mFin
      by_cases h2 : (Fd.gets (idx k) (zeroMsg k, (PR.new b).byte.2)).2.end_.why = 0
      · rw [if_pos h2]
        by_cases h3 : mMay (Fd.gets (idx k) (zeroMsg k, (PR.new b).byte.2)).1 = true
        · rw [if_pos h3]
          obtain ⟨e1, e2⟩ := PR.end_why h2
          obtain ⟨c1, c2, c3⟩ := Fd.gets_one (idx k) (idx_nodup k) (zeroMsg k) _ n1 e1
          refine .inl ⟨rfl, rfl, ?_, h3⟩
          have hk : (Fd.gets (idx k) (zeroMsg k, (PR.new b).byte.2)).1.kind = k := Fd.kind_gets _ _
          unfold mEnc
          simp only
          rw [hk]
          rw [e2, List.append_nil] at c3
          rw [← c3]
          exact b3.symm
        · rw [if_neg h3]
          exact .inr ⟨by simp, by simp, Nat.zero_le _, rfl⟩
      · rw [if_neg h2]
        refine .inr ⟨h2, n4.why, ?_, rfl⟩
        have := n4.fat
        rw [PR.end_same, n3, hb] at this
        exact this
  · rw [if_neg h0]
    refine .inr ⟨h0, n1.why, ?_, rfl⟩
    have := n1.fat
    rw [hb] at this
    exact this

theorem count_le {n : Nat} (h : n ≤ maxC) : (short n).length ≤ 5 := short_le (k := 4) (by unfold maxC at h; omega)
theorem txC_le {t : PTx} (h : txC.may t) : (txC.put t).length ≤ 11 := by
  have h2 := count_le h.2.1
  have h3 := count_le h.2.2
  show ([UInt8.ofNat t.1] ++ (short t.2.1 ++ short t.2.2)).length ≤ 11
  simp only [List.length_append, List.length_singleton]
  omega
theorem regC_le {g : PReg} (h : regC.may g) : (regC.put g).length ≤ 10 := by
  have h2 := count_le h.1
  have h3 := count_le h.2
  show (short g.1 ++ short g.2).length ≤ 10
  simp only [List.length_append]
  omega
theorem puts_le {α : Type} (c : Codec α) (l : List α) (k : Nat) (h : ∀ a ∈ l, (c.put a).length ≤ k) : (c.puts l).length ≤ l.length * k := by
  induction l with
  | nil => simp [Codec.puts]
  | cons a l ih =>
    have e : c.puts (a :: l) = c.put a ++ c.puts l := by simp [Codec.puts]
    have h1 := h a (by simp)
    have h2 := ih fun b hb => h b (by simp [hb])
    rw [e, List.length_append, List.length_cons, Nat.succ_mul]
    omega
theorem itemC_le {i : PItem} (h : itemC.may i) : (itemC.put i).length ≤ 87 := by
  obtain ⟨h1, h2, h3, h4, h5, h6, h7⟩ := h
  have h2 : i.2.1.length ≤ 64 := h2
  have h4 : i.2.2.2.1 ≤ 255 := h4
  have h5 : i.2.2.2.2.1 ≤ 255 := h5
  have k1 := count_le h1
  have k2 : (short i.2.1.length).length ≤ 1 := short_le (k := 0) (by omega)
  have k3 := count_le h3
  have k4 : (short i.2.2.2.1).length ≤ 2 := short_le (k := 1) (by omega)
  have k5 : (short i.2.2.2.2.1).length ≤ 2 := short_le (k := 1) (by omega)
  have k6 := puts_le byteU i.2.2.2.2.2 1 fun a _ => Nat.le_refl 1
  show (short i.1 ++ ((short i.2.1.length ++ i.2.1) ++ (short i.2.2.1 ++ (short i.2.2.2.1 ++ (short i.2.2.2.2.1 ++ byteU.puts i.2.2.2.2.2))))).length ≤ 87
  simp only [List.length_append]
  omega
theorem writesC_le {l : List PW} (h : writesC.may l) : (writesC.put l).length ≤ 1521 := by
  have h0 : l.length ≤ 16 := h.1
  have k1 : (short l.length).length ≤ 1 := short_le (k := 0) (by omega)
  have k2 := puts_le writeC l 95 fun a ha => by
    obtain ⟨a1, a2⟩ := h.2 a ha
    have a1 : a.1.length = 8 := a1
    have a3 := itemC_le a2
    show (a.1 ++ itemC.put a.2).length ≤ 95
    rw [List.length_append]
    omega
  show (short l.length ++ writeC.puts l).length ≤ 1521
  rw [List.length_append]
  omega
def Fd.most : Fd → Nat
  | .tx => 11 | .time => 5 | .reg => 10 | .key => 8 | .mode => 1 | .no => 5 | .why => 1 | .yes => 1 | .item => 87 | .writes => 1521
theorem Fd.put_le (f : Fd) (m : PMsg) (h : f.c.may (f.of m)) : (f.put m).length ≤ f.most := by
  cases f
  · exact txC_le h
  · exact count_le h
  · exact regC_le h
  · exact Nat.le_of_eq h
  · exact Nat.le_refl 1
  · exact count_le h
  · exact short_le (k := 0) (Nat.lt_of_le_of_lt h (by decide))
  · exact Nat.le_refl 1
  · exact itemC_le h
  · exact writesC_le h
theorem Fd.puts_le (l : List Fd) (m : PMsg) (h : ∀ f ∈ l, f.c.may (f.of m)) : (Fd.puts l m).length ≤ (l.map Fd.most).sum := by
  induction l with
  | nil => exact Nat.le_refl 0
  | cons f l ih =>
    have e : Fd.puts (f :: l) m = f.put m ++ Fd.puts l m := by simp [Fd.puts]
    have h1 := Fd.put_le f m (h f (by simp))
    have h2 := ih fun g hg => h g (by simp [hg])
    rw [e, List.length_append, List.map_cons, List.sum_cons]
    omega
theorem idx_most (k : Nat) : ((idx k).map Fd.most).sum ≤ 2000 := by
  rcases idx_cases k with h | h | h | h | h | h | h | h | h | h | h | h
  · rw [h]; exact Nat.zero_le _
  all_goals subst h; decide
/-- The bytes of a message fit into a frame. -/
theorem mEnc_le {m : PMsg} (hw : m.Wf) (h : mMay m = true) : (mEnc m).length ≤ 4096 := by
  have h1 := Fd.puts_le (idx m.kind) m fun f hf => Fd.may_may hw f (by
    have := mMay_ok h f
    unfold Fd.ok at this
    rwa [if_pos hf] at this)
  have h2 := idx_most m.kind
  unfold mEnc
  rw [List.length_cons]
  omega
end Go.Proofs.YtjfmidcaekhhgaaGreatDoor
