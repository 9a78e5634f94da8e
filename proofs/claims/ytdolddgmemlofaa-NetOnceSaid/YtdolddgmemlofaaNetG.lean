/- Each call of a network, by the pure network. -/
import Derived.Test.YtdolddgmemlofaaNetF
import Derived.Test.YtdolddgmemlofaaNetP
namespace Go.Proofs.Ytdolddgmemlofaa
open Go.RowKit Go.PM

/-- The network at p is s; S are its blocks. -/
def NetS (w : World) (p : Nat) (s : PN) (S : Nat → Prop) : Prop := ∃ a cap ml, NetX w p s.room a cap s.lost ml S ∧ ml.map MW.w = s.l

structure Grows (S S' : Nat → Prop) (w w' : World) : Prop where
  kept : Kept S w w'
  grow : ∀ k, S' k → S k ∨ w.heap.size ≤ k

theorem Grows.same {S : Nat → Prop} {w w' : World} (h : Kept S w w') : Grows S S w w' := ⟨h, fun _ h => .inl h⟩

def CodePost (w : World) (p : Nat) (S : Nat → Prop) (r : Int × PN) (e : Ending) (w' : World) : Prop :=
  ∃ S', e = .returned (.int .i64 r.1) ∧ NetS w' p r.2 S' ∧ Grows S S' w w'

def GotPost (w : World) (p : Nat) (S : Nat → Prop) (x : PW) (code : Int) (s : PN) (e : Ending) (w' : World) : Prop :=
  ∃ a2 c2 S', e = .returned (.tuple #[.agg #[.int .u8 x.1, .int .u8 x.2.1, .slice a2 x.2.2.length c2], .int .i64 code]) ∧ (a2 = none → c2 = 0) ∧ Rd w' a2 (bcells x.2.2) ∧
    (∀ k, At a2 k → w.heap.size ≤ k ∧ k < w'.heap.size ∧ ¬ S' k) ∧ NetS w' p s S' ∧ Grows S S' w w'

theorem NetS.kept {w w' : World} {p : Nat} {s : PN} {S T : Nat → Prop} (h : NetS w p s S) (k : Kept T w w') (hd : ∀ b, S b → ¬ T b) : NetS w' p s S :=
  let ⟨a, cap, ml, hN, e⟩ := h; ⟨a, cap, ml, hN.kept k hd, e⟩
theorem NetS.keptNo {w w' : World} {p : Nat} {s : PN} {S : Nat → Prop} (h : NetS w p s S) (k : Kept No w w') : NetS w' p s S := h.kept k fun _ _ h => h
theorem NetS.lt {w : World} {p : Nat} {s : PN} {S : Nat → Prop} (h : NetS w p s S) : ∀ k, S k → k < w.heap.size := let ⟨_, _, _, hN, _⟩ := h; hN.lt
theorem NetS.sp {w : World} {p : Nat} {s : PN} {S : Nat → Prop} (h : NetS w p s S) : S p := let ⟨_, _, _, hN, _⟩ := h; hN.sp
theorem NetS.room {w : World} {p : Nat} {s : PN} {S : Nat → Prop} (h : NetS w p s S) : 1 ≤ s.room ∧ s.room ≤ 256 ∧ (s.l.length : Int) ≤ s.room ∧ 0 ≤ s.lost ∧ s.lost ≤ 4294967295 := by
  obtain ⟨_, _, ml, hN, e⟩ := h
  have : s.l.length = ml.length := by rw [← e]; simp
  rw [this]
  exact ⟨hN.room1, hN.room2, hN.fits, hN.lost0, hN.lost1⟩
theorem more_eq (n : Int) : more n = lmore n := rfl

theorem NetPost.code {w : World} {p : Nat} {room lost : Int} {l' : List PW} {S : Nat → Prop} {code : Int} {e : Ending} {w' : World} (h : NetPost w p room lost l' S code e w') : CodePost w p S (code, ⟨room, lost, l'⟩) e w' := by
  obtain ⟨a, cap, ml, S', rfl, hN, hl, hk, hg⟩ := h
  exact ⟨S', rfl, ⟨a, cap, ml, hN, hl⟩, hk, hg⟩

section
variable {w : World} {p : Nat} {s : PN} {S : Nat → Prop}

theorem s_send (h : NetS w p s S) (x : PW) (ad : Option Addr) (c : Nat) (hr : Rd w ad (bcells x.2.2)) :
    Calls Try.prog 19 #[.pointer (some ⟨p, 0, none⟩), .agg #[.int .u8 x.1, .int .u8 x.2.1, .slice ad x.2.2.length c]] w (CodePost w p S (s.send x)) := by
  have hroom := h.room
  obtain ⟨a, cap, ml, hN, e⟩ := h
  have hlen : s.l.length = ml.length := by rw [← e]; simp
  unfold PN.send
  by_cases h1 : max x.1 x.2.1 < 8
  · by_cases h2 : x.2.2.length ≤ 4096
    · by_cases h3 : (s.l.length : Int) < s.room
      · rw [if_pos h1, if_pos h2, if_pos h3, ← e]
        exact (send_puts hN x.1 x.2.1 ad c x.2.2 hr h1 h2 (by omega)).mono fun _ _ h => h.code
      · rw [if_pos h1, if_pos h2, if_neg h3]
        have := (send_full hN x.1 x.2.1 ad c x.2.2.length h1 h2 (by omega)).mono fun _ _ h => h.code
        rw [e] at this; exact this
    · rw [if_pos h1, if_neg h2]
      have := (send_many hN x.1 x.2.1 ad c x.2.2.length h1 (by omega)).mono fun _ _ h => h.code
      rw [e] at this; exact this
  · rw [if_neg h1]
    have := (send_arg hN x.1 x.2.1 ad c x.2.2.length h1).mono fun _ _ h => h.code
    rw [e] at this; exact this

theorem inside_get {ml : List MW} (e : ml.map MW.w = s.l) {i : Int} (hi : s.inside i) : ∃ (n : Nat) (m : MW), i = n ∧ ml[n]? = some m ∧ (s.at i).1 = m.w ∧ s.l.eraseIdx n = (ml.eraseIdx n).map MW.w := by
  obtain ⟨h0, h1⟩ := hi
  have hlen : s.l.length = ml.length := by rw [← e]; simp
  have hn : i.toNat < ml.length := by omega
  refine ⟨i.toNat, ml[i.toNat], by omega, by simp [hn], ?_, ?_⟩
  · unfold PN.at; rw [if_pos ⟨h0, h1⟩, ← e]; simp [hn]
  · rw [← e]; simp [List.eraseIdx_eq_take_drop_succ, List.map_take, List.map_drop]

theorem s_drop (h : NetS w p s S) (i : Int) :
    Calls Try.prog 58 #[.pointer (some ⟨p, 0, none⟩), .int .i64 i] w (CodePost w p S (s.drop i)) := by
  obtain ⟨a, cap, ml, hN, e⟩ := h
  have hlen : s.l.length = ml.length := by rw [← e]; simp
  unfold PN.drop
  by_cases hi : s.inside i
  · obtain ⟨n, m, rfl, hm, _, he⟩ := inside_get e hi
    rw [if_pos hi]
    have := (drop_calls hN n m hm).mono fun _ _ h => h.code
    rw [← he] at this; simpa [PN.without, more_eq] using this
  · rw [if_neg hi]
    have := (drop_none hN i (by unfold PN.inside at hi; omega)).mono fun _ _ h => h.code
    rw [e] at this; exact this

theorem s_late (h : NetS w p s S) (i : Int) :
    Calls Try.prog 55 #[.pointer (some ⟨p, 0, none⟩), .int .i64 i] w (CodePost w p S (s.late i)) := by
  obtain ⟨a, cap, ml, hN, e⟩ := h
  have hlen : s.l.length = ml.length := by rw [← e]; simp
  unfold PN.late
  by_cases hi : s.inside i
  · rw [if_pos hi]
    obtain ⟨n, m, hin, hm, hat, he⟩ := inside_get e hi
    rw [hat]
    have := (late_calls hN n m hm).mono fun _ _ h => h.code
    rw [← he, ← hin] at this; simpa [PN.without, hin] using this
  · rw [if_neg hi]
    have := (late_none hN i (by unfold PN.inside at hi; omega)).mono fun _ _ h => h.code
    rw [e] at this; exact this

theorem s_twice (h : NetS w p s S) (i : Int) :
    Calls Try.prog 29 #[.pointer (some ⟨p, 0, none⟩), .int .i64 i] w (CodePost w p S (s.twice i)) := by
  have hroom := h.room
  obtain ⟨a, cap, ml, hN, e⟩ := h
  have hlen : s.l.length = ml.length := by rw [← e]; simp
  unfold PN.twice
  by_cases hi : s.inside i
  · rw [if_pos hi]
    obtain ⟨n, m, hin, hm, hat, he⟩ := inside_get e hi
    rw [hat]
    by_cases hf : (s.l.length : Int) < s.room
    · rw [if_pos hf]
      have := (twice_calls hN n m hm (by omega)).mono fun _ _ h => h.code
      rw [e, ← hin] at this; exact this
    · rw [if_neg hf]
      have := (twice_full hN n m hm (by omega)).mono fun _ _ h => h.code
      rw [e, ← hin] at this; exact this
  · rw [if_neg hi]
    have := (twice_none hN i (by unfold PN.inside at hi; omega)).mono fun _ _ h => h.code
    rw [e] at this; exact this

theorem none_got (h : NetS w p s S) {code : Int} {e : Ending} {w' : World} (hn : NonePost w code e w') : GotPost w p S (0, 0, []) code s e w' := by
  obtain ⟨rfl, hk⟩ := hn
  exact ⟨none, 0, S, rfl, fun _ => rfl, Rd.nil _ _, (fun k ⟨_, _, h, _⟩ => nomatch h), h.keptNo hk, Grows.same hk.no⟩

theorem s_at (h : NetS w p s S) (i : Int) :
    Calls Try.prog 17 #[.pointer (some ⟨p, 0, none⟩), .int .i64 i] w (GotPost w p S (s.at i).1 (s.at i).2 s) := by
  have hS := h
  obtain ⟨a, cap, ml, hN, e⟩ := h
  have hlen : s.l.length = ml.length := by rw [← e]; simp
  by_cases hi : s.inside i
  · obtain ⟨n, m, hin, hm, hat, he⟩ := inside_get e hi
    have h2 : (s.at i).2 = 0 := by unfold PN.at; rw [if_pos (show 0 ≤ i ∧ _ from hi)]
    rw [hat, h2, hin]
    refine (at_calls hN n m hm).mono ?_
    rintro e1 w1 ⟨g, rfl, hge, hb, hk⟩
    refine ⟨some ⟨g, 0, none⟩, _, S, rfl, fun h => (nomatch h), Rd.ofBlk' hb, ?_, hS.keptNo hk, Grows.same hk.no⟩
    rintro k ⟨_, _, h', rfl⟩
    cases h'
    exact ⟨hge, hb.lt, fun h' => by have := hN.lt _ h'; omega⟩
  · have h2 : s.at i = ((0, 0, []), 6) := by unfold PN.at; rw [if_neg (show ¬ (0 ≤ i ∧ _) from hi)]
    rw [h2]
    exact (at_none hN i (by unfold PN.inside at hi; omega)).mono fun _ _ h => none_got hS h

theorem s_take (h : NetS w p s S) (i : Int) :
    Calls Try.prog 30 #[.pointer (some ⟨p, 0, none⟩), .int .i64 i] w (GotPost w p S (s.take i).1 (s.take i).2.1 (s.take i).2.2) := by
  have hS := h
  obtain ⟨a, cap, ml, hN, e⟩ := h
  have hlen : s.l.length = ml.length := by rw [← e]; simp
  unfold PN.take
  by_cases hi : s.inside i
  · rw [if_pos hi]
    obtain ⟨n, m, hin, hm, hat, he⟩ := inside_get e hi
    simp only [hat]
    rw [hin]
    refine (take_calls hN n m hm).mono ?_
    rintro e1 w1 ⟨g, rfl, hge, hb, hN1, hk⟩
    refine ⟨some ⟨g, 0, none⟩, _, S, rfl, fun h => (nomatch h), Rd.ofBlk' hb, ?_, ⟨a, cap, _, hN1, by simp [PN.without, he]⟩, Grows.same hk⟩
    rintro k ⟨_, _, h', rfl⟩
    cases h'
    exact ⟨hge, hb.lt, fun h' => by have := hN.lt _ h'; omega⟩
  · rw [if_neg hi]
    exact (take_none hN i (by unfold PN.inside at hi; omega)).mono fun _ _ h => none_got hS h
end
end Go.Proofs.Ytdolddgmemlofaa
