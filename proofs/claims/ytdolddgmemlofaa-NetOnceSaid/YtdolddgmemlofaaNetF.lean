/- Where a node's wires lie: (*Net).To. -/
import Derived.Test.YtdolddgmemlofaaNetE
namespace Go.Proofs.Ytdolddgmemlofaa
open Go.RowKit Go.PM

theorem Try.inf_int : (Try.prog.info? 3).map (fun i => (i.zero, i.size, i.bytes)) = some (some (.int .i64 0), 1, 8) := by kernel_rfl
theorem Try.u_ints : Try.prog.underlying 55 = some (.slice 3) := by kernel_rfl

/-- The places of those of the first k whose number is n. -/
def placesTo (ts : List Int) (n : Int) (k : Nat) : List Nat := (List.range k).filter fun j => ts[j]? == some n
def icells (l : List Nat) : List Value := l.map fun (n : Nat) => .int .i64 (n : Int)
theorem icells_one (l : List Nat) : ∀ u ∈ icells l, u.oneCell' = true := by
  intro u hu; simp only [icells, List.mem_map] at hu; obtain ⟨b, _, rfl⟩ := hu; rfl
theorem placesTo_succ (ts : List Int) (n : Int) (k : Nat) : placesTo ts n (k + 1) = placesTo ts n k ++ if ts[k]? == some n then [k] else [] := by
  unfold placesTo; rw [List.range_succ, List.filter_append, List.filter_cons, List.filter_nil]
theorem placesTo_le (ts : List Int) (n : Int) (k : Nat) : (placesTo ts n k).length ≤ k := by
  unfold placesTo; have := List.length_filter_le (fun j => ts[j]? == some n) (List.range k); simpa using this

/-- A fresh slice of numbers. -/
def FreshI (w : World) (l : List Nat) (e : Ending) (w' : World) : Prop :=
  ∃ a cap, e = .returned (.slice a l.length cap) ∧ Own w' 3 1 a l.length cap (icells l) ∧ Kept No w w' ∧ ∀ b, At a b → w.heap.size ≤ b

def ToRel (w : World) (ts : List Int) (n : Int) (v i : Value) (wr : World) : Prop :=
  ∃ (k : Nat) (a : Option Addr) (cap : Nat), k ≤ ts.length ∧ i = .int .i64 k ∧ v = .slice a (placesTo ts n k).length cap ∧ Own wr 3 1 a (placesTo ts n k).length cap (icells (placesTo ts n k)) ∧ Kept No w wr ∧ ∀ b, At a b → w.heap.size ≤ b

section
variable {w : World} {p : Nat} {room : Int} {a : Option Addr} {cap : Nat} {lost : Int} {l : List MW} {S : Nat → Prop}

set_option maxRecDepth 100000 in
set_option maxHeartbeats 1000000 in
theorem to_calls (hN : NetX w p room a cap lost l S) (n : Int) :
    Calls Try.prog 26 #[.pointer (some ⟨p, 0, none⟩), .int .u8 n] w (FreshI w (placesTo (l.map MW.t) n l.length)) := by
  obtain ⟨i0, hi0, hz0, hz1, hz2⟩ := info_parts Try.inf_int
  have hr0 : 0 < room := by have := hN.room1; omega
  have hl256 : l.length ≤ 256 := by have := hN.fits; have := hN.room2; omega
  go_enter Try.func26, Try.ntmps26
  go_wp2_with (go_at_call 20; go_must (refine (len_calls hN.box hr0).mono ?_; rintro e w1 ⟨rfl, rfl⟩))
  go_loopw [5, 9] (fun v i wr => ToRel w (l.map MW.t) n v i wr) (fun _ i _ => l.length - (intOf i).toNat)
  case atStart => exact ⟨0, none, 0, Nat.zero_le _, rfl, rfl, by simpa [placesTo, icells] using Own.nil _ _ _, Kept.refl _ _, fun b ⟨_, _, h, _⟩ => nomatch h⟩
  case round =>
    obtain ⟨k, a1, cap1, hk, rfl, rfl, ho, hkept, hat⟩ := hrel
    have h1 := hN.keptNo hkept
    have hp1 := h1.lt p h1.sp
    have c1 := h1.box.c1
    have hpl := placesTo_le (l.map MW.t) n k
    simp only [List.length_map] at hk
    by_cases hlt : k < l.length
    · obtain ⟨m, hm⟩ : ∃ m, l[k]? = some m := ⟨_, List.getElem?_eq_getElem hlt⟩
      obtain ⟨g, rfl, hg⟩ : ∃ g, a = some ⟨g, 0, none⟩ ∧ g < w.heap.size := by
        rcases hN.own.addr with ⟨_, h0, _⟩ | h'
        · omega
        · exact h'
      obtain ⟨_, m1, _⟩ := mcells_get l k m hm
      have d1 : wr.cell? ⟨g, k * 3 + 1, none⟩ = some (.int .u8 m.t) := by obtain ⟨b, o, e, hc⟩ := h1.own.rd _ _ m1; simp at e; obtain ⟨rfl, rfl⟩ := e; simpa using hc
      have HS : Hid (placesTo (l.map MW.t) n (k + 1) = placesTo (l.map MW.t) n k ++ if m.t = n then [k] else []) := by
        show _ = _
        rw [placesTo_succ]; simp [hm]
      clear m1 hm
      by_cases ht : m.t = n
      · have htb : (m.t == n) = true := beq_iff_eq.2 ht
        rw [if_pos ht] at HS
        clear ht
        have hO := fun X => ho.keptNo ((Kept.refl No wr).alloc X)
        have hR := fun vs => Rd.ofBlk' (Blk.new wr 3 vs)
        have h1c : ∀ u ∈ [Value.int .i64 (k : Int)], u.oneCell' = true := by simp [Value.oneCell']
        have hmx : (placesTo (l.map MW.t) n k).length + 1 ≤ maxLen := by unfold maxLen; omega
        go_wp2_with (at_builtin; go_must (refine wpList_append rfl (.tmp 22) (.tmp 24) 55 rfl 3 i0 _ 1 8 Try.u_ints hi0 hz0 hz1 hz2 rfl (by decide) a1 (placesTo (l.map MW.t) n k).length cap1 (icells (placesTo (l.map MW.t) n k)) rfl (hO _) _ 1 1 _ rfl (fun h => nomatch h) rfl (hR _) h1c hmx (by omega) ?_; intro a2 cap2 w2 hap))
        go_roundw
        case rel =>
          have e1 : (placesTo (l.map MW.t) n k).length + 1 = (placesTo (l.map MW.t) n (k + 1)).length := by rw [HS.out]; simp
          have e2 : icells (placesTo (l.map MW.t) n k) ++ [Value.int .i64 (k : Int)] = icells (placesTo (l.map MW.t) n (k + 1)) := by rw [HS.out]; simp [icells]
          rw [e1, e2] at hap
          refine ⟨k + 1, a2, cap2, by simp; omega, by go_num, by rw [e1], hap.own, (hkept.alloc _).trans hap.kept (fun b hb hb' => ?_), fun b hb => ?_⟩
          · exact absurd (hat b hb') (by omega)
          · have := hkept.size
            exact (hap.at_ b hb).elim (hat b) (fun h => by rw [World.size_alloc] at h; omega)
        case measure => simp [intOf]; omega
      · have htb : (m.t == n) = false := beq_eq_false_iff_ne.2 ht
        rw [if_neg ht] at HS
        clear ht
        go_wp2
        go_roundw
        case rel =>
          have e1 : placesTo (l.map MW.t) n k = placesTo (l.map MW.t) n (k + 1) := by rw [HS.out]; simp
          rw [e1] at ho ⊢
          exact ⟨k + 1, a1, cap1, by simp; omega, by go_num, rfl, ho, hkept, hat⟩
        case measure => simp [intOf]; omega
    · go_wp2
      go_ret
      have e : k = l.length := by omega
      subst e
      exact ⟨a1, cap1, rfl, ho, hkept, hat⟩
end
end Go.Proofs.Ytdolddgmemlofaa
