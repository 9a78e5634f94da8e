/- A part of a row of bytes; a clone. -/
import Derived.Test.YtdolddgmemlofaaDiskA
namespace Go.Proofs.Ytdolddgmemlofaa
open Go.RowKit Go.PM

/-- Where a part lies. -/
def partAddr (a : Option Addr) (k m : Nat) : Option Addr := if m = 0 then a else a.map fun x => x.add k

def PartPost (w : World) (a : Option Addr) (k m : Nat) (xs : List UInt8) (e : Ending) (w' : World) : Prop :=
  e = .returned (.slice (partAddr a k m) m m) ∧ Rd w' (partAddr a k m) (bcells ((xs.drop k).take m)) ∧ Kept No w w'

theorem add_plain (b o k : Nat) : (⟨b, o, none⟩ : Addr).add k = ⟨b, o + k, none⟩ := by
  unfold Addr.add; split
  · subst_vars; rfl
  · rfl

theorem part_rd {w : World} {a : Option Addr} {xs : List UInt8} (h : Rd w a (bcells xs)) (k m : Nat) : Rd w (partAddr a k m) (bcells ((xs.drop k).take m)) := by
  intro j x hj
  have hjm : j < m := by
    have := (List.getElem?_eq_some_iff.1 hj).1
    simp only [bcells, List.length_map] at this
    rw [List.length_take] at this
    omega
  have hj' : (bcells xs)[k + j]? = some x := by
    simp only [bcells, List.getElem?_map, List.getElem?_take, List.getElem?_drop] at hj ⊢
    rw [if_pos hjm] at hj
    exact hj
  obtain ⟨b, o, rfl, hc⟩ := h _ _ hj'
  refine ⟨b, o + k, ?_, ?_⟩
  · unfold partAddr; rw [if_neg (by omega), Option.map_some, add_plain]
  · rw [Nat.add_assoc]; exact hc

theorem part_at {a : Option Addr} {k m b : Nat} (h : At (partAddr a k m) b) : ∃ ad, a = some ad ∧ ad.block = b := by
  obtain ⟨b', o, h, rfl⟩ := h
  unfold partAddr at h
  split at h
  · exact ⟨_, h, rfl⟩
  · cases a with
    | none => simp at h
    | some ad =>
      simp only [Option.map_some, Option.some.injEq] at h
      refine ⟨ad, rfl, ?_⟩
      unfold Addr.add at h
      split at h
      · rw [h]
      · have := congrArg Addr.block h; exact this
theorem part_none {a : Option Addr} {k m : Nat} (h : partAddr a k m = none) : a = none := by
  unfold partAddr at h
  split at h
  · exact h
  · cases a with
    | none => rfl
    | some ad => simp at h

set_option maxHeartbeats 400000 in
theorem part_calls (fr i j : Int) (a : Option Addr) (n c k m : Nat) (xs : List UInt8) (w : World) (hr : Rd w a (bcells xs)) (hn : k + m ≤ n) (hn2 : n ≤ 1099511627776) (hc : n ≤ c) (_hcm : c ≤ maxLen) (_h0 : 0 ≤ fr) (_h1 : fr ≤ 4611686018427387904)
    (hi : i = fr + k) (hj : j = fr + k + m) :
    Calls Try.prog 73 #[.agg #[.int .i64 fr, .slice a n c], .int .i64 i, .int .i64 j] w (PartPost w a k m xs) := by
  unfold maxLen at _hcm
  have hm : k + m ≤ 1099511627776 := by omega
  have e1 : IntKind.i64.wrap (i - fr) = (k : Int) := by rw [IntKind.wrap_i64]; omega
  have e2 : IntKind.i64.wrap (j - fr) = ((k + m : Nat) : Int) := by rw [IntKind.wrap_i64]; omega
  have hrd := part_rd hr k m
  obtain ⟨pa, hpa⟩ : ∃ pa, partAddr a k m = pa := ⟨_, rfl⟩
  have HPA := Lib.hid hpa
  rw [hpa] at hrd
  have hpost : ∀ w', Kept No w w' → PartPost w a k m xs (.returned (.slice pa m m)) w' := fun w' hk => ⟨by rw [HPA.out], by rw [HPA.out]; exact hrd.keptNo hk, hk⟩
  clear hi hj hpa hrd hr
  go_enter Try.func73, Try.ntmps73
  go_wp2
  go_quiet (fail)
  go_wp2
  · have hm0 : m = 0 := by omega
    subst hm0
    have : pa = a := by rw [← HPA.out]; rfl
    subst this
    go_ret
    exact hpost _ (((Kept.refl No w).alloc _).drewN _)
  · have hm0 : ¬ m = 0 := by omega
    have : pa = a.map fun x => x.add k := by rw [← HPA.out]; unfold partAddr; rw [if_neg hm0]
    subst this
    go_ret
    exact hpost _ (((Kept.refl No w).alloc _).drewN _)

/-- What a clone answers: nil, or a slice of an array of its own. -/
def ClonePost (w : World) (xs : List UInt8) (e : Ending) (w' : World) : Prop :=
  ∃ a cap, e = .returned (.slice a xs.length cap) ∧ Owns w' 5 1 a xs.length cap (bcells xs) ∧ Kept No w w' ∧ ∀ b, At a b → w.heap.size ≤ b

set_option maxRecDepth 100000 in
set_option maxHeartbeats 400000 in
theorem clone_calls (a : Option Addr) (c : Nat) (xs : List UInt8) (w : World) (hr : Rd w a (bcells xs)) (hn : xs.length ≤ 1099511627776) (hc : a = none → c = 0) :
    Calls Try.prog 72 #[.slice a xs.length c] w (ClonePost w xs) := by
  obtain ⟨i0, hi0, hz0, hz1, hz2⟩ := info_parts Try.dinf_byte
  have hone := bcells_one xs
  have q := fun (w : World) (a : Option Addr) (n c : Nat) => Lib.run_eql_slice_nil (P := Try.prog) w 32 5 a n c 0 0 Try.du_bytes
  cases a with
  | none =>
    have hx : xs = [] := by
      cases xs with
      | nil => rfl
      | cons b l => obtain ⟨_, _, h, _⟩ := hr.addr (by simp); cases h
    subst hx
    go_enter Try.func72, Try.ntmps72
    go_wp2
    go_ret
    exact ⟨none, 0, rfl, Owns.nil _ _ _, Kept.refl _ _, fun b ⟨_, _, h, _⟩ => nomatch h⟩
  | some ad =>
    have ho : Owns (w.alloc (.cells #[] 5)) 5 1 (some ⟨w.heap.size, 0, none⟩) 0 0 [] := (Own.full (Blk.new w 5 []) (by simp) (by simp [maxLen])).owns
    have hr' := hr.keptNo ((Kept.refl No w).alloc (.cells #[] 5))
    have hmx : 0 + xs.length ≤ maxLen := by unfold maxLen; omega
    go_enter Try.func72, Try.ntmps72
    go_wp2_with (at_builtin; go_must (refine wpList_onto rfl (.tmp 5) (.tmp 6) 32 rfl 5 i0 _ 1 1 Try.du_bytes hi0 hz0 hz1 hz2 rfl (by decide) _ 0 0 [] rfl ho (some ad) xs.length c (bcells xs) rfl (fun h => nomatch h) (by simp) hr' hone hmx (by omega) ?_; intro a2 cap2 w2 hap))
    rw [Nat.zero_add, List.nil_append] at hap
    go_ret
    refine ⟨a2, cap2, rfl, hap.own, ((Kept.refl No w).alloc _).trans hap.kept (fun b hb hat => ?_), fun b hb => ?_⟩
    · obtain ⟨_, _, h, rfl⟩ := hat
      cases h
      exact absurd hb (Nat.lt_irrefl _)
    · rcases hap.at_ b hb with ⟨_, _, h, rfl⟩ | h
      · cases h; exact Nat.le_refl _
      · rw [World.size_alloc] at h; omega
end Go.Proofs.Ytdolddgmemlofaa
