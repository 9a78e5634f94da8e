/- maps.Keys over a desk's map: its iterator, for every loop body. -/
import Derived.Test.YtencnfgmgcdiiaaSeA
import Derived.Test.YtencnfgmgcdiiaaMapD
import Derived.RangeFuncNested
import Derived.RangeFuncBound
import Derived.RangeFuncCalls
import Derived.RangeFuncLeaves
import Derived.RangeFuncStops
import Derived.RangeFuncOwn
import Derived.Shelf.Abstract
import Derived.Shelf.RegionOpen
import Derived.Sort.MapsRangeIn
import Derived.WalkKit
import Derived.OwnWalkIn
import Derived.TacticsInMore
import Derived.LoopNIn
import Derived.LoopIn
namespace Go.PM
open Go.RowKit Go.Maps

theorem keyOf_byte_inv {P : Program} {kt : TypeId} (hk : P.underlying kt = some (.int .u8)) {key : Value} {kl : Lit} (h : keyOf P kt key = some kl) : ∃ x : UInt8, key = ekb x ∧ kl = .int .u8 x.toNat := by
  obtain ⟨x, rfl, rfl, hw⟩ := Maps.keyOf_int_inv hk h
  have h0 : IntKind.u8.min = 0 := rfl
  have h1 : IntKind.u8.max = 255 := rfl
  have hw' : 0 ≤ x ∧ x ≤ 255 := by simpa [Lit.wf, h0, h1] using hw
  have e : ((UInt8.ofNat x.toNat).toNat : Int) = x := by rw [UInt8.toNat_ofNat']; omega
  exact ⟨UInt8.ofNat x.toNat, by unfold ekb; rw [e], by rw [e]⟩

/-- What has come of the keys. -/
def CollB (D0 : DataW Nat) (left : Lit → Bool) (ss : List UInt8) : Prop := ss.Nodup ∧ ∀ x : UInt8, x ∈ ss ↔ (has D0 (.int .u8 x.toNat) = true ∧ left (.int .u8 x.toNat) = false)
theorem CollB.start (D0 : DataW Nat) : CollB D0 (has D0) [] := ⟨List.nodup_nil, fun x => by cases has D0 (.int .u8 x.toNat) <;> simp⟩
theorem CollB.step {D0 : DataW Nat} {left : Lit → Bool} {ss : List UInt8} (h : CollB D0 left ss) {x : UInt8} {y : DataW Nat} (hlk : left (.int .u8 x.toNat) = true) (hat : ∀ zd, D0.atKey (.int .u8 x.toNat) zd = y) :
    CollB D0 (fun z => left z && !z.sameKey (.int .u8 x.toNat)) (ss ++ [x]) := by
  have hhas : has D0 (.int .u8 x.toNat) = true := has_true_of_atKey hat
  have hnew : x ∉ ss := fun hx => by have := ((h.2 x).1 hx).2; rw [hlk] at this; cases this
  refine ⟨List.nodup_append.2 ⟨h.1, by simp, fun a ha b hb => by simp at hb; subst hb; exact fun e => hnew (e ▸ ha)⟩, fun y => ?_⟩
  by_cases hy : y = x
  · subst hy; simp [hhas, Lit.sameKey]
  · have hne : ¬ ((y.toNat : Int) = x.toNat) := fun e => hy (UInt8.toNat_inj.1 (by omega))
    simp [h.2 y, hy, Lit.sameKey, hne]
end Go.PM
namespace Go.Proofs.Ytencnfgmgcdiiaa
open Go.RowKit Go.PM Go.Maps Go.Shelf

set_option maxRecDepth 100000 in
set_option maxHeartbeats 1000000 in
theorem keys1_in (F : Fence) (n : Nat) (h10 : F.fn 66) (hro : F.round = none) (hn : 1 ≤ n) (l Bm b nn : Nat) (D0 : DataW Nat) (J Jx : List UInt8 → World → Prop)
    (hY : ∀ pre x W, J pre W → pre.length < Maps.size D0 → YieldAt F (n - 1) Try.prog l #[ekb x] W fun e W' =>
      (e = .returned (.bool true) ∧ J (pre ++ [x]) W' ∧ KeepsWalks W W') ∨ (e = .returned (.bool false) ∧ Jx (pre ++ [x]) W'))
    (W : World) (hJ : AbidesFrom W.heap.size J) (hm : W.cell? ⟨Bm, 0, none⟩ = some (.map (some b))) (hown : W.ownsMap Try.prog 5 R0 b nn D0) (h0 : J [] W) :
    CallsIn F n Try.prog 66 #[.func (.yield l) #[] #[], .pointer (some ⟨Bm, 0, none⟩)] W fun e W' => (∃ v, e = .returned v) ∧
      ((∃ ss : List UInt8, (ss.Nodup ∧ ∀ x : UInt8, x ∈ ss ↔ has D0 (.int .u8 x.toNat) = true) ∧ J ss W') ∨ (∃ pre : List UInt8, True ∧ Jx pre W')) := by
  refine callsIn_of_wp Try.func66 rfl h10 ?_ hro
  simp only [Try.ntmps66, List.size_toArray, List.length_cons, List.length_nil, Nat.reduceAdd, Nat.reduceSub, Array.replicate_succ, Array.replicate_zero, List.push_toArray, List.append_toArray, List.nil_append, List.cons_append]
  gi_wp2_with (first
    | (gi_at_range; refine wpListIn_range_own _ rfl _ 77 rfl 5 98 (int_keyed Try.su_byte) Try.su_map _ b nn _ rfl hown ?_; intro w0 hrg0 hg0 hs0)
    | gi_in)
  go_frame
  gi_loopw [3] (fun _ wr => ∃ (left : Lit → Bool) (cnt : Nat) (ss : List UInt8), wr.ranges Try.prog 5 R0 b W.heap.size nn D0 left cnt ∧ ss.length + cnt ≤ Maps.size D0 ∧ CollB D0 left ss ∧ J ss wr)
    (fun _ wr => wr.rangeLeft b W.heap.size)
  case atStart =>
    exact ⟨_, _, [], hrg0, by simp, CollB.start D0, hJ [] W w0 none h0 hg0 (fun r e => by cases e)⟩
  case round =>
    obtain ⟨left, cnt, ss, hrg, hcs, hC, hJs⟩ := hrel
    gi_wp2_with (first
      | (gi_at_next; refine wpListIn_next_ranges _ rfl _ rfl 5 (int_keyed Try.su_byte) R0 ekb id (fun key kl hk => by obtain ⟨x, hx, _⟩ := keyOf_byte_inv Try.su_byte hk; exact ⟨x, hx⟩) (fun v _ _ => ⟨v, rfl⟩) b W.heap.size nn _ _ _ rfl hrg ?_ ?_)
      | gi_in)
    · intro hc0 hl0
      gi_wp2
      go_end0
      exact ⟨⟨_, rfl⟩, .inl ⟨ss, ⟨hC.1, fun x => by rw [hC.2 x, hl0]; simp⟩, hJs⟩⟩
    · intro x c kl yd yp w2 cnt2 hkey hlk hv hat hrg2 hlt hg2 hs2 hen
      obtain ⟨x', ex, rfl⟩ := keyOf_byte_inv Try.su_byte hkey
      obtain rfl : x = x' := ekb_inj ex
      have hJ2 : J ss w2 := hJ ss wr w2 (some W.heap.size) hJs hg2 (fun r e => by cases e; exact ⟨Nat.le_refl _, hrg.iter_walk⟩)
      obtain ⟨fn, tmps, assign, body, hy, hR⟩ := hY ss x w2 hJ2 (by omega)
      clear hs2
      gi_wp2
      refine hR.mono ?_
      have hC2 := hC.step hlk hat
      rintro e W3 (⟨rfl, hJ3, hk3⟩ | ⟨rfl, hJx3⟩)
      · gi_wp2
        have hrg3 := hrg2.of_walks hk3
        go_roundw
        case rel => exact ⟨_, cnt2, ss ++ [x], hrg3, by simp; omega, hC2, hJ3⟩
        case measure => rw [hrg3.left_eq, hrg.left_eq]; exact hlt
      · gi_wp2
        refine bodyPost_ret (results_none rfl _ _ _) rfl ?_
        exact ⟨⟨_, rfl⟩, .inr ⟨ss ++ [x], trivial, hJx3⟩⟩

/-- **maps.Keys(m) hands back a value that SeqStops.** -/
theorem keys_stops (F : Fence) (n : Nat) (h10 : F.fn 66) (hro : F.round = none) (hn : 1 ≤ n) (Bm b nn : Nat) (D0 : DataW Nat) (w : World) (hBm : Bm < w.heap.size)
    (hm : w.cell? ⟨Bm, 0, none⟩ = some (.map (some b))) (hown : w.ownsMap Try.prog 5 R0 b nn D0) :
    SeqStops F n Try.prog 66 #[.pointer (some ⟨Bm, 0, none⟩)] ekb (fun ss => ss.Nodup ∧ ∀ x : UInt8, x ∈ ss ↔ has D0 (.int .u8 x.toNat) = true) (fun _ => True) (Maps.size D0) w := fun l J Jx W hW hJ _ hY h0 => by
  have hown' : W.ownsMap Try.prog 5 R0 b nn D0 := by
    have hbl := hown.lt
    obtain ⟨es, clock, hb, Ft, hs, hD⟩ := hown
    exact ⟨es, clock, (hW.block b hbl).trans hb, Ft, hs, hD⟩
  exact keys1_in F n h10 hro hn l Bm b nn D0 J Jx hY W hJ ((hW.cell (p := ⟨Bm, 0, none⟩) hBm).trans hm) hown' h0
end Go.Proofs.Ytencnfgmgcdiiaa
