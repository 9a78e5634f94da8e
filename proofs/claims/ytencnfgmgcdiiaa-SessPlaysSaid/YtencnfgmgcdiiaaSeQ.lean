/- What SessPlays needs besides the two desks. -/
import Derived.Test.YtencnfgmgcdiiaaSrF
import Derived.Test.YtencnfgmgcdiiaaSoG
namespace Go.Proofs.Ytencnfgmgcdiiaa
open Go.RowKit Go.PM
set_option maxRecDepth 100000

theorem Try.u_ansr : Try.prog.underlying 33 = some (.struct (Try.prog.fieldsOf 33)) := by kernel_rfl
theorem Try.st_ansr : Try.prog.stoodInHeld 33 = false := by kernel_rfl
theorem ansr_same (a : PA) (w : World) : (Op.equalIn 10000 33 a.agg a.agg).run Try.prog w = .ok true w := by
  unfold PA.agg
  rw [show (10000 : Nat) = 9999 + 1 from rfl, run_equalIn_agg w 9999 _ _ _ Try.u_ansr Try.st_ansr]
  simp only [Program.fieldsOf, Try.underlying33]
  have a0 := Try.isAgg28
  have a1 := Try.isAgg29
  have a2 := Try.isAgg31
  have a3 := Try.isAgg9
  have z2 := Try.sizeOf31
  have u0 := Try.underlying28
  have u1 := Try.underlying29
  have u3 := Try.underlying9
  have ht := tx_same a.node a.boot a.num
  simp only [Op.eqFields, part]
  go_simp
theorem eqlAnsr_same (a : PA) (w : World) : (binOp .eql 33 (.agg #[.int .i64 a.why, .int .u8 a.node, .int .u32 a.boot, .int .u32 a.num, .string a.val, .int .u32 a.ver]) (.agg #[.int .i64 a.why, .int .u8 a.node, .int .u32 a.boot, .int .u32 a.num, .string a.val, .int .u32 a.ver])).run Try.prog w = .ok (.bool true) w := by
  rw [run_eql_struct]
  have := ansr_same a w
  unfold PA.agg at this
  rw [this]; rfl
theorem neqCall_same (c s : Int) (w : World) : (binOp .neq 39 (.agg #[.int .u8 c, .int .u32 s]) (.agg #[.int .u8 c, .int .u32 s])).run Try.prog w = .ok (.bool false) w := by
  rw [run_neq_struct, show (10000 : Nat) = 9999 + 1 from rfl, run_equalIn_agg w 9999 _ _ _ Try.u_call Try.st_call]
  simp only [Program.fieldsOf, Try.underlying39]
  have a0 := Try.isAgg28
  have a1 := Try.isAgg5
  have u0 := Try.underlying28
  have u1 := Try.underlying5
  simp only [Op.eqFields, part]
  go_simp

set_option maxHeartbeats 1000000 in
theorem ours_calls (a : PA) (w : World) :
    Calls Try.prog 32 #[.agg #[.int .i64 a.why, .int .u8 a.node, .int .u32 a.boot, .int .u32 a.num, .string a.val, .int .u32 a.ver]] w fun e w' =>
      e = .returned (.agg #[.int .i64 a.why, .int .u8 a.node, .int .u32 a.boot, .int .u32 a.num, .string a.val, .int .u32 a.ver]) ∧ Kept No w w' := by
  have K1 := (Kept.refl No w).alloc (.cells #[.int .i64 a.why, .int .u8 a.node, .int .u32 a.boot, .int .u32 a.num, .string a.val, .int .u32 a.ver] 40)
  have s1 : (w.alloc (.cells #[.int .i64 a.why, .int .u8 a.node, .int .u32 a.boot, .int .u32 a.num, .string a.val, .int .u32 a.ver] 40)).heap.size = w.heap.size + 1 := World.size_alloc _ _
  have B2 := Blk.new (w.alloc (.cells #[.int .i64 a.why, .int .u8 a.node, .int .u32 a.boot, .int .u32 a.num, .string a.val, .int .u32 a.ver] 40)) 33 [.int .i64 a.why, .int .u8 a.node, .int .u32 a.boot, .int .u32 a.num, .string a.val, .int .u32 a.ver]
  rw [s1] at B2
  have HB := Lib.hid B2
  have HK := Lib.hid (K1.alloc (.cells #[.int .i64 a.why, .int .u8 a.node, .int .u32 a.boot, .int .u32 a.num, .string a.val, .int .u32 a.ver] 33))
  clear B2 K1 s1
  go_enter Try.func32, Try.ntmps32
  go_wp2
  obtain ⟨x0, x1, x2, x3, x4, x5⟩ := get6 HB.out
  simp only [List.toArray] at x0 x1 x2 x3 x4 x5
  exact bodyPost_ret (v := .agg #[.int .i64 a.why, .int .u8 a.node, .int .u32 a.boot, .int .u32 a.num, .string a.val, .int .u32 a.ver]) (by simp [results, Try.results32, go_sem, x0, x1, x2, x3, x4, x5]) rfl ⟨rfl, HK.out⟩

theorem lk_snoc {M : List (UInt8 × PC)} {p : UInt8 × PC} (hn : ((M ++ [p]).map (·.1)).Nodup) (c : UInt8) : lk (M ++ [p]) c = if p.1 = c then p.2 else lk M c := by
  have key : ∀ M : List (UInt8 × PC), p.1 ∉ M.map (·.1) → lk (M ++ [p]) c = if p.1 = c then p.2 else lk M c := by
    intro M
    induction M with
    | nil => intro _; unfold lk; rw [List.nil_append, getK_cons]; split <;> simp
    | cons q M ih =>
      intro hq
      simp only [List.map_cons, List.mem_cons, not_or] at hq
      have := ih hq.2
      unfold lk at this ⊢
      rw [List.cons_append, getK_cons, getK_cons]
      by_cases e : q.1 = c
      · have : ¬ p.1 = c := fun h => hq.1 (h.trans e.symm)
        rw [if_pos e, if_pos e, if_neg this]
      · rw [if_neg e, if_neg e, this]
  refine key M fun h => ?_
  rw [List.map_append, List.nodup_append] at hn
  exact hn.2.2 _ h _ (by simp) rfl
theorem lk_take {L : List (UInt8 × PC)} (hr : Rises L) {i : Nat} {p : UInt8 × PC} (hp : L[i]? = some p) (c : UInt8) : lk (L.take (i + 1)) c = if p.1 = c then p.2 else lk (L.take i) c := by
  have hi := (List.getElem?_eq_some_iff.1 hp).1
  have e : L.take (i + 1) = L.take i ++ [p] := by
    rw [List.take_succ_eq_append_getElem hi]
    have := (List.getElem?_eq_some_iff.1 hp).2
    rw [this]
  rw [e]
  refine lk_snoc ?_ c
  rw [← e, List.map_take]
  exact (List.take_sublist _ _).nodup hr.nodup
theorem openL_take {L : List (UInt8 × PC)} {i : Nat} {p : UInt8 × PC} (hp : L[i]? = some p) : openL (L.take (i + 1)) = openL (L.take i) ++ if p.2.opn = true then [(p.1, p.2.last)] else [] := by
  have hi := (List.getElem?_eq_some_iff.1 hp).1
  have e : L.take (i + 1) = L.take i ++ [p] := by
    rw [List.take_succ_eq_append_getElem hi]
    have := (List.getElem?_eq_some_iff.1 hp).2
    rw [this]
  rw [e]
  unfold openL
  rw [List.filterMap_append]
  by_cases h : p.2.opn = true <;> simp [h]
theorem openL_len (L : List (UInt8 × PC)) : (openL L).length ≤ L.length := List.length_filterMap_le _ _
theorem ccells_at {M : List (UInt8 × Int)} {w : World} {a : Option Addr} (h : Rd w a (ccells M)) {i : Nat} {x : UInt8 × Int} (hx : M[i]? = some x) :
    ∃ b o, a = some ⟨b, o, none⟩ ∧ w.cell? ⟨b, o + i * 2, none⟩ = some (.int .u8 x.1.toNat) ∧ w.cell? ⟨b, o + i * 2 + 1, none⟩ = some (.int .u32 x.2) := by
  have hg : ∀ k, k < 2 → (ccells M)[i * 2 + k]? = ([.int .u8 x.1.toNat, .int .u32 x.2] : List Value)[k]? := fun k hk => flat_get (fun c : UInt8 × Int => [.int .u8 c.1.toNat, .int .u32 c.2]) 2 (fun _ => rfl) M i x hx k hk
  obtain ⟨b, o, e, h0⟩ := h (i * 2) _ (hg 0 (by omega))
  obtain ⟨b', o', e', h1⟩ := h (i * 2 + 1) _ (hg 1 (by omega))
  subst e
  simp only [Option.some.injEq, Addr.mk.injEq, and_true] at e'
  obtain ⟨rfl, rfl⟩ := e'
  exact ⟨b, o, rfl, h0, by rw [Nat.add_assoc]; exact h1⟩
end Go.Proofs.Ytencnfgmgcdiiaa
