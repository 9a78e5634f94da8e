/- The document's desk: put, as a walk. -/
import Derived.Test.YtencnfgmgcdiiaaSrA
namespace Go.Proofs.Ytencnfgmgcdiiaa
open Go.RowKit Go.PM
set_option maxRecDepth 100000

theorem Try.su_clients : Try.prog.underlying 62 = some (.slice 66) := by kernel_rfl
theorem Try.si_client : (Try.prog.info? 66).map (fun i => (i.zero, i.size, i.bytes)) = some (some (.agg #[.int .u8 0, .int .u32 0, .bool false, .int .i64 0, .int .u8 0, .int .u32 0, .int .u32 0, .string ⟨#[]⟩, .int .u32 0]), 9, 64) := by kernel_rfl

section
variable {w w' : World} {q : Nat} {L : List (UInt8 × PC)} {a : Option Addr} {cap : Nat}
theorem onto_nilr {T : TypeId} {s : Nat} {w w1 : World} {a' : Option Addr} {n cap' : Nat} {ys : List Value} (hap : Onto w w1 T s none a' (0 + n) cap' ([] ++ ys)) : Owns w1 T s a' n cap' ys ∧ Kept No w w1 ∧ ∀ b, At a' b → w.heap.size ≤ b := by
  rw [Nat.zero_add, List.nil_append] at hap
  exact ⟨hap.own, hap.kept.mono fun _ _ ⟨_, _, h, _⟩ => (nomatch h), fun b hb => (hap.at_ b hb).elim (fun ⟨_, _, h, _⟩ => nomatch h) id⟩
theorem nilcap_of {w : World} {T : TypeId} {s : Nat} {a : Option Addr} {n cap : Nat} {xs : List Value} (h : Owns w T s a n cap xs) : a = none → cap = 0 := fun ha => by
  rcases h.row with ⟨_, _, hc⟩ | ⟨g, _, h', _⟩
  · exact hc
  · rw [ha] at h'; cases h'
theorem rcells_one (L : List (UInt8 × PC)) : ∀ u ∈ rcells L, u.oneCell' = true := by
  intro u hu
  simp only [rcells, List.mem_flatMap, rcell] at hu
  obtain ⟨p, _, hu⟩ := hu
  simp only [List.mem_cons, List.not_mem_nil, or_false] at hu
  rcases hu with rfl | rfl | rfl | rfl | rfl | rfl | rfl | rfl | rfl <;> rfl
/-- A slice that owns its array, stored as the desk's. -/
theorem refB_of {g : Option Addr} {n c : Nat} {L' : List (UInt8 × PC)} (hq : Blk w q 64 [.slice g n c]) (ho : Owns w 66 9 g n c (rcells L')) (hn : n = L'.length) (hf : ∀ b, At g b → b ≠ q) : RefB w q L' := by
  subst hn
  exact ⟨g, c, hq, ho.rd, ho.le, ho.max, nilcap_of ho, hf⟩
/-- Nine cells of an owned array laid anew. -/
theorem set9 {g : Nat} {T : TypeId} {cs : List Value} (h : Blk w g T cs) (i : Nat) (x0 x1 x2 x3 x4 x5 x6 x7 x8 : Value) :
    Blk (((((((((w.setCell ⟨g, i, none⟩ x0).setCell ⟨g, i + 1, none⟩ x1).setCell ⟨g, i + 2, none⟩ x2).setCell ⟨g, i + 3, none⟩ x3).setCell ⟨g, i + 4, none⟩ x4).setCell ⟨g, i + 5, none⟩ x5).setCell ⟨g, i + 6, none⟩ x6).setCell ⟨g, i + 7, none⟩ x7).setCell ⟨g, i + 8, none⟩ x8) g T
      (((((((((cs.set i x0).set (i + 1) x1).set (i + 2) x2).set (i + 3) x3).set (i + 4) x4).set (i + 5) x5).set (i + 6) x6).set (i + 7) x7).set (i + 8) x8) :=
  ((((((((h.set i x0).set (i + 1) x1).set (i + 2) x2).set (i + 3) x3).set (i + 4) x4).set (i + 5) x5).set (i + 6) x6).set (i + 7) x7).set (i + 8) x8
theorem kept9 {S : Nat → Prop} (k : Kept S w w') (g : Nat) (hg : g < w.heap.size → S g) (i : Nat) (x0 x1 x2 x3 x4 x5 x6 x7 x8 : Value) :
    Kept S w (((((((((w'.setCell ⟨g, i, none⟩ x0).setCell ⟨g, i + 1, none⟩ x1).setCell ⟨g, i + 2, none⟩ x2).setCell ⟨g, i + 3, none⟩ x3).setCell ⟨g, i + 4, none⟩ x4).setCell ⟨g, i + 5, none⟩ x5).setCell ⟨g, i + 6, none⟩ x6).setCell ⟨g, i + 7, none⟩ x7).setCell ⟨g, i + 8, none⟩ x8) :=
  ((((((((k.setCell hg x0).setCell hg x1).setCell hg x2).setCell hg x3).setCell hg x4).setCell hg x5).setCell hg x6).setCell hg x7).setCell hg x8
theorem set_flat (L : List (UInt8 × PC)) (i : Nat) (hi : i < L.length) (p : UInt8 × PC) (rest : List Value) :
    (((((((((rcells L ++ rest).set (i * 9) (.int .u8 p.1.toNat)).set (i * 9 + 1) (.int .u32 p.2.last)).set (i * 9 + 2) (.bool p.2.opn)).set (i * 9 + 3) (.int .i64 p.2.a.why)).set (i * 9 + 4) (.int .u8 p.2.a.node)).set (i * 9 + 5) (.int .u32 p.2.a.boot)).set (i * 9 + 6) (.int .u32 p.2.a.num)).set (i * 9 + 7) (.string p.2.a.val)).set (i * 9 + 8) (.int .u32 p.2.a.ver) = rcells (L.set i p) ++ rest := by
  induction L generalizing i with
  | nil => simp at hi
  | cons x L ih =>
    cases i with
    | zero => simp [rcells, rcell]
    | succ i =>
      have := ih i (by simpa using hi)
      have e : ∀ k, (i + 1) * 9 + k = i * 9 + k + 1 + 1 + 1 + 1 + 1 + 1 + 1 + 1 + 1 := by intro k; omega
      have e0 : (i + 1) * 9 = i * 9 + 1 + 1 + 1 + 1 + 1 + 1 + 1 + 1 + 1 := by omega
      simp only [rcells, List.flatMap_cons, rcell, List.cons_append, List.nil_append, e0, List.set_cons_succ, List.set_cons_succ] at this ⊢
      rw [this]

def PutPost (w : World) (q : Nat) (L' : List (UInt8 × PC)) (e : Ending) (w' : World) : Prop := e = .returned (.tuple #[]) ∧ RefB w' q L' ∧ Kept (· = q) w w'

set_option maxHeartbeats 4000000 in
theorem r_put_is (h : RefC w q L a cap) (hr : Rises L) (hl : L.length ≤ 16) (c : UInt8) (v : PC) (hs : (getK L c).isSome = true) :
    Calls Try.prog 50 #[.pointer (some ⟨q, 0, none⟩), .agg #[.int .u8 c.toNat, .int .u32 v.last, .bool v.opn, .int .i64 v.a.why, .int .u8 v.a.node, .int .u32 v.a.boot, .int .u32 v.a.num, .string v.a.val, .int .u32 v.a.ver]] w (PutPost w q (insS L c v)) := by
  obtain ⟨i0, hi0, hz0, hz1, hz2⟩ := info_parts Try.si_client
  rw [insS_is hr v hs]
  have hqlt := h.st.lt
  have hpl : posS L c < L.length := by
    obtain ⟨p, hp, _⟩ := (is_at hr c).1 hs
    exact (List.getElem?_eq_some_iff.1 hp).1
  have B3 := Blk.new w 66 [.int .u8 c.toNat, .int .u32 v.last, .bool v.opn, .int .i64 v.a.why, .int .u8 v.a.node, .int .u32 v.a.boot, .int .u32 v.a.num, .string v.a.val, .int .u32 v.a.ver]
  have K3 := (Kept.refl No w).alloc (.cells #[.int .u8 c.toNat, .int .u32 v.last, .bool v.opn, .int .i64 v.a.why, .int .u8 v.a.node, .int .u32 v.a.boot, .int .u32 v.a.num, .string v.a.val, .int .u32 v.a.ver] 66)
  have HF := r_find (h.keptNo K3) hr hl c
  rw [hs] at HF
  have HF' := Lib.hid HF
  clear HF
  generalize posS L c = P at *
  go_enter Try.func50, Try.ntmps50
  go_wp2_with fail
  simp only [List.toArray] at B3
  generalize hw3 : w.alloc _ = w3 at *
  refine HF'.out.mono ?_
  rintro _ w4 ⟨rfl, k4⟩
  have K4 := K3.transNo k4
  have B4 := B3.kept k4 id
  have h4 := h.keptNo K4
  have c0 : w4.cell? ⟨q, 0, none⟩ = some (.slice a L.length cap) := h4.st.cell 0
  have hlr : (rcells L).length = L.length * 9 := rcells_len L
  have hone := rcells_one L
  have hg3 : w.heap.size < w4.heap.size := B4.lt
  go_upto_region 4 with (at_builtin; go_must (refine wpList_onto rfl (.const (.slice none 0 0)) (.tmp 18) 62 rfl 66 i0 _ 9 64 Try.su_clients hi0 hz0 hz1 hz2 rfl (by decide) none 0 0 [] rfl (Owns.nil _ _ _) a L.length cap (rcells L) rfl h4.nil hlr h4.rd hone (by unfold maxLen; omega) (by omega) ?_; intro a5 cap5 w5 hap; have o5 := onto_nilr hap))
  obtain ⟨ho5, k5, hat5⟩ := o5
  obtain ⟨px, hpx⟩ : ∃ px, L[P]? = some px := ⟨_, List.getElem?_eq_getElem hpl⟩
  obtain ⟨g5, o, hg5, hlt5, e0, e1, e2, e3, e4, e5, e6, e7, e8⟩ := rd9 ho5.rd hpx
  have hrow := ho5.row
  rcases hrow with ⟨h', _⟩ | ⟨g', cur, h', hB5, hcl, htk⟩
  · rw [h'] at hg5; cases hg5
  rw [h'] at hg5
  simp only [Option.some.injEq, Addr.mk.injEq, and_true] at hg5
  obtain ⟨rfl, rfl⟩ := hg5
  subst h'
  simp only [Nat.zero_add] at e0 e1 e2 e3 e4 e5 e6 e7 e8
  have hf := fun j => hB5.frozen j
  have hgq : ¬ g' = q := by have := hat5 g' ⟨g', 0, rfl, rfl⟩; have := K4.size; omega
  have hcur : cur = rcells L ++ cur.drop (L.length * 9) := by rw [← htk, List.take_append_drop]
  have hc5 := nilcap_of ho5
  have B5 := B4.kept k5 id
  have x0 := B5.cell 0
  have x1 := B5.cell 1
  have x2 := B5.cell 2
  have x3 := B5.cell 3
  have x4 := B5.cell 4
  have x5 := B5.cell 5
  have x6 := B5.cell 6
  have x7 := B5.cell 7
  have x8 := B5.cell 8
  simp only [List.getElem?_cons_zero, List.getElem?_cons_succ] at x0 x1 x2 x3 x4 x5 x6 x7 x8
  have p0 : (0 : Int) ≤ P := by omega
  have p1 : (P : Int) < L.length := by omega
  have S9 := set9 hB5 (P * 9) (.int .u8 c.toNat) (.int .u32 v.last) (.bool v.opn) (.int .i64 v.a.why) (.int .u8 v.a.node) (.int .u32 v.a.boot) (.int .u32 v.a.num) (.string v.a.val) (.int .u32 v.a.ver)
  rw [hcur, set_flat L P hpl (c, v)] at S9
  have K9 := kept9 (Kept.refl (· = g') w5) g' (fun _ => rfl) (P * 9) (.int .u8 c.toNat) (.int .u32 v.last) (.bool v.opn) (.int .i64 v.a.why) (.int .u8 v.a.node) (.int .u32 v.a.boot) (.int .u32 v.a.num) (.string v.a.val) (.int .u32 v.a.ver)
  have hg'w : w.heap.size ≤ g' := by have := hat5 g' ⟨g', 0, rfl, rfl⟩; have := K4.size; omega
  have K5 := K4.transNo k5
  have Q5 := h.st.kept K5 id
  have hle5 := ho5.le
  have hmx5 := ho5.max
  clear hap ho5 c0 hlr hone h4 h htk hcur
  go_upto_region 5 with (fail)
  clear e0 e1 e2 e3 e4 e5 e6 e7 e8 x0 x1 x2 x3 x4 x5 x6 x7 x8 hf hB5 B3 B4 B5
  generalize World.setCell _ _ _ = w6 at *
  have K6 : Kept (· = q) w w6 := (K5.no.trans K9 fun b hb e => absurd hb (by rw [e]; omega))
  have Q6 := Q5.kept K9 (Ne.symm hgq)
  have c0 : w6.cell? ⟨q, 0, none⟩ = some (.slice a L.length cap) := Q6.cell 0
  have f0 := Q6.frozen 0
  have Q7 := Q6.set 0 (.slice (some ⟨g', 0, none⟩) L.length cap5)
  have S7 := S9.setOther (a := ⟨q, 0, none⟩) hgq (.slice (some ⟨g', 0, none⟩) L.length cap5)
  have K7 := K6.setCell (a := ⟨q, 0, none⟩) (fun _ => rfl) (.slice (some ⟨g', 0, none⟩) L.length cap5)
  have hll : (rcells (L.set P (c, v))).length = L.length * 9 := by rw [rcells_len, List.length_set]
  have hR : RefB (w6.setCell ⟨q, 0, none⟩ (.slice (some ⟨g', 0, none⟩) L.length cap5)) q (L.set P (c, v)) := by
    refine refB_of Q7 ⟨hll, hle5, hmx5, .inr ⟨g', _, rfl, S7, ?_, ?_⟩⟩ (by simp) ?_
    · rw [List.length_append, hll, List.length_drop]; have := Nat.mul_le_mul_right 9 hle5; omega
    · rw [← hll]; exact List.take_left
    · rintro b ⟨b', o', e, rfl⟩
      cases e; exact hgq
  have HR := Lib.hid hR
  clear hR S7 Q7 S9 K9 hll
  go_wp2
  refine bodyPost_ret (results_none rfl _ _ _) rfl ?_
  exact ⟨rfl, HR.out, K7⟩
end
end Go.Proofs.Ytencnfgmgcdiiaa
