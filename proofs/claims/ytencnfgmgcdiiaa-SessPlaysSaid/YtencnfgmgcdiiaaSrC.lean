/- The document's desk: put of a new client, as a walk. -/
import Derived.Test.YtencnfgmgcdiiaaSrB
namespace Go.Proofs.Ytencnfgmgcdiiaa
open Go.RowKit Go.PM
set_option maxRecDepth 100000

theorem rd_add {w : World} {a : Option Addr} {xs : List Value} (h : Rd w a xs) (k : Nat) : Rd w (a.map fun x => x.add k) (xs.drop k) := by
  intro j x hj
  rw [List.getElem?_drop] at hj
  obtain ⟨b, o, e, hc⟩ := h (k + j) x hj
  subst e
  refine ⟨b, o + k, ?_, by rw [Nat.add_assoc]; exact hc⟩
  simp only [Option.map_some, Option.some.injEq]
  unfold Addr.add; split
  · subst_vars; rfl
  · rfl
theorem rd_from {w : World} {a : Option Addr} {xs : List Value} (h : Rd w a xs) (c k s : Nat) (hc : xs.length ≤ c * s) : Rd w (if c = k then a else a.map fun x => x.add (k * s)) (xs.drop (k * s)) := by
  split
  · rename_i hck
    have : xs.drop (k * s) = [] := List.drop_of_length_le (by rw [← hck]; exact hc)
    rw [this]; exact Rd.nil _ _
  · exact rd_add h _

theorem keptq {w w' : World} (k : Kept No w w') (q i : Nat) (u : Value) : Kept (· = q) w (w'.setCell ⟨q, i, none⟩ u) := Kept.setCell (S := (· = q)) (a := ⟨q, i, none⟩) k.no (fun _ => rfl) u
section
variable {w w' : World} {q : Nat} {L : List (UInt8 × PC)} {a : Option Addr} {cap : Nat}
/-- An append to a slice of clients that is owned, as the run of the operation. -/
theorem run_join (a1 : Option Addr) (n1 cap1 : Nat) (L1 : List (UInt8 × PC)) (hn1 : n1 = L1.length) (ho : Owns w 66 9 a1 n1 cap1 (rcells L1)) (a2 : Option Addr) (n2 c2 : Nat) (L2 : List (UInt8 × PC)) (hn2 : n2 = L2.length) (hr : Rd w a2 (rcells L2)) (hc : a2 = none → c2 = 0) (h : n1 + n2 < 1000) :
    ∃ a' cap' w', (Builtin.append_ #[62, 62] 62 #[.slice a1 n1 cap1, .slice a2 n2 c2]).run Try.prog w = .ok (.slice a' (n1 + n2) cap') w' ∧
      Owns w' 66 9 a' (n1 + n2) cap' (rcells (L1 ++ L2)) ∧ Kept (At a1) w w' ∧ ∀ k, At a' k → At a1 k ∨ w.heap.size ≤ k := by
  obtain ⟨i0, hi0, hz0, hz1, hz2⟩ := info_parts Try.si_client
  obtain ⟨a', cap', w', hrun, hap⟩ := run_onto (P := Try.prog) w 62 62 66 i0 _ 9 64 Try.su_clients hi0 hz0 hz1 hz2 rfl (by decide) a1 n1 cap1 (rcells L1) ho a2 n2 c2 (rcells L2) hc (by rw [rcells_len, hn2]) hr (rcells_one L2) (by unfold maxLen; omega) (by omega)
  refine ⟨a', cap', w', hrun, ?_, hap.kept, hap.at_⟩
  have e : rcells (L1 ++ L2) = rcells L1 ++ rcells L2 := by simp [rcells]
  rw [e]; exact hap.own
theorem run_join0 (a2 : Option Addr) (n2 c2 : Nat) (L2 : List (UInt8 × PC)) (hn2 : n2 = L2.length) (hr : Rd w a2 (rcells L2)) (hc : a2 = none → c2 = 0) (h : n2 < 1000) :
    ∃ a' cap' w', (Builtin.append_ #[62, 62] 62 #[.slice none 0 0, .slice a2 n2 c2]).run Try.prog w = .ok (.slice a' n2 cap') w' ∧
      Owns w' 66 9 a' n2 cap' (rcells L2) ∧ Kept No w w' ∧ ∀ k, At a' k → w.heap.size ≤ k := by
  obtain ⟨a', cap', w', h1, h2, h3, h4⟩ := run_join (w := w) none 0 0 [] rfl (Owns.nil _ _ _) a2 n2 c2 L2 hn2 hr hc (by omega)
  rw [Nat.zero_add] at h1 h2
  exact ⟨a', cap', w', h1, h2, h3.mono fun _ _ ⟨_, _, h, _⟩ => (nomatch h), fun k hk => (h4 k hk).elim (fun ⟨_, _, h, _⟩ => nomatch h) id⟩

set_option maxHeartbeats 8000000 in
theorem r_put_new (h : RefC w q L a cap) (hr : Rises L) (hl : L.length ≤ 16) (c : UInt8) (v : PC) (hs : (getK L c).isSome = false) :
    Calls Try.prog 50 #[.pointer (some ⟨q, 0, none⟩), .agg #[.int .u8 c.toNat, .int .u32 v.last, .bool v.opn, .int .i64 v.a.why, .int .u8 v.a.node, .int .u32 v.a.boot, .int .u32 v.a.num, .string v.a.val, .int .u32 v.a.ver]] w (PutPost w q (insS L c v)) := by
  rw [insS_new v hs]
  have hqlt := h.st.lt
  have hpl := posS_le L c
  have B3 := Blk.new w 66 [.int .u8 c.toNat, .int .u32 v.last, .bool v.opn, .int .i64 v.a.why, .int .u8 v.a.node, .int .u32 v.a.boot, .int .u32 v.a.num, .string v.a.val, .int .u32 v.a.ver]
  have K3 := (Kept.refl No w).alloc (.cells #[.int .u8 c.toNat, .int .u32 v.last, .bool v.opn, .int .i64 v.a.why, .int .u8 v.a.node, .int .u32 v.a.boot, .int .u32 v.a.num, .string v.a.val, .int .u32 v.a.ver] 66)
  have HF := r_find (h.keptNo K3) hr hl c
  rw [hs] at HF
  have HF' := Lib.hid HF
  clear HF
  generalize posS L c = P at *
  go_enter Try.func50, Try.ntmps50
  go_wp2_with fail
  simp only [List.toArray] at B3
  generalize hw3 : w.alloc _ = w3 at *
  refine HF'.out.mono ?_
  rintro _ w4 ⟨rfl, k4⟩
  have K4 := K3.transNo k4
  have B4 := B3.kept k4 id
  have h4 := h.keptNo K4
  have hg3 : w.heap.size < w4.heap.size := B4.lt
  go_upto_region 6 with (fail)
  have p0 : (0 : Int) ≤ P := by omega
  have p1 : (P : Int) ≤ L.length := by omega
  have hle := h4.le
  have p2 : (P : Int) ≤ cap := by omega
  have p3 : (L.length : Int) ≤ cap := by omega
  have hmx := h4.max
  unfold maxLen at hmx
  have hcap : (cap : Int) ≤ 9223372036854775807 := by omega
  have hT : rcells (L.take P) = (rcells L).take (P * 9) := flat_take rcell 9 rcell_len L P hpl
  have hD : rcells (L.drop P) = (rcells L).drop (P * 9) := flat_drop rcell 9 rcell_len L P hpl
  have hTl : (rcells (L.take P)).length = P * 9 := by rw [rcells_len, List.length_take, Nat.min_eq_left hpl]
  have hDl : (rcells (L.drop P)).length = (L.length - P) * 9 := by rw [rcells_len, List.length_drop]
  have HTl := Lib.hid hTl
  have HDl := Lib.hid hDl
  have R1 : ∀ w', Kept No w4 w' → Rd w' a (rcells (L.take P)) := fun w' k => by
    have hrd := (h4.rd.keptNo k).take (P * 9)
    rwa [← hT] at hrd
  have R3 : ∀ w', Kept No w4 w' → Rd w' (if cap = P then a else a.map fun x => x.add (P * 9)) (rcells (L.drop P)) := fun w' k => by
    have hrd := rd_from (h4.rd.keptNo k) cap P 9 (by rw [rcells_len]; exact Nat.mul_le_mul_right _ hle)
    rwa [← hD] at hrd
  have N3 : (if cap = P then a else a.map fun x => x.add (P * 9)) = none → cap - P = 0 := by
    intro hn
    have h0 : a = none := by
      split at hn
      · exact hn
      · cases a with
        | none => rfl
        | some ad => simp at hn
    have := h4.nil h0
    omega
  have HR1 := Lib.hid R1
  have HR3 := Lib.hid R3
  have HN3 := Lib.hid N3
  have HN1 := Lib.hid h4.nil
  have H1L := Lib.hid (rcells_one (L.take P))
  have H2L : Hid (∀ u ∈ rcell (c, v), u.oneCell' = true) := Lib.hid (by have := rcells_one [(c, v)]; simpa [rcells] using this)
  have H3L := Lib.hid (rcells_one (L.drop P))
  have HM := Lib.hid (show P + (L.length - P) < 1000 ∧ P < 1000 ∧ L.length < 1000 from by omega)
  have HINFO := Lib.hid (info_parts Try.si_client)
  have HC : Hid (∀ w', Kept No w4 w' → w'.cell? ⟨q, 0, none⟩ = some (.slice a L.length cap) ∧ w'.frozen? ⟨q, 0, none⟩ = false) := Lib.hid fun w' k => ⟨(h4.st.kept k id).cell 0, (h4.st.kept k id).frozen 0⟩
  have hwq : ¬ w.heap.size = q := by omega
  have HQ := Lib.hid h4.st
  have C9 : ∀ w', Kept (· = q) w4 w' → w'.cell? ⟨w.heap.size, 0, none⟩ = some (.int .u8 c.toNat) ∧ w'.cell? ⟨w.heap.size, 1, none⟩ = some (.int .u32 v.last) ∧ w'.cell? ⟨w.heap.size, 2, none⟩ = some (.bool v.opn) ∧ w'.cell? ⟨w.heap.size, 3, none⟩ = some (.int .i64 v.a.why) ∧ w'.cell? ⟨w.heap.size, 4, none⟩ = some (.int .u8 v.a.node) ∧ w'.cell? ⟨w.heap.size, 5, none⟩ = some (.int .u32 v.a.boot) ∧ w'.cell? ⟨w.heap.size, 6, none⟩ = some (.int .u32 v.a.num) ∧ w'.cell? ⟨w.heap.size, 7, none⟩ = some (.string v.a.val) ∧ w'.cell? ⟨w.heap.size, 8, none⟩ = some (.int .u32 v.a.ver) := fun w' k =>
    let B := B4.kept k hwq
    ⟨B.cell 0, B.cell 1, B.cell 2, B.cell 3, B.cell 4, B.cell 5, B.cell 6, B.cell 7, B.cell 8⟩
  have HC9 := Lib.hid C9
  have KD : Kept No w4 w4.drew := (Kept.refl No w4).drew
  have KB : Kept No w4 (w4.alloc (.cells #[.int .u8 c.toNat, .int .u32 v.last, .bool v.opn, .int .i64 v.a.why, .int .u8 v.a.node, .int .u32 v.a.boot, .int .u32 v.a.num, .string v.a.val, .int .u32 v.a.ver] 66)).drew := ((Kept.refl No w4).alloc _).drew
  obtain ⟨cD, _⟩ := HC.out _ KD
  obtain ⟨cB, _⟩ := HC.out _ KB
  have BB : Hid (Blk (w4.alloc (.cells #[.int .u8 c.toNat, .int .u32 v.last, .bool v.opn, .int .i64 v.a.why, .int .u8 v.a.node, .int .u32 v.a.boot, .int .u32 v.a.num, .string v.a.val, .int .u32 v.a.ver] 66)).drew w4.heap.size 66 (rcell (c, v))) := Lib.hid (Blk.new' (w := w4) rfl _ _)
  clear hT hD hTl hDl R1 R3 N3 C9 hw3 B3 K3 HF' h4 h B4
  obtain ⟨x0, x1, x2, x3, x4, x5, x6, x7, x8⟩ := HC9.out _ KD.no
  go_region_law
    (first
      | (refine step_wp rfl ?_; (try simp only [List.getElem_toArray, List.getElem_cons_zero, List.getElem_cons_succ, Act.put, List.setIfInBounds_toArray, List.set_cons_zero, List.set_cons_succ]); obtain ⟨i0, hi0, hz0, hz1, hz2⟩ := HINFO.out; refine wp_onto (.tmp 38) (.tmp 44) 62 rfl 66 i0 _ 9 64 Try.su_clients hi0 hz0 hz1 hz2 rfl (by decide) a6 (P + 1) cap6 (rcells (L.take P) ++ rcell (c, v)) rfl o6.1 (if cap = P then a else a.map fun x => x.add (P * 9)) (L.length - P) (cap - P) (rcells (L.drop P)) rfl HN3.out HDl.out (HR3.out _ K6) H3L.out (by have := HM.out; unfold maxLen; omega) (by have := HM.out; omega) ?_; clear hi0 hz0 hz1 hz2; intro a7 cap7 w7 hap7; have K7 : Kept No w4 w7 := K6.above hap7.kept o6.2; have HO7 := Lib.hid (And.intro hap7 o6.2); clear hap7; obtain ⟨c7, f7⟩ := HC.out _ K7)
      | (refine step_wp rfl ?_; (try simp only [List.getElem_toArray, List.getElem_cons_zero, List.getElem_cons_succ, Act.put, List.setIfInBounds_toArray, List.set_cons_zero, List.set_cons_succ]); obtain ⟨i0, hi0, hz0, hz1, hz2⟩ := HINFO.out; refine wp_onto (.tmp 35) (.tmp 37) 62 rfl 66 i0 _ 9 64 Try.su_clients hi0 hz0 hz1 hz2 rfl (by decide) a5 P cap5 (rcells (L.take P)) rfl (o5.1.keptNo ((Kept.refl No w5).alloc _)) (some ⟨w5.heap.size, 0, none⟩) 1 1 (rcell (c, v)) rfl (fun h => nomatch h) rfl (Rd.ofBlk' (Blk.new w5 66 (rcell (c, v)))) H2L.out (by have := HM.out; unfold maxLen; omega) (by have := HM.out; omega) ?_; clear hi0 hz0 hz1 hz2; intro a6 cap6 w6 hap6; have K6 : Kept No w4 w6 := (K5.alloc (.cells #[.int .u8 c.toNat, .int .u32 v.last, .bool v.opn, .int .i64 v.a.why, .int .u8 v.a.node, .int .u32 v.a.boot, .int .u32 v.a.num, .string v.a.val, .int .u32 v.a.ver] 66)).above hap6.kept o5.2; have o6 : Owns w6 66 9 a6 (P + 1) cap6 (rcells (L.take P) ++ rcell (c, v)) ∧ ∀ b, At a6 b → w4.heap.size ≤ b := ⟨hap6.own, fun b hb => (hap6.at_ b hb).elim (o5.2 b) (Nat.le_trans (K5.alloc (.cells #[.int .u8 c.toNat, .int .u32 v.last, .bool v.opn, .int .i64 v.a.why, .int .u8 v.a.node, .int .u32 v.a.boot, .int .u32 v.a.num, .string v.a.val, .int .u32 v.a.ver] 66)).size)⟩; clear hap6; obtain ⟨c6, f6⟩ := HC.out _ K6)
      | (refine step_wp rfl ?_; (try simp only [List.getElem_toArray, List.getElem_cons_zero, List.getElem_cons_succ, Act.put, List.setIfInBounds_toArray, List.set_cons_zero, List.set_cons_succ]); obtain ⟨i0, hi0, hz0, hz1, hz2⟩ := HINFO.out; refine wp_onto (.tmp 35) (.tmp 37) 62 rfl 66 i0 _ 9 64 Try.su_clients hi0 hz0 hz1 hz2 rfl (by decide) a5 P cap5 (rcells (L.take P)) rfl o5.1 (some ⟨w4.heap.size, 0, none⟩) 1 1 (rcell (c, v)) rfl (fun h => nomatch h) rfl (Rd.ofBlk' (BB.out.kept kb5 id)) H2L.out (by have := HM.out; unfold maxLen; omega) (by have := HM.out; omega) ?_; clear hi0 hz0 hz1 hz2; intro a6 cap6 w6 hap6; have K6 : Kept No w4 w6 := K5.above hap6.kept o5.2; have o6 : Owns w6 66 9 a6 (P + 1) cap6 (rcells (L.take P) ++ rcell (c, v)) ∧ ∀ b, At a6 b → w4.heap.size ≤ b := ⟨hap6.own, fun b hb => (hap6.at_ b hb).elim (o5.2 b) (Nat.le_trans K5.size)⟩; clear hap6; obtain ⟨c6, f6⟩ := HC.out _ K6)
      | (refine step_wp rfl ?_; (try simp only [List.getElem_toArray, List.getElem_cons_zero, List.getElem_cons_succ, Act.put, List.setIfInBounds_toArray, List.set_cons_zero, List.set_cons_succ]); obtain ⟨i0, hi0, hz0, hz1, hz2⟩ := HINFO.out; refine wp_onto (.const (.slice none 0 0)) (.tmp 34) 62 rfl 66 i0 _ 9 64 Try.su_clients hi0 hz0 hz1 hz2 rfl (by decide) none 0 0 [] rfl (Owns.nil _ _ _) a P cap (rcells (L.take P)) rfl HN1.out HTl.out (HR1.out _ (by first | exact KD | exact KB)) H1L.out (by have := HM.out; unfold maxLen; omega) (by have := HM.out; omega) ?_; clear hi0 hz0 hz1 hz2; intro a5 cap5 w5 hap5; have q5 := onto_nilr hap5; clear hap5; rw [Nat.zero_add];
          first
            | (have K5 : Kept No w4 w5 := KB.transNo q5.2.1; have kb5 := q5.2.1; have o5 : Owns w5 66 9 a5 P cap5 (rcells (L.take P)) ∧ ∀ b, At a5 b → w4.heap.size ≤ b := ⟨q5.1, fun b hb => Nat.le_trans KB.size (q5.2.2 b hb)⟩; clear q5; obtain ⟨c5, f5⟩ := HC.out _ K5)
            | (have K5 : Kept No w4 w5 := KD.transNo q5.2.1; have o5 : Owns w5 66 9 a5 P cap5 (rcells (L.take P)) ∧ ∀ b, At a5 b → w4.heap.size ≤ b := ⟨q5.1, fun b hb => Nat.le_trans KD.size (q5.2.2 b hb)⟩; clear q5; obtain ⟨c5, f5⟩ := HC.out _ K5; obtain ⟨y0, y1, y2, y3, y4, y5, y6, y7, y8⟩ := HC9.out _ K5.no; obtain ⟨c5B, f5B⟩ := HC.out _ (K5.alloc (.cells #[.int .u8 c.toNat, .int .u32 v.last, .bool v.opn, .int .i64 v.a.why, .int .u8 v.a.node, .int .u32 v.a.boot, .int .u32 v.a.num, .string v.a.val, .int .u32 v.a.ver] 66))))
      | fail)
  all_goals
    obtain ⟨hap7, hat6⟩ := HO7.out
    have o7 := hap7.own
    have e7 : rcells (L.take P) ++ rcell (c, v) ++ rcells (L.drop P) = rcells (L.take P ++ [(c, v)] ++ L.drop P) := by simp [rcells]
    rw [e7] at o7
    have Q8 : Blk (w7.setCell ⟨q, 0, none⟩ (.slice a7 (P + 1 + (L.length - P)) cap7)) q 64 [.slice a7 (P + 1 + (L.length - P)) cap7] := (HQ.out.kept K7 id).set 0 _
    have far7 : ∀ b, At a7 b → b ≠ q := fun b hb e => by
      have := (hap7.at_ b hb).elim (hat6 b) (Nat.le_trans K6.size)
      have := K4.size
      omega
    have k8 : Kept (· = q) w (w7.setCell ⟨q, 0, none⟩ (.slice a7 (P + 1 + (L.length - P)) cap7)) := keptq (K4.transNo K7) q 0 _
    have o8 : Owns (w7.setCell ⟨q, 0, none⟩ (.slice a7 (P + 1 + (L.length - P)) cap7)) 66 9 a7 (P + 1 + (L.length - P)) cap7 (rcells (L.take P ++ [(c, v)] ++ L.drop P)) := o7.kept (keptq (Kept.refl No w7) q 0 _) fun b hb e => far7 b hb e
    refine bodyPost_end (results_none rfl _ _ _) rfl ?_
    exact ⟨rfl, refB_of Q8 o8 (by simp [List.length_append, List.length_take, List.length_drop]; omega) far7, k8⟩
end
end Go.Proofs.Ytencnfgmgcdiiaa
