/- The document's desk: Leave, Tell, as walks. -/
import Derived.Test.YtencnfgmgcdiiaaSrC
namespace Go.Proofs.Ytencnfgmgcdiiaa
open Go.RowKit Go.PM
set_option maxRecDepth 100000

section
variable {w w' : World} {q : Nat} {L : List (UInt8 × PC)} {a : Option Addr} {cap : Nat}
theorem r_put (h : RefB w q L) (hr : Rises L) (hl : L.length ≤ 16) (c : UInt8) (v : PC) :
    Calls Try.prog 50 #[.pointer (some ⟨q, 0, none⟩), .agg #[.int .u8 c.toNat, .int .u32 v.last, .bool v.opn, .int .i64 v.a.why, .int .u8 v.a.node, .int .u32 v.a.boot, .int .u32 v.a.num, .string v.a.val, .int .u32 v.a.ver]] w (PutPost w q (insS L c v)) := by
  obtain ⟨a, cap, h⟩ := h
  cases hs : (getK L c).isSome with
  | true => exact r_put_is h hr hl c v hs
  | false => exact r_put_new h hr hl c v hs

def LeavePost (w : World) (q : Nat) (z : Bool) (L' : List (UInt8 × PC)) (e : Ending) (w' : World) : Prop := e = .returned (.bool z) ∧ RefB w' q L' ∧ Kept (· = q) w w'

set_option maxHeartbeats 8000000 in
theorem r_leave_is (h : RefC w q L a cap) (hr : Rises L) (hl : L.length ≤ 16) (c : UInt8) (hs : (getK L c).isSome = true) :
    Calls Try.prog 30 #[.pointer (some ⟨q, 0, none⟩), .int .u8 c.toNat] w (LeavePost w q true (delS L c)) := by
  rw [delS_is hr hs]
  have hpl : posS L c < L.length := by
    obtain ⟨p, hp, _⟩ := (is_at hr c).1 hs
    exact (List.getElem?_eq_some_iff.1 hp).1
  have HF := r_find h hr hl c
  rw [hs] at HF
  have HF' := Lib.hid HF
  clear HF
  generalize posS L c = P at *
  go_enter Try.func30, Try.ntmps30
  go_wp2_with fail
  refine HF'.out.mono ?_
  rintro _ w4 ⟨rfl, K4⟩
  have h4 := h.keptNo K4
  go_upto_region 3 with (fail)
  have p0 : (0 : Int) ≤ P := by omega
  have p1 : (P : Int) ≤ L.length := by omega
  have hle := h4.le
  have p2 : (P : Int) ≤ cap := by omega
  have p3 : (L.length : Int) ≤ cap := by omega
  have p4 : (P : Int) + 1 ≤ L.length := by omega
  have p5 : (0 : Int) ≤ (P : Int) + 1 := by omega
  have wp1 : IntKind.i64.wrap ((P : Int) + 1) = (P : Int) + 1 := by rw [IntKind.wrap_i64]; omega
  have hmx := h4.max
  unfold maxLen at hmx
  have hT : rcells (L.take P) = (rcells L).take (P * 9) := flat_take rcell 9 rcell_len L P (by omega)
  have hD : rcells (L.drop (P + 1)) = (rcells L).drop ((P + 1) * 9) := flat_drop rcell 9 rcell_len L (P + 1) (by omega)
  have HTl : Hid ((rcells (L.take P)).length = P * 9) := Lib.hid (by rw [rcells_len, List.length_take, Nat.min_eq_left (by omega)])
  have HDl : Hid ((rcells (L.drop (P + 1))).length = (L.length - (P + 1)) * 9) := Lib.hid (by rw [rcells_len, List.length_drop])
  have HR1 : Hid (∀ w', Kept No w4 w' → Rd w' a (rcells (L.take P))) := Lib.hid fun w' k => by
    have hrd := (h4.rd.keptNo k).take (P * 9)
    rwa [← hT] at hrd
  have HR3 : Hid (∀ w', Kept No w4 w' → Rd w' (if cap = P + 1 then a else a.map fun x => x.add ((P + 1) * 9)) (rcells (L.drop (P + 1)))) := Lib.hid fun w' k => by
    have hrd := rd_from (h4.rd.keptNo k) cap (P + 1) 9 (by rw [rcells_len]; exact Nat.mul_le_mul_right _ hle)
    rwa [← hD] at hrd
  have HN3 : Hid ((if cap = P + 1 then a else a.map fun x => x.add ((P + 1) * 9)) = none → cap - (P + 1) = 0) := Lib.hid (by
    intro hn
    have h0 : a = none := by
      split at hn
      · exact hn
      · cases a with
        | none => rfl
        | some ad => simp at hn
    have := h4.nil h0
    omega)
  have HN1 := Lib.hid h4.nil
  have H1L := Lib.hid (rcells_one (L.take P))
  have H3L := Lib.hid (rcells_one (L.drop (P + 1)))
  have HM := Lib.hid (show P < 1000 ∧ L.length < 1000 from by omega)
  have HINFO := Lib.hid (info_parts Try.si_client)
  have HC : Hid (∀ w', Kept No w4 w' → w'.cell? ⟨q, 0, none⟩ = some (.slice a L.length cap) ∧ w'.frozen? ⟨q, 0, none⟩ = false) := Lib.hid fun w' k => ⟨(h4.st.kept k id).cell 0, (h4.st.kept k id).frozen 0⟩
  have HQ := Lib.hid h4.st
  have hqlt := h.st.lt
  have KD : Kept No w4 w4.drew := (Kept.refl No w4).drew
  obtain ⟨cD, _⟩ := HC.out _ KD
  clear hT hD HF' h4 h
  go_region_law
    (first
      | (refine step_wp rfl ?_; (try simp only [List.getElem_toArray, List.getElem_cons_zero, List.getElem_cons_succ, Act.put, List.setIfInBounds_toArray, List.set_cons_zero, List.set_cons_succ]); obtain ⟨i0, hi0, hz0, hz1, hz2⟩ := HINFO.out; refine wp_onto (.tmp 21) (.tmp 28) 62 rfl 66 i0 _ 9 64 Try.su_clients hi0 hz0 hz1 hz2 rfl (by decide) a5 P cap5 (rcells (L.take P)) rfl o5.1 (if cap = P + 1 then a else a.map fun x => x.add ((P + 1) * 9)) (L.length - (P + 1)) (cap - (P + 1)) (rcells (L.drop (P + 1))) rfl HN3.out HDl.out (HR3.out _ K5) H3L.out (by have := HM.out; unfold maxLen; omega) (by have := HM.out; omega) ?_; clear hi0 hz0 hz1 hz2; intro a7 cap7 w7 hap7; have K7 : Kept No w4 w7 := K5.above hap7.kept o5.2; have HO7 := Lib.hid (And.intro hap7 o5.2); clear hap7; obtain ⟨c7, f7⟩ := HC.out _ K7)
      | (refine step_wp rfl ?_; (try simp only [List.getElem_toArray, List.getElem_cons_zero, List.getElem_cons_succ, Act.put, List.setIfInBounds_toArray, List.set_cons_zero, List.set_cons_succ]); obtain ⟨i0, hi0, hz0, hz1, hz2⟩ := HINFO.out; refine wp_onto (.const (.slice none 0 0)) (.tmp 20) 62 rfl 66 i0 _ 9 64 Try.su_clients hi0 hz0 hz1 hz2 rfl (by decide) none 0 0 [] rfl (Owns.nil _ _ _) a P cap (rcells (L.take P)) rfl HN1.out HTl.out (HR1.out _ KD) H1L.out (by have := HM.out; unfold maxLen; omega) (by have := HM.out; omega) ?_; clear hi0 hz0 hz1 hz2; intro a5 cap5 w5 hap5; have q5 := onto_nilr hap5; clear hap5; rw [Nat.zero_add]; have K5 : Kept No w4 w5 := KD.transNo q5.2.1; have o5 : Owns w5 66 9 a5 P cap5 (rcells (L.take P)) ∧ ∀ b, At a5 b → w4.heap.size ≤ b := ⟨q5.1, fun b hb => Nat.le_trans KD.size (q5.2.2 b hb)⟩; clear q5; obtain ⟨c5, f5⟩ := HC.out _ K5)
      | fail)
  all_goals
    obtain ⟨hap7, hat6⟩ := HO7.out
    have o7 := hap7.own
    have e7 : rcells (L.take P) ++ rcells (L.drop (P + 1)) = rcells (L.take P ++ L.drop (P + 1)) := by simp [rcells]
    rw [e7] at o7
    have Q8 : Blk (w7.setCell ⟨q, 0, none⟩ (.slice a7 (P + (L.length - (P + 1))) cap7)) q 64 [.slice a7 (P + (L.length - (P + 1))) cap7] := (HQ.out.kept K7 id).set 0 _
    have far7 : ∀ b, At a7 b → b ≠ q := fun b hb e => by
      have := (hap7.at_ b hb).elim (hat6 b) (Nat.le_trans K5.size)
      have := K4.size
      omega
    have k8 : Kept (· = q) w (w7.setCell ⟨q, 0, none⟩ (.slice a7 (P + (L.length - (P + 1))) cap7)) := keptq (K4.transNo K7) q 0 _
    have o8 : Owns (w7.setCell ⟨q, 0, none⟩ (.slice a7 (P + (L.length - (P + 1))) cap7)) 66 9 a7 (P + (L.length - (P + 1))) cap7 (rcells (L.take P ++ L.drop (P + 1))) := o7.kept (keptq (Kept.refl No w7) q 0 _) fun b hb e => far7 b hb e
    have HRB := Lib.hid (refB_of Q8 o8 (by simp [List.length_append, List.length_take, List.length_drop]; omega) far7)
    clear hap7 hat6 o7 o8 Q8 far7 e7
    go_wp2
    all_goals
      go_ret
      exact ⟨rfl, HRB.out, k8⟩

set_option maxHeartbeats 1000000 in
theorem r_leave (h : RefB w q L) (hr : Rises L) (hl : L.length ≤ 16) (c : UInt8) :
    Calls Try.prog 30 #[.pointer (some ⟨q, 0, none⟩), .int .u8 c.toNat] w (LeavePost w q (getK L c).isSome (delS L c)) := by
  obtain ⟨a, cap, h⟩ := h
  cases hs : (getK L c).isSome with
  | true => exact r_leave_is h hr hl c hs
  | false =>
    have hd : delS L c = L := by
      have : ∀ M : List (UInt8 × PC), (getK M c).isSome = false → delS M c = M := by
        intro M
        induction M with
        | nil => intro _; rfl
        | cons p M ih =>
          intro hM
          rw [getK_cons] at hM
          by_cases e : p.1 = c
          · rw [if_pos e] at hM; cases hM
          · rw [if_neg e] at hM
            unfold delS
            split
            · rw [ih hM]
            · first | rfl | rw [if_neg e]
      exact this L hs
    rw [hd]
    have HF := r_find h hr hl c
    rw [hs] at HF
    have HF' := Lib.hid HF
    have HH := Lib.hid h
    clear HF h hs hd
    go_enter Try.func30, Try.ntmps30
    go_wp2_with fail
    refine HF'.out.mono ?_
    rintro _ w4 ⟨rfl, K4⟩
    go_wp2
    go_ret
    exact ⟨rfl, ⟨a, cap, HH.out.keptNo K4⟩, K4.no⟩
end
end Go.Proofs.Ytencnfgmgcdiiaa
