/- Package code's reader: Key and Text, as walks. -/
import Derived.Test.YtjfmidcaekhhgaaGreatDoorCdKL
import Derived.Test.YtjfmidcaekhhgaaGreatDoorCdWr
namespace Go.Proofs.YtjfmidcaekhhgaaGreatDoor
open Go.RowKit Go.PM

section
variable {w : World} {g : Nat} {s : PR} {a : Option Addr} {c : Nat}
set_option maxRecDepth 100000 in
set_option maxHeartbeats 400000 in
theorem rkey_calls (h : Rdr w g s a c) :
    Calls Tryz.prog 110 #[.pointer (some ⟨g, 0, none⟩)] w fun e w' => e = .returned (.agg (bcells s.key.1).toArray) ∧ Kept (· = g) w w' ∧ Rdr w' g s.key.2 a c := by
  have KK := (Kept.refl No w).alloc (.cells #[.int .u8 0, .int .u8 0, .int .u8 0, .int .u8 0, .int .u8 0, .int .u8 0, .int .u8 0, .int .u8 0] 28)
  have B1 := Blk.new w 28 [.int .u8 0, .int .u8 0, .int .u8 0, .int .u8 0, .int .u8 0, .int .u8 0, .int .u8 0, .int .u8 0]
  have hgw := h.box.lt
  have hlt := h.lt
  have HF := Lib.hid (fkey_calls (h.keptNo KK))
  have l8 : (bcells s.key.1).length = 8 := by rw [bcells_length, PR.key_length]
  have hone := bcells_one s.key.1
  have hn : ¬ w.heap.size = g := Nat.ne_of_gt hgw
  have hsp : splice [.int .u8 0, .int .u8 0, .int .u8 0, .int .u8 0, .int .u8 0, .int .u8 0, .int .u8 0, .int .u8 0] 0 (bcells s.key.1) = bcells s.key.1 := splice_all _ _ l8
  clear h
  generalize s.key = KY at *
  go_enter Tryz.func110, Tryz.ntmps110
  go_wp2_with (first
    | (go_at_call 129; refine HF.out.mono ?_; rintro _ w2 ⟨rfl, k2, r2⟩; have b2 := B1.kept k2 hn)
    | (with_reducible refine wpList_st rfl 28 _ _ rfl 8 Tryz.sizeOf28 w.heap.size 0 rfl (bcells KY.1) rfl l8 _ _ b2 (by decide) hone ?_; rw [hsp]))
  have b3 := b2.setRow (bcells KY.1)
  refine bodyPost_ret (v := .agg (bcells KY.1).toArray) (by rw [results_row _ Tryz.results110 _ Tryz.isAgg28 8 Tryz.sizeOf28 w.heap.size rfl _ l8 b3.seg0]) rfl ?_
  refine ⟨rfl, (KK.no.trans k2 fun _ _ h => h).setRow (fun h => absurd h (Nat.lt_irrefl _)) _, r2.kept ((Kept.refl (· = w.heap.size) _).setRow (fun _ => rfl) _) (Ne.symm hn) fun q hq e' => ?_⟩
  have := hlt q hq
  omega

/-- What limit.text answers. -/
def ltx (most : Nat) (l : List UInt8) : List UInt8 × Nat × Nat :=
  if lrd most l = 0 then (if (long l).1 ≤ l.length - (long l).2.1 then ((l.drop (long l).2.1).take (long l).1, (long l).2.1 + (long l).1, 0) else ([], 0, 4)) else ([], 0, lrd most l)
theorem ltx_le (most : Nat) (l : List UInt8) : (ltx most l).2.2 ≤ 5 := by
  have := lrd_le most l
  unfold ltx
  repeat' split
  all_goals simp only
  all_goals omega
theorem text_ok {s : PR} {most : Nat} (h : s.why = 0) (he : (ltx most s.rest).2.2 = 0) : s.text most = ((ltx most s.rest).1, s.go (ltx most s.rest).2.1) := by
  unfold ltx lrd at *
  unfold PR.text
  rw [if_pos h]
  by_cases h1 : (long s.rest).2.2 = 0
  · rw [if_pos h1] at he ⊢
    rw [if_pos h1]
    by_cases h2 : (long s.rest).1 ≤ most
    · rw [if_pos h2] at he ⊢
      rw [if_pos h2]
      rw [if_pos rfl] at he ⊢
      by_cases h3 : (long s.rest).1 ≤ s.rest.length - (long s.rest).2.1
      · rw [if_pos h3, if_pos h3]
      · rw [if_neg h3] at he; cases he
    · rw [if_neg h2] at he; cases he
  · rw [if_neg h1, if_neg h1] at he; exact absurd he h1
theorem text_err {s : PR} {most : Nat} (h : s.why = 0) (he : (ltx most s.rest).2.2 ≠ 0) : s.text most = ([], s.fail (ltx most s.rest).2.2) := by
  unfold ltx lrd at *
  unfold PR.text
  rw [if_pos h]
  by_cases h1 : (long s.rest).2.2 = 0
  · rw [if_pos h1] at he ⊢
    rw [if_pos h1]
    by_cases h2 : (long s.rest).1 ≤ most
    · rw [if_pos h2] at he ⊢
      rw [if_pos h2]
      rw [if_pos rfl] at he ⊢
      by_cases h3 : (long s.rest).1 ≤ s.rest.length - (long s.rest).2.1
      · rw [if_pos h3] at he; exact absurd rfl he
      · rw [if_neg h3, if_neg h3]
    · rw [if_neg h2, if_neg h2, if_neg (by decide)]
  · rw [if_neg h1, if_neg h1, if_neg h1]
theorem text_rest {s : PR} {most : Nat} (_he : (ltx most s.rest).2.2 = 0) : (ltx most s.rest).2.1 ≤ s.rest.length := by
  by_cases h0 : lrd most s.rest = 0
  · have hk := long_rest h0
    unfold ltx
    rw [if_pos h0]
    by_cases h3 : (long s.rest).1 ≤ s.rest.length - (long s.rest).2.1
    · rw [if_pos h3]; simp only; omega
    · rw [if_neg h3]; exact Nat.zero_le _
  · unfold ltx; rw [if_neg h0]; exact Nat.zero_le _

theorem Rd.dropAt {w : World} {a : Option Addr} {l : List UInt8} (h : Rd w a (bcells l)) {c k : Nat} (hc : l.length ≤ c) : Rd w (if c = k then a else a.map fun x => x.add k) (bcells (l.drop k)) := by
  have hd : bcells (l.drop k) = (bcells l).drop k := by simp [bcells, List.map_drop]
  by_cases hck : c = k
  · rw [List.drop_eq_nil_of_le (show l.length ≤ k by omega)]; exact Rd.nil _ _
  · rw [if_neg hck, hd]
    intro j x hj
    rw [List.getElem?_drop] at hj
    obtain ⟨b, o, rfl, hb⟩ := h _ _ hj
    exact ⟨b, o + k, by rw [Option.map_some, add_plain'], by rw [Nat.add_assoc]; exact hb⟩

set_option maxRecDepth 100000 in
set_option maxHeartbeats 1000000 in
theorem ltext_calls (most : Nat) (hm : most < 18446744073709551616) (a : Option Addr) (c n : Nat) (l : List UInt8) (hn : l.length = n) (hr : Rd w a (bcells l)) (hl : n ≤ 1099511627776) (hc : n ≤ c) :
    Calls Tryz.prog 141 #[.int .u64 most, .slice a n c] w fun e w' => e = .returned (.tuple #[.string ⟨(ltx most l).1.toArray⟩, .int .i64 (ltx most l).2.1, .int .i64 (ltx most l).2.2]) ∧ w = w' := by
  have HL := Lib.hid (lread_calls (w := w) most hm a c n l hn hr hl)
  have hk : lrd most l = 0 → (long l).2.1 ≤ n ∧ (long l).1 < 18446744073709551616 := fun he => by
    unfold lrd at he
    by_cases h1 : (long l).2.2 = 0
    · have := long_takes _ (long_eq h1)
      exact ⟨by omega, by have := this.2.2.2; omega⟩
    · rw [if_neg h1] at he; exact absurd he h1
  have HLT := Lib.hid (rfl (a := ltx most l))
  obtain ⟨E, hE⟩ : ∃ E, lrd most l = E := ⟨_, rfl⟩
  obtain ⟨x, hx⟩ : ∃ x, (long l).1 = x := ⟨_, rfl⟩
  obtain ⟨k, hk'⟩ : ∃ k, (long l).2.1 = k := ⟨_, rfl⟩
  have HD := Lib.hid (show ltx most l = if E = 0 then (if x ≤ n - k then ((l.drop k).take x, k + x, 0) else ([], 0, 4)) else ([], 0, E) by unfold ltx; rw [hE, hx, hk', hn])
  rw [hE, hx, hk'] at HL
  rw [hE, hx, hk'] at hk
  clear hE hx hk' HLT
  have hnn : (n : Int) ≤ 1099511627776 := by omega
  by_cases h0 : E = 0
  · subst h0
    obtain ⟨hk1, hk2⟩ := hk rfl
    have q1 : (k : Int) ≤ n := by omega
    have q2 : (0 : Int) ≤ k := by omega
    by_cases h1 : x ≤ n - k
    · have HV := Lib.hid (show ltx most l = ((l.drop k).take x, k + x, 0) by rw [HD.out, if_pos rfl, if_pos h1])
      rw [HV.out]
      have hxl : (((n - k : Nat)) : Int) = (n : Int) - k := by omega
      have q3 : (x : Int) ≤ (n : Int) - k := by omega
      have q4 : (0 : Int) ≤ x := by omega
      have q5 : (k : Int) + x ≤ c := by omega
      have q6 := decide_eq_false (show ¬ ((n : Int) - k < x) by omega)
      have hR : Rd w (if c = k then a else a.map fun x => x.add k) (bcells ((l.drop k).take x)) := by
        have := (Rd.dropAt (k := k) hr (show l.length ≤ c by omega)).take x
        simpa [bcells, List.map_take] using this
      have hlen : ((l.drop k).take x).length = k + x - k := by rw [List.length_take, List.length_drop]; omega
      obtain ⟨ra, hra⟩ : ∃ ra, (if c = k then a else a.map fun x => x.add k) = ra := ⟨_, rfl⟩
      rw [hra] at hR
      clear h1 hk HD HV hr
      generalize (l.drop k).take x = L at *
      go_enter Tryz.func141, Tryz.ntmps141
      go_wp2_with (first
        | (go_at_call 125; refine HL.out.mono ?_; rintro _ _ ⟨rfl, rfl⟩)
        | (with_reducible (refine wpList_conv_bytes_n rfl 38 9 (.tmp 37) rfl 5 Tryz.cu_bytes Tryz.cu_byte Tryz.cu_string ra (k + x - k) (c - k) L hlen rfl hR ?_)))
      go_ret3
      exact ⟨rfl, rfl⟩
    · have HV := Lib.hid (show ltx most l = ([], 0, 4) by rw [HD.out, if_pos rfl, if_neg h1])
      rw [HV.out]
      have q3 : (n : Int) - k < x := by omega
      clear h1 hk HD HV
      go_enter Tryz.func141, Tryz.ntmps141
      go_wp2_with (go_at_call 125; refine HL.out.mono ?_; rintro _ _ ⟨rfl, rfl⟩)
      go_ret3
      exact ⟨rfl, rfl⟩
  · have h0' : ¬ (E : Int) = 0 := by omega
    have HV := Lib.hid (show ltx most l = ([], 0, E) by rw [HD.out, if_neg h0])
    rw [HV.out]
    clear hk HD h0
    go_enter Tryz.func141, Tryz.ntmps141
    go_wp2_with (go_at_call 125; refine HL.out.mono ?_; rintro _ _ ⟨rfl, rfl⟩)
    go_ret3
    exact ⟨rfl, rfl⟩

--F
set_option maxRecDepth 100000 in
set_option maxHeartbeats 1000000 in
theorem ftext_calls {w : World} {g : Nat} {s : PR} {a : Option Addr} {c : Nat} (h : Rdr w g s a c) (most : Nat) (hm : most < 18446744073709551616) :
    Calls Tryz.prog 140 #[.pointer (some ⟨g, 0, none⟩), .func (.func 141) #[.int .u64 most] #[]] w fun e w' => e = .returned (.string ⟨(s.text most).1.toArray⟩) ∧ Kept (· = g) w w' ∧ Rdr w' g (s.text most).2 a c := by
  have c0 : w.cell? ⟨g, 0, none⟩ = some (.slice a s.b.length c) := h.box.cell 0
  have c1 : w.cell? ⟨g, 1, none⟩ = some (.int .i64 s.pos) := h.box.cell 1
  have c2 : w.cell? ⟨g, 2, none⟩ = some (.int .i64 s.why) := h.box.cell 2
  have c3 : w.cell? ⟨g, 3, none⟩ = some (.int .i64 s.fat) := h.box.cell 3
  by_cases h0 : s.why = 0
  · rw [h0] at c2
    rw [h.ok.none h0] at c3
    have hne := neqFault 0 0 fun _ => rfl
    rw [decide_eq_false (fun h => h rfl)] at hne
    have f0 := h.box.frozen 1
    have f1 := h.box.frozen 2
    have f2 := h.box.frozen 3
    have hrr : Rd w a (bcells s.b) := h.rd
    have hp := h.ok.pos
    have hp' : (s.pos : Int) ≤ s.b.length := by omega
    have hp0 : (0 : Int) ≤ s.pos := by omega
    have hle := h.le
    have hle' : (s.b.length : Int) ≤ c := by omega
    have hmx := h.max
    have H := Lib.hid h
    have H0 := Lib.hid h0
    clear h h0
    have HL := Lib.hid (fun (n : Nat) => ltext_calls (w := w.drewN n) most hm (if c = s.pos then a else a.map fun x => x.add s.pos) (c - s.pos) (s.b.length - s.pos) s.rest (PR.rest_length s) ((H.out.drewN' n).rest) (by have := H.out.len; omega) (by have := H.out.le; omega))
    obtain ⟨ra, hra⟩ : ∃ ra, (if c = s.pos then a else a.map fun x => x.add s.pos) = ra := ⟨_, rfl⟩
    rw [hra] at HL
    obtain ⟨E, hE⟩ : ∃ E, (ltx most s.rest).2.2 = E := ⟨_, rfl⟩
    have HE := Lib.hid hE
    have hE5 : E ≤ 5 := by rw [← hE]; exact ltx_le _ _
    rw [hE] at HL
    clear hE hrr
    by_cases hE0 : E = 0
    · subst hE0
      have HV := Lib.hid (text_ok H0.out HE.out)
      have hk := text_rest HE.out
      rw [(PR.rest_length s)] at hk
      rw [HV.out]
      obtain ⟨x, hx⟩ : ∃ x, (ltx most s.rest).1 = x := ⟨_, rfl⟩
      obtain ⟨k, hk'⟩ : ∃ k, (ltx most s.rest).2.1 = k := ⟨_, rfl⟩
      rw [hx, hk'] at HL ⊢
      rw [hk'] at hk
      clear HV hx hk'
      have hl := H.out.len
      go_enter Tryz.func140, Tryz.ntmps140
      go_wp2
      go_region_with (go_at_call 141; refine (HL.out 1).mono ?_; rintro _ _ ⟨rfl, rfl⟩)
      all_goals (try go_wp2)
      all_goals go_ret
      all_goals (
        have hR := (H.out.drewN' 1).go (k := k) (by rw [PR.rest_length]; exact hk)
        have e : ((s.pos + k : Nat) : Int) = (s.pos : Int) + k := by omega
        rw [e] at hR
        exact ⟨rfl, ((Kept.refl (· = g) w).drewN 1).setCell (fun _ => rfl) _, hR⟩)
    · have HV := Lib.hid (text_err H0.out (by rw [HE.out]; exact hE0))
      rw [HE.out] at HV
      rw [HV.out]
      clear HV
      have hE1 : ¬ (E : Int) = 0 := by omega
      go_enter Tryz.func140, Tryz.ntmps140
      go_wp2
      go_region_with (go_at_call 141; refine (HL.out 1).mono ?_; rintro _ _ ⟨rfl, rfl⟩)
      all_goals (try go_wp2)
      all_goals go_ret
      all_goals exact ⟨rfl, (((Kept.refl (· = g) w).drewN 1).setCell (fun _ => rfl) _).setCell (fun _ => rfl) _, (H.out.drewN' 1).fail hE0 (by omega)⟩
  · have hne := neqFault s.why s.fat h.ok.none
    rw [decide_eq_true (show ¬ s.why = 0 from h0)] at hne
    have hst : (s.text most) = ([], s) := by unfold PR.text; rw [if_neg h0]
    rw [hst]
    have H := Lib.hid h
    clear h hst
    go_enter Tryz.func140, Tryz.ntmps140
    go_wp2
    go_ret
    exact ⟨rfl, (Kept.refl _ _), H.out⟩
set_option maxHeartbeats 400000 in
theorem rtext_calls (h : Rdr w g s a c) (most : Nat) (hm : most < 9223372036854775808) :
    Calls Tryz.prog 131 #[.pointer (some ⟨g, 0, none⟩), .int .i64 most] w fun e w' => e = .returned (.string ⟨(s.text most).1.toArray⟩) ∧ Kept (· = g) w w' ∧ Rdr w' g (s.text most).2 a c := by
  have hmf : ∀ (fn : Fn) (first cap : Array Value) (w : World), (Instr.makeFunc fn first cap).run Tryz.prog w = .ok (.func fn first cap) w := fun _ _ _ _ => rfl
  have HF := Lib.hid (ftext_calls h most (by omega))
  have m0 : (0 : Int) ≤ most := by omega
  have m1 : (most : Int) < 9223372036854775808 := by omega
  clear h
  go_enter Tryz.func131, Tryz.ntmps131
  go_wp2_with (go_at_call 140; refine HF.out.mono ?_; rintro _ w2 ⟨rfl, k2, r2⟩)
  go_ret
  exact ⟨rfl, k2, r2⟩
end
end Go.Proofs.YtjfmidcaekhhgaaGreatDoor
