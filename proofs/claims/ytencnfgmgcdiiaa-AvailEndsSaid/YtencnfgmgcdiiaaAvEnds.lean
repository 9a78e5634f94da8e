/- The law AvailEnds, as a walk. -/
import Derived.Test.YtencnfgmgcdiiaaAvY
namespace Go.Proofs.Ytencnfgmgcdiiaa
open Go.RowKit Go.PM

/-- All other nodes. -/
def cmpl (set : Nat) : Nat := 18446744073709551615 - set
theorem cmpl_bit (set i : Nat) (hs : set < 256) (hi : i < 8) : (cmpl set).testBit i = !set.testBit i := by
  have h := Nat.testBit_two_pow_sub_succ (n := 64) (x := set) (Nat.lt_of_lt_of_le hs (by decide)) i
  have e : 2 ^ 64 - (set + 1) = cmpl set := by unfold cmpl; omega
  rw [e, decide_eq_true (show i < 64 by omega), Bool.true_and] at h
  exact h
theorem cmpl8_bit (set i : Nat) (hs : set < 256) (hi : i < 8) : (255 - set).testBit i = !set.testBit i := by
  have h := Nat.testBit_two_pow_sub_succ (n := 8) (x := set) hs i
  have e : 2 ^ 8 - (set + 1) = 255 - set := by omega
  rw [e, decide_eq_true (show i < 8 by omega), Bool.true_and] at h
  exact h
theorem avOf_cmpl (vs : Nat → Nat) (set : Nat) (hs : set < 256) : avOf vs 8 (cmpl set) = avOf vs 8 (255 - set) := by
  have key : ∀ n, n ≤ 8 → avOf vs n (cmpl set) = avOf vs n (255 - set) := by
    intro n
    induction n with
    | zero => intro _; rfl
    | succ n ih =>
      intro hn
      rw [avOf, avOf, ih (by omega), cmpl_bit set n hs (by omega), cmpl8_bit set n hs (by omega)]
  exact key 8 (Nat.le_refl _)
theorem avCard_cmpl (set : Nat) (hs : set < 256) : avCard 8 (255 - set) + avCard 8 set = 8 := by
  have key : ∀ n, n ≤ 8 → avCard n (255 - set) + avCard n set = n := by
    intro n
    induction n with
    | zero => intro _; rfl
    | succ n ih =>
      intro hn
      have := ih (by omega)
      rw [avCard, avCard, cmpl8_bit set n hs (by omega)]
      cases set.testBit n <;> simp <;> omega
  exact key 8 (Nat.le_refl _)
theorem rlost_att (vs : Nat → Nat) (want s : Nat) : rlost vs want s = 8 ∨ ∃ x, x < s ∧ avOf vs 8 x < want ∧ rlost vs want s = 8 - avCard 8 x - 1 := by
  induction s with
  | zero => exact .inl rfl
  | succ s ih =>
    rw [rlost]
    split
    · rename_i h
      rcases Nat.le_total (rlost vs want s) (8 - avCard 8 s - 1) with hm | hm
      · rw [Nat.min_eq_left hm]
        rcases ih with h8 | ⟨x, a, b, c⟩
        · exact .inl h8
        · exact .inr ⟨x, by omega, b, c⟩
      · rw [Nat.min_eq_right hm]
        exact .inr ⟨s, by omega, h, rfl⟩
    · rcases ih with h8 | ⟨x, a, b, c⟩
      · exact .inl h8
      · exact .inr ⟨x, by omega, b, c⟩

theorem xor_cmpl (s : Nat) (hs : s < 18446744073709551616) : bits BinOp.xor IntKind.u64 IntKind.u64.max (s : Int) = ((cmpl s : Nat) : Int) := by
  have h := bits_xor_u64_nat 18446744073709551615 s (by omega) hs
  refine Eq.trans h ?_
  congr 1
  apply Nat.eq_of_testBit_eq
  intro i
  have h2 := Nat.testBit_two_pow_sub_succ (n := 64) (x := s) hs i
  have h1 := Nat.testBit_two_pow_sub_one 64 i
  have e : 2 ^ 64 - (s + 1) = cmpl s := by unfold cmpl; omega
  have e1 : 2 ^ 64 - 1 = 18446744073709551615 := by decide
  rw [e] at h2
  rw [e1] at h1
  rw [Nat.testBit_xor, h1, h2]
  by_cases hi : i < 64
  · rw [decide_eq_true hi]; simp
  · rw [decide_eq_false hi, Nat.testBit_lt_two_pow (Nat.lt_of_lt_of_le hs (show 18446744073709551616 ≤ 2 ^ i from Nat.le_trans (by decide) (Nat.pow_le_pow_right (by omega) (show 64 ≤ i by omega))))]
    rfl

/-- These being down ends it. -/
def endsB (vs : Nat → Nat) (want set : Nat) : Bool := decide (avOf vs 8 (cmpl set) < want)
/-- Some of the first sets end it, with one more down than may be. -/
def seSome (vs : Nat → Nat) (want most : Nat) : Nat → Bool
  | 0 => false
  | s + 1 => seSome vs want most s || (endsB vs want s && decide (avCard 8 s = most + 1))
theorem ends_more (vs : Nat → Nat) (want set : Nat) (hs : set < 256) (hw : want ≤ avOf vs 8 255) (h : endsB vs want set = true) : rlost vs want 256 < avCard 8 set := by
  have h1 : avOf vs 8 (cmpl set) < want := of_decide_eq_true h
  rw [avOf_cmpl vs set hs] at h1
  have h2 := rlost_hi vs want 256 (255 - set) (by omega) h1
  have h3 := avCard_cmpl set hs
  have h4 : 0 < avCard 8 set := by
    rcases Nat.eq_zero_or_pos (avCard 8 set) with h0 | h0
    · exfalso
      have all : set = 0 := by
        have key : ∀ x : Fin 256, avCard 8 x.val = 0 → x.val = 0 := by decide +kernel
        exact key ⟨set, hs⟩ h0
      subst all
      rw [Nat.sub_zero] at h1
      omega
    · exact h0
  omega
theorem seSome_of (vs : Nat → Nat) (want most s x : Nat) (hx : x < s) (h1 : endsB vs want x = true) (h2 : avCard 8 x = most + 1) : seSome vs want most s = true := by
  induction s with
  | zero => omega
  | succ s ih =>
    rw [seSome]
    by_cases e : x = s
    · subst e; rw [h1, decide_eq_true h2]; simp
    · rw [ih (by omega)]; rfl
theorem some_ends (vs : Nat → Nat) (want : Nat) (h1 : 1 ≤ want) (hw : want ≤ avOf vs 8 255) : seSome vs want (rlost vs want 256) 256 = true := by
  have h0 : avOf vs 8 0 < want := by
    have key : ∀ n, avOf vs n 0 = 0 := by
      intro n
      induction n with
      | zero => rfl
      | succ n ih => rw [avOf, ih]; simp
    rw [key]; omega
  have h7 := rlost_hi vs want 256 0 (by omega) h0
  rcases rlost_att vs want 256 with h8 | ⟨x, hx, hlt, he⟩
  · omega
  · have hc := avCard_cmpl x hx
    have hcl := avCard_le 8 x
    have h255 : 255 - (255 - x) = x := by omega
    refine seSome_of vs want _ 256 (255 - x) (by omega) ?_ ?_
    · unfold endsB
      rw [avOf_cmpl vs _ (by omega), h255]
      exact decide_eq_true hlt
    · rcases Nat.lt_or_ge (avCard 8 x) 8 with h | h
      · omega
      · exfalso
        have all : x = 255 := by
          have key : ∀ x : Fin 256, avCard 8 x.val = 8 → x.val = 255 := by decide +kernel
          exact key ⟨x, hx⟩ (show avCard 8 x = 8 by omega)
        subst all
        omega

section
variable {w : World}

def EoRel (w ws : World) (g a b : Nat) (i : Value) (wr : World) : Prop :=
  ∃ k : Int, (k = 0 ∨ k = 1 ∨ k = 2) ∧ i = .int .i64 k ∧ Kept No ws wr ∧ Kept No w wr ∧ Blk wr g 3 [.int .i64 a, .int .i64 b]
def EsRel (wo : World) (vs : Nat → Nat) (want most : Nat) (b s : Value) (wr : World) : Prop :=
  ∃ k : Nat, k ≤ 256 ∧ b = .bool (seSome vs want most k) ∧ s = .int .u64 k ∧ Kept No wo wr
def EbRel (wo : World) (set : Nat) (d n : Value) (wr : World) : Prop :=
  ∃ k : Nat, k ≤ 8 ∧ d = .int .i64 (avCard k set) ∧ n = .int .i64 k ∧ wr = wo

set_option maxRecDepth 100000 in
set_option maxHeartbeats 4000000 in
theorem availEnds_calls (e r v : Nat) (l : List UInt8) (hl : l.length = 8) (he : e < 4294967296) (hr : r < 256) (hv : v < 256) :
    Calls Try.prog 5 #[.agg (cfgc e r v l).toArray] w fun x w' => x = .returned (.bool true) ∧ Kept No w w' := by
  have B0 := Blk.new w 49 (cfgc e r v l)
  have K0 := (Kept.refl No w).alloc (.cells (cfgc e r v l).toArray 49)
  obtain ⟨c0, c1, c2, c3, c4, c5, c6, c7, c8, c9, c10⟩ := cfg_cells B0 hl
  have h1 := fun w => losses_calls (w := w) e r v l hl he hr hv
  have h3 := fun w => alive_calls (w := w)
  have H3 := Lib.hid h3
  clear h3
  cases hM : avMay e r v l
  case false =>
    have hls : lsOf e r v l = (0, 0, 16) := by unfold lsOf; rw [hM]; rfl
    rw [hls] at h1
    have h2 := fun w => refMay_calls (w := w) e r v l hl he hr hv
    rw [hM] at h2
    have H1 := Lib.hid h1
    have H2 := Lib.hid h2
    clear h1 h2 hM hls
    go_enter Try.func5, Try.ntmps5
    go_wp2_with fail
    rw [cfg_eq e r v l hl]
    refine (H1.out _).mono ?_
    rintro _ w1 ⟨rfl, k1⟩
    have C0 := B0.kept k1 id
    have K1 := K0.trans k1 fun _ _ h => h
    clear c0 c1 c2 c3 c4 c5 c6 c7 c8 c9 c10 B0 K0 k1
    obtain ⟨c0, c1, c2, c3, c4, c5, c6, c7, c8, c9, c10⟩ := cfg_cells C0 hl
    go_wp2_with fail
    rw [cfg_eq e r v l hl]
    refine (H2.out _).mono ?_
    rintro _ w2 ⟨rfl, k2⟩
    have K2 := K1.trans k2 fun _ _ h => h
    clear c0 c1 c2 c3 c4 c5 c6 c7 c8 c9 c10 K1
    go_wp2_with (go_at_call 23; refine (H3.out _).mono ?_; rintro _ w3 ⟨rfl, k3⟩)
    go_ret
    exact ⟨rfl, K2.trans k3 fun _ _ h => h⟩
  have hls : lsOf e r v l = (rlost (vsOf l) r 256, rlost (vsOf l) v 256, 0) := by unfold lsOf; rw [hM]; rfl
  rw [hls] at h1
  have hm := may_want hM
  have a1 := fun set hs => ends_more (vsOf l) r set hs hm.2.1
  have a2 := fun set hs => ends_more (vsOf l) v set hs hm.2.2.2
  have b1 := some_ends (vsOf l) r hm.1 hm.2.1
  have b2 := some_ends (vsOf l) v hm.2.2.1 hm.2.2.2
  have m1 := rlost_le (vsOf l) r 256
  have m2 := rlost_le (vsOf l) v 256
  generalize rlost (vsOf l) r 256 = x1 at *
  generalize rlost (vsOf l) v 256 = x2 at *
  have H1 := Lib.hid h1
  have A1 := Lib.hid a1
  have A2 := Lib.hid a2
  have B1 := Lib.hid b1
  have B2 := Lib.hid b2
  clear h1 hM hls a1 a2 b1 b2 hm
  have br : (r : Int) < 256 := by omega
  have bv : (v : Int) < 256 := by omega
  have bx1 : (x1 : Int) ≤ 8 := by omega
  have bx2 : (x2 : Int) ≤ 8 := by omega
  go_enter Try.func5, Try.ntmps5
  go_wp2_with fail
  rw [cfg_eq e r v l hl]
  refine (H1.out _).mono ?_
  rintro _ w1 ⟨rfl, k1⟩
  have C0 := B0.kept k1 id
  have K1 := K0.trans k1 fun _ _ h => h
  clear c0 c1 c2 c3 c4 c5 c6 c7 c8 c9 c10 B0 K0 k1
  -- THE LOOPS
  go_wp2
  have BG := Blk.new w1 3 [.int .i64 x1, .int .i64 x2]
  have C1 := C0.alloc (.cells #[.int .i64 x1, .int .i64 x2] 3)
  have K2 := K1.alloc (.cells #[.int .i64 x1, .int .i64 x2] 3)
  have hg := K1.size
  have hcl := C0.lt
  generalize hgg : w1.heap.size = g at *
  generalize hws : w1.alloc (.cells #[.int .i64 x1, .int .i64 x2] 3) = ws at *
  clear hgg hws C0 K1
  go_loopw [40] (fun i wr => EoRel w ws g x1 x2 i wr) (fun i _ => 2 - (intOf i).toNat)
  case atStart => exact ⟨0, .inl rfl, rfl, Kept.refl _ _, K2, BG⟩
  case round =>
    obtain ⟨k, hk, rfl, Kw, Kt, Bg⟩ := hrel
    have hsg : IntKind.u64.signed = false := rfl
    have C0 := C1.kept Kw id
    obtain ⟨c0, c1, c2, c3, c4, c5, c6, c7, c8, c9, c10⟩ := cfg_cells C0 hl
    have g0 := Bg.cell 0
    have g1 := Bg.cell 1
    simp only [List.getElem?_cons_succ, List.getElem?_cons_zero] at g0 g1
    clear c0 c3 c4 c5 c6 c7 c8 c9 c10
    rcases hk with rfl | rfl | rfl
    · skip
      go_wp2
      have hne : ¬ w.heap.size = g := by have := C0.lt; omega
      generalize hwo : wr = wo at *
      go_loopw [9, 10] (fun b s wx => EsRel wo (vsOf l) r x1 b s wx) (fun _ s _ => 256 - (intOf s).toNat)
      case atStart => exact ⟨0, by omega, rfl, rfl, Kept.refl _ _⟩
      case round =>
        obtain ⟨s, hs, rfl, rfl, Kx⟩ := hrel
        have s0 : (0 : Int) ≤ s := by omega
        by_cases hsl : s < 256
        · have s1 : (s : Int) < 256 := by omega
          go_wp2
          generalize hwi : wr = wi at *
          go_loopw [11, 57] (fun d n wx => EbRel wi s d n wx) (fun _ n _ => 8 - (intOf n).toNat)
          case atStart => exact ⟨0, by omega, rfl, rfl, rfl⟩
          case round =>
            obtain ⟨j, hj, rfl, rfl, rfl⟩ := hrel
            have j0 : (0 : Int) ≤ j := by omega
            by_cases hjl : j < 8
            · have j1 : (j : Int) < 8 := by omega
              have hbit := bit_and s j (by omega)
              have step : avCard (j + 1) s = avCard j s + if s.testBit j then 1 else 0 := rfl
              have hcl := avCard_le j s
              have hcl' : (avCard j s : Int) ≤ 8 := by omega
              generalize avCard j s = c at *
              cases hb : s.testBit j
              · rw [hb, if_neg (by decide)] at hbit step
                have ST := Lib.hid step
                clear step hb
                go_wp2
                refine ⟨⟨j + 1, by omega, ?_, by go_num, rfl⟩, by simp [intOf]; omega⟩
                rw [ST.out]; go_num
              · rw [hb, if_pos rfl] at hbit step
                have ST := Lib.hid step
                clear step hb
                go_wp2
                refine ⟨⟨j + 1, by omega, ?_, by go_num, rfl⟩, by simp [intOf]; omega⟩
                rw [ST.out]; go_num
            · obtain rfl : j = 8 := by omega
              have D0 := C0.kept Kx id
              obtain ⟨c0, d1, d2, c3, c4, c5, c6, c7, c8, c9, c10⟩ := cfg_cells D0 hl
              have hof := fun w => refOf_calls (w := w) e r v l hl (cmpl s) (by unfold cmpl; omega)
              have hmore := A1.out s hsl
              obtain ⟨O, hO⟩ : ∃ o, o = avOf (vsOf l) 8 (cmpl s) := ⟨_, rfl⟩
              have hE : endsB (vsOf l) r s = decide (O < r) := by rw [hO]; rfl
              rw [← hO] at hof
              clear hO
              have step : seSome (vsOf l) r x1 (s + 1) = (seSome (vsOf l) r x1 s || (endsB (vsOf l) r s && decide (avCard 8 s = x1 + 1))) := rfl
              have hcl := avCard_le 8 s
              have hxor := xor_cmpl s (by omega)
              generalize cmpl s = cs at *
              generalize hc : avCard 8 s = c at *
              generalize hS : seSome (vsOf l) r x1 s = S at *
              generalize hEn : endsB (vsOf l) r s = En at *
              have ST := Lib.hid step
              have HOf := Lib.hid hof
              have HXor := Lib.hid hxor
              clear step hof hxor hc hS hEn
              have c8' : (c : Int) ≤ 8 := by omega
              by_cases hlt : O < r
              · have q1 : (O : Int) < r := by omega
                rw [decide_eq_true hlt] at hE
                subst hE
                have hmore := hmore rfl
                have q2 : (x1 : Int) < c := by omega
                by_cases hc1 : c = x1 + 1
                · have q3 := beq_iff_eq.2 (show (c : Int) = (x1 : Int) + 1 by omega)
                  have HF : Hid (seSome (vsOf l) r x1 (s + 1) = true) := Lib.hid (by rw [ST.out, decide_eq_true hc1]; simp)
                  clear hc1
                  cases S
                  · go_wp2_with (go_at_call 25; rw [cfg_eq e r v l hl, HXor.out]; (with_reducible refine (HOf.out _).mono ?_); rintro _ wz ⟨rfl, Kz⟩)
                    refine ⟨⟨s + 1, by omega, by rw [HF.out], by go_num, Kx.transNo Kz⟩, by simp [intOf]; omega⟩
                  · go_wp2_with (go_at_call 25; rw [cfg_eq e r v l hl, HXor.out]; (with_reducible refine (HOf.out _).mono ?_); rintro _ wz ⟨rfl, Kz⟩)
                    refine ⟨⟨s + 1, by omega, by rw [HF.out], by go_num, Kx.transNo Kz⟩, by simp [intOf]; omega⟩
                · have q3 := beq_eq_false_iff_ne.2 (show (c : Int) ≠ (x1 : Int) + 1 by omega)
                  have HF : Hid (seSome (vsOf l) r x1 (s + 1) = S) := Lib.hid (by rw [ST.out, decide_eq_false hc1]; simp)
                  clear hc1
                  cases S
                  · go_wp2_with (go_at_call 25; rw [cfg_eq e r v l hl, HXor.out]; (with_reducible refine (HOf.out _).mono ?_); rintro _ wz ⟨rfl, Kz⟩)
                    refine ⟨⟨s + 1, by omega, by rw [HF.out], by go_num, Kx.transNo Kz⟩, by simp [intOf]; omega⟩
                  · go_wp2_with (go_at_call 25; rw [cfg_eq e r v l hl, HXor.out]; (with_reducible refine (HOf.out _).mono ?_); rintro _ wz ⟨rfl, Kz⟩)
                    refine ⟨⟨s + 1, by omega, by rw [HF.out], by go_num, Kx.transNo Kz⟩, by simp [intOf]; omega⟩
              · have q1 : (r : Int) ≤ O := by omega
                rw [decide_eq_false hlt] at hE
                subst hE
                have HF : Hid (seSome (vsOf l) r x1 (s + 1) = S) := Lib.hid (by rw [ST.out]; simp)
                clear hmore hlt
                cases S
                · go_wp2_with (go_at_call 25; rw [cfg_eq e r v l hl, HXor.out]; (with_reducible refine (HOf.out _).mono ?_); rintro _ wz ⟨rfl, Kz⟩)
                  refine ⟨⟨s + 1, by omega, by rw [HF.out], by go_num, Kx.transNo Kz⟩, by simp [intOf]; omega⟩
                · go_wp2_with (go_at_call 25; rw [cfg_eq e r v l hl, HXor.out]; (with_reducible refine (HOf.out _).mono ?_); rintro _ wz ⟨rfl, Kz⟩)
                  refine ⟨⟨s + 1, by omega, by rw [HF.out], by go_num, Kx.transNo Kz⟩, by simp [intOf]; omega⟩
        · obtain rfl : s = 256 := by omega
          have hB := B1.out
          rw [hB]
          clear hB
          go_wp2
          exact ⟨⟨1, .inr (.inl rfl), rfl, Kw.transNo Kx, Kt.transNo Kx, Bg.kept Kx id⟩, by simp [intOf]⟩
    · skip
      go_wp2
      have hne : ¬ w.heap.size = g := by have := C0.lt; omega
      generalize hwo : wr = wo at *
      go_loopw [9, 10] (fun b s wx => EsRel wo (vsOf l) v x2 b s wx) (fun _ s _ => 256 - (intOf s).toNat)
      case atStart => exact ⟨0, by omega, rfl, rfl, Kept.refl _ _⟩
      case round =>
        obtain ⟨s, hs, rfl, rfl, Kx⟩ := hrel
        have s0 : (0 : Int) ≤ s := by omega
        by_cases hsl : s < 256
        · have s1 : (s : Int) < 256 := by omega
          go_wp2
          generalize hwi : wr = wi at *
          go_loopw [11, 57] (fun d n wx => EbRel wi s d n wx) (fun _ n _ => 8 - (intOf n).toNat)
          case atStart => exact ⟨0, by omega, rfl, rfl, rfl⟩
          case round =>
            obtain ⟨j, hj, rfl, rfl, rfl⟩ := hrel
            have j0 : (0 : Int) ≤ j := by omega
            by_cases hjl : j < 8
            · have j1 : (j : Int) < 8 := by omega
              have hbit := bit_and s j (by omega)
              have step : avCard (j + 1) s = avCard j s + if s.testBit j then 1 else 0 := rfl
              have hcl := avCard_le j s
              have hcl' : (avCard j s : Int) ≤ 8 := by omega
              generalize avCard j s = c at *
              cases hb : s.testBit j
              · rw [hb, if_neg (by decide)] at hbit step
                have ST := Lib.hid step
                clear step hb
                go_wp2
                refine ⟨⟨j + 1, by omega, ?_, by go_num, rfl⟩, by simp [intOf]; omega⟩
                rw [ST.out]; go_num
              · rw [hb, if_pos rfl] at hbit step
                have ST := Lib.hid step
                clear step hb
                go_wp2
                refine ⟨⟨j + 1, by omega, ?_, by go_num, rfl⟩, by simp [intOf]; omega⟩
                rw [ST.out]; go_num
            · obtain rfl : j = 8 := by omega
              have D0 := C0.kept Kx id
              obtain ⟨c0, d1, d2, c3, c4, c5, c6, c7, c8, c9, c10⟩ := cfg_cells D0 hl
              have hof := fun w => refOf_calls (w := w) e r v l hl (cmpl s) (by unfold cmpl; omega)
              have hmore := A2.out s hsl
              obtain ⟨O, hO⟩ : ∃ o, o = avOf (vsOf l) 8 (cmpl s) := ⟨_, rfl⟩
              have hE : endsB (vsOf l) v s = decide (O < v) := by rw [hO]; rfl
              rw [← hO] at hof
              clear hO
              have step : seSome (vsOf l) v x2 (s + 1) = (seSome (vsOf l) v x2 s || (endsB (vsOf l) v s && decide (avCard 8 s = x2 + 1))) := rfl
              have hcl := avCard_le 8 s
              have hxor := xor_cmpl s (by omega)
              generalize cmpl s = cs at *
              generalize hc : avCard 8 s = c at *
              generalize hS : seSome (vsOf l) v x2 s = S at *
              generalize hEn : endsB (vsOf l) v s = En at *
              have ST := Lib.hid step
              have HOf := Lib.hid hof
              have HXor := Lib.hid hxor
              clear step hof hxor hc hS hEn
              have c8' : (c : Int) ≤ 8 := by omega
              by_cases hlt : O < v
              · have q1 : (O : Int) < v := by omega
                rw [decide_eq_true hlt] at hE
                subst hE
                have hmore := hmore rfl
                have q2 : (x2 : Int) < c := by omega
                by_cases hc1 : c = x2 + 1
                · have q3 := beq_iff_eq.2 (show (c : Int) = (x2 : Int) + 1 by omega)
                  have HF : Hid (seSome (vsOf l) v x2 (s + 1) = true) := Lib.hid (by rw [ST.out, decide_eq_true hc1]; simp)
                  clear hc1
                  cases S
                  · go_wp2_with (go_at_call 25; rw [cfg_eq e r v l hl, HXor.out]; (with_reducible refine (HOf.out _).mono ?_); rintro _ wz ⟨rfl, Kz⟩)
                    refine ⟨⟨s + 1, by omega, by rw [HF.out], by go_num, Kx.transNo Kz⟩, by simp [intOf]; omega⟩
                  · go_wp2_with (go_at_call 25; rw [cfg_eq e r v l hl, HXor.out]; (with_reducible refine (HOf.out _).mono ?_); rintro _ wz ⟨rfl, Kz⟩)
                    refine ⟨⟨s + 1, by omega, by rw [HF.out], by go_num, Kx.transNo Kz⟩, by simp [intOf]; omega⟩
                · have q3 := beq_eq_false_iff_ne.2 (show (c : Int) ≠ (x2 : Int) + 1 by omega)
                  have HF : Hid (seSome (vsOf l) v x2 (s + 1) = S) := Lib.hid (by rw [ST.out, decide_eq_false hc1]; simp)
                  clear hc1
                  cases S
                  · go_wp2_with (go_at_call 25; rw [cfg_eq e r v l hl, HXor.out]; (with_reducible refine (HOf.out _).mono ?_); rintro _ wz ⟨rfl, Kz⟩)
                    refine ⟨⟨s + 1, by omega, by rw [HF.out], by go_num, Kx.transNo Kz⟩, by simp [intOf]; omega⟩
                  · go_wp2_with (go_at_call 25; rw [cfg_eq e r v l hl, HXor.out]; (with_reducible refine (HOf.out _).mono ?_); rintro _ wz ⟨rfl, Kz⟩)
                    refine ⟨⟨s + 1, by omega, by rw [HF.out], by go_num, Kx.transNo Kz⟩, by simp [intOf]; omega⟩
              · have q1 : (v : Int) ≤ O := by omega
                rw [decide_eq_false hlt] at hE
                subst hE
                have HF : Hid (seSome (vsOf l) v x2 (s + 1) = S) := Lib.hid (by rw [ST.out]; simp)
                clear hmore hlt
                cases S
                · go_wp2_with (go_at_call 25; rw [cfg_eq e r v l hl, HXor.out]; (with_reducible refine (HOf.out _).mono ?_); rintro _ wz ⟨rfl, Kz⟩)
                  refine ⟨⟨s + 1, by omega, by rw [HF.out], by go_num, Kx.transNo Kz⟩, by simp [intOf]; omega⟩
                · go_wp2_with (go_at_call 25; rw [cfg_eq e r v l hl, HXor.out]; (with_reducible refine (HOf.out _).mono ?_); rintro _ wz ⟨rfl, Kz⟩)
                  refine ⟨⟨s + 1, by omega, by rw [HF.out], by go_num, Kx.transNo Kz⟩, by simp [intOf]; omega⟩
        · obtain rfl : s = 256 := by omega
          have hB := B2.out
          rw [hB]
          clear hB
          go_wp2
          exact ⟨⟨2, .inr (.inr rfl), rfl, Kw.transNo Kx, Kt.transNo Kx, Bg.kept Kx id⟩, by simp [intOf]⟩
    · go_wp2_with (go_at_call 23; refine (H3.out _).mono ?_; rintro _ w3 ⟨rfl, k3⟩)
      go_ret
      exact ⟨rfl, Kt.trans k3 fun _ _ h => h⟩
end
end Go.Proofs.Ytencnfgmgcdiiaa
