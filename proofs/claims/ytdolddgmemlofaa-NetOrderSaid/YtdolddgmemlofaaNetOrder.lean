/- NetOrder: the walk. -/
import Derived.Test.YtdolddgmemlofaaNetI
import Derived.Test.YtdolddgmemlofaaNetArgs
import Derived.Test.YtdolddgmemlofaaNetOP
namespace Go.Proofs.Ytdolddgmemlofaa
open Go.RowKit Go.PM

set_option maxRecDepth 100000 in
set_option maxHeartbeats 1000000 in
theorem order_long (many : Int) (m : AM) (w : World) (hB : 5000 < m.b.length) (hI : m.In w) :
    Calls Try.prog 4 #[.int .u8 many, .agg m.cells.toArray] w fun e w' => e = .returned (.bool true) ∧ Kept No w w' := by
  have hmx := hI.b.max
  have hle := hI.b.le
  unfold maxLen at hmx
  unfold AM.cells
  go_enter Try.func4, Try.ntmps4
  go_wp2_with (go_at_call 15; go_must (refine (new_calls 40 _ (by omega) (by omega)).mono ?_; rintro e w1 ⟨rfl, hb, hk1⟩; have hc := (Blk.new' (w := w) rfl 34 [.int .u8 m.k, .int .u8 m.f, .int .u8 m.t, .int .i64 m.i, .slice m.a m.b.length m.c]).kept hk1 id; have hc4 := hc.cell 4))
  refine (net_alive _).mono ?_
  rintro e w2 ⟨rfl, hk2⟩
  go_wp2
  go_ret
  exact ⟨rfl, (((Kept.refl No w).alloc _).transNo hk1).transNo hk2⟩

/-- Where the walk stands: the network at p, the box of the act, all else as it was. -/
structure OSt (w : World) (p : Nat) (s : PN) (act : List Value) (S : Nat → Prop) (wr : World) : Prop where
  net : NetS wr p s S
  new : ∀ b, S b → w.heap.size < b
  kept : Kept No w wr
  act : Blk wr w.heap.size 34 act

section
variable {w wr w' : World} {p : Nat} {s s' : PN} {act : List Value} {S S' : Nat → Prop}
theorem OSt.no (h : OSt w p s act S wr) (k : Kept No wr w') : OSt w p s act S w' := ⟨h.net.keptNo k, h.new, h.kept.transNo k, h.act.kept k id⟩
theorem OSt.setAct (h : OSt w p s act S wr) (v : Value) : OSt w p s (act.set 3 v) S (wr.setCell ⟨w.heap.size, 3, none⟩ v) :=
  ⟨h.net.kept (Kept.setCell (S := (· = w.heap.size)) (Kept.refl _ wr) (a := ⟨w.heap.size, 3, none⟩) (fun _ => rfl) v) (fun b hb hb' => by have := h.new b hb; omega), h.new,
    h.kept.setCell (a := ⟨w.heap.size, 3, none⟩) (fun h => absurd h (Nat.lt_irrefl _)) v, h.act.set 3 v⟩
theorem OSt.step (h : OSt w p s act S wr) (g : Grows S S' wr w') (hN : NetS w' p s' S') : OSt w p s' act S' w' :=
  ⟨hN, fun b hb => (g.grow b hb).elim (h.new b) (fun h' => Nat.lt_of_lt_of_le h.act.lt h'),
    h.kept.trans g.kept (fun b hb hb' => by have := h.new b hb'; omega), h.act.kept g.kept (fun h' => by have := h.new _ h'; omega)⟩
end

def OrdRel1 (w : World) (p k : Nat) (act : List Value) (i : Value) (wr : World) : Prop := ∃ (j : Nat) (S : Nat → Prop), j ≤ k ∧ i = .int .i64 j ∧ OSt w p ⟨40, 0, obase j⟩ act S wr

def OrdRel2 (w : World) (p k I : Nat) (s : PN) (act : List Value) (last i : Value) (wr : World) : Prop :=
  ∃ (n : Nat) (z : Int) (S : Nat → Prop), n ≤ s.l.length ∧ i = .int .i64 n ∧ last = .int .i64 z ∧ (∀ (m : Nat) (x : PW) (a : UInt8), n ≤ m → m < k → s.l[m]? = some x → x.2.2 = [a] → a.toNat ≠ I → z < a.toNat) ∧ OSt w p s act S wr

set_option maxRecDepth 100000 in
set_option maxHeartbeats 1000000 in
theorem order_main (many : Int) (m : AM) (w : World) (hB : m.b.length ≤ 5000) (hI : m.In w) (hm0 : 0 ≤ many) (hm1 : many ≤ 255) (k i' : Nat) (hk : many % 30 + 1 = k) (hi' : (m.i.tmod k + k) % k = i') :
    Calls Try.prog 4 #[.int .u8 many, .agg m.cells.toArray] w fun e w' => e = .returned (.bool true) ∧ Kept No w w' := by
  have hk1' : 1 ≤ k := by omega
  have hk30 : k ≤ 30 := by omega
  have hik : i' < k := by have := Int.emod_lt_of_pos (m.i.tmod k + k) (by omega : (0 : Int) < k); omega
  have ht0 : -(k : Int) < m.i.tmod k := by
    have := Int.lt_tmod_of_pos m.i (by omega : (0 : Int) < k); omega
  have ht1 : m.i.tmod k < (k : Int) := Int.tmod_lt_of_pos m.i (by omega : (0 : Int) < k)
  have hkk0 := hI.k0
  have hkk1 := hI.k1
  have hii0 := hI.i0
  have hii1 := hI.i1
  have hOK := ord_does k i' hk30 hik ⟨m.k, m.f, m.t, i', m.b⟩ rfl hI.k0
  obtain ⟨s2, hs2⟩ : ∃ s2, s2 = ((⟨40, 0, obase k⟩ : PN).does ⟨m.k, m.f, m.t, i', m.b⟩).2.2 := ⟨_, rfl⟩
  rw [← hs2] at hOK
  have HS2 := Lib.hid hs2
  clear hs2
  unfold AM.cells
  go_enter Try.func4, Try.ntmps4
  go_wp2_with (go_at_call 15; go_must (refine (new_calls 40 _ (by omega) (by omega)).mono ?_; rintro e w1 ⟨rfl, hb, hk1⟩; have hc := (Blk.new' (w := w) rfl 34 [.int .u8 m.k, .int .u8 m.f, .int .u8 m.t, .int .i64 m.i, .slice m.a m.b.length m.c]).kept hk1 id; have hc4 := hc.cell 4))
  have hO0 : OSt w (w.heap.size + 1) ⟨40, 0, obase 0⟩ [.int .u8 m.k, .int .u8 m.f, .int .u8 m.t, .int .i64 m.i, .slice m.a m.b.length m.c] (· = w.heap.size + 1) w1 := by
    have h := s_new (by omega) (by omega) hb hk1
    simp only [World.size_alloc] at h
    exact ⟨h, fun b hb => by omega, ((Kept.refl No w).alloc _).transNo hk1, hc⟩
  clear hb hc4 hc
  go_loopw [39] (fun i wr => OrdRel1 w (w.heap.size + 1) k [.int .u8 m.k, .int .u8 m.f, .int .u8 m.t, .int .i64 m.i, .slice m.a m.b.length m.c] i wr) (fun i _ => k - (intOf i).toNat)
  case atStart => exact ⟨0, _, Nat.zero_le _, rfl, hO0⟩
  case round =>
    obtain ⟨j, S, hj, rfl, hO⟩ := hrel
    by_cases hlt : j < k
    · have hrd : Rd (wr.alloc (.cells #[.int .u8 j] 5)) (some ⟨wr.heap.size, 0, none⟩) (bcells [UInt8.ofNat j]) := by
        have e : bcells [UInt8.ofNat j] = [.int .u8 (j : Int)] := by simp [bcells]; omega
        rw [e]; exact Rd.ofBlk' (Blk.new wr _ _)
      have hse : PN.send ⟨40, 0, obase j⟩ (0, 0, [UInt8.ofNat j]) = (0, ⟨40, 0, obase (j + 1)⟩) := by
        unfold PN.send
        rw [if_pos (show max (0 : Int) 0 < 8 by decide), if_pos (show [UInt8.ofNat j].length ≤ 4096 by simp), if_pos (show ((obase j).length : Int) < 40 by rw [obase_length]; omega), obase_succ]
      have HSE := Lib.hid hse
      clear hse
      go_wp2_with fail
      refine (s_send (hO.net.keptNo ((Kept.refl No wr).alloc _)) (0, 0, [UInt8.ofNat j]) _ 1 hrd).mono ?_
      rw [HSE.out]
      rintro e w2 ⟨S2, rfl, hS2, hg2⟩
      go_wp2
      go_roundw
      case rel => exact ⟨j + 1, S2, by omega, by go_num, (hO.no ((Kept.refl No wr).alloc _)).step hg2 hS2⟩
      case measure => simp [intOf]; omega
    · obtain rfl : j = k := by omega
      clear hlt
      have c0 := hO.act.cell 0
      have c1 := hO.act.cell 1
      have c2 := hO.act.cell 2
      have c3 := hO.act.cell 3
      have c4 := hO.act.cell 4
      have f3 := hO.act.frozen 3
      have hO2 := hO.setAct (.int .i64 i')
      go_wp2_with fail
      refine (does_calls hO2.net ⟨m.k, m.f, m.t, i', m.b⟩ m.a m.c (hI.b.rd.keptNo hO2.kept) hI.k0).mono ?_
      rw [← HS2.out]
      rintro e w2 ⟨a2, cc2, S2, rfl, _, _, _, hS2, hg2⟩
      have hO3 := hO2.step hg2 hS2
      clear c0 c1 c2 c3 c4 f3
      go_wp2_with (go_at_call 20; go_must (refine (s_len hO3.net).mono ?_; rintro e w3 ⟨rfl, rfl⟩))
      have hmono := hOK.mono
      have hone := hOK.one
      clear hOK hO2 hO hS2
      have hact : [Value.int .u8 m.k, .int .u8 m.f, .int .u8 m.t, .int .i64 m.i, .slice m.a m.b.length m.c].set 3 (.int .i64 i') = [.int .u8 m.k, .int .u8 m.f, .int .u8 m.t, .int .i64 i', .slice m.a m.b.length m.c] := rfl
      rw [hact] at hO3
      clear hact
      go_loopw [9, 64] (fun last i wr => OrdRel2 w (w.heap.size + 1) j i' s2 [.int .u8 m.k, .int .u8 m.f, .int .u8 m.t, .int .i64 i', .slice m.a m.b.length m.c] last i wr) (fun _ i _ => s2.l.length - (intOf i).toNat)
      case atStart => exact ⟨0, -1, S2, Nat.zero_le _, rfl, rfl, fun _ _ _ _ _ _ _ _ => by omega, hO3⟩
      case round =>
        obtain ⟨n, z, S, hn, rfl, rfl, hz, hO⟩ := hrel
        have hn256 : s2.l.length ≤ 256 := by have := hO.net.room; omega
        by_cases hlt : n < s2.l.length
        · obtain ⟨x, hx⟩ : ∃ x, s2.l[n]? = some x := ⟨_, List.getElem?_eq_getElem hlt⟩
          have hat : s2.at n = (x, 0) := by
            unfold PN.at; rw [if_pos ⟨by omega, by omega⟩]; simp [hx]
          have HX := Lib.hid hx
          have HAT := Lib.hid hat
          clear hx hat
          have HZ := Lib.hid hz
          have HM := Lib.hid hmono
          have HO := Lib.hid hone
          clear hz hmono hone
          go_wp2_with fail
          refine (s_at hO.net n).mono ?_
          rw [HAT.out]
          rintro e w4 ⟨a4, c4, S4, rfl, hc4, hr4, ha4, hS4, hg4⟩
          have hO4 := hO.step hg4 hS4
          have b0 := hO4.act.cell 0
          have b3 := hO4.act.cell 3
          have blt := hO4.act.lt
          have hfin : OSt w (w.heap.size + 1) s2 [.int .u8 m.k, .int .u8 m.f, .int .u8 m.t, .int .i64 i', .slice m.a m.b.length m.c] S4 (w4.alloc (.cells #[.int .u8 x.1, .int .u8 x.2.1, .slice a4 x.2.2.length c4] 36)) := hO4.no ((Kept.refl No w4).alloc _)
          by_cases h1 : x.2.2.length = 1
          · obtain ⟨v, hv⟩ : ∃ v, x.2.2 = [v] := by
              match hx2 : x.2.2, h1 with
              | [v], _ => exact ⟨v, rfl⟩
            have HV := Lib.hid hv
            rw [hv] at hr4
            obtain ⟨b5, o5, rfl, hc5⟩ := hr4 0 (.int .u8 v.toNat) rfl
            rw [Nat.add_zero] at hc5
            have hb5 : b5 < w4.heap.size := World.block_lt_of_cell? w4 _ hc5
            have hvlt := v.toNat_lt
            have h1b : ((x.2.2.length : Int) != 1) = false := by rw [h1]; rfl
            have h1c : (0 : Int) < x.2.2.length := by omega
            have h1d : 0 < x.2.2.length := by omega
            clear h1 hv
            by_cases hnk : j ≤ n
            · have g1 : decide (j ≤ n) = true := by simpa using hnk
              go_wp2_with fail
              go_quiet (fail)
              go_wp2
              go_roundw
              case rel => exact ⟨n + 1, z, S4, by omega, by go_num, rfl, fun m x a h1 h2 h3 h4 h5 => HZ.out m x a (by omega) h2 h3 h4 h5, hfin.no ((Kept.refl No _).drewN _)⟩
              case measure => simp [intOf]; omega
            · have g1 : decide (j ≤ n) = false := by simpa using hnk
              by_cases hvi : v.toNat = i'
              · have g2 : ((v.toNat : Int) == (i' : Int)) = true := beq_iff_eq.2 (by omega)
                have HVI := Lib.hid hvi
                clear hvi
                go_wp2_with fail
                go_quiet (fail)
                go_wp2
                go_roundw
                case rel => exact ⟨n + 1, z, S4, by omega, by go_num, rfl, fun m x a h1 h2 h3 h4 h5 => HZ.out m x a (by omega) h2 h3 h4 h5, hfin.no ((Kept.refl No _).drewN _)⟩
                case measure => simp [intOf]; omega
              · have g2 : ((v.toNat : Int) == (i' : Int)) = false := beq_eq_false_iff_ne.2 (by omega)
                have hzv : z < v.toNat := HZ.out n x v (Nat.le_refl _) (by omega) HX.out HV.out hvi
                have HVI := Lib.hid hvi
                clear hvi
                go_wp2_with fail
                go_quiet (fail)
                go_wp2
                go_roundw
                case rel => exact ⟨n + 1, v.toNat, S4, by omega, by go_num, rfl, fun m y b h1 h2 h3 h4 h5 => by have := HM.out n m x y v b (by omega) h2 HX.out h3 HV.out h4 HVI.out h5; omega, hfin.no ((Kept.refl No _).drewN _)⟩
                case measure => simp [intOf]; omega
          · have h1b : ((x.2.2.length : Int) != 1) = true := by rw [bne_iff_ne]; omega
            have h60 : m.k % 6 = 0 := HO.out n x HX.out h1
            by_cases hnk : j ≤ n
            · have g1 : decide (j ≤ n) = true := by simpa using hnk
              go_wp2_with fail
              go_quiet (fail)
              go_wp2
              go_roundw
              case rel => exact ⟨n + 1, z, S4, by omega, by go_num, rfl, fun m x a h1 h2 h3 h4 h5 => HZ.out m x a (by omega) h2 h3 h4 h5, hfin.no ((Kept.refl No _).drewN _)⟩
              case measure => simp [intOf]; omega
            · have g1 : decide (j ≤ n) = false := by simpa using hnk
              go_wp2_with fail
              go_quiet (fail)
              go_wp2
              go_roundw
              case rel => exact ⟨n + 1, z, S4, by omega, by go_num, rfl, fun m x a h1 h2 h3 h4 h5 => HZ.out m x a (by omega) h2 h3 h4 h5, hfin.no ((Kept.refl No _).drewN _)⟩
              case measure => simp [intOf]; omega
        · go_wp2_with fail
          refine (net_alive _).mono ?_
          rintro e w5 ⟨rfl, hk5⟩
          go_wp2
          go_ret
          exact ⟨rfl, hO.kept.transNo hk5⟩
end Go.Proofs.Ytdolddgmemlofaa
