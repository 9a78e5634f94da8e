/- NetOnce: the walk itself. -/
import Derived.Test.YtdolddgmemlofaaNetOnce
namespace Go.Proofs.Ytdolddgmemlofaa
open Go.RowKit Go.PM

def OnRel (w : World) (p b5 b6 b7 n : Nat) (i : Value) (wr : World) : Prop :=
  ∃ (k c : Nat) (s : PN) (sent dbl : UInt8 → Bool) (tak : UInt8 → Int) (S : Nat → Prop), k ≤ n ∧ i = .int .i64 k ∧ c ≤ 2 * k ∧ OnceInv s k sent dbl tak ∧ OnSt w p b5 b6 b7 s c sent dbl tak S wr

set_option maxRecDepth 100000 in
set_option maxHeartbeats 4000000 in
theorem once_calls (a : Option Addr) (c : Nat) (l : List AM) (w : World) (h : InA w a c l) :
    Calls Try.prog 3 #[.slice a l.length c] w fun e w' => e = .returned (.bool true) ∧ Kept No w w' := by
  have hle := h.le
  have hmx := h.max
  obtain ⟨n, hn⟩ : ∃ n, n = min l.length 100 := ⟨_, rfl⟩
  have hn1 : n ≤ l.length := by omega
  have hn2 : n ≤ 100 := by omega
  have HN := Lib.hid hn
  clear hn
  have hmm := @run_makeMap Try.prog
  go_enter Try.func3, Try.ntmps3
  go_wp2_with fail
  refine (long_calls a c l w h).mono ?_
  rintro e w1 ⟨⟨b, rfl⟩, hk1⟩
  cases b with
  | true =>
    go_wp2_with fail
    refine (net_alive _).mono ?_
    rintro e w2 ⟨rfl, hk2⟩
    go_wp2
    go_ret
    exact ⟨rfl, hk1.transNo hk2⟩
  | false =>
    go_wp2_with fail
    refine (new_calls 40 w1 (by omega) (by omega)).mono ?_
    rintro e w2 ⟨rfl, hb, hk2⟩
    have hS0 := s_new (by omega) (by omega) hb hk2
    clear hb
    have hs1 := hk1.size
    have hs2 := hk2.size
    have hp := hS0.lt _ hS0.sp
    have hO : OnSt w w1.heap.size w2.heap.size (w2.heap.size + 1) (w2.heap.size + 1 + 1) ⟨40, 0, []⟩ 0 (fun _ => false) (fun _ => false) (fun _ => 0) (· = w1.heap.size) (((w2.alloc (.map #[] 0)).alloc (.map #[] 0)).alloc (.map #[] 0)) := by
      have k1 := (Kept.refl No w2).alloc (.map #[] 0)
      have k2 := (Kept.refl No (w2.alloc (.map #[] 0))).alloc (.map #[] 0)
      have k3 := (Kept.refl No ((w2.alloc (.map #[] 0)).alloc (.map #[] 0))).alloc (.map #[] 0)
      have m1 := MapB.new w2 Try.prog 5 4
      have m2 := MapB.new (w2.alloc (.map #[] 0)) Try.prog 5 4
      have m3 := MapI.new ((w2.alloc (.map #[] 0)).alloc (.map #[] 0)) Try.prog 5 3
      rw [World.size_alloc] at m2
      rw [World.size_alloc, World.size_alloc] at m3
      exact ⟨hS0.keptNo ((k1.transNo k2).transNo k3), fun b (e : b = w1.heap.size) => by omega, hk1.transNo (hk2.transNo ((k1.transNo k2).transNo k3)), m1.kept (k2.transNo k3) id, m2.kept k3 id, m3,
        ⟨by omega, fun (e : w2.heap.size = w1.heap.size) => by omega⟩, ⟨by omega, fun (e : w2.heap.size + 1 = w1.heap.size) => by omega⟩, ⟨by omega, fun (e : w2.heap.size + 1 + 1 = w1.heap.size) => by omega⟩, by omega, by omega, by omega⟩
    go_wp2_with (go_at_call 16; go_must (refine (short_calls a l.length c _ hle hmx).mono ?_; rw [← HN.out]; rintro e w' ⟨rfl, rfl⟩))
    clear hmx hle hS0 hmm
    go_loopw [34] (fun i wr => OnRel w w1.heap.size w2.heap.size (w2.heap.size + 1) (w2.heap.size + 1 + 1) n i wr) (fun i _ => n - (intOf i).toNat)
    case atStart => exact ⟨0, 0, _, _, _, _, _, Nat.zero_le _, rfl, Nat.le_refl _, once_new 40, hO⟩
    case round =>
      clear hO
      obtain ⟨k, cc, s, sent, dbl, tak, S, hk, rfl, hcc, hinv, hO⟩ := hrel
      by_cases hlt : k < n
      · obtain ⟨m, hm⟩ : ∃ m, l[k]? = some m := ⟨_, List.getElem?_eq_getElem (by omega)⟩
        have hin := (h.kept hO.kept).each m (List.mem_of_getElem? hm)
        obtain ⟨b, o, rfl, hb, d0, d1, d2, d3, d4⟩ := (h.kept hO.kept).at hm
        clear hm
        have hi0 : (0 : Int) ≤ k := by omega
        have hi1 : (k : Int) < n := by omega
        have hm0 := hin.k0
        have hkk : (UInt8.ofNat k).toNat = k := by rw [UInt8.toNat_ofNat']; omega
        have HKK := Lib.hid hkk
        clear hkk
        have kA := ((Kept.refl No wr).alloc (.cells #[.int .u8 m.k, .int .u8 m.f, .int .u8 m.t, .int .i64 m.i, .slice (some ⟨wr.heap.size + 1, 0, none⟩) 1 1] 34)).alloc (.cells #[.int .u8 (k : Int)] 5)
        have hOA := hO.no kA
        have hactA := (Blk.new' (w := wr) rfl 34 [.int .u8 m.k, .int .u8 m.f, .int .u8 m.t, .int .i64 m.i, .slice (some ⟨wr.heap.size + 1, 0, none⟩) 1 1]).alloc (.cells #[.int .u8 (k : Int)] 5)
        have hbyA := Blk.new' (w := wr.alloc (.cells #[.int .u8 m.k, .int .u8 m.f, .int .u8 m.t, .int .i64 m.i, .slice (some ⟨wr.heap.size + 1, 0, none⟩) 1 1] 34)) (g := wr.heap.size + 1) (by simp) 5 [.int .u8 (k : Int)]
        have hlt0 := hO.net.lt
        go_wp2_with fail
        refine (s_at hOA.net m.i).mono ?_
        rintro e w4 ⟨a4, c4, S4, rfl, hc4, hr4, ha4, hS4, hg4⟩
        have hO4 := hOA.step hg4 hS4
        have hact4 := hactA.kept hg4.kept (fun h' => by have := hlt0 _ h'; omega)
        have hby4 := hbyA.kept hg4.kept (fun h' => by have := hlt0 _ h'; omega)
        have q0 := hact4.cell 0
        have q1 := hact4.cell 1
        have q2 := hact4.cell 2
        have q3 := hact4.cell 3
        have q4 := hact4.cell 4
        have qlt := hact4.lt
        by_cases hmk : m.k % 6 = 4 ∧ s.inside m.i
        · obtain ⟨hk4, hins⟩ := hmk
          obtain ⟨ni, x, hni, hx, hat⟩ := at_inside hins
          obtain ⟨u, hu, _, _⟩ := hinv.each x (List.mem_of_getElem? hx)
          obtain ⟨xf, xt, xb⟩ := x
          simp only at hu
          subst hu
          rw [hat] at hr4 ⊢
          obtain ⟨ga, oa, rfl, hca⟩ := hr4 0 (.int .u8 u.toNat) rfl
          rw [Nat.add_zero] at hca
          have hga := World.block_lt_of_cell? w4 _ hca
          have hx4 : (m.k % 6 == 4) = true := beq_iff_eq.2 hk4
          obtain ⟨w5, hrun5, hO5, hk5⟩ := (hO4.no ((Kept.refl No w4).alloc (.cells #[.int .u8 xf, .int .u8 xt, .slice (some ⟨ga, oa, none⟩) 1 c4] 36))).dblM (by unfold maxLen; omega) u
          have hb6 := hO.m6.lt
          have hne6 : wr.heap.size ≠ w2.heap.size + 1 := by omega
          have hne6' : wr.heap.size + 1 ≠ w2.heap.size + 1 := by omega
          have hact5 := (hact4.alloc (.cells #[.int .u8 xf, .int .u8 xt, .slice (some ⟨ga, oa, none⟩) 1 c4] 36)).kept hk5 hne6
          have hby5 := (hby4.alloc (.cells #[.int .u8 xf, .int .u8 xt, .slice (some ⟨ga, oa, none⟩) 1 c4] 36)).kept hk5 hne6'
          have hinv5 := hinv.mark u
          clear hact4 hby4
          have hrb : Rd w5 (some ⟨wr.heap.size + 1, 0, none⟩) (bcells [UInt8.ofNat k]) := by
            have e : bcells [UInt8.ofNat k] = [.int .u8 (k : Int)] := by simp [bcells, HKK.out]
            rw [e]; exact Rd.ofBlk' hby5
          have haft := once_does hinv5 (by omega) ⟨m.k, m.f, m.t, m.i, [UInt8.ofNat k]⟩ rfl (fun _ n' x' u' hn' hx' hu' => by
            have hnn : n' = ni := by
              have : m.i = n' := hn'
              omega
            subst hnn
            rw [hx] at hx'
            have e := Option.some.inj hx'
            subst e
            have : u = u' := by simpa using hu'
            rw [if_pos this.symm])
          have z0 := hact5.cell 0
          have z1 := hact5.cell 1
          have z2 := hact5.cell 2
          have z3 := hact5.cell 3
          have z4 := hact5.cell 4
          have zlt := hact5.lt
          have hltW := hO5.net.lt
          have hc200 : (cc + 1) ≤ 300 := by omega
          have HNI := Lib.hid hni; have HK4 := Lib.hid hk4; have HX := Lib.hid hx
          clear hni hk4 hx hat
          go_wp2_with fail
          refine (does_calls hO5.net ⟨m.k, m.f, m.t, m.i, [UInt8.ofNat k]⟩ _ 1 hrb hm0).mono ?_
          unfold OnceAft at haft
          generalize (s.does ⟨m.k, m.f, m.t, m.i, [UInt8.ofNat k]⟩).1 = y at *
          generalize (s.does ⟨m.k, m.f, m.t, m.i, [UInt8.ofNat k]⟩).2.1 = cd at *
          generalize (s.does ⟨m.k, m.f, m.t, m.i, [UInt8.ofNat k]⟩).2.2 = s2 at *
          rintro e w6 ⟨a6, c6, S6, rfl, hc6, hr6, ha6, hS6, hg6⟩
          have hO6 := hO5.step hg6 hS6
          have hact6 := hact5.kept hg6.kept (fun h' => (hg4.grow _ h').elim (fun e => by have := hlt0 _ e; omega) (fun e => by simp only [World.size_alloc] at e; omega))
          have g0 := hact6.cell 0
          have glt := hact6.lt
          clear z0 z1 z2 z3 z4 zlt q0 q1 q2 q3 q4 qlt
          rcases haft with ⟨e0, rfl, hinv6⟩ | ⟨e1, rfl, v, hyv, hsv, hdv, t0, t1, hinv6⟩ | ⟨hcd, hinv6⟩
          · have k0 : (m.k % 6 == 0) = true := beq_iff_eq.2 e0
            have HE := Lib.hid e0
            clear e0
            obtain ⟨w7, hrun7, hO7, hk7⟩ := (hO6.no ((Kept.refl No w6).alloc (.cells #[.int .u8 y.1, .int .u8 y.2.1, .slice a6 y.2.2.length c6] 39))).sentM (by unfold maxLen; omega) (UInt8.ofNat k)
            rw [HKK.out] at hrun7
            go_wp2
            go_roundw
            case rel => exact ⟨k + 1, cc + 1 + 1, s2, _, _, tak, S6, by omega, by go_num, by omega, hinv6, hO7⟩
            case measure => simp [intOf]; omega
          · obtain ⟨yf, yt, yb⟩ := y
            simp only at hyv
            subst hyv
            have e1' : m.k % 6 = 1 := e1
            have k0 : (m.k % 6 == 0) = false := beq_eq_false_iff_ne.2 (by omega)
            clear e1'
            have k1 : (m.k % 6 == 1) = true := beq_iff_eq.2 e1
            have HE := Lib.hid e1
            clear e1
            obtain ⟨g6, o6, rfl, hc6'⟩ := hr6 0 (.int .u8 v.toNat) rfl
            rw [Nat.add_zero] at hc6'
            have hg6l := World.block_lt_of_cell? w6 _ hc6'
            have hO6' := hO6.no ((Kept.refl No w6).alloc (.cells #[.int .u8 yf, .int .u8 yt, .slice (some ⟨g6, o6, none⟩) 1 c6] 39))
            have hl5 := hO6'.m5.look Try.u_byte Try.u_bool Try.u_mapB (Try.z_bool _) v
            rw [hsv] at hl5
            have hl7 := hO6'.m7.look Try.u_byte Try.u_int Try.u_mapI (Try.z_int _) v
            have hwf : (Lit.int .i64 (tak v + 1)).wf = true := by
              have h0 : IntKind.i64.min = -9223372036854775808 := rfl
              have h1 : IntKind.i64.max = 9223372036854775807 := rfl
              simp [Lit.wf, h0, h1]; omega
            obtain ⟨w7, hrun7, hO7, hk7⟩ := hO6'.takM (by unfold maxLen; omega) v (tak v + 1) hwf
            have hl7' := hO7.m7.look Try.u_byte Try.u_int Try.u_mapI (Try.z_int _) v
            rw [if_pos rfl] at hl7'
            have hl6' := hO7.m6.look Try.u_byte Try.u_bool Try.u_mapB (Try.z_bool _) v
            have t2 : tak v ≤ 300 := by omega
            cases hdb : (if v = u then true else dbl v) with
            | false =>
              have h00 := hdv hdb
              have k3 : decide (tak v + 1 > 1) = false := decide_eq_false (by omega)
              rw [hdb] at hl6'
              have HD := Lib.hid hdb; have HH := Lib.hid h00
              clear hdb h00 hdv
              go_wp2
              go_roundw
              case rel => exact ⟨k + 1, cc + 1 + 1, s2, _, _, _, S6, by omega, by go_num, by omega, hinv6, hO7⟩
              case measure => simp [intOf]; omega
            | true =>
              rw [hdb] at hl6'
              have HD := Lib.hid hdb
              clear hdb hdv
              by_cases h11 : 1 < tak v + 1
              · have k3 : decide (tak v + 1 > 1) = true := decide_eq_true (by omega)
                go_wp2
                go_roundw
                case rel => exact ⟨k + 1, cc + 1 + 1, s2, _, _, _, S6, by omega, by go_num, by omega, hinv6, hO7⟩
                case measure => simp [intOf]; omega
              · have k3 : decide (tak v + 1 > 1) = false := decide_eq_false (by omega)
                go_wp2
                go_roundw
                case rel => exact ⟨k + 1, cc + 1 + 1, s2, _, _, _, S6, by omega, by go_num, by omega, hinv6, hO7⟩
                case measure => simp [intOf]; omega
          · by_cases hcd0 : cd = 0
            · subst hcd0
              obtain ⟨n0, n1⟩ : m.k % 6 ≠ 0 ∧ m.k % 6 ≠ 1 := hcd.elim (fun h => absurd rfl h) id
              have k0 : (m.k % 6 == 0) = false := beq_eq_false_iff_ne.2 n0
              have k1 : (m.k % 6 == 1) = false := beq_eq_false_iff_ne.2 n1
              go_wp2
              go_roundw
              case rel => exact ⟨k + 1, cc + 1, s2, _, _, tak, S6, by omega, by go_num, by omega, hinv6, hO6.no ((Kept.refl No w6).alloc (.cells #[.int .u8 y.1, .int .u8 y.2.1, .slice a6 y.2.2.length c6] 39))⟩
              case measure => simp [intOf]; omega
            · have k9 : (cd != 0) = true := by rw [bne_iff_ne]; exact hcd0
              go_wp2
              go_roundw
              case rel => exact ⟨k + 1, cc + 1, s2, _, _, tak, S6, by omega, by go_num, by omega, hinv6, hO6.no ((Kept.refl No w6).alloc (.cells #[.int .u8 y.1, .int .u8 y.2.1, .slice a6 y.2.2.length c6] 39))⟩
              case measure => simp [intOf]; omega
        · generalize hx40 : (s.at m.i).1 = x4 at *
          generalize hc40 : (s.at m.i).2 = c0 at *
          have HX4 := Lib.hid hx40; have HC0 := Lib.hid hc40
          clear hx40 hc40
          have hO5 := hO4.no ((Kept.refl No w4).alloc (.cells #[.int .u8 x4.1, .int .u8 x4.2.1, .slice a4 x4.2.2.length c4] 36))
          have hact5 := hact4.alloc (.cells #[.int .u8 x4.1, .int .u8 x4.2.1, .slice a4 x4.2.2.length c4] 36)
          have hby5 := hby4.alloc (.cells #[.int .u8 x4.1, .int .u8 x4.2.1, .slice a4 x4.2.2.length c4] 36)
          by_cases hk4 : m.k % 6 = 4
          · have hx4 : (m.k % 6 == 4) = true := beq_iff_eq.2 hk4
            have hout : ¬ s.inside m.i := fun e => hmk ⟨hk4, e⟩
            have hc06 : c0 = 6 := by rw [← HC0.out, at_outside hout]
            subst hc06
            have HOUT := Lib.hid hout; have HK4 := Lib.hid hk4
            clear hout hk4 hmk
            have hrb : Rd (w4.alloc (.cells #[.int .u8 x4.1, .int .u8 x4.2.1, .slice a4 x4.2.2.length c4] 36)) (some ⟨wr.heap.size + 1, 0, none⟩) (bcells [UInt8.ofNat k]) := by
              have e : bcells [UInt8.ofNat k] = [.int .u8 (k : Int)] := by simp [bcells, HKK.out]
              rw [e]; exact Rd.ofBlk' hby5
            have haft := once_does hinv (by omega) ⟨m.k, m.f, m.t, m.i, [UInt8.ofNat k]⟩ rfl (fun _ n' x' u' hn' hx' _ => absurd (show s.inside m.i from by
              have e : m.i = n' := hn'
              have := (List.getElem?_eq_some_iff.1 hx').1
              exact ⟨by omega, by omega⟩) HOUT.out)
            have z0 := hact5.cell 0
            have z1 := hact5.cell 1
            have z2 := hact5.cell 2
            have z3 := hact5.cell 3
            have z4 := hact5.cell 4
            have zlt := hact5.lt
            have hltW := hO5.net.lt
            have hc200 : cc ≤ 300 := by omega
            go_wp2_with fail
            refine (does_calls hO5.net ⟨m.k, m.f, m.t, m.i, [UInt8.ofNat k]⟩ _ 1 hrb hm0).mono ?_
            unfold OnceAft at haft
            generalize (s.does ⟨m.k, m.f, m.t, m.i, [UInt8.ofNat k]⟩).1 = y at *
            generalize (s.does ⟨m.k, m.f, m.t, m.i, [UInt8.ofNat k]⟩).2.1 = cd at *
            generalize (s.does ⟨m.k, m.f, m.t, m.i, [UInt8.ofNat k]⟩).2.2 = s2 at *
            rintro e w6 ⟨a6, c6, S6, rfl, hc6, hr6, ha6, hS6, hg6⟩
            have hO6 := hO5.step hg6 hS6
            have hact6 := hact5.kept hg6.kept (fun h' => (hg4.grow _ h').elim (fun e => by have := hlt0 _ e; omega) (fun e => by simp only [World.size_alloc] at e; omega))
            have g0 := hact6.cell 0
            have glt := hact6.lt
            clear z0 z1 z2 z3 z4 zlt q0 q1 q2 q3 q4 qlt
            rcases haft with ⟨e0, rfl, hinv6⟩ | ⟨e1, rfl, v, hyv, hsv, hdv, t0, t1, hinv6⟩ | ⟨hcd, hinv6⟩
            · have k0 : (m.k % 6 == 0) = true := beq_iff_eq.2 e0
              have HE := Lib.hid e0
              clear e0
              obtain ⟨w7, hrun7, hO7, hk7⟩ := (hO6.no ((Kept.refl No w6).alloc (.cells #[.int .u8 y.1, .int .u8 y.2.1, .slice a6 y.2.2.length c6] 39))).sentM (by unfold maxLen; omega) (UInt8.ofNat k)
              rw [HKK.out] at hrun7
              go_wp2
              go_roundw
              case rel => exact ⟨k + 1, cc + 1, s2, _, _, tak, S6, by omega, by go_num, by omega, hinv6, hO7⟩
              case measure => simp [intOf]; omega
            · obtain ⟨yf, yt, yb⟩ := y
              simp only at hyv
              subst hyv
              have e1' : m.k % 6 = 1 := e1
              have k0 : (m.k % 6 == 0) = false := beq_eq_false_iff_ne.2 (by omega)
              clear e1'
              have k1 : (m.k % 6 == 1) = true := beq_iff_eq.2 e1
              have HE := Lib.hid e1
              clear e1
              obtain ⟨g6, o6, rfl, hc6'⟩ := hr6 0 (.int .u8 v.toNat) rfl
              rw [Nat.add_zero] at hc6'
              have hg6l := World.block_lt_of_cell? w6 _ hc6'
              have hO6' := hO6.no ((Kept.refl No w6).alloc (.cells #[.int .u8 yf, .int .u8 yt, .slice (some ⟨g6, o6, none⟩) 1 c6] 39))
              have hl5 := hO6'.m5.look Try.u_byte Try.u_bool Try.u_mapB (Try.z_bool _) v
              rw [hsv] at hl5
              have hl7 := hO6'.m7.look Try.u_byte Try.u_int Try.u_mapI (Try.z_int _) v
              have hwf : (Lit.int .i64 (tak v + 1)).wf = true := by
                have h0 : IntKind.i64.min = -9223372036854775808 := rfl
                have h1 : IntKind.i64.max = 9223372036854775807 := rfl
                simp [Lit.wf, h0, h1]; omega
              obtain ⟨w7, hrun7, hO7, hk7⟩ := hO6'.takM (by unfold maxLen; omega) v (tak v + 1) hwf
              have hl7' := hO7.m7.look Try.u_byte Try.u_int Try.u_mapI (Try.z_int _) v
              rw [if_pos rfl] at hl7'
              have hl6' := hO7.m6.look Try.u_byte Try.u_bool Try.u_mapB (Try.z_bool _) v
              have t2 : tak v ≤ 300 := by omega
              cases hdb : dbl v with
              | false =>
                have h00 := hdv hdb
                have k3 : decide (tak v + 1 > 1) = false := decide_eq_false (by omega)
                rw [hdb] at hl6'
                have HD := Lib.hid hdb; have HH := Lib.hid h00
                clear hdb h00 hdv
                go_wp2
                go_roundw
                case rel => exact ⟨k + 1, cc + 1, s2, _, _, _, S6, by omega, by go_num, by omega, hinv6, hO7⟩
                case measure => simp [intOf]; omega
              | true =>
                rw [hdb] at hl6'
                have HD := Lib.hid hdb
                clear hdb hdv
                by_cases h11 : 1 < tak v + 1
                · have k3 : decide (tak v + 1 > 1) = true := decide_eq_true (by omega)
                  go_wp2
                  go_roundw
                  case rel => exact ⟨k + 1, cc + 1, s2, _, _, _, S6, by omega, by go_num, by omega, hinv6, hO7⟩
                  case measure => simp [intOf]; omega
                · have k3 : decide (tak v + 1 > 1) = false := decide_eq_false (by omega)
                  go_wp2
                  go_roundw
                  case rel => exact ⟨k + 1, cc + 1, s2, _, _, _, S6, by omega, by go_num, by omega, hinv6, hO7⟩
                  case measure => simp [intOf]; omega
            · by_cases hcd0 : cd = 0
              · subst hcd0
                obtain ⟨n0, n1⟩ : m.k % 6 ≠ 0 ∧ m.k % 6 ≠ 1 := hcd.elim (fun h => absurd rfl h) id
                have k0 : (m.k % 6 == 0) = false := beq_eq_false_iff_ne.2 n0
                have k1 : (m.k % 6 == 1) = false := beq_eq_false_iff_ne.2 n1
                go_wp2
                go_roundw
                case rel => exact ⟨k + 1, cc, s2, _, _, tak, S6, by omega, by go_num, by omega, hinv6, hO6.no ((Kept.refl No w6).alloc (.cells #[.int .u8 y.1, .int .u8 y.2.1, .slice a6 y.2.2.length c6] 39))⟩
                case measure => simp [intOf]; omega
              · have k9 : (cd != 0) = true := by rw [bne_iff_ne]; exact hcd0
                go_wp2
                go_roundw
                case rel => exact ⟨k + 1, cc, s2, _, _, tak, S6, by omega, by go_num, by omega, hinv6, hO6.no ((Kept.refl No w6).alloc (.cells #[.int .u8 y.1, .int .u8 y.2.1, .slice a6 y.2.2.length c6] 39))⟩
                case measure => simp [intOf]; omega
          · have hx4 : (m.k % 6 == 4) = false := beq_eq_false_iff_ne.2 hk4
            have HK4 := Lib.hid hk4
            clear hk4 hmk
            have hrb : Rd (w4.alloc (.cells #[.int .u8 x4.1, .int .u8 x4.2.1, .slice a4 x4.2.2.length c4] 36)) (some ⟨wr.heap.size + 1, 0, none⟩) (bcells [UInt8.ofNat k]) := by
              have e : bcells [UInt8.ofNat k] = [.int .u8 (k : Int)] := by simp [bcells, HKK.out]
              rw [e]; exact Rd.ofBlk' hby5
            have haft := once_does hinv (by omega) ⟨m.k, m.f, m.t, m.i, [UInt8.ofNat k]⟩ rfl (fun e => absurd (show m.k % 6 = 4 from e) HK4.out)
            have z0 := hact5.cell 0
            have z1 := hact5.cell 1
            have z2 := hact5.cell 2
            have z3 := hact5.cell 3
            have z4 := hact5.cell 4
            have zlt := hact5.lt
            have hltW := hO5.net.lt
            have hc200 : cc ≤ 300 := by omega
            go_wp2_with fail
            refine (does_calls hO5.net ⟨m.k, m.f, m.t, m.i, [UInt8.ofNat k]⟩ _ 1 hrb hm0).mono ?_
            unfold OnceAft at haft
            generalize (s.does ⟨m.k, m.f, m.t, m.i, [UInt8.ofNat k]⟩).1 = y at *
            generalize (s.does ⟨m.k, m.f, m.t, m.i, [UInt8.ofNat k]⟩).2.1 = cd at *
            generalize (s.does ⟨m.k, m.f, m.t, m.i, [UInt8.ofNat k]⟩).2.2 = s2 at *
            rintro e w6 ⟨a6, c6, S6, rfl, hc6, hr6, ha6, hS6, hg6⟩
            have hO6 := hO5.step hg6 hS6
            have hact6 := hact5.kept hg6.kept (fun h' => (hg4.grow _ h').elim (fun e => by have := hlt0 _ e; omega) (fun e => by simp only [World.size_alloc] at e; omega))
            have g0 := hact6.cell 0
            have glt := hact6.lt
            clear z0 z1 z2 z3 z4 zlt q0 q1 q2 q3 q4 qlt
            rcases haft with ⟨e0, rfl, hinv6⟩ | ⟨e1, rfl, v, hyv, hsv, hdv, t0, t1, hinv6⟩ | ⟨hcd, hinv6⟩
            · have k0 : (m.k % 6 == 0) = true := beq_iff_eq.2 e0
              have HE := Lib.hid e0
              clear e0
              obtain ⟨w7, hrun7, hO7, hk7⟩ := (hO6.no ((Kept.refl No w6).alloc (.cells #[.int .u8 y.1, .int .u8 y.2.1, .slice a6 y.2.2.length c6] 39))).sentM (by unfold maxLen; omega) (UInt8.ofNat k)
              rw [HKK.out] at hrun7
              go_wp2
              go_roundw
              case rel => exact ⟨k + 1, cc + 1, s2, _, _, tak, S6, by omega, by go_num, by omega, hinv6, hO7⟩
              case measure => simp [intOf]; omega
            · obtain ⟨yf, yt, yb⟩ := y
              simp only at hyv
              subst hyv
              have e1' : m.k % 6 = 1 := e1
              have k0 : (m.k % 6 == 0) = false := beq_eq_false_iff_ne.2 (by omega)
              clear e1'
              have k1 : (m.k % 6 == 1) = true := beq_iff_eq.2 e1
              have HE := Lib.hid e1
              clear e1
              obtain ⟨g6, o6, rfl, hc6'⟩ := hr6 0 (.int .u8 v.toNat) rfl
              rw [Nat.add_zero] at hc6'
              have hg6l := World.block_lt_of_cell? w6 _ hc6'
              have hO6' := hO6.no ((Kept.refl No w6).alloc (.cells #[.int .u8 yf, .int .u8 yt, .slice (some ⟨g6, o6, none⟩) 1 c6] 39))
              have hl5 := hO6'.m5.look Try.u_byte Try.u_bool Try.u_mapB (Try.z_bool _) v
              rw [hsv] at hl5
              have hl7 := hO6'.m7.look Try.u_byte Try.u_int Try.u_mapI (Try.z_int _) v
              have hwf : (Lit.int .i64 (tak v + 1)).wf = true := by
                have h0 : IntKind.i64.min = -9223372036854775808 := rfl
                have h1 : IntKind.i64.max = 9223372036854775807 := rfl
                simp [Lit.wf, h0, h1]; omega
              obtain ⟨w7, hrun7, hO7, hk7⟩ := hO6'.takM (by unfold maxLen; omega) v (tak v + 1) hwf
              have hl7' := hO7.m7.look Try.u_byte Try.u_int Try.u_mapI (Try.z_int _) v
              rw [if_pos rfl] at hl7'
              have hl6' := hO7.m6.look Try.u_byte Try.u_bool Try.u_mapB (Try.z_bool _) v
              have t2 : tak v ≤ 300 := by omega
              cases hdb : dbl v with
              | false =>
                have h00 := hdv hdb
                have k3 : decide (tak v + 1 > 1) = false := decide_eq_false (by omega)
                rw [hdb] at hl6'
                have HD := Lib.hid hdb; have HH := Lib.hid h00
                clear hdb h00 hdv
                go_wp2
                go_roundw
                case rel => exact ⟨k + 1, cc + 1, s2, _, _, _, S6, by omega, by go_num, by omega, hinv6, hO7⟩
                case measure => simp [intOf]; omega
              | true =>
                rw [hdb] at hl6'
                have HD := Lib.hid hdb
                clear hdb hdv
                by_cases h11 : 1 < tak v + 1
                · have k3 : decide (tak v + 1 > 1) = true := decide_eq_true (by omega)
                  go_wp2
                  go_roundw
                  case rel => exact ⟨k + 1, cc + 1, s2, _, _, _, S6, by omega, by go_num, by omega, hinv6, hO7⟩
                  case measure => simp [intOf]; omega
                · have k3 : decide (tak v + 1 > 1) = false := decide_eq_false (by omega)
                  go_wp2
                  go_roundw
                  case rel => exact ⟨k + 1, cc + 1, s2, _, _, _, S6, by omega, by go_num, by omega, hinv6, hO7⟩
                  case measure => simp [intOf]; omega
            · by_cases hcd0 : cd = 0
              · subst hcd0
                obtain ⟨n0, n1⟩ : m.k % 6 ≠ 0 ∧ m.k % 6 ≠ 1 := hcd.elim (fun h => absurd rfl h) id
                have k0 : (m.k % 6 == 0) = false := beq_eq_false_iff_ne.2 n0
                have k1 : (m.k % 6 == 1) = false := beq_eq_false_iff_ne.2 n1
                go_wp2
                go_roundw
                case rel => exact ⟨k + 1, cc, s2, _, _, tak, S6, by omega, by go_num, by omega, hinv6, hO6.no ((Kept.refl No w6).alloc (.cells #[.int .u8 y.1, .int .u8 y.2.1, .slice a6 y.2.2.length c6] 39))⟩
                case measure => simp [intOf]; omega
              · have k9 : (cd != 0) = true := by rw [bne_iff_ne]; exact hcd0
                go_wp2
                go_roundw
                case rel => exact ⟨k + 1, cc, s2, _, _, tak, S6, by omega, by go_num, by omega, hinv6, hO6.no ((Kept.refl No w6).alloc (.cells #[.int .u8 y.1, .int .u8 y.2.1, .slice a6 y.2.2.length c6] 39))⟩
                case measure => simp [intOf]; omega
      · go_wp2_with fail
        refine (net_alive _).mono ?_
        rintro e w5 ⟨rfl, hk5⟩
        go_wp2
        go_ret
        exact ⟨rfl, hO.kept.transNo hk5⟩
end Go.Proofs.Ytdolddgmemlofaa
