/- NetOwn: the walk itself. -/
import Derived.Test.YtdolddgmemlofaaNetOwn
namespace Go.Proofs.Ytdolddgmemlofaa
open Go.RowKit Go.PM

set_option maxRecDepth 100000 in
set_option maxHeartbeats 1000000 in
theorem own_long (m : AM) (w : World) (hB : 4000 < m.b.length) (hI : m.In w) :
    Calls Try.prog 7 #[.agg m.cells.toArray] w fun e w' => e = .returned (.bool true) ∧ Kept No w w' := by
  have hmx := hI.b.max
  have hle := hI.b.le
  unfold maxLen at hmx
  unfold AM.cells
  go_enter Try.func7, Try.ntmps7
  go_wp2_with (go_at_call 15; go_must (refine (new_calls 4 _ (by omega) (by omega)).mono ?_; rintro e w1 ⟨rfl, hb, hk1⟩; have hc := (Blk.new' (w := w) rfl 34 [.int .u8 m.k, .int .u8 m.f, .int .u8 m.t, .int .i64 m.i, .slice m.a m.b.length m.c]).kept hk1 id; have hc4 := hc.cell 4))
  refine (net_alive _).mono ?_
  rintro e w2 ⟨rfl, hk2⟩
  go_wp2
  go_ret
  exact ⟨rfl, (((Kept.refl No w).alloc _).transNo hk1).transNo hk2⟩

def OwnRel3 (w : World) (act : List Value) (zb sb : Nat) (i : Value) (wr : World) : Prop :=
  ∃ k : Nat, k ≤ 2 ∧ i = .int .i64 k ∧ Kept No w wr ∧ Blk wr w.heap.size 34 act ∧ NetB wr zb 0 none 0 0 0 ∧ Blk wr sb 25 [.pointer none, .pointer (some ⟨zb, 0, none⟩)]

set_option maxRecDepth 100000 in
set_option maxHeartbeats 4000000 in
theorem own_main (m : AM) (w : World) (hB : m.b.length ≤ 4000) (hI : m.In w) :
    Calls Try.prog 7 #[.agg m.cells.toArray] w fun e w' => e = .returned (.bool true) ∧ Kept No w w' := by
  obtain ⟨i0, hi, hz0, hz1, hz2⟩ := info_parts Try.inf_byte
  have hbc := bcells_one m.b
  unfold AM.cells
  go_enter Try.func7, Try.ntmps7
  go_wp2_with (first
    | (go_at_call 15; go_must (refine (new_calls 4 _ (by omega) (by omega)).mono ?_; rintro e w1 ⟨rfl, hb, hk1⟩; have hc := (Blk.new' (w := w) rfl 34 [.int .u8 m.k, .int .u8 m.f, .int .u8 m.t, .int .i64 m.i, .slice m.a m.b.length m.c]).kept hk1 id; have hc4 := hc.cell 4))
    | (at_builtin; go_must (refine wpList_append rfl (.const (.slice none 0 0)) (.tmp 41) 32 rfl 5 i0 _ 1 1 Try.u_bytes hi hz0 hz1 hz2 rfl (by decide) none 0 0 [] rfl (Own.nil _ _ _) m.a m.b.length m.c (bcells m.b) rfl hI.b.nil (by simp) (hI.b.rd.keptNo (((Kept.refl No w).alloc _).transNo hk1)) hbc (by unfold maxLen; omega) (by omega) ?_; intro a2 c2 w2 hap)))
  have hS1 : NetS w1 (w.heap.size + 1) ⟨4, 0, []⟩ (· = w.heap.size + 1) := by
    have h := s_new (by omega) (by omega) hb hk1
    simpa only [World.size_alloc] using h
  have hn1 : New w (· = w.heap.size + 1) := fun b hb => by omega
  have hkk1 := ((Kept.refl No w).alloc (.cells #[.int .u8 m.k, .int .u8 m.f, .int .u8 m.t, .int .i64 m.i, .slice m.a m.b.length m.c] 34)).transNo hk1
  clear hb hk1
  rw [Nat.zero_add, List.nil_append] at hap
  have hk2 : Kept No w1 w2 := hap.kept.mono fun _ _ ⟨_, _, h, _⟩ => nomatch h
  have hS2 := hS1.keptNo hk2
  have hkk2 := hkk1.transNo hk2
  have hc2 := hc.kept hk2 id
  have hsz := hk2.size
  have hclt := hc.lt
  have hat : ∀ k, At a2 k → w1.heap.size ≤ k := fun k hk => (hap.at_ k hk).elim (fun ⟨_, _, h, _⟩ => nomatch h) id
  have hO2 := hap.own
  have hp1 := hS1.lt _ hS1.sp
  clear hap hc4 hc hk2 hS1 hkk1
  have hse : PN.send ⟨4, 0, []⟩ (0, 0, m.b) = (0, ⟨4, 0, [(0, 0, m.b)]⟩) := by
    unfold PN.send
    rw [if_pos (show max (0 : Int) 0 < 8 by decide), if_pos (show m.b.length ≤ 4096 by omega), if_pos (by simp)]; rfl
  have htw : PN.twice ⟨4, 0, [(0, 0, m.b)]⟩ 0 = (0, ⟨4, 0, [(0, 0, m.b), (0, 0, m.b)]⟩) := by
    unfold PN.twice PN.inside PN.at; simp
  have HSE := Lib.hid hse
  have HTW := Lib.hid htw
  clear hse htw
  refine (s_send hS2 (0, 0, m.b) a2 c2 hO2.rd).mono ?_
  rw [HSE.out]
  rintro e w3 ⟨S3, rfl, hS3, hg3⟩
  go_wp2_with fail
  refine (s_twice hS3 0).mono ?_
  rw [HTW.out]
  rintro e w4 ⟨S4, rfl, hS4, hg4⟩
  obtain ⟨hkk3, hn3⟩ := hg3.new hkk2 hn1
  obtain ⟨hkk4, hn4⟩ := hg4.new hkk3 hn3
  have hsz3 := hg3.kept.size
  have hat3 : ∀ k, At a2 k → ¬ S3 k := fun k hk h' => (hg3.grow k h').elim (fun (e : k = w.heap.size + 1) => by have := hat k hk; omega) (fun h => by have := hO2.lt k hk; omega)
  have hat4 : ∀ k, At a2 k → ¬ S4 k := fun k hk h' => (hg4.grow k h').elim (hat3 k hk) (fun h => by have := hO2.lt k hk; omega)
  have hO4 := (hO2.kept hg3.kept (fun k hk (e : k = w.heap.size + 1) => by have := hat k hk; omega)).kept hg4.kept hat3
  have hc4 := (hc2.kept hg3.kept (fun (e : w.heap.size = w.heap.size + 1) => by omega)).kept hg4.kept (fun e => (hg3.grow _ e).elim (fun (e : w.heap.size = w.heap.size + 1) => by omega) (by omega))
  have hns : ¬ S4 w.heap.size := fun e => (hg4.grow _ e).elim (fun e => (hg3.grow _ e).elim (fun (e : w.heap.size = w.heap.size + 1) => by omega) (by omega)) (by omega)
  have hW4 : WSt w (w.heap.size + 1) ⟨4, 0, [(0, 0, m.b), (0, 0, m.b)]⟩ S4 [.int .u8 m.k, .int .u8 m.f, .int .u8 m.t, .int .i64 m.i, .slice m.a m.b.length m.c] a2 m.b.length w4 :=
    ⟨hS4, hn4, hkk4, hc4, ⟨_, _, hO4, byt_bcells _⟩, fun b hb => ⟨by have := hat b hb; omega, hat4 b hb⟩⟩
  clear hS2 hS3 hS4 hg3 hg4 hO2 hO4 hc2 hc4 hkk2 hkk3 hkk4 hn1 hn3 hn4 hat hat3 hat4
  have HBC := Lib.hid hbc
  have hlm : m.b.length ≤ maxLen := by unfold maxLen; omega
  clear hbc
  go_wp2_with fail
  go_loopw [55] (fun i wr => OwnRel1 w (w.heap.size + 1) ⟨4, 0, [(0, 0, m.b), (0, 0, m.b)]⟩ S4 [.int .u8 m.k, .int .u8 m.f, .int .u8 m.t, .int .i64 m.i, .slice m.a m.b.length m.c] a2 m.b.length i wr) (fun i _ => m.b.length - (intOf i).toNat)
  case atStart => exact ⟨0, Nat.zero_le _, rfl, hW4⟩
  case round =>
    obtain ⟨k, hk, rfl, hW⟩ := hrel
    by_cases hlt : k < m.b.length
    · obtain ⟨g, v, rfl, v0, v1, hv, hf, hg, hput⟩ := hW.bump hlt
      have hi0 : (0 : Int) ≤ k := by omega
      have hi1 : (k : Int) < m.b.length := by omega
      by_cases hv255 : v = 255
      · subst hv255
        go_wp2
        go_roundw
        case rel => exact ⟨k + 1, by omega, by go_num, hput 0 (by omega) (by omega)⟩
        case measure => simp [intOf]; omega
      · have hv1 : v ≤ 254 := by omega
        clear hv255
        go_wp2
        go_roundw
        case rel => exact ⟨k + 1, by omega, by go_num, hput (v + 1) (by omega) (by omega)⟩
        case measure => simp [intOf]; omega
    · obtain rfl : k = m.b.length := by omega
      clear hlt
      go_wp2_with fail
      refine (s_at0 hW.net (0, 0, m.b) _ rfl).mono ?_
      rintro e w5 ⟨g5, rfl, hge5, hb5, hk5⟩
      have hW5 := hW.next hk5 hge5 hb5 hlm (.cells #[.int .u8 0, .int .u8 0, .slice (some ⟨g5, 0, none⟩) m.b.length m.b.length] 36)
      have hne5 : g5 ≠ w5.heap.size := by have := hb5.lt; omega
      clear hW hb5
      go_wp2_with fail
      go_loopw [73] (fun i wr => OwnRel2 w (w.heap.size + 1) ⟨4, 0, [(0, 0, m.b), (0, 0, m.b)]⟩ S4 [.int .u8 m.k, .int .u8 m.f, .int .u8 m.t, .int .i64 m.i, .slice m.a m.b.length m.c] g5 m.b.length w5.heap.size i wr) (fun i _ => m.b.length - (intOf i).toNat)
      case atStart => exact ⟨0, Nat.zero_le _, rfl, hW5, Blk.new' rfl _ _, hne5⟩
      case round =>
        obtain ⟨k, hk, rfl, hW, hbx, hne⟩ := hrel
        have x2 := hbx.cell 2
        have xlt := hbx.lt
        by_cases hlt : k < m.b.length
        · obtain ⟨g, v, e, v0, v1, hv, hf, hg, hput⟩ := hW.bump hlt
          simp only [Option.some.injEq, Addr.mk.injEq, and_true] at e
          subst e
          have hi0 : (0 : Int) ≤ k := by omega
          have hi1 : (k : Int) < m.b.length := by omega
          by_cases hv255 : v = 255
          · subst hv255
            go_wp2
            go_roundw
            case rel => exact ⟨k + 1, by omega, by go_num, hput 0 (by omega) (by omega), hbx.setOther (a := ⟨g5, k, none⟩) hne.symm _, hne⟩
            case measure => simp [intOf]; omega
          · have hv1 : v ≤ 254 := by omega
            clear hv255
            go_wp2
            go_roundw
            case rel => exact ⟨k + 1, by omega, by go_num, hput (v + 1) (by omega) (by omega), hbx.setOther (a := ⟨g5, k, none⟩) hne.symm _, hne⟩
            case measure => simp [intOf]; omega
        · obtain rfl : k = m.b.length := by omega
          clear hlt
          go_wp2_with fail
          refine (s_take0 hW.net (0, 0, m.b) _ rfl).mono ?_
          rintro e w6 ⟨g6, rfl, hge6, hb6, hS6, hk6⟩
          have hW6 := hW.took hk6 hS6 hge6 hb6 hlm hns (.cells #[.int .u8 0, .int .u8 0, .slice (some ⟨g6, 0, none⟩) m.b.length m.b.length] 36)
          have hne6 : g6 ≠ w6.heap.size := by have := hb6.lt; omega
          clear hW hb6 hS6 x2
          go_wp2_with fail
          go_loopw [92] (fun i wr => OwnRel2 w (w.heap.size + 1) ⟨4, 0, [(0, 0, m.b)]⟩ S4 [.int .u8 m.k, .int .u8 m.f, .int .u8 m.t, .int .i64 m.i, .slice m.a m.b.length m.c] g6 m.b.length w6.heap.size i wr) (fun i _ => m.b.length - (intOf i).toNat)
          case atStart => exact ⟨0, Nat.zero_le _, rfl, hW6, Blk.new' rfl _ _, hne6⟩
          case round =>
            obtain ⟨k, hk, rfl, hW, hbx, hne⟩ := hrel
            have x2 := hbx.cell 2
            have xlt := hbx.lt
            by_cases hlt : k < m.b.length
            · obtain ⟨g, v, e, v0, v1, hv, hf, hg, hput⟩ := hW.bump hlt
              simp only [Option.some.injEq, Addr.mk.injEq, and_true] at e
              subst e
              have hi0 : (0 : Int) ≤ k := by omega
              have hi1 : (k : Int) < m.b.length := by omega
              by_cases hv255 : v = 255
              · subst hv255
                go_wp2
                go_roundw
                case rel => exact ⟨k + 1, by omega, by go_num, hput 0 (by omega) (by omega), hbx.setOther (a := ⟨g6, k, none⟩) hne.symm _, hne⟩
                case measure => simp [intOf]; omega
              · have hv1 : v ≤ 254 := by omega
                clear hv255
                go_wp2
                go_roundw
                case rel => exact ⟨k + 1, by omega, by go_num, hput (v + 1) (by omega) (by omega), hbx.setOther (a := ⟨g6, k, none⟩) hne.symm _, hne⟩
                case measure => simp [intOf]; omega
            · obtain rfl : k = m.b.length := by omega
              clear hlt
              go_wp2_with fail
              refine (s_take0 hW.net (0, 0, m.b) _ rfl).mono ?_
              rintro e w7 ⟨g7, rfl, hge7, hb7, hS7, hk7⟩
              have hW7 := hW.took hk7 hS7 hge7 hb7 hlm hns (.cells #[.int .u8 0, .int .u8 0, .slice (some ⟨g7, 0, none⟩) m.b.length m.b.length] 36)
              have hr7 : Rd (w7.alloc (.cells #[.int .u8 0, .int .u8 0, .slice (some ⟨g7, 0, none⟩) m.b.length m.b.length] 36)) (some ⟨g7, 0, none⟩) (bcells m.b) := Rd.ofBlk' (hb7.alloc _)
              have hkk7 := hW7.kept
              have hact7 := hW7.act
              have hact4 := hact7.cell 4
              have halt := hact7.lt
              clear hW hb7 hS7 x2 hW7
              go_wp2_with (go_at_call 31; go_must (refine (same_calls _ _ _ _ _ _ hr7 (hI.b.rd.keptNo hkk7)).mono ?_))
              rintro e w8 ⟨rfl, rfl⟩
              rw [beq_self_eq_true]
              have hzb := Blk.new' (w := w7.alloc (.cells #[.int .u8 0, .int .u8 0, .slice (some ⟨g7, 0, none⟩) m.b.length m.b.length] 36)) (g := w7.heap.size + 1) (by simp) 65 [.int .i64 0, .slice none 0 0, .int .u32 0]
              have hsb := Blk.new' (w := (w7.alloc (.cells #[.int .u8 0, .int .u8 0, .slice (some ⟨g7, 0, none⟩) m.b.length m.b.length] 36)).alloc (.cells #[.int .i64 0, .slice none 0 0, .int .u32 0] 65)) (g := w7.heap.size + 1 + 1) (by simp) 25 [.pointer none, .pointer (some ⟨w7.heap.size + 1, 0, none⟩)]
              go_wp2_with fail
              go_loopw [126] (fun i wr => OwnRel3 w [.int .u8 m.k, .int .u8 m.f, .int .u8 m.t, .int .i64 m.i, .slice m.a m.b.length m.c] (w7.heap.size + 1) (w7.heap.size + 1 + 1) i wr) (fun i _ => 2 - (intOf i).toNat)
              case atStart => exact ⟨0, by omega, rfl, (hkk7.alloc _).alloc _, (hact7.alloc _).alloc _, hzb.alloc _, hsb⟩
              case round =>
                clear hkk7 hact7 hact4 halt hr7 hzb hsb
                obtain ⟨k, hk, rfl, hkept, hact, hz, hs⟩ := hrel
                have a0 := hact.cell 0
                have a1 := hact.cell 1
                have a2' := hact.cell 2
                have a3 := hact.cell 3
                have a4 := hact.cell 4
                have s0 := hs.cell 0
                have s1 := hs.cell 1
                have halt := hact.lt
                have hslt := hs.lt
                have hm0 := hI.k0
                by_cases h0 : k = 0
                · subst h0
                  have hbad : Bad wr none := .inl rfl
                  go_wp2_with fail
                  refine (bad_does hbad ⟨m.k, m.f, m.t, m.i, m.b⟩ m.a m.c hI.k0).mono ?_
                  rintro e w9 ⟨rfl, hk9⟩
                  have hkB := hk9.alloc (.cells #[.int .u8 0, .int .u8 0, .slice none 0 0] 39)
                  have hbadB := hbad.keptNo hkB
                  have hactB := hact.kept hkB id
                  have hbxB := Blk.new' (w := w9) rfl 39 [.int .u8 0, .int .u8 0, .slice none 0 0]
                  have c2' := (hact.kept hk9 id).cell 2
                  have clt := (hact.kept hk9 id).lt
                  clear a0 a1 a2' a3 a4 s0 s1
                  go_wp2_with fail
                  go_region_held3 (fun w' => w'.cell? ⟨w.heap.size, 2, none⟩ = some (.int .u8 m.t) ∧ w'.cell? ⟨w9.heap.size, 0, none⟩ = some (.int .u8 0) ∧ w'.cell? ⟨w9.heap.size, 1, none⟩ = some (.int .u8 0) ∧ w'.cell? ⟨w9.heap.size, 2, none⟩ = some (.slice none 0 0))
                    (first | exact ⟨hactB.cell 2, hbxB.cell 0, hbxB.cell 1, hbxB.cell 2⟩ | exact ⟨q0, q1, q2, q3⟩ | go_keep)
                    (first
                      | (go_at_call 23; refine (wire_same (0, 0, []) (0, 0, []) none none 0 0 _ (Rd.nil _ _) (Rd.nil _ _) rfl).mono ?_; rintro e w10 ⟨rfl, hk0⟩; have hk10 : Kept No (w9.alloc (.cells #[.int .u8 0, .int .u8 0, .slice none 0 0] 39)) w10 := (by first | exact hk0 | exact ((Kept.refl No _).drewN _).transNo hk0 | exact ((Kept.refl No _).drew).transNo hk0 | exact ((Kept.refl No _).drew.drew).transNo hk0 | exact ((Kept.refl No _).drew.drew.drew).transNo hk0); have q0 : w10.cell? ⟨w.heap.size, 2, none⟩ = some (.int .u8 m.t) := (hactB.kept hk10 id).cell 2; have q1 : w10.cell? ⟨w9.heap.size, 0, none⟩ = some (.int .u8 0) := (hbxB.kept hk10 id).cell 0; have q2 : w10.cell? ⟨w9.heap.size, 1, none⟩ = some (.int .u8 0) := (hbxB.kept hk10 id).cell 1; have q3 : w10.cell? ⟨w9.heap.size, 2, none⟩ = some (.slice none 0 0) := (hbxB.kept hk10 id).cell 2)
                      | (go_at_call 20; refine (bad_len (hbadB.keptNo hk10)).mono ?_; rintro e w11 ⟨rfl, rfl⟩)
                      | (go_at_call 24; refine (bad_lost (hbadB.keptNo hk10)).mono ?_; rintro e w11 ⟨rfl, rfl⟩)
                      | (go_at_call 26; refine (bad_to (hbadB.keptNo hk10) _).mono ?_; rintro e w11 ⟨rfl, rfl⟩))
                  go_wp2
                  go_roundw
                  case rel => exact ⟨1, by omega, by go_num, hkept.transNo (hkB.transNo hk10), hactB.kept hk10 id, Blk.kept hz (hkB.transNo hk10) id, hs.kept (hkB.transNo hk10) id⟩
                  case measure => simp [intOf]
                · by_cases h1 : k = 1
                  · subst h1
                    have hbad : Bad wr (some ⟨w7.heap.size + 1, 0, none⟩) := .inr ⟨_, rfl, hz⟩
                    go_wp2_with fail
                    refine (bad_does hbad ⟨m.k, m.f, m.t, m.i, m.b⟩ m.a m.c hI.k0).mono ?_
                    rintro e w9 ⟨rfl, hk9⟩
                    have hkB := hk9.alloc (.cells #[.int .u8 0, .int .u8 0, .slice none 0 0] 39)
                    have hbadB := hbad.keptNo hkB
                    have hactB := hact.kept hkB id
                    have hbxB := Blk.new' (w := w9) rfl 39 [.int .u8 0, .int .u8 0, .slice none 0 0]
                    have c2' := (hact.kept hk9 id).cell 2
                    have clt := (hact.kept hk9 id).lt
                    clear a0 a1 a2' a3 a4 s0 s1
                    go_wp2_with fail
                    go_region_held3 (fun w' => w'.cell? ⟨w.heap.size, 2, none⟩ = some (.int .u8 m.t) ∧ w'.cell? ⟨w9.heap.size, 0, none⟩ = some (.int .u8 0) ∧ w'.cell? ⟨w9.heap.size, 1, none⟩ = some (.int .u8 0) ∧ w'.cell? ⟨w9.heap.size, 2, none⟩ = some (.slice none 0 0))
                      (first | exact ⟨hactB.cell 2, hbxB.cell 0, hbxB.cell 1, hbxB.cell 2⟩ | exact ⟨q0, q1, q2, q3⟩ | go_keep)
                      (first
                        | (go_at_call 23; refine (wire_same (0, 0, []) (0, 0, []) none none 0 0 _ (Rd.nil _ _) (Rd.nil _ _) rfl).mono ?_; rintro e w10 ⟨rfl, hk0⟩; have hk10 : Kept No (w9.alloc (.cells #[.int .u8 0, .int .u8 0, .slice none 0 0] 39)) w10 := (by first | exact hk0 | exact ((Kept.refl No _).drewN _).transNo hk0 | exact ((Kept.refl No _).drew).transNo hk0 | exact ((Kept.refl No _).drew.drew).transNo hk0 | exact ((Kept.refl No _).drew.drew.drew).transNo hk0); have q0 : w10.cell? ⟨w.heap.size, 2, none⟩ = some (.int .u8 m.t) := (hactB.kept hk10 id).cell 2; have q1 : w10.cell? ⟨w9.heap.size, 0, none⟩ = some (.int .u8 0) := (hbxB.kept hk10 id).cell 0; have q2 : w10.cell? ⟨w9.heap.size, 1, none⟩ = some (.int .u8 0) := (hbxB.kept hk10 id).cell 1; have q3 : w10.cell? ⟨w9.heap.size, 2, none⟩ = some (.slice none 0 0) := (hbxB.kept hk10 id).cell 2)
                        | (go_at_call 20; refine (bad_len (hbadB.keptNo hk10)).mono ?_; rintro e w11 ⟨rfl, rfl⟩)
                        | (go_at_call 24; refine (bad_lost (hbadB.keptNo hk10)).mono ?_; rintro e w11 ⟨rfl, rfl⟩)
                        | (go_at_call 26; refine (bad_to (hbadB.keptNo hk10) _).mono ?_; rintro e w11 ⟨rfl, rfl⟩))
                    go_wp2
                    go_roundw
                    case rel => exact ⟨2, by omega, by go_num, hkept.transNo (hkB.transNo hk10), hactB.kept hk10 id, Blk.kept hz (hkB.transNo hk10) id, hs.kept (hkB.transNo hk10) id⟩
                    case measure => simp [intOf]
                  · obtain rfl : k = 2 := by omega
                    go_wp2_with fail
                    refine (net_alive _).mono ?_
                    rintro e w9 ⟨rfl, hk9⟩
                    go_wp2
                    go_ret
                    exact ⟨rfl, hkept.transNo hk9⟩
end Go.Proofs.Ytdolddgmemlofaa
