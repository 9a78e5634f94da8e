/- DiskOwn: the walk itself. -/
import Derived.Test.YtdolddgmemlofaaDiskOwn
namespace Go.Proofs.Ytdolddgmemlofaa
open Go.RowKit Go.PM
set_option maxRecDepth 100000

theorem d_append_neq {w : World} {p : Nat} {s : PD} {a : Option Addr} {cap : Nat} {S : Nat → Prop} (h : DX w p s a cap S) (hlo : s.fr ≤ 4611686018427387904) (x : List UInt8) (n : Nat) (hn : x.length = n) (a2 : Option Addr) (c2 : Nat) (hr : Rd w a2 (bcells x)) (hc2 : a2 = none → c2 = 0) {m g : Int} {t : PD} (e : s.append x = (m, g, t)) :
    Calls Try.prog 33 #[.pointer (some ⟨p, 0, none⟩), .slice a2 n c2] w (DTwo w p S (m, g, t)) := by subst hn; exact d_append_eq h hlo x a2 c2 hr hc2 e
theorem d_start_neq {w : World} {p : Nat} {s : PD} {a : Option Addr} {cap : Nat} {S : Nat → Prop} (h : DX w p s a cap S) (hlo : s.fr ≤ 4611686018427387904) (keep : Int) (hk0 : -9223372036854775808 ≤ keep) (hk1 : keep ≤ 9223372036854775807) (cut : Bool) (tail : List UInt8) (n : Nat) (hn : tail.length = n) (at_ : Option Addr) (ct : Nat) (hr : Rd w at_ (bcells tail)) (hct : at_ = none → ct = 0) {g : Int} {t : PD} (e : s.start keep cut tail = (g, t)) :
    Calls Try.prog 45 #[.pointer (some ⟨p, 0, none⟩), .int .i64 keep, .bool cut, .slice at_ n ct] w (DCode w p S (g, t)) := by subst hn; exact d_start_eq h hlo keep hk0 hk1 cut tail at_ ct hr hct e

set_option maxHeartbeats 8000000 in
theorem own_short (a1 a2 : Option Addr) (c1 c2 : Nat) (l1 l2 : List UInt8) (nn : Int) (w : World) (h1 : InB w a1 c1 l1) (h2 : InB w a2 c2 l2) (hs : l1.length + l2.length ≤ 32768) (n1 n2 : Nat) (hn1 : l1.length = n1) (hn2 : l2.length = n2) :
    Calls Try.prog 12 #[.slice a1 n1 c1, .slice a2 n2 c2, .int .i64 nn] w fun e w' => e = .returned (.bool true) ∧ Kept No w w' := by
  obtain ⟨i0, hi0, hz0, hz1, hz2⟩ := info_parts Try.dinf_byte
  obtain ⟨s1, s2, s3, s4, s5⟩ := own_steps l1 l2 hs
  have E1 := Lib.hid s1; have E2 := Lib.hid s2; have E3 := Lib.hid s3; have E4 := Lib.hid s4; have E5 := Lib.hid s5
  have hone1 := bcells_one l1
  have hone2 := bcells_one l2
  have hl1 : (bcells l1).length = n1 * 1 := by simp [hn1]
  have hl2 : (bcells l2).length = n2 * 1 := by simp [hn2]
  have HL1 := Lib.hid hl1; have HL2 := Lib.hid hl2; have HN1 := Lib.hid hn1; have HN2 := Lib.hid hn2
  have hs' : n1 + n2 ≤ 32768 := by omega
  have hmx1 : 0 + n1 ≤ maxLen := by unfold maxLen; omega
  have hby1 : (0 + n1) * 1 ≤ 140737488355328 := by omega
  have hmx2 : 0 + n2 ≤ maxLen := by unfold maxLen; omega
  have hby2 : (0 + n2) * 1 ≤ 140737488355328 := by omega
  have hmx12 : n1 + n2 ≤ maxLen := by unfold maxLen; omega
  have hby12 : (n1 + n2) * 1 ≤ 140737488355328 := by omega
  clear s1 s2 s3 s4 s5 hl1 hl2 hn1 hn2 hs
  go_enter Try.func12, Try.ntmps12
  go_wp2_with (first
    | (go_at_call 32; refine (d_new 65536 _ (by omega) (by omega)).mono ?_; rintro e w1 ⟨rfl, hS1, hk1⟩)
    | (at_builtin; refine wpList_onto rfl (.const (.slice none 0 0)) (.tmp 43) 32 rfl 5 i0 _ 1 1 Try.du_bytes hi0 hz0 hz1 hz2 rfl (by decide) none 0 0 [] rfl (Owns.nil _ _ _) a1 n1 c1 (bcells l1) rfl h1.nil HL1.out (h1.rd.keptNo hk1) hone1 hmx1 hby1 ?_; intro a9 cap9 w2 hap9; have o9 := onto_nil' hap9)
    | (at_builtin; refine wpList_onto rfl (.const (.slice none 0 0)) (.tmp 45) 32 rfl 5 i0 _ 1 1 Try.du_bytes hi0 hz0 hz1 hz2 rfl (by decide) none 0 0 [] rfl (Owns.nil _ _ _) a2 n2 c2 (bcells l2) rfl h2.nil HL2.out (h2.rd.keptNo (hk1.transNo o9.2.1)) hone2 hmx2 hby2 ?_; intro a10 cap10 w3 hap10; have o10 := onto_nil' hap10))
  --TAIL
  obtain ⟨a0, cp0, X1⟩ := hS1
  have X3 : DX w3 w.heap.size (ownSt [] 0 true) a0 cp0 (· = w.heap.size) := X1.keptNo (o9.2.1.transNo o10.2.1)
  have hp1 := X1.lt _ X1.sp
  have ho9 := o9.1.keptNo o10.2.1
  have hf9 : ∀ b, At a9 b → ¬ (b = w.heap.size) := fun b hb e => by have := o9.2.2 b hb; omega
  have hf10 : ∀ b, At a10 b → ¬ (b = w.heap.size) := fun b hb e => by have := o10.2.2 b hb; have := o9.2.1.size; omega
  have hfw9 : ∀ b, At a9 b → w.heap.size ≤ b := fun b hb => Nat.le_trans hk1.size (o9.2.2 b hb)
  have hfw10 : ∀ b, At a10 b → w.heap.size ≤ b := fun b hb => Nat.le_trans (hk1.transNo o9.2.1).size (o10.2.2 b hb)
  have hap : ∀ b, At a9 b → At a10 b → False := fun b h9 h10 => by have := o9.1.lt b h9; have := o10.2.2 b h10; omega
  have k3 : Kept No w w3 := (hk1.transNo o9.2.1).transNo o10.2.1
  have m3 : DNew w (· = w.heap.size) := fun b hb => by subst hb; exact Nat.le_refl _
  have hnc9 := Owns.nilcap ho9
  have hnc10 := Owns.nilcap o10.1
  go_wp2_with (first
    | (go_at_call 33; refine (d_append_neq X3 (by simp [ownSt]) l1 n1 HN1.out a9 cap9 ho9.rd hnc9 E1.out).mono ?_; rintro e w4 ⟨S4, rfl, ⟨b4, cp4, X4⟩, hg4⟩; have t9 := own_to ho9 hf9 hg4; have t10 := own_to o10.1 hf10 hg4; have kn4 := hg4.new k3 m3)
    | (go_at_call 37; refine (d_force_eq X4 (by simp [ownSt]) E2.out).mono ?_; rintro e w5 ⟨S5, rfl, ⟨b5, cp5, X5⟩, hg5⟩; have u9 := own_to t9.1 t9.2 hg5; have u10 := own_to t10.1 t10.2 hg5; have kn5 := hg5.new kn4.1 kn4.2)
    | (go_at_call 48; refine (d_fail_eq X5 E3.out).mono ?_; rintro e w6 ⟨S6, rfl, ⟨b6, cp6, X6⟩, hg6⟩; have x9 := own_to u9.1 u9.2 hg6; have x10 := own_to u10.1 u10.2 hg6; have kn6 := hg6.new kn5.1 kn5.2)
    | (go_at_call 45; refine (d_start_neq X6 (by simp [ownSt]) 0 (by omega) (by omega) true l2 n2 HN2.out a10 cap10 x10.1.rd hnc10 E4.out).mono ?_; rintro e w7 ⟨S7, rfl, ⟨b7, cp7, X7⟩, hg7⟩; have y9 := own_to x9.1 x9.2 hg7; have y10 := own_to x10.1 x10.2 hg7; have kn7 := hg7.new kn6.1 kn6.2))
  have hW : OSt w w.heap.size (ownSt (l1 ++ l2) (l1.length + l2.length) true) S7 a9 n1 (Mine w S7 a10 n2) w7 :=
    ⟨⟨_, _, X7⟩, kn7.2, kn7.1, ⟨⟨cap9, _, y9.1, dbyt_bcells l1⟩, fun b hb => ⟨hfw9 b hb, y9.2 b hb⟩⟩, ⟨⟨cap10, _, y10.1, dbyt_bcells l2⟩, fun b hb => ⟨hfw10 b hb, y10.2 b hb⟩⟩⟩
  clear X1 X3 X4 X5 X6 X7 o9 o10 ho9 hf9 hf10 hfw9 hfw10 k3 m3 hnc9 hnc10 t9 t10 u9 u10 x9 x10 y9 y10 kn4 kn5 kn6 kn7 hg4 hg5 hg6 hg7 hap9 hap10 hk1
  have hR : ∀ (wr : World) (g k : Nat) (u : Value), At a9 g → Mine w S7 a10 n2 wr → Mine w S7 a10 n2 (wr.setCell ⟨g, k, none⟩ u) := fun wr g k u hg hm =>
    hm.kept (Kept.setCell (S := (· = g)) (Kept.refl _ wr) (a := ⟨g, k, none⟩) (fun _ => rfl) u) (fun b hb e => hap b (e ▸ hg) hb)
  go_loopw [59] (fun i wr => OwnRel w w.heap.size (ownSt (l1 ++ l2) (l1.length + l2.length) true) S7 a9 n1 (Mine w S7 a10 n2) i wr) (fun i _ => n1 - (intOf i).toNat)
  case atStart => exact ⟨0, Nat.zero_le _, rfl, hW⟩
  case round =>
    clear hW
    obtain ⟨k, hk, rfl, hW⟩ := hrel
    by_cases hlt : k < n1
    · obtain ⟨g, v, rfl, v0, v1, hv, hf, hg, hput⟩ := hW.bump hlt hR
      have hi0' : (0 : Int) ≤ k := by omega
      have hi1' : (k : Int) < n1 := by omega
      by_cases hv255 : v = 255
      · subst hv255
        go_wp2
        go_roundw
        case rel => exact ⟨k + 1, by omega, by go_num, hput 0 (by omega) (by omega)⟩
        case measure => simp [intOf]; omega
      · have hv1 : v ≤ 254 := by omega
        clear hv255
        go_wp2
        go_roundw
        case rel => exact ⟨k + 1, by omega, by go_num, hput (v + 1) (by omega) (by omega)⟩
        case measure => simp [intOf]; omega
    · obtain rfl : n1 = k := by omega
      clear hlt
      have hW : OSt w w.heap.size (ownSt (l1 ++ l2) (l1.length + l2.length) true) S7 a10 n2 (fun _ => True) wr := ⟨hW.disk, hW.new, hW.kept, hW.more, trivial⟩
      go_wp2_with fail
      go_loopw [71] (fun i wr => OwnRel w w.heap.size (ownSt (l1 ++ l2) (l1.length + l2.length) true) S7 a10 n2 (fun _ => True) i wr) (fun i _ => n2 - (intOf i).toNat)
      case atStart => exact ⟨0, Nat.zero_le _, rfl, hW⟩
      case round =>
        clear hW
        obtain ⟨k, hk, rfl, hW⟩ := hrel
        by_cases hlt : k < n2
        · obtain ⟨g, v, rfl, v0, v1, hv, hf, hg, hput⟩ := hW.bump hlt (fun _ _ _ _ _ _ => trivial)
          have hi0' : (0 : Int) ≤ k := by omega
          have hi1' : (k : Int) < n2 := by omega
          by_cases hv255 : v = 255
          · subst hv255
            go_wp2
            go_roundw
            case rel => exact ⟨k + 1, by omega, by go_num, hput 0 (by omega) (by omega)⟩
            case measure => simp [intOf]; omega
          · have hv1 : v ≤ 254 := by omega
            clear hv255
            go_wp2
            go_roundw
            case rel => exact ⟨k + 1, by omega, by go_num, hput (v + 1) (by omega) (by omega)⟩
            case measure => simp [intOf]; omega
        · obtain rfl : n2 = k := by omega
          clear hlt
          have hbase := hW.kept
          have hnew7 := hW.new
          obtain ⟨a8', cp8, hX8⟩ := hW.disk
          clear hW
          go_wp2_with (go_at_call 38; refine (d_read_eq hX8 (by simp [ownSt]) E5.out).mono ?_; rintro e w8 ⟨a13, c13, rfl, ho13, hk13, hat13⟩)
          have hW : OSt w w.heap.size (ownSt (l1 ++ l2) (l1.length + l2.length) true) S7 a13 (l1.length + l2.length) (fun _ => True) w8 :=
            ⟨⟨_, _, hX8.keptNo hk13⟩, hnew7, hbase.transNo hk13, ⟨⟨c13, _, (by rw [← List.length_append]; exact ho13), dbyt_bcells (l1 ++ l2)⟩, fun b hb => ⟨Nat.le_trans hbase.size (hat13 b hb), fun hs => by have := hat13 b hb; have := hX8.lt b hs; omega⟩⟩, trivial⟩
          have hn13 : l1.length + l2.length ≤ 32768 := by rw [HN1.out, HN2.out]; omega
          clear hbase hnew7 hX8 ho13 hk13 hat13
          go_wp2_with fail
          go_loopw [88] (fun i wr => OwnRel w w.heap.size (ownSt (l1 ++ l2) (l1.length + l2.length) true) S7 a13 (l1.length + l2.length) (fun _ => True) i wr) (fun i _ => (l1.length + l2.length) - (intOf i).toNat)
          case atStart => exact ⟨0, Nat.zero_le _, rfl, hW⟩
          case round =>
            clear hW
            obtain ⟨k, hk, rfl, hW⟩ := hrel
            by_cases hlt : k < (l1.length + l2.length)
            · obtain ⟨g, v, rfl, v0, v1, hv, hf, hg, hput⟩ := hW.bump hlt (fun _ _ _ _ _ _ => trivial)
              have hi0' : (0 : Int) ≤ k := by omega
              have hi1' : (k : Int) < (l1.length + l2.length) := by omega
              by_cases hv255 : v = 255
              · subst hv255
                go_wp2
                go_roundw
                case rel => exact ⟨k + 1, by omega, by go_num, hput 0 (by omega) (by omega)⟩
                case measure => simp [intOf]; omega
              · have hv1 : v ≤ 254 := by omega
                clear hv255
                go_wp2
                go_roundw
                case rel => exact ⟨k + 1, by omega, by go_num, hput (v + 1) (by omega) (by omega)⟩
                case measure => simp [intOf]; omega
            · obtain rfl : (l1.length + l2.length) = k := by omega
              clear hlt
              have hbase := hW.kept
              obtain ⟨a9', cp9, hX9⟩ := hW.disk
              go_wp2_with (first
                | (go_at_call 38; refine (d_read_eq hX9 (by simp [ownSt]) E5.out).mono ?_; rintro e w9 ⟨a16, c16, rfl, ho16, hk16, hat16⟩)
                | (at_builtin; refine wpList_onto_go rfl (.const (.slice none 0 0)) (.tmp 107) 32 rfl 5 i0 _ 1 1 Try.du_bytes hi0 hz0 hz1 hz2 rfl (by decide) none 0 0 [] rfl (Owns.nil _ _ _) a1 n1 c1 (bcells l1) rfl h1.nil HL1.out (h1.rd.keptNo (hbase.transNo hk16)) hone1 hmx1 hby1 ?_; intro a17 cap17 w10 hap17; have o17 := onto_nil' hap17)
                | (at_builtin; go_must (refine wpList_onto_go rfl (.tmp 108) (.tmp 109) 32 rfl 5 i0 _ 1 1 Try.du_bytes hi0 hz0 hz1 hz2 rfl (by decide) a17 n1 cap17 (bcells l1) rfl o17.1 a2 n2 c2 (bcells l2) rfl h2.nil HL2.out (h2.rd.keptNo ((hbase.transNo hk16).transNo o17.2.1)) hone2 hmx12 hby12 ?_; intro a18 cap18 w11 hap18; have k911 : Kept No w9 w11 := o17.2.1.trans hap18.kept (fun b hb hat => absurd (o17.2.2 b hat) (by omega)); have r18 : Rd w11 a18 (bcells (l1 ++ l2)) := by (have := hap18.own.rd; simpa [bcells] using this)))
                | (go_at_call 31; refine (same_two a16 a18 (l1.length + l2.length) (n1 + n2) c16 cap18 (l1 ++ l2) List.length_append (by rw [List.length_append, HN1.out, HN2.out]) (ho16.rd.keptNo k911) r18).mono ?_; rintro e w12 ⟨rfl, rfl⟩))
              have hkz : Kept No w ((w11.alloc (.cells #[.int .i64 0, .slice none 0 0, .int .i64 0, .int .i64 0, .int .i64 0, .int .i64 0, .bool false, .int .i64 0] 104)).alloc (.cells #[.pointer none, .pointer (some ⟨w11.heap.size, 0, none⟩)] 70)) := (((hbase.transNo hk16).transNo k911).alloc _).alloc _
              have hzb : DiskZ ((w11.alloc (.cells #[.int .i64 0, .slice none 0 0, .int .i64 0, .int .i64 0, .int .i64 0, .int .i64 0, .bool false, .int .i64 0] 104)).alloc (.cells #[.pointer none, .pointer (some ⟨w11.heap.size, 0, none⟩)] 70)) w11.heap.size := (Blk.new' (w := w11) rfl _ [.int .i64 0, .slice none 0 0, .int .i64 0, .int .i64 0, .int .i64 0, .int .i64 0, .bool false, .int .i64 0]).alloc _
              have hsb := Blk.new' (w := w11.alloc (.cells #[.int .i64 0, .slice none 0 0, .int .i64 0, .int .i64 0, .int .i64 0, .int .i64 0, .bool false, .int .i64 0] 104)) (g := w11.heap.size + 1) (by simp) 70 [.pointer none, .pointer (some ⟨w11.heap.size, 0, none⟩)]
              go_loopw [118] (fun i wr => ZRel w w11.heap.size (w11.heap.size + 1) i wr) (fun i _ => 2 - (intOf i).toNat)
              case atStart => exact ⟨0, by omega, rfl, hkz, hzb, hsb⟩
              case round =>
                clear hkz hzb hsb
                obtain ⟨k, hk, rfl, hkept, hz, hsx⟩ := hrel
                have z0 := hsx.cell 0
                have z1 := hsx.cell 1
                have hN0 : NoDisk none wr := .inl rfl
                have hN1 : NoDisk (some ⟨w11.heap.size, 0, none⟩) wr := .inr ⟨_, rfl, hz⟩
                have hk012 : k = 0 ∨ k = 1 ∨ k = 2 := by omega
                rcases hk012 with rfl | rfl | rfl
                · go_wp2_with (first
                    | (go_at_call 33; refine (z_append hN0 _ _ _).mono ?_; rintro e w2' ⟨rfl, rfl⟩)
                    | (go_at_call 38; refine (z_read hN0).mono ?_; rintro e w2' ⟨rfl, rfl⟩)
                    | (go_at_call 46; refine (z_arm hN0 _).mono ?_; rintro e w2' ⟨rfl, rfl⟩)
                    | (go_at_call 37; refine (z_force hN0).mono ?_; rintro e w2' ⟨rfl, rfl⟩)
                    | (go_at_call 36; refine (z_cut hN0 _).mono ?_; rintro e w2' ⟨rfl, rfl⟩)
                    | (go_at_call 54; refine (z_trim hN0 _).mono ?_; rintro e w2' ⟨rfl, rfl⟩)
                    | (go_at_call 48; refine (z_fail hN0).mono ?_; rintro e w2' ⟨rfl, rfl⟩)
                    | (go_at_call 45; refine (z_start hN0 _ _ _ _ _).mono ?_; rintro e w2' ⟨rfl, rfl⟩)
                    | (go_at_call 47; refine (z_forced hN0).mono ?_; rintro e w2' ⟨rfl, rfl⟩)
                    | (go_at_call 39; refine (z_base hN0).mono ?_; rintro e w2' ⟨rfl, rfl⟩)
                    | (go_at_call 35; refine (z_end hN0).mono ?_; rintro e w2' ⟨rfl, rfl⟩)
                    | (go_at_call 34; refine (z_left hN0).mono ?_; rintro e w2' ⟨rfl, rfl⟩)
                    | (go_at_call 53; refine (z_room hN0).mono ?_; rintro e w2' ⟨rfl, rfl⟩)
                    | (go_at_call 43; refine (z_on hN0).mono ?_; rintro e w2' ⟨rfl, rfl⟩))
                  go_roundw
                  case rel => exact ⟨1, by omega, rfl, hkept, hz, hsx⟩
                  case measure => simp [intOf]
                · go_wp2_with (first
                    | (go_at_call 33; refine (z_append hN1 _ _ _).mono ?_; rintro e w2' ⟨rfl, rfl⟩)
                    | (go_at_call 38; refine (z_read hN1).mono ?_; rintro e w2' ⟨rfl, rfl⟩)
                    | (go_at_call 46; refine (z_arm hN1 _).mono ?_; rintro e w2' ⟨rfl, rfl⟩)
                    | (go_at_call 37; refine (z_force hN1).mono ?_; rintro e w2' ⟨rfl, rfl⟩)
                    | (go_at_call 36; refine (z_cut hN1 _).mono ?_; rintro e w2' ⟨rfl, rfl⟩)
                    | (go_at_call 54; refine (z_trim hN1 _).mono ?_; rintro e w2' ⟨rfl, rfl⟩)
                    | (go_at_call 48; refine (z_fail hN1).mono ?_; rintro e w2' ⟨rfl, rfl⟩)
                    | (go_at_call 45; refine (z_start hN1 _ _ _ _ _).mono ?_; rintro e w2' ⟨rfl, rfl⟩)
                    | (go_at_call 47; refine (z_forced hN1).mono ?_; rintro e w2' ⟨rfl, rfl⟩)
                    | (go_at_call 39; refine (z_base hN1).mono ?_; rintro e w2' ⟨rfl, rfl⟩)
                    | (go_at_call 35; refine (z_end hN1).mono ?_; rintro e w2' ⟨rfl, rfl⟩)
                    | (go_at_call 34; refine (z_left hN1).mono ?_; rintro e w2' ⟨rfl, rfl⟩)
                    | (go_at_call 53; refine (z_room hN1).mono ?_; rintro e w2' ⟨rfl, rfl⟩)
                    | (go_at_call 43; refine (z_on hN1).mono ?_; rintro e w2' ⟨rfl, rfl⟩))
                  go_roundw
                  case rel => exact ⟨2, by omega, rfl, hkept, hz, hsx⟩
                  case measure => simp [intOf]
                · go_wp2_with (go_at_call 40; refine (disk_alive _).mono ?_; rintro e w20 ⟨rfl, hk20⟩)
                  go_ret
                  exact ⟨rfl, hkept.transNo hk20⟩

set_option maxHeartbeats 400000 in
theorem own_long_d (a1 a2 : Option Addr) (c1 c2 n1 n2 : Nat) (nn : Int) (w : World) (hn1 : n1 ≤ 140737488351232) (hn2 : n2 ≤ 140737488351232) (hs : 32768 < n1 + n2) :
    Calls Try.prog 12 #[.slice a1 n1 c1, .slice a2 n2 c2, .int .i64 nn] w fun e w' => e = .returned (.bool true) ∧ Kept No w w' := by
  have hs' : (32768 : Int) < (n1 : Int) + (n2 : Int) := by omega
  go_enter Try.func12, Try.ntmps12
  go_wp2_with (go_at_call 40; refine (disk_alive _).mono ?_; rintro e w2 ⟨rfl, hk2⟩)
  go_ret
  exact ⟨rfl, hk2⟩
end Go.Proofs.Ytdolddgmemlofaa
