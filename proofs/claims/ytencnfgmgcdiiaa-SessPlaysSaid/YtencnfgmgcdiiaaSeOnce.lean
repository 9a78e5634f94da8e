/- SessOnce: the walk. -/
import Derived.Test.YtencnfgmgcdiiaaSeL
namespace Go.Proofs.Ytencnfgmgcdiiaa
open Go.RowKit Go.PM
set_option maxRecDepth 100000

theorem Try.su_young : Try.prog.underlying 25 = some (.map 39 4) := by kernel_rfl
theorem Try.su_told : Try.prog.underlying 26 = some (.map 39 40) := by kernel_rfl
theorem Try.sz_bool (w : World) : (zeroValue 4).run Try.prog w = .ok (.bool false) w := by kernel_rfl
theorem Try.sz_ans (w : World) : (zeroValue 40).run Try.prog w = .ok PA.zero.agg w := by kernel_rfl

/-- What the loop keeps. -/
structure OnceW (w0 wr : World) (p b y t : Nat) (D : List (UInt8 × PC)) (Y : List ((UInt8 × Int) × Bool)) (T : List ((UInt8 × Int) × PA)) : Prop where
  d : DeskB wr p b D
  y : MapR wr y ekc Value.bool Y
  t : MapR wr t ekc PA.agg T
  k : Kept No w0 wr
theorem OnceW.kept {w0 wr w' : World} {p b y t : Nat} {D : List (UInt8 × PC)} {Y : List ((UInt8 × Int) × Bool)} {T : List ((UInt8 × Int) × PA)} (h : OnceW w0 wr p b y t D Y T) (k : Kept No wr w') : OnceW w0 w' p b y t D Y T :=
  ⟨h.d.kept k id id, h.y.kept k id, h.t.kept k id, h.k.transNo k⟩
def OnceRel (w0 : World) (p b y t n : Nat) (i : Value) (wr : World) : Prop :=
  ∃ (k : Nat) (D : List (UInt8 × PC)) (Y : List ((UInt8 × Int) × Bool)) (T : List ((UInt8 × Int) × PA)), k ≤ n ∧ i = .int .i64 k ∧ OnceW w0 wr p b y t D Y T ∧ DOk D ∧ OnceInv D Y T
/-- The region that names the call. -/
def CallAt (wr : World) (c : UInt8) (q : Int) (s : Value) (wx : World) : Prop :=
  ∃ g, s = .pointer (some ⟨g, 0, none⟩) ∧ wr.heap.size ≤ g ∧ Blk wx g 39 [.int .u8 c.toNat, .int .u32 q] ∧ Kept No wr wx

theorem _root_.Go.PM.Kept.fresh2 {w w' : World} (k : Kept No w w') {g : Nat} (hg : w.heap.size ≤ g) (x0 x1 : Value) : Kept No w ((w'.setCell ⟨g, 0, none⟩ x0).setCell ⟨g, 1, none⟩ x1) :=
  (k.setCell (fun h => absurd h (by show ¬ g < _; omega)) _).setCell (fun h => absurd h (by show ¬ g < _; omega)) _
theorem _root_.Go.PM.Blk.set2 {w : World} {b : Nat} {T : TypeId} {c0 c1 : Value} (h : Blk w b T [c0, c1]) (x0 x1 : Value) : Blk ((w.setCell ⟨b, 0, none⟩ x0).setCell ⟨b, 1, none⟩ x1) b T [x0, x1] := (h.set 0 x0).set 1 x1
set_option maxHeartbeats 8000000 in
theorem once_calls (a : Option Addr) (c : Nat) (l : List SA) (w : World) (h : InSA w a c l) :
    Calls Try.prog 3 #[.slice a l.length c] w fun e w' => e = .returned (.bool true) ∧ Kept No w w' := by
  have hle := InS.le h
  have hmx := InS.max h
  obtain ⟨n, hn⟩ : ∃ n, n = min l.length 100 := ⟨_, rfl⟩
  have hn1 : n ≤ l.length := by omega
  have hn2 : n ≤ 100 := by omega
  have HN := Lib.hid hn
  clear hn
  have hmm := @run_makeMap Try.prog
  go_enter Try.func3, Try.ntmps3
  go_wp2_with fail
  refine (se_New w).mono ?_
  rintro _ w1 ⟨p, b, rfl, d1, k1, hp, hb⟩
  have hp1 := d1.st.lt
  have hb1 := d1.mp.lt
  have hpb := d1.ne
  go_wp2_with fail
  have M2 := MapR.new w1 ekc Value.bool
  have K2 := (Kept.refl No w1).alloc (.map #[] 0)
  have s2 : (w1.alloc (.map #[] 0)).heap.size = w1.heap.size + 1 := World.size_alloc _ _
  have M3 := MapR.new (w1.alloc (.map #[] 0)) ekc PA.agg
  have K3 := (Kept.refl No (w1.alloc (.map #[] 0))).alloc (.map #[] 0)
  rw [s2] at M3
  have M2' := M2.kept K3 id
  have O3 : OnceW w ((w1.alloc (.map #[] 0)).alloc (.map #[] 0)) p b w1.heap.size (w1.heap.size + 1) [] [] [] := ⟨d1.kept (K2.transNo K3) id id, M2', M3, k1.transNo (K2.transNo K3)⟩
  have hy1 : ¬ w1.heap.size = b := by omega
  have ht1 : ¬ w1.heap.size + 1 = b := by omega
  have hyt : ¬ w1.heap.size = w1.heap.size + 1 := by omega
  have hpy : ¬ p = w1.heap.size := by omega
  have hpt : ¬ p = w1.heap.size + 1 := by omega
  have hby : ¬ b = w1.heap.size := by omega
  have hbt : ¬ b = w1.heap.size + 1 := by omega
  generalize hY : w1.heap.size = y at *
  have hwy : w.heap.size ≤ y := by have := k1.size; omega
  generalize hT : y + 1 = t at *
  have hwt : w.heap.size ≤ t := by omega
  clear M2 K2 s2 M3 K3 M2' k1 d1 hmm
  generalize (w1.alloc (.map #[] 0)).alloc (.map #[] 0) = w3 at *
  refine (sshort_calls a l.length c w3 hle hmx).mono ?_
  rw [← HN.out]
  rintro _ _ ⟨rfl, rfl⟩
  go_wp2
  go_loopw [24] (fun i wr => OnceRel w p b y t n i wr) (fun i _ => n - (intOf i).toNat)
  case atStart => exact ⟨0, _, _, _, Nat.zero_le _, rfl, O3, DOk.nil, OnceInv.start⟩
  case round =>
    clear O3
    obtain ⟨k, D, Y, T, hk, rfl, hO, hok, hI⟩ := hrel
    by_cases hlt : k < n
    · obtain ⟨m, hm⟩ : ∃ m, l[k]? = some m := ⟨_, List.getElem?_eq_getElem (by omega)⟩
      have hin := InS.each h m (List.mem_of_getElem? hm)
      obtain ⟨ab, ao, rfl, hab, d0, d1, d2, d3, d4, d5, d6, d7, d8⟩ := (h.kept hO.k).at hm
      clear hm
      have hi0 : (0 : Int) ≤ k := by omega
      have hi1 : (k : Int) < n := by omega
      have bx := Blk.new wr 35 m.cells
      have kx := (Kept.refl No wr).alloc (.cells m.cells.toArray 35)
      have hO4 := hO.kept kx
      unfold SA.cells at bx kx hO4
      by_cases hsz : (65536 : Int) < m.a.val.size
      · go_wp2
        go_ret
        exact ⟨rfl, hO4.k⟩
      · have dsz : decide ((65536 : Int) < m.a.val.size) = false := decide_eq_false hsz
        clear hsz
        go_upto_region 11 with (fail)
        generalize hw4 : wr.alloc _ = w4 at *
        generalize hla : (lk D m.client).last = la at *
        have hl0 : 0 ≤ la := by rw [← hla]; exact (hok.bd m.client).1
        have hl1 : la ≤ 2147483647 := by rw [← hla]; exact (hok.bd m.client).2
        obtain ⟨q0, q1⟩ := m.num_in hin hl0 hl1
        obtain ⟨q, hq⟩ : ∃ q, m.num la = q := ⟨_, rfl⟩
        rw [hq] at q0 q1
        have HLA := Lib.hid hla
        have HQ := Lib.hid hq
        have HIN := Lib.hid hin
        have hO5 : OnceW w w4.drew p b y t D Y T := hO4.kept (Kept.refl No w4).drew
        clear hla hq hin
        go_cut [8] (fun s8 wx => CallAt w4 m.client q s8 wx)
        case first =>
          have F : ∀ w', Kept No w4 w' → w'.cell? ⟨wr.heap.size, 0, none⟩ = some (.int .u8 m.kind.toNat) ∧ w'.cell? ⟨wr.heap.size, 1, none⟩ = some (.int .u8 m.client.toNat) ∧ w'.cell? ⟨wr.heap.size, 2, none⟩ = some (.int .u32 m.seq) ∧ w'.cell? ⟨wr.heap.size, 3, none⟩ = some (.int .i64 m.a.why) ∧
              w'.cell? ⟨wr.heap.size, 4, none⟩ = some (.int .u8 m.a.node) ∧ w'.cell? ⟨wr.heap.size, 5, none⟩ = some (.int .u32 m.a.boot) ∧ w'.cell? ⟨wr.heap.size, 6, none⟩ = some (.int .u32 m.a.num) ∧ w'.cell? ⟨wr.heap.size, 7, none⟩ = some (.string m.a.val) ∧ w'.cell? ⟨wr.heap.size, 8, none⟩ = some (.int .u32 m.a.ver) :=
            fun w' kk => let B := bx.kept kk id; ⟨B.cell 0, B.cell 1, B.cell 2, B.cell 3, B.cell 4, B.cell 5, B.cell 6, B.cell 7, B.cell 8⟩
          generalize wr.heap.size = ga at *
          have KD : Kept No w4 w4.drew := (Kept.refl No w4).drew
          have KA : Kept No w4 (w4.alloc (.cells #[.int .u8 0, .int .u32 0] 39)).drew := ((Kept.refl No w4).alloc _).drew
          have BA : Blk (w4.alloc (.cells #[.int .u8 0, .int .u32 0] 39)).drew w4.heap.size 39 [.int .u8 0, .int .u32 0] := Blk.new' (w := w4) rfl _ _
          clear bx kx dsz d0 d1 d2 d3 d4 d5 d6 d7 d8
          go_region_held3 (fun w' => w'.cell? ⟨ga, 0, none⟩ = some (.int .u8 m.kind.toNat) ∧ w'.cell? ⟨ga, 1, none⟩ = some (.int .u8 m.client.toNat) ∧ w'.cell? ⟨ga, 2, none⟩ = some (.int .u32 m.seq) ∧ w'.cell? ⟨ga, 3, none⟩ = some (.int .i64 m.a.why) ∧
              w'.cell? ⟨ga, 4, none⟩ = some (.int .u8 m.a.node) ∧ w'.cell? ⟨ga, 5, none⟩ = some (.int .u32 m.a.boot) ∧ w'.cell? ⟨ga, 6, none⟩ = some (.int .u32 m.a.num) ∧ w'.cell? ⟨ga, 7, none⟩ = some (.string m.a.val) ∧ w'.cell? ⟨ga, 8, none⟩ = some (.int .u32 m.a.ver))
            (first | (with_reducible exact F _ KD) | (with_reducible exact F _ KA) | (with_reducible exact F _ k6) | (with_reducible exact F _ (k6.alloc _)) | (with_reducible exact F _ (k6.fresh2 (Nat.le_refl _) _ _)) | go_keep)
            (first
              | (go_at_call 17; refine (last_eq (hO4.d.kept (by first | exact KD | exact KA) id id) HLA.out).mono ?_; rintro _ _ ⟨rfl, rfl⟩)
              | (go_at_call 16; refine (seq_eq HIN.out hl0 hl1 HQ.out _).mono ?_; rintro _ w6 ⟨rfl, k6'⟩; first | (have k6 : Kept No w4 w6 := KA.transNo k6'; have B6 := BA.kept k6' id; have g0 := B6.cell 0; have g1 := B6.cell 1; have gf0 := B6.frozen 0; have gf1 := B6.frozen 1) | (have k6 : Kept No w4 w6 := KD.transNo k6'))
              | fail)
          all_goals
            go_wp2
            go_meet
            first
              | exact ⟨w4.heap.size, rfl, Nat.le_refl _, B6.set2 _ _, k6.fresh2 (Nat.le_refl _) _ _⟩
              | exact ⟨w6.heap.size, rfl, k6.size, Blk.new w6 _ _, k6.alloc _⟩
        case rest =>
          obtain ⟨g8, rfl, hg8, B8, K8⟩ := hcut
          have O5 := hO4.kept K8
          have b5 := bx.kept K8 id
          have hga : wr.heap.size < g8 := by have := bx.lt; omega
          have hb0 := hO.d.mp.lt
          have hp0 := hO.d.st.lt
          have hy0 := hO.y.lt
          have ht0 := hO.t.lt
          clear hO4 hO5 bx kx dsz d0 d1 d2 d3 d4 d5 d6 d7 d8 hO
          generalize wr.heap.size = ga at *
          have e0 : wc.cell? ⟨g8, 0, none⟩ = some (.int .u8 m.client.toNat) := B8.cell 0
          have e1 : wc.cell? ⟨g8, 1, none⟩ = some (.int .u32 q) := B8.cell 1
          have hlk := O5.t.look_ok Try.ckey Try.su_told (Try.sz_ans wc) (m.client, q)
          obtain ⟨x, hx⟩ : ∃ x, (getK T (m.client, q)).getD .zero = x := ⟨_, rfl⟩
          obtain ⟨is, his⟩ : ∃ is, (getK T (m.client, q)).isSome = is := ⟨_, rfl⟩
          rw [hx, his] at hlk
          unfold ekc PA.agg at hlk
          dsimp only at hlk
          have HX := Lib.hid hx
          have HIS := Lib.hid his
          clear hx his
          have K12 := (Kept.refl No wc).alloc (.cells #[.int .i64 x.why, .int .u8 x.node, .int .u32 x.boot, .int .u32 x.num, .string x.val, .int .u32 x.ver] 40)
          have O12 := O5.kept K12
          have b12 := b5.kept K12 id
          have B12 := B8.kept K12 id
          have a0 := b12.cell 0
          have a3 := b12.cell 3
          have a7 := b12.cell 7
          have a8 := b12.cell 8
          simp only [List.getElem?_cons_zero, List.getElem?_cons_succ] at a0 a3 a7 a8
          have A9 := Blk.new wc 40 [.int .i64 x.why, .int .u8 x.node, .int .u32 x.boot, .int .u32 x.num, .string x.val, .int .u32 x.ver]
          have hsz12 := World.size_alloc wc (.cells #[.int .i64 x.why, .int .u8 x.node, .int .u32 x.boot, .int .u32 x.num, .string x.val, .int .u32 x.ver] 40)
          go_upto_if 51 with (fail)
          have hga9 : g8 < wc.heap.size := B8.lt
          clear hlk K12 e0 e1 b5 O5 B8
          generalize wc.alloc _ = w12 at *
          generalize wc.heap.size = g9 at *
          have nb8 : ¬ g8 = b := by omega
          have nb9 : ¬ g9 = b := by omega
          by_cases hk2 : (m.kind.toNat : Int) % 4 = 2
          · have dk : ((m.kind.toNat : Int) % 4 == 2) = true := by simpa using hk2
            clear hk2
            have K14 := (Kept.refl No w12).alloc (.cells #[.int .i64 m.a.why, .int .u8 0, .int .u32 0, .int .u32 0, .string m.a.val, .int .u32 m.a.ver] 40)
            have B14 := B12.kept K14 id
            have e0 : (w12.alloc (.cells #[.int .i64 m.a.why, .int .u8 0, .int .u32 0, .int .u32 0, .string m.a.val, .int .u32 m.a.ver] 40)).cell? ⟨g8, 0, none⟩ = some (.int .u8 m.client.toNat) := B14.cell 0
            have e1 : (w12.alloc (.cells #[.int .i64 m.a.why, .int .u8 0, .int .u32 0, .int .u32 0, .string m.a.val, .int .u32 m.a.ver] 40)).cell? ⟨g8, 1, none⟩ = some (.int .u32 q) := B14.cell 1
            have A11 := Blk.new w12 40 [.int .i64 m.a.why, .int .u8 0, .int .u32 0, .int .u32 0, .string m.a.val, .int .u32 m.a.ver]
            have O14 := O12.kept K14
            go_wp2_with fail
            clear e0 e1 a0 a3 a7 a8 K14
            simp only [List.toArray] at A11
            generalize w12.alloc _ = w14 at *
            rw [hsz12] at A11
            clear hsz12
            have nb11 : ¬ g9 + 1 = b := by omega
            rcases hI.tell m.client q ⟨m.a.why, 0, 0, 0, m.a.val, m.a.ver⟩ with ⟨e, hyy, htt, I'⟩ | ⟨e, hno⟩
            · refine (tell_eq O14.d e).mono ?_
              rintro _ w15 ⟨rfl, d15, k15⟩
              obtain rfl : is = false := HIS.out.symm.trans htt
              have hl15 := (O14.y.kept k15 hy1).look Try.ckey Try.su_young (Try.sz_bool w15) (m.client, q)
              rw [hyy] at hl15
              have B15 := B14.kept k15 nb8
              have A15 := A11.kept k15 nb11
              obtain ⟨w16, hu, m16, k16⟩ := (O14.t.kept k15 ht1).update Try.ckey Try.su_told (m.client, q) ⟨m.a.why, 0, 0, 0, m.a.val, m.a.ver⟩
              unfold ekc at hl15 hu
              unfold PA.agg at hu
              dsimp only at hl15 hu
              have e0 : w15.cell? ⟨g8, 0, none⟩ = some (.int .u8 m.client.toNat) := B15.cell 0
              have e1 : w15.cell? ⟨g8, 1, none⟩ = some (.int .u32 q) := B15.cell 1
              obtain ⟨a0, a1, a2, a3, a4, a5⟩ := get6 A15
              have HM := Lib.hid m16
              have HI := Lib.hid I'
              have HYY := Lib.hid hyy
              have hok' := hok.tell m.client q ⟨m.a.why, 0, 0, 0, m.a.val, m.a.ver⟩
              rw [e] at hok'
              have y16 := ((O14.y.kept k15 hy1).kept k16 hyt)
              clear hyy htt I' e m16
              go_wp2
              go_roundw
              case rel => exact ⟨k + 1, _, _, _, by omega, by go_num, ⟨(d15.kept k16 hpt hbt), y16, HM.out, (O14.k.above k15 fun c e => e ▸ hb).above k16 fun c e => e ▸ hwt⟩, hok', HI.out⟩
              case measure => simp [intOf]; omega
            · refine (tell_eq O14.d e).mono ?_
              rintro _ w15 ⟨rfl, d15, k15⟩
              obtain ⟨yv, hyy⟩ : ∃ yv, (getK Y (m.client, q)).getD false = yv := ⟨_, rfl⟩
              have hl15 := (O14.y.kept k15 hy1).look Try.ckey Try.su_young (Try.sz_bool w15) (m.client, q)
              rw [hyy] at hl15
              rw [hyy, HIS.out] at hno
              have B15 := B14.kept k15 nb8
              unfold ekc at hl15
              dsimp only at hl15
              have e0 : w15.cell? ⟨g8, 0, none⟩ = some (.int .u8 m.client.toNat) := B15.cell 0
              have e1 : w15.cell? ⟨g8, 1, none⟩ = some (.int .u32 q) := B15.cell 1
              have O15 : OnceW w w15 p b y t D Y T := ⟨d15, O14.y.kept k15 hy1, O14.t.kept k15 ht1, O14.k.above k15 fun c e => e ▸ hb⟩
              clear e hyy
              cases yv with
              | false =>
                go_wp2
                go_roundw
                case rel => exact ⟨k + 1, _, _, _, by omega, by go_num, O15, hok, hI⟩
                case measure => simp [intOf]; omega
              | true =>
                obtain rfl : is = true := by cases is with
                  | true => rfl
                  | false => exact absurd ⟨rfl, rfl⟩ hno
                go_wp2
                go_roundw
                case rel => exact ⟨k + 1, _, _, _, by omega, by go_num, O15, hok, hI⟩
                case measure => simp [intOf]; omega
          · have dk : ((m.kind.toNat : Int) % 4 == 2) = false := by simpa using hk2
            clear hk2 a3 a7 a8
            have e0 : w12.cell? ⟨g8, 0, none⟩ = some (.int .u8 m.client.toNat) := B12.cell 0
            have e1 : w12.cell? ⟨g8, 1, none⟩ = some (.int .u32 q) := B12.cell 1
            go_wp2_with fail
            clear e0 e1 a0
            -- behind Come: the answer is laid, and what was there is as it was
            have L : ∀ (w20 : World) (v : PA) D', DeskB w20 p b D' → Kept (· = b) w12 w20 →
                OnceW w (w20.alloc (.cells #[.int .i64 v.why, .int .u8 v.node, .int .u32 v.boot, .int .u32 v.num, .string v.val, .int .u32 v.ver] 40)) p b y t D' Y T ∧
                Blk (w20.alloc (.cells #[.int .i64 v.why, .int .u8 v.node, .int .u32 v.boot, .int .u32 v.num, .string v.val, .int .u32 v.ver] 40)) g8 39 [.int .u8 m.client.toNat, .int .u32 q] ∧
                Blk (w20.alloc (.cells #[.int .i64 v.why, .int .u8 v.node, .int .u32 v.boot, .int .u32 v.num, .string v.val, .int .u32 v.ver] 40)) g9 40 [.int .i64 x.why, .int .u8 x.node, .int .u32 x.boot, .int .u32 x.num, .string x.val, .int .u32 x.ver] ∧
                Blk (w20.alloc (.cells #[.int .i64 v.why, .int .u8 v.node, .int .u32 v.boot, .int .u32 v.num, .string v.val, .int .u32 v.ver] 40)) w20.heap.size 40 [.int .i64 v.why, .int .u8 v.node, .int .u32 v.boot, .int .u32 v.num, .string v.val, .int .u32 v.ver] := by
              intro w20 v D' d20 k20
              have K21 := (Kept.refl No w20).alloc (.cells #[.int .i64 v.why, .int .u8 v.node, .int .u32 v.boot, .int .u32 v.num, .string v.val, .int .u32 v.ver] 40)
              exact ⟨OnceW.kept ⟨d20, O12.y.kept k20 hy1, O12.t.kept k20 ht1, O12.k.above k20 fun c e => e ▸ hb⟩ K21, (B12.kept k20 nb8).kept K21 id, (A9.kept k20 nb9).kept K21 id, Blk.new _ _ _⟩
            rcases pCome_cases D m.client q hok with ⟨er, her, e⟩ | ⟨e, h1, h2, h3, h4, h5⟩ | ⟨e, h1, h3, h4⟩ | ⟨e, h1, h3, h4⟩
            · refine (come_eq O12.d hok q0 q1 e).mono ?_
              rintro _ w20 ⟨rfl, d20, k20⟩
              obtain ⟨O21, B21, _, A21⟩ := L w20 .zero D d20 k20
              obtain ⟨a0, a1, a2, a3, a4, a5⟩ := get6 A21
              have hne := neqAns_same .zero (w20.alloc (.cells #[.int .i64 PA.zero.why, .int .u8 PA.zero.node, .int .u32 PA.zero.boot, .int .u32 PA.zero.num, .string PA.zero.val, .int .u32 PA.zero.ver] 40))
              unfold PA.zero at *
              dsimp only at *
              have der : (er != 0) = true := by simpa using her
              clear e her A21 L
              go_wp2
              go_roundw
              case rel => exact ⟨k + 1, _, _, _, by omega, by go_num, O21, hok, hI⟩
              case measure => simp [intOf]; omega
            · obtain ⟨hyy, I'⟩ := hI.come h3 h4
              have hok' := hok.come m.client q
              rw [e] at hok'
              refine (come_eq O12.d hok q0 q1 e).mono ?_
              rintro _ w20 ⟨rfl, d20, k20⟩
              obtain ⟨O21, B21, _, _⟩ := L w20 .zero _ d20 k20
              unfold PA.zero at O21 B21
              dsimp only at O21 B21
              generalize hw21 : w20.alloc _ = w21 at O21 B21
              have hl21 := O21.y.look Try.ckey Try.su_young (Try.sz_bool w21) (m.client, q)
              rw [hyy] at hl21
              obtain ⟨w22, hu, m22, k22⟩ := O21.y.update Try.ckey Try.su_young (m.client, q) true
              unfold ekc at hl21 hu
              dsimp only at hl21 hu
              have e0 : w21.cell? ⟨g8, 0, none⟩ = some (.int .u8 m.client.toNat) := B21.cell 0
              have e1 : w21.cell? ⟨g8, 1, none⟩ = some (.int .u32 q) := B21.cell 1
              subst hw21
              have HM := Lib.hid m22
              have HI := Lib.hid I'
              have t22 := O21.t.kept k22 (Ne.symm hyt)
              have k22' := O21.k.above k22 fun c e => e ▸ hwy
              have d22 := O21.d.kept k22 hpy hby
              clear e hyy I' m22 L h3 h4 h5 k22
              unfold PA.zero
              dsimp only
              go_wp2
              go_roundw
              case rel => exact ⟨k + 1, _, _, _, by omega, by go_num, ⟨d22, HM.out, t22, k22'⟩, hok', HI.out⟩
              case measure => simp [intOf]; omega
            · obtain ⟨hyy, htt⟩ := hI.open_ h3 h4
              obtain rfl : is = false := HIS.out.symm.trans htt
              refine (come_eq O12.d hok q0 q1 e).mono ?_
              rintro _ w20 ⟨rfl, d20, k20⟩
              obtain ⟨O21, B21, _, _⟩ := L w20 .zero _ d20 k20
              unfold PA.zero at O21 B21
              dsimp only at O21 B21
              generalize hw21 : w20.alloc _ = w21 at O21 B21
              have hl21 := O21.y.look Try.ckey Try.su_young (Try.sz_bool w21) (m.client, q)
              rw [hyy] at hl21
              unfold ekc at hl21
              dsimp only at hl21
              have e0 : w21.cell? ⟨g8, 0, none⟩ = some (.int .u8 m.client.toNat) := B21.cell 0
              have e1 : w21.cell? ⟨g8, 1, none⟩ = some (.int .u32 q) := B21.cell 1
              subst hw21
              clear e hyy htt L h3 h4
              unfold PA.zero
              dsimp only
              go_wp2
              go_roundw
              case rel => exact ⟨k + 1, _, _, _, by omega, by go_num, O21, hok, hI⟩
              case measure => simp [intOf]; omega
            · have htt := hI.told_ h1 h3 h4
              obtain rfl : is = true := by rw [← HIS.out, htt]; rfl
              obtain rfl : x = (lk D m.client).a := by rw [← HX.out, htt]; rfl
              generalize (lk D m.client).a = x at *
              refine (come_eq O12.d hok q0 q1 e).mono ?_
              rintro _ w20 ⟨rfl, d20, k20⟩
              obtain ⟨O21, B21, A9', A21⟩ := L w20 x _ d20 k20
              obtain ⟨a0, a1, a2, a3, a4, a5⟩ := get6 A21
              obtain ⟨f0, f1, f2, f3, f4, f5⟩ := get6 A9'
              have hne := neqAns_same x (w20.alloc (.cells #[.int .i64 x.why, .int .u8 x.node, .int .u32 x.boot, .int .u32 x.num, .string x.val, .int .u32 x.ver] 40))
              clear e htt L h3 h4 A21 A9'
              go_wp2
              go_roundw
              case rel => exact ⟨k + 1, _, _, _, by omega, by go_num, O21, hok, hI⟩
              case measure => simp [intOf]; omega
    · have hi1 : ¬ ((k : Int) < n) := by omega
      go_wp2_with (go_at_call 20; refine (alive_calls _).mono ?_; rintro _ w9 ⟨rfl, k9⟩)
      go_ret
      exact ⟨rfl, hO.k.transNo k9⟩
end Go.Proofs.Ytencnfgmgcdiiaa
