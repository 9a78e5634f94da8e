/- SessApart: the walk. -/
import Derived.Test.YtencnfgmgcdiiaaSePA
import Derived.Test.YtencnfgmgcdiiaaSeOnce
namespace Go.Proofs.Ytencnfgmgcdiiaa
open Go.RowKit Go.PM
set_option maxRecDepth 100000

theorem Try.su_met : Try.prog.underlying 74 = some (.map 5 4) := by kernel_rfl

/-- What the loop keeps. -/
structure ApW (w0 wr : World) (pa ba pb bb y : Nat) (Da Db : List (UInt8 × PC)) (M : List (UInt8 × Bool)) : Prop where
  a : DeskB wr pa ba Da
  b : DeskB wr pb bb Db
  y : MapR wr y ekb Value.bool M
  k : Kept No w0 wr
theorem ApW.kept {w0 wr w' : World} {pa ba pb bb y : Nat} {Da Db : List (UInt8 × PC)} {M : List (UInt8 × Bool)} (h : ApW w0 wr pa ba pb bb y Da Db M) (k : Kept No wr w') : ApW w0 w' pa ba pb bb y Da Db M :=
  ⟨h.a.kept k id id, h.b.kept k id id, h.y.kept k id, h.k.transNo k⟩
def ApRel (w0 : World) (pa ba pb bb y n : Nat) (cl : UInt8) (i : Value) (wr : World) : Prop :=
  ∃ (k : Nat) (Da Db : List (UInt8 × PC)) (M : List (UInt8 × Bool)), k ≤ n ∧ i = .int .i64 k ∧ ApW w0 wr pa ba pb bb y Da Db M ∧ DOk Da ∧ DOk Db ∧ ApInv Da Db M cl
/-- Between the two desks of a round. -/
def ApIn (w6 : World) (pa ba pb bb : Nat) (Da Db : List (UInt8 × PC)) (m : SA) (cl : UInt8) (i : Value) (wr : World) : Prop :=
  ∃ (j : Nat), j ≤ 2 ∧ i = .int .i64 j ∧ DeskB wr pa ba (if 1 ≤ j then stepD Da m else Da) ∧ DeskB wr pb bb (if j = 2 ∧ m.client = cl then stepD Db m else Db) ∧ Kept (fun c => c = ba ∨ c = bb) w6 wr

set_option maxHeartbeats 16000000 in
theorem apart_calls (a : Option Addr) (c : Nat) (l : List SA) (cl : UInt8) (w : World) (h : InSA w a c l) :
    Calls Try.prog 8 #[.slice a l.length c, .int .u8 cl.toNat] w fun e w' => e = .returned (.bool true) ∧ Kept No w w' := by
  have hle := InS.le h
  have hmx := InS.max h
  obtain ⟨n, hn⟩ : ∃ n, n = min l.length 100 := ⟨_, rfl⟩
  have hn1 : n ≤ l.length := by omega
  have hn2 : n ≤ 100 := by omega
  have HN := Lib.hid hn
  clear hn
  have hmm := @run_makeMap Try.prog
  go_enter Try.func8, Try.ntmps8
  go_wp2_with fail
  refine (se_New w).mono ?_
  rintro _ w1 ⟨pa, ba, rfl, d1, k1, hpa, hba⟩
  have hpa1 := d1.st.lt
  have hba1 := d1.mp.lt
  have hpba := d1.ne
  go_wp2_with fail
  refine (se_New w1).mono ?_
  rintro _ w2 ⟨pb, bb, rfl, d2, k2, hpb, hbb⟩
  have hpb1 := d2.st.lt
  have hbb1 := d2.mp.lt
  have hpbb := d2.ne
  have hs1 := k1.size
  have hs2 := k2.size
  have K12 := k1.transNo k2
  have d12 := d1.kept k2 id id
  have M3 := MapR.new w2 ekb Value.bool
  have K3 := (Kept.refl No w2).alloc (.map #[] 0)
  obtain ⟨w4, hu, m4, k4⟩ := M3.update Try.skey Try.su_met cl true
  unfold ekb at hu
  have d14 := (d12.kept K3 id id).kept k4 (by omega) (by omega)
  have d24 := (d2.kept K3 id id).kept k4 (by omega) (by omega)
  have K4 := (K12.transNo K3).above k4 fun c e => by rw [e]; omega
  have O4 : ApW w w4 pa ba pb bb w2.heap.size [] [] [(cl, true)] := ⟨d14, d24, m4, K4⟩
  have HI := Lib.hid O4
  clear m4 k4 d14 d24 K4 O4 M3 K3 d12 K12 d1 d2 k1 k2
  go_wp2_with fail
  clear hu hmm
  generalize hy : w2.heap.size = y at *
  refine (sshort_calls a l.length c w4 hle hmx).mono ?_
  rw [← HN.out]
  rintro _ _ ⟨rfl, rfl⟩
  go_wp2
  go_loopw [34] (fun i wr => ApRel w pa ba pb bb y n cl i wr) (fun i _ => n - (intOf i).toNat)
  case atStart =>
    exact ⟨0, _, _, _, Nat.zero_le _, rfl, HI.out, DOk.nil, DOk.nil, ⟨rfl, fun k h => by simp at h, by simp [getK_cons], fun k h => by simp at h⟩⟩
  case round =>
    clear HI
    obtain ⟨k, Da, Db, M, hk, rfl, hO, oka, okb, hI⟩ := hrel
    by_cases hlt : k < n
    · obtain ⟨m, hm⟩ : ∃ m, l[k]? = some m := ⟨_, List.getElem?_eq_getElem (by omega)⟩
      have hin := InS.each h m (List.mem_of_getElem? hm)
      obtain ⟨ab, ao, rfl, hab, d0, d1, d2, d3, d4, d5, d6, d7, d8⟩ := (h.kept hO.k).at hm
      clear hm
      have hi0 : (0 : Int) ≤ k := by omega
      have hi1 : (k : Int) < n := by omega
      have bx := Blk.new wr 35 m.cells
      have kx := (Kept.refl No wr).alloc (.cells m.cells.toArray 35)
      have hO4 := hO.kept kx
      have hpa0 := hO.a.st.lt
      have hba0 := hO.a.mp.lt
      have hpb0 := hO.b.st.lt
      have hbb0 := hO.b.mp.lt
      have hy0 := hO.y.lt
      have na := hO.a.mp.nodup Try.skey
      have nb := hO.b.mp.nodup Try.skey
      unfold SA.cells at bx kx hO4
      dsimp only [List.toArray] at kx hO4
      obtain ⟨w5, hu, m5, k5⟩ := hO4.y.update Try.skey Try.su_met m.client true
      unfold ekb at hu
      have O5 : ApW w w5 pa ba pb bb y Da Db (putK M m.client true) := ⟨hO4.a.kept k5 (by omega) (by omega), hO4.b.kept k5 (by omega) (by omega), m5, hO4.k.above k5 fun c e => by rw [e]; omega⟩
      have b5 := bx.kept k5 (by omega)
      have hlen := O5.y.len Try.su_met 3
      have hMn := length_put_ge M m.client true
      have hInv := hI.step na nb m
      obtain ⟨L, hL⟩ : ∃ L, (putK M m.client true).length = L := ⟨_, rfl⟩
      rw [hL] at hlen hMn hInv
      have HL := Lib.hid hL
      clear hL
      by_cases hM : (16 : Int) < L
      · have dM : decide ((16 : Int) < L) = true := decide_eq_true hM
        clear hM hI hInv hO hO4 kx
        go_wp2_with (go_at_call 20; refine (alive_calls _).mono ?_; rintro _ w9 ⟨rfl, k9⟩)
        go_ret
        exact ⟨rfl, O5.k.transNo k9⟩
      have dM : decide ((16 : Int) < L) = false := decide_eq_false hM
      replace hInv := hInv (by omega) hMn
      have a7 := b5.cell 7
      simp only [List.getElem?_cons_zero, List.getElem?_cons_succ] at a7
      by_cases hsz : (65536 : Int) < m.a.val.size
      · have dsz : decide ((65536 : Int) < m.a.val.size) = true := decide_eq_true hsz
        clear hM hI hInv hO hO4 kx hsz
        go_wp2_with (go_at_call 20; refine (alive_calls _).mono ?_; rintro _ w9 ⟨rfl, k9⟩)
        go_ret
        exact ⟨rfl, O5.k.transNo k9⟩
      have dsz : decide ((65536 : Int) < m.a.val.size) = false := decide_eq_false hsz
      have A6 := Blk.new w5 23 [.pointer (some ⟨pa, 0, none⟩), .pointer (some ⟨pb, 0, none⟩)]
      have K6 := (Kept.refl No w5).alloc (.cells #[.pointer (some ⟨pa, 0, none⟩), .pointer (some ⟨pb, 0, none⟩)] 23)
      have O6 := O5.kept K6
      have b6 := b5.kept K6 id
      have hga : wr.heap.size < w5.heap.size := b5.lt
      clear hI hO hO4 kx hsz hM na nb hMn bx m5 k5
      go_wp2
      clear dM dsz hlen hu a7 d0 d1 d2 d3 d4 d5 d6 d7 d8 b5 O5 K6
      generalize w5.alloc _ = w6 at *
      generalize wr.heap.size = ga at *
      generalize w5.heap.size = g6 at *
      generalize putK M m.client true = M' at *
      go_loopw [56] (fun i wx => ApIn w6 pa ba pb bb Da Db m cl i wx) (fun i _ => 2 - (intOf i).toNat)
      case atStart => exact ⟨0, by omega, rfl, O6.a, O6.b, Kept.refl _ _⟩
      case round =>
        obtain ⟨j, hj, rfl, da, db, kk⟩ := hrel
        by_cases hlt2 : j < 2
        · have hj0 : (0 : Int) ≤ j := by omega
          have hj1 : (j : Int) < 2 := by omega
          have na6 : ¬ (ga = ba ∨ ga = bb) := by omega
          have na7 : ¬ (g6 = ba ∨ g6 = bb) := by omega
          have A6x := A6.kept kk na7
          have b6x := b6.kept kk na6
          obtain ⟨pd, bd, Dd, hdd, okd, hcell, nbd, fin⟩ : ∃ pd bd Dd, DeskB wr pd bd Dd ∧ DOk Dd ∧ wr.cell? ⟨g6, j, none⟩ = some (.pointer (some ⟨pd, 0, none⟩)) ∧ (bd = ba ∨ bd = bb) ∧
              (¬ (j = 1 ∧ m.client ≠ cl) → ∀ w', DeskB w' pd bd (stepD Dd m) → Kept (· = bd) wr w' → ApIn w6 pa ba pb bb Da Db m cl (.int .i64 (((j + 1 : Nat)) : Int)) w') := by
            have h01 : j = 0 ∨ j = 1 := by omega
            rcases h01 with rfl | rfl
            · refine ⟨pa, ba, Da, da, oka, A6x.cell 0, .inl rfl, fun _ w' d' k' => ⟨1, by omega, rfl, d', ?_, kk.trans k' fun b _ hb => .inl hb⟩⟩
              have := db.kept k' (by omega) (by omega)
              rwa [if_neg (by omega)] at this ⊢
            · have db' : DeskB wr pb bb Db := by rwa [if_neg (by omega)] at db
              refine ⟨pb, bb, Db, db', okb, A6x.cell 1, .inr rfl, fun hs w' d' k' => ⟨2, by omega, rfl, ?_, ?_, kk.trans k' fun b _ hb => .inr hb⟩⟩
              · have := da.kept k' (by omega) (by omega)
                rwa [if_pos (by omega)] at this ⊢
              · have hc : m.client = cl := Decidable.byContradiction fun hc => hs ⟨rfl, hc⟩
                rw [if_pos ⟨rfl, hc⟩]; exact d'
          have a1 : wr.cell? ⟨ga, 1, none⟩ = some (.int .u8 m.client.toNat) := b6x.cell 1
          by_cases hskip : j = 1 ∧ m.client ≠ cl
          · have dj : ((j : Int) == 1) = true := by rw [beq_iff_eq]; omega
            have dn : ((m.client.toNat : Int) != cl.toNat) = true := by
              rw [bne_iff_ne]; intro e; exact hskip.2 (UInt8.toNat_inj.1 (by omega))
            have HS := Lib.hid hskip
            clear fin hskip hdd okd
            go_wp2
            go_roundw
            case rel =>
              obtain ⟨rfl, hne⟩ := HS.out
              refine ⟨2, by omega, by go_num, ?_, ?_, kk⟩
              · rwa [if_pos (by omega)] at da ⊢
              · rw [if_neg (by omega)] at db; rwa [if_neg (fun h => hne h.2)]
            case measure => simp [intOf]; omega
          · have hcase : ((j : Int) == 1) = false ∨ (((j : Int) == 1) = true ∧ ((m.client.toNat : Int) != cl.toNat) = false) := by
              by_cases h1 : j = 1
              · right
                refine ⟨by rw [beq_iff_eq]; omega, ?_⟩
                have hc : m.client = cl := Decidable.byContradiction fun hc => hskip ⟨h1, hc⟩
                rw [hc]; simp
              · left; rw [beq_eq_false_iff_ne]; omega
            have FIN := Lib.hid (fin hskip)
            clear fin hskip da db
            have nbw : bd < wr.heap.size := hdd.mp.lt
            have nga : ¬ ga = bd := by omega
            have ngp : ga < wr.heap.size := b6x.lt
            generalize hla : (lk Dd m.client).last = la at *
            have hl0 : 0 ≤ la := by rw [← hla]; exact (okd.bd m.client).1
            have hl1 : la ≤ 2147483647 := by rw [← hla]; exact (okd.bd m.client).2
            obtain ⟨q0, q1⟩ := m.num_in hin hl0 hl1
            obtain ⟨q, hq⟩ : ∃ q, m.num la = q := ⟨_, rfl⟩
            rw [hq] at q0 q1
            have HLA := Lib.hid hla
            have HQ := Lib.hid hq
            have HIN := Lib.hid hin
            have HD := Lib.hid hdd
            have HB := Lib.hid b6x
            clear hla hq hin hdd A6 A6x b6 kk b6x
            rcases hcase with dj | ⟨dj, dn⟩
            all_goals
              go_upto_region 15 with (fail)
              clear hcell a1
              go_cut [12] (fun s12 wx => CallAt wr m.client q s12 wx)
              case first =>
                have F : ∀ w', Kept No wr w' → w'.cell? ⟨ga, 0, none⟩ = some (.int .u8 m.kind.toNat) ∧ w'.cell? ⟨ga, 1, none⟩ = some (.int .u8 m.client.toNat) ∧ w'.cell? ⟨ga, 2, none⟩ = some (.int .u32 m.seq) ∧ w'.cell? ⟨ga, 3, none⟩ = some (.int .i64 m.a.why) ∧
                    w'.cell? ⟨ga, 4, none⟩ = some (.int .u8 m.a.node) ∧ w'.cell? ⟨ga, 5, none⟩ = some (.int .u32 m.a.boot) ∧ w'.cell? ⟨ga, 6, none⟩ = some (.int .u32 m.a.num) ∧ w'.cell? ⟨ga, 7, none⟩ = some (.string m.a.val) ∧ w'.cell? ⟨ga, 8, none⟩ = some (.int .u32 m.a.ver) :=
                  fun w' kk => let B := HB.out.kept kk id; ⟨B.cell 0, B.cell 1, B.cell 2, B.cell 3, B.cell 4, B.cell 5, B.cell 6, B.cell 7, B.cell 8⟩
                have KD : Kept No wr wr.drew := (Kept.refl No wr).drew
                have KA : Kept No wr (wr.alloc (.cells #[.int .u8 0, .int .u32 0] 39)).drew := ((Kept.refl No wr).alloc _).drew
                have BA : Blk (wr.alloc (.cells #[.int .u8 0, .int .u32 0] 39)).drew wr.heap.size 39 [.int .u8 0, .int .u32 0] := Blk.new' (w := wr) rfl _ _
                go_region_held3 (fun w' => w'.cell? ⟨ga, 0, none⟩ = some (.int .u8 m.kind.toNat) ∧ w'.cell? ⟨ga, 1, none⟩ = some (.int .u8 m.client.toNat) ∧ w'.cell? ⟨ga, 2, none⟩ = some (.int .u32 m.seq) ∧ w'.cell? ⟨ga, 3, none⟩ = some (.int .i64 m.a.why) ∧
                    w'.cell? ⟨ga, 4, none⟩ = some (.int .u8 m.a.node) ∧ w'.cell? ⟨ga, 5, none⟩ = some (.int .u32 m.a.boot) ∧ w'.cell? ⟨ga, 6, none⟩ = some (.int .u32 m.a.num) ∧ w'.cell? ⟨ga, 7, none⟩ = some (.string m.a.val) ∧ w'.cell? ⟨ga, 8, none⟩ = some (.int .u32 m.a.ver))
                  (first | (with_reducible exact F _ KD) | (with_reducible exact F _ KA) | (with_reducible exact F _ k6) | (with_reducible exact F _ (k6.alloc _)) | (with_reducible exact F _ (k6.fresh2 (Nat.le_refl _) _ _)) | go_keep)
                  (first
                    | (go_at_call 17; refine (last_eq (HD.out.kept (by first | exact KD | exact KA) id id) HLA.out).mono ?_; rintro _ _ ⟨rfl, rfl⟩)
                    | (go_at_call 16; refine (seq_eq HIN.out hl0 hl1 HQ.out _).mono ?_; rintro _ w6 ⟨rfl, k6'⟩; first | (have k6 : Kept No wr w6 := KA.transNo k6'; have B6 := BA.kept k6' id; have g0 := B6.cell 0; have g1 := B6.cell 1; have gf0 := B6.frozen 0; have gf1 := B6.frozen 1) | (have k6 : Kept No wr w6 := KD.transNo k6'))
                    | fail)
                all_goals
                  go_wp2
                  go_meet
                  first
                    | exact ⟨wr.heap.size, rfl, Nat.le_refl _, B6.set2 _ _, k6.fresh2 (Nat.le_refl _) _ _⟩
                    | exact ⟨w6.heap.size, rfl, k6.size, Blk.new w6 _ _, k6.alloc _⟩
              case rest =>
                obtain ⟨g8, rfl, hg8, B8, K8⟩ := hcut
                have b8 := HB.out.kept K8 id
                have D8 := HD.out.kept K8 id id
                have e0 : wc.cell? ⟨g8, 0, none⟩ = some (.int .u8 m.client.toNat) := B8.cell 0
                have e1 : wc.cell? ⟨g8, 1, none⟩ = some (.int .u32 q) := B8.cell 1
                have a0 : wc.cell? ⟨ga, 0, none⟩ = some (.int .u8 m.kind.toNat) := b8.cell 0
                have a1 : wc.cell? ⟨ga, 1, none⟩ = some (.int .u8 m.client.toNat) := b8.cell 1
                have a8 : wc.cell? ⟨ga, 8, none⟩ = some (.int .u32 m.a.ver) := b8.cell 8
                have hqq : m.num (lk Dd m.client).last = q := by rw [HLA.out, HQ.out]
                have hst : ∀ w9, DeskB w9 pd bd (stepD Dd m) → Kept (· = bd) wc w9 → ApIn w6 pa ba pb bb Da Db m cl (.int .i64 (((j + 1 : Nat)) : Int)) w9 := by
                  intro w9 d9 k9
                  obtain ⟨j', hj', e', da', db', kk'⟩ := FIN.out w9 (by exact d9) (K8.no.trans k9 fun _ _ h => h)
                  exact ⟨j', hj', e', da', db', kk'⟩
                have HST := Lib.hid hst
                clear hst b8 B8
                by_cases h2 : (m.kind.toNat : Int) % 4 = 2
                · have dk : ((m.kind.toNat : Int) % 4 == 2) = true := by rw [beq_iff_eq]; exact h2
                  have e : pTell Dd m.client q ⟨0, 0, 0, 0, ⟨#[]⟩, m.a.ver⟩ = ((pTell Dd m.client q ⟨0, 0, 0, 0, ⟨#[]⟩, m.a.ver⟩).1, stepD Dd m) := by
                    unfold stepD; rw [if_pos h2, hqq]
                  generalize (pTell Dd m.client q ⟨0, 0, 0, 0, ⟨#[]⟩, m.a.ver⟩).1 = er at *
                  have HE := Lib.hid e
                  clear e h2 hqq
                  go_wp2_with (go_at_call 18; refine (tell_eq D8 HE.out).mono ?_; rintro _ w9 ⟨rfl, d9, k9⟩)
                  go_roundw
                  case rel => exact HST.out w9 d9 k9
                  case measure => simp [intOf]; omega
                · have dk : ((m.kind.toNat : Int) % 4 == 2) = false := by rw [beq_eq_false_iff_ne]; exact h2
                  by_cases h3 : (m.kind.toNat : Int) % 4 = 3
                  · have dk3 : ((m.kind.toNat : Int) % 4 == 3) = true := by rw [beq_iff_eq]; exact h3
                    have e : stepD Dd m = delK Dd m.client := by unfold stepD; rw [if_neg h2, if_pos h3]
                    have HE := Lib.hid e
                    clear e h2 h3 hqq
                    go_wp2_with (go_at_call 29; refine (se_Leave D8 m.client).mono ?_; rintro _ w9 ⟨rfl, d9, k9⟩)
                    go_roundw
                    case rel => exact HST.out w9 (by rw [HE.out]; exact d9) k9
                    case measure => simp [intOf]; omega
                  · have dk3 : ((m.kind.toNat : Int) % 4 == 3) = false := by rw [beq_eq_false_iff_ne]; exact h3
                    obtain ⟨x, xa, er, e⟩ : ∃ x xa er, pCome Dd m.client q = (x, xa, er, stepD Dd m) := 
                      ⟨(pCome Dd m.client q).1, (pCome Dd m.client q).2.1, (pCome Dd m.client q).2.2.1, by unfold stepD; rw [if_neg h2, if_neg h3, hqq]⟩
                    have HE := Lib.hid e
                    clear e h2 h3 hqq
                    go_wp2_with (go_at_call 19; refine (come_eq D8 okd q0 q1 HE.out).mono ?_; rintro _ w9 ⟨rfl, d9, k9⟩)
                    go_roundw
                    case rel => exact HST.out w9 d9 k9
                    case measure => simp [intOf]; omega
        · have e2 : j = 2 := by omega
          have hj2 : ¬ ((j : Int) < 2) := by omega
          have da' : DeskB wr pa ba (stepD Da m) := by rwa [if_pos (by omega)] at da
          have db' : DeskB wr pb bb (if m.client = cl then stepD Db m else Db) := by
            by_cases hc : m.client = cl
            · rw [if_pos ⟨e2, hc⟩] at db; rwa [if_pos hc]
            · rw [if_neg (fun h => hc h.2)] at db; rwa [if_neg hc]
          clear e2
          have oka' := oka.step m
          have okb' : DOk (if m.client = cl then stepD Db m else Db) := by
            split
            · exact okb.step m
            · exact okb
          have k7 : Kept No w wr := O6.k.above kk fun b hb => by rcases hb with rfl | rfl <;> omega
          have y7 := O6.y.kept kk (by omega)
          have hbb9 : y < wr.heap.size := y7.lt
          clear da db oka okb kk O6 A6 b6 hin
          generalize (if m.client = cl then stepD Db m else Db) = Db' at *
          generalize stepD Da m = Da' at *
          have hsame : lk Db' cl = lk Da' cl := by unfold lk; rw [hInv.same]
          have ha := again (c := cl) oka'
          have hb := again (c := cl) okb'
          rw [hsame] at hb
          have hl0 : 0 ≤ (lk Da' cl).last := (oka'.bd cl).1
          have hl1 : (lk Da' cl).last ≤ 2147483647 := (oka'.bd cl).2
          obtain ⟨la, hla⟩ : ∃ la, (lk Da' cl).last = la := ⟨_, rfl⟩
          have hlb : (lk Db' cl).last = la := by rw [hsame, hla]
          rw [hla] at ha hb hl0 hl1
          have HA := Lib.hid hla
          have HB := Lib.hid hlb
          have HI := Lib.hid hInv
          have O7 : ApW w wr pa ba pb bb y Da' Db' M' := ⟨da', db', y7, k7⟩
          have B13 := Blk.new wr 39 [.int .u8 cl.toNat, .int .u32 la]
          have K13 := (Kept.refl No wr).alloc (.cells #[.int .u8 cl.toNat, .int .u32 la] 39)
          have O13 := O7.kept K13
          have H13a := Lib.hid (last_eq O13.a HA.out)
          have H13b := Lib.hid (last_eq O13.b HB.out)
          clear hla hlb hInv da' db' y7 k7
          by_cases hz : la = 0
          · have dz : (la == 0) = true := by rw [beq_iff_eq]; exact hz
            clear hz ha hb
            go_wp2_with fail
            refine (last_eq O7.a HA.out).mono ?_
            rintro _ _ ⟨rfl, rfl⟩
            go_wp2_with fail
            refine H13a.out.mono ?_
            rintro _ _ ⟨rfl, rfl⟩
            go_wp2_with fail
            refine H13b.out.mono ?_
            rintro _ _ ⟨rfl, rfl⟩
            go_wp2
            go_roundw
            case rel => exact ⟨k + 1, Da', Db', M', by omega, by go_num, O13, oka', okb', HI.out⟩
            case measure => simp [intOf]; omega
          · have dz : (la == 0) = false := by rw [beq_eq_false_iff_ne]; exact hz
            have hab : ∃ x v, pCome Da' cl la = (x, v, 0, Da') ∧ pCome Db' cl la = (x, v, 0, Db') := by
              cases ho : (lk Da' cl).opn with
              | true => exact ⟨2, .zero, by rw [ha hz, if_pos ho], by rw [hb hz, if_pos ho]⟩
              | false => exact ⟨3, (lk Da' cl).a, by rw [ha hz, if_neg (by rw [ho]; decide)], by rw [hb hz, if_neg (by rw [ho]; decide)]⟩
            obtain ⟨x, v, ea, eb⟩ := hab
            have EA := Lib.hid ea
            have EB := Lib.hid eb
            clear hz ha hb ea eb
            go_wp2_with fail
            refine (last_eq O7.a HA.out).mono ?_
            rintro _ _ ⟨rfl, rfl⟩
            go_wp2_with fail
            refine H13a.out.mono ?_
            rintro _ _ ⟨rfl, rfl⟩
            go_wp2_with fail
            refine H13b.out.mono ?_
            rintro _ _ ⟨rfl, rfl⟩
            go_wp2_with fail
            clear H13a H13b
            have hs13 : wr.heap.size < (wr.alloc (.cells #[.int .u8 cl.toNat, .int .u32 la] 39)).heap.size := B13.lt
            generalize wr.alloc _ = w13 at *
            generalize wr.heap.size = g13 at *
            refine (come_eq O13.a oka' hl0 (by omega) EA.out).mono ?_
            rintro _ w14 ⟨rfl, d14, k14⟩
            have K15 := (Kept.refl No w14).alloc (.cells #[.int .i64 v.why, .int .u8 v.node, .int .u32 v.boot, .int .u32 v.num, .string v.val, .int .u32 v.ver] 40)
            have A15 := Blk.new w14 40 [.int .i64 v.why, .int .u8 v.node, .int .u32 v.boot, .int .u32 v.num, .string v.val, .int .u32 v.ver]
            have B15 := (B13.kept k14 (by omega)).kept K15 id
            have O15 : ApW w _ pa ba pb bb y Da' Db' M' := ApW.kept ⟨d14, O13.b.kept k14 (by omega) (by omega), O13.y.kept k14 (by omega), O13.k.above k14 fun c e => by rw [e]; omega⟩ K15
            have e0 : (w14.alloc (.cells #[.int .i64 v.why, .int .u8 v.node, .int .u32 v.boot, .int .u32 v.num, .string v.val, .int .u32 v.ver] 40)).cell? ⟨g13, 0, none⟩ = some (.int .u8 cl.toNat) := B15.cell 0
            have e1 : (w14.alloc (.cells #[.int .i64 v.why, .int .u8 v.node, .int .u32 v.boot, .int .u32 v.num, .string v.val, .int .u32 v.ver] 40)).cell? ⟨g13, 1, none⟩ = some (.int .u32 la) := B15.cell 1
            have hbb15 : bb < w14.heap.size := by have := O15.b.mp.lt; have := (O13.b.kept k14 (by omega) (by omega)).mp.lt; omega
            go_wp2_with fail
            clear e0 e1 K15 d14 k14 O13
            generalize w14.alloc _ = w15 at *
            generalize w14.heap.size = g15 at *
            refine (come_eq O15.b okb' hl0 (by omega) EB.out).mono ?_
            rintro _ w16 ⟨rfl, d16, k16⟩
            have K17 := (Kept.refl No w16).alloc (.cells #[.int .i64 v.why, .int .u8 v.node, .int .u32 v.boot, .int .u32 v.num, .string v.val, .int .u32 v.ver] 40)
            have A17 := Blk.new w16 40 [.int .i64 v.why, .int .u8 v.node, .int .u32 v.boot, .int .u32 v.num, .string v.val, .int .u32 v.ver]
            have A17' := (A15.kept k16 (by omega)).kept K17 id
            have O17 : ApW w _ pa ba pb bb y Da' Db' M' := ApW.kept ⟨O15.a.kept k16 (by omega) (by omega), d16, O15.y.kept k16 (by omega), O15.k.above k16 fun c e => by rw [e]; omega⟩ K17
            obtain ⟨a0, a1, a2, a3, a4, a5⟩ := get6 A17
            obtain ⟨f0, f1, f2, f3, f4, f5⟩ := get6 A17'
            have hne := neqAns_same v (w16.alloc (.cells #[.int .i64 v.why, .int .u8 v.node, .int .u32 v.boot, .int .u32 v.num, .string v.val, .int .u32 v.ver] 40))
            clear A17 A17' A15 B15 B13 O15 d16 k16
            go_wp2
            go_roundw
            case rel => exact ⟨k + 1, Da', Db', M', by omega, by go_num, O17, oka', okb', HI.out⟩
            case measure => simp [intOf]; omega
    · have hi1 : ¬ ((k : Int) < n) := by omega
      go_wp2_with (go_at_call 20; refine (alive_calls _).mono ?_; rintro _ w9 ⟨rfl, k9⟩)
      go_ret
      exact ⟨rfl, hO.k.transNo k9⟩
end Go.Proofs.Ytencnfgmgcdiiaa
