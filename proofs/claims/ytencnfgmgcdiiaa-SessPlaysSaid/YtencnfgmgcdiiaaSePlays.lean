/- SessPlays: the walk. -/
import Derived.Test.YtencnfgmgcdiiaaSeQ
namespace Go.Proofs.Ytencnfgmgcdiiaa
open Go.RowKit Go.PM
set_option maxRecDepth 100000

/-- Both desks, as they stand. -/
structure PlayW (w0 wr : World) (p b q : Nat) (D L : List (UInt8 × PC)) : Prop where
  d : DeskB wr p b D
  r : RefB wr q L
  k : Kept No w0 wr
theorem PlayW.kept {w0 wr w' : World} {p b q : Nat} {D L : List (UInt8 × PC)} (h : PlayW w0 wr p b q D L) (k : Kept No wr w') : PlayW w0 w' p b q D L := ⟨h.d.kept k id id, h.r.keptNo k, h.k.transNo k⟩
def PlayRel (w0 : World) (p b q n : Nat) (i : Value) (wr : World) : Prop :=
  ∃ (k : Nat) (D L : List (UInt8 × PC)), k ≤ n ∧ i = .int .i64 k ∧ PlayW w0 wr p b q D L ∧ DOk D ∧ Ref L D
/-- Behind an act. -/
def Played (w0 : World) (p b q : Nat) (s : Value) (wx : World) : Prop := s = .bool true ∧ ∃ D L, PlayW w0 wx p b q D L ∧ DOk D ∧ Ref L D
def OpenTo (_w0 w4 : World) (L : List (UInt8 × PC)) (s : Value) (wx : World) : Prop :=
  ∃ (a : Option Addr) (cap : Nat), s = .slice a (openL L).length cap ∧ Owns wx 39 2 a (openL L).length cap (ccells (openL L)) ∧ Kept No w4 wx
def OpenRel (w4 : World) (L : List (UInt8 × PC)) (s i : Value) (wx : World) : Prop :=
  ∃ (j : Nat) (a : Option Addr) (cap : Nat), j ≤ L.length ∧ i = .int .i64 j ∧ s = .slice a (openL (L.take j)).length cap ∧ Owns wx 39 2 a (openL (L.take j)).length cap (ccells (openL (L.take j))) ∧ (∀ c, At a c → w4.heap.size ≤ c) ∧ Kept No w4 wx

/-- The array of the document's desk is no block of the desk. -/
theorem RefB.off {w w' : World} {p b q : Nat} {D L : List (UInt8 × PC)} (hd : DeskB w p b D) (h : RefB w q L) (k : Kept (· = b) w w') (hq : q ≠ b) : RefB w' q L := by
  obtain ⟨a, cap, h⟩ := h
  cases L with
  | nil => exact ⟨a, cap, h.st.kept k hq, Rd.nil _ _, h.le, h.max, h.nil, h.far⟩
  | cons x L =>
    refine ⟨a, cap, h.kept k hq fun c hc e => ?_⟩
    subst e
    obtain ⟨b', o, e, hbb⟩ := hc
    obtain ⟨b'', o', e', hcell⟩ := h.rd 0 (.int .u8 x.1.toNat) (by simp [rcells, rcell])
    rw [e] at e'
    simp only [Option.some.injEq, Addr.mk.injEq, and_true] at e'
    obtain ⟨rfl, rfl⟩ := e'
    subst hbb
    obtain ⟨es, clock, hm, _⟩ := hd.mp
    unfold World.cell? at hcell
    rw [hm] at hcell
    simp at hcell
section
variable {w w' : World} {p b q : Nat} {D D' L L' : List (UInt8 × PC)} {c : UInt8} {s : Int}
theorem rtell_eq (h : RefB w q L) (hr : Rises L) (hl : L.length ≤ 16) {v : PA} {er : Int} (e : rTell L c s v = (er, L')) :
    Calls Try.prog 28 #[.pointer (some ⟨q, 0, none⟩), .int .u8 c.toNat, .int .u32 s, .agg #[.int .i64 v.why, .int .u8 v.node, .int .u32 v.boot, .int .u32 v.num, .string v.val, .int .u32 v.ver]] w fun e w' =>
      e = .returned (.int .i64 er) ∧ RefB w' q L' ∧ Kept (· = q) w w' := by
  have := r_tell h hr hl c s v
  rw [e] at this
  exact this
theorem rcome_eq (h : RefB w q L) (hr : Rises L) (hl : L.length ≤ 16) (h0 : 0 ≤ s) (h1 : s < 4294967296) (hx0 : 0 ≤ (lk L c).last) (hx1 : (lk L c).last ≤ 2147483647) {x er : Int} {v : PA} (e : rCome L c s = (x, v, er, L')) :
    Calls Try.prog 31 #[.pointer (some ⟨q, 0, none⟩), .int .u8 c.toNat, .int .u32 s] w fun e w' =>
      e = .returned (.tuple #[.int .i64 x, .agg #[.int .i64 v.why, .int .u8 v.node, .int .u32 v.boot, .int .u32 v.num, .string v.val, .int .u32 v.ver], .int .i64 er]) ∧ RefB w' q L' ∧ Kept (· = q) w w' := by
  have := r_come h hr hl c s h0 h1 hx0 hx1
  rw [e] at this
  exact this
end

theorem acts_drop {a0 a1 a2 a3 a4 a5 a6 a7 a8 c0 c1 : Prop} (h : (a0 ∧ a1 ∧ a2 ∧ a3 ∧ a4 ∧ a5 ∧ a6 ∧ a7 ∧ a8) ∧ c0 ∧ c1) : (a3 ∧ a4 ∧ a5 ∧ a6 ∧ a7 ∧ a8) ∧ c0 ∧ c1 := ⟨h.1.2.2.2, h.2⟩
theorem acts_one {a0 a1 a2 a3 a4 a5 a6 a7 a8 c0 c1 : Prop} (h : (a0 ∧ a1 ∧ a2 ∧ a3 ∧ a4 ∧ a5 ∧ a6 ∧ a7 ∧ a8) ∧ c0 ∧ c1) : a1 := h.1.2.1
set_option maxHeartbeats 32000000 in
theorem splays_calls (a : Option Addr) (c : Nat) (l : List SA) (w : World) (h : InSA w a c l) :
    Calls Try.prog 7 #[.slice a l.length c] w fun e w' => e = .returned (.bool true) ∧ Kept No w w' := by
  have hle := InS.le h
  have hmx := InS.max h
  obtain ⟨n, hn⟩ : ∃ n, n = min l.length 100 := ⟨_, rfl⟩
  have hn1 : n ≤ l.length := by omega
  have hn2 : n ≤ 100 := by omega
  have HN := Lib.hid hn
  clear hn
  go_enter Try.func7, Try.ntmps7
  go_wp2_with fail
  refine (se_New w).mono ?_
  rintro _ w1 ⟨p, b, rfl, d1, k1, hp, hb⟩
  have hp1 := d1.st.lt
  have hb1 := d1.mp.lt
  have hpb := d1.ne
  have K2 := (Kept.refl No w1).alloc (.cells #[.slice none 0 0] 64)
  have B2 := Blk.new w1 64 [.slice none 0 0]
  have r2 : RefB (w1.alloc (.cells #[.slice none 0 0] 64)) w1.heap.size [] := ⟨none, 0, B2, Rd.nil _ _, Nat.le_refl _, by simp [maxLen], fun _ => rfl, fun _ ⟨_, _, h, _⟩ => nomatch h⟩
  have O2 : PlayW w _ p b w1.heap.size [] [] := ⟨d1.kept K2 id id, r2, k1.transNo K2⟩
  clear B2 r2 K2 d1
  go_wp2_with fail
  have hwq : w.heap.size ≤ w1.heap.size := k1.size
  generalize w1.alloc _ = w2 at *
  generalize hq : w1.heap.size = q at *
  have hpq : p ≠ q := by omega
  have hbq : b ≠ q := by omega
  clear k1
  refine (alive_calls w2).mono ?_
  rintro _ w3 ⟨rfl, k3⟩
  have O3 := O2.kept k3
  clear O2 k3
  go_wp2_with fail
  refine (sshort_calls a l.length c w3 hle hmx).mono ?_
  rw [← HN.out]
  rintro _ _ ⟨rfl, rfl⟩
  go_wp2
  go_loopw [33] (fun i wr => PlayRel w p b q n i wr) (fun i _ => n - (intOf i).toNat)
  case atStart => exact ⟨0, [], [], Nat.zero_le _, rfl, O3, DOk.nil, Ref.nil⟩
  case round =>
    clear O3
    obtain ⟨k, D, L, hk, rfl, hO, hok, hRef⟩ := hrel
    by_cases hlt : k < n
    · obtain ⟨m, hm⟩ : ∃ m, l[k]? = some m := ⟨_, List.getElem?_eq_getElem (by omega)⟩
      have hin := InS.each h m (List.mem_of_getElem? hm)
      obtain ⟨ab, ao, rfl, hab, d0, d1, d2, d3, d4, d5, d6, d7, d8⟩ := (h.kept hO.k).at hm
      clear hm
      have hi0 : (0 : Int) ≤ k := by omega
      have hi1 : (k : Int) < n := by omega
      have bx := Blk.new wr 35 m.cells
      have kx := (Kept.refl No wr).alloc (.cells m.cells.toArray 35)
      have hO4 := hO.kept kx
      have nd := hO.d.mp.nodup Try.skey
      have hLl : L.length ≤ 16 := by rw [hRef.len nd]; exact hok.len
      have hup := hRef.up
      have hlkeq : lk L m.client = lk D m.client := by unfold lk; rw [hRef.same]
      have hb0 := hO.d.mp.lt
      have hp0 := hO.d.st.lt
      have hq0 : q < wr.heap.size := by obtain ⟨_, _, hc⟩ := hO.r; exact hc.st.lt
      unfold SA.cells at bx kx hO4
      dsimp only [List.toArray] at kx hO4
      go_upto_region 9 with (fail)
      clear d0 d1 d2 d3 d4 d5 d6 d7 d8 kx hO
      simp only [List.toArray] at bx
      generalize hw4 : wr.alloc _ = w4 at *
      have hga : wr.heap.size < w4.heap.size := bx.lt
      generalize hgae : wr.heap.size = ga at *
      clear hw4 hgae
      obtain ⟨ra, rc, hrc⟩ := hO4.r
      have c0 : w4.cell? ⟨q, 0, none⟩ = some (.slice ra L.length rc) := hrc.st.cell 0
      go_upto_block 2 with (fail)
      have HLKQ := Lib.hid hlkeq
      clear hlkeq
      go_cut [7] (fun s7 wx => s7 = .int .u32 (lk L m.client).last ∧ Kept No w4 wx)
      case first =>
        go_wp2_with fail
        go_loopw [7, 40] (fun s i wx => ∃ j : Nat, j ≤ L.length ∧ i = .int .i64 j ∧ s = .int .u32 (lk (L.take j) m.client).last ∧ Kept No w4 wx) (fun _ i _ => L.length - (intOf i).toNat)
        case atStart => exact ⟨0, Nat.zero_le _, rfl, by simp [lk, PC.zero], Kept.refl _ _⟩
        case round =>
          obtain ⟨j, hj, rfl, rfl, kj⟩ := hrel
          have j0 : (0 : Int) ≤ j := by omega
          by_cases hjl : j < L.length
          · have j1 : (j : Int) < L.length := by omega
            obtain ⟨px, hpx⟩ : ∃ px, L[j]? = some px := ⟨_, List.getElem?_eq_getElem hjl⟩
            obtain ⟨rb, ro, rfl, hrb, y0, y1, y2, y3, y4, y5, y6, y7, y8⟩ := (hrc.keptNo kj).at hpx
            have K9 := (Kept.refl No wr).alloc (.cells #[.int .u8 px.1.toNat, .int .u32 px.2.last, .bool px.2.opn, .int .i64 px.2.a.why, .int .u8 px.2.a.node, .int .u32 px.2.a.boot, .int .u32 px.2.a.num, .string px.2.a.val, .int .u32 px.2.a.ver] 66)
            have b9 := (bx.kept kj id).kept K9 id
            have e1 : (wr.alloc (.cells #[.int .u8 px.1.toNat, .int .u32 px.2.last, .bool px.2.opn, .int .i64 px.2.a.why, .int .u8 px.2.a.node, .int .u32 px.2.a.boot, .int .u32 px.2.a.num, .string px.2.a.val, .int .u32 px.2.a.ver] 66)).cell? ⟨ga, 1, none⟩ = some (.int .u8 m.client.toNat) := b9.cell 1
            have htake := lk_take hup hpx m.client
            obtain ⟨v1, hv1⟩ : ∃ v1, (lk (L.take (j + 1)) m.client).last = v1 := ⟨_, rfl⟩
            obtain ⟨v0, hv0⟩ : ∃ v0, (lk (L.take j) m.client).last = v0 := ⟨_, rfl⟩
            rw [htake] at hv1
            have hlp : (lk (L.take (j + 1)) m.client).last = v1 := by rw [htake]; exact hv1
            have HLP := Lib.hid hlp
            rw [hv0]
            clear htake hlp b9 hpx
            by_cases hid1 : px.1 = m.client
            · rw [if_pos hid1] at hv1
              have HV := Lib.hid hv1
              have deq : ((px.1.toNat : Int) == m.client.toNat) = true := by rw [hid1]; simp
              clear hid1 hv1 hv0
              go_wp2
              exact ⟨⟨j + 1, by omega, by go_num, by rw [HLP.out, HV.out], kj.transNo K9⟩, by simp [intOf]; omega⟩
            · rw [if_neg hid1, hv0] at hv1
              have HV := Lib.hid hv1
              have deq : ((px.1.toNat : Int) == m.client.toNat) = false := by rw [beq_eq_false_iff_ne]; intro e; exact hid1 (u8_eq.2 (by omega))
              clear hid1 hv1 hv0
              go_wp2
              exact ⟨⟨j + 1, by omega, by go_num, by rw [HLP.out, HV.out], kj.transNo K9⟩, by simp [intOf]; omega⟩
          · have j1 : ¬ (j : Int) < L.length := by omega
            have hT : L.take j = L := List.take_of_length_le (by omega)
            rw [hT]
            clear hT
            go_wp2
            go_meet
            exact ⟨rfl, kj⟩
      case rest =>
        obtain ⟨rfl, kq⟩ := hcut
        have O5 := hO4.kept kq
        have b5 := bx.kept kq id
        clear hO4 bx hrc c0 kq
        rw [HLKQ.out]
        generalize hla : (lk D m.client).last = la at *
        have hl0 : 0 ≤ la := by rw [← hla]; exact (hok.bd m.client).1
        have hl1 : la ≤ 2147483647 := by rw [← hla]; exact (hok.bd m.client).2
        obtain ⟨sq, hsq⟩ : ∃ sq, m.num la = sq := ⟨_, rfl⟩
        obtain ⟨q0, q1⟩ := m.num_in hin hl0 hl1
        rw [hsq] at q0 q1
        have HLA := Lib.hid hla
        have HSQ := Lib.hid hsq
        have HIN := Lib.hid hin
        clear hla hsq
        have x1 : wc.cell? ⟨ga, 1, none⟩ = some (.int .u8 m.client.toNat) := b5.cell 1
        have x7 : wc.cell? ⟨ga, 7, none⟩ = some (.string m.a.val) := b5.cell 7
        by_cases hsz : (65536 : Int) < m.a.val.size
        · have dsz : decide ((65536 : Int) < m.a.val.size) = true := decide_eq_true hsz
          clear hsz
          go_wp2_with fail
          refine (last_eq O5.d HLA.out).mono ?_
          rintro _ _ ⟨rfl, rfl⟩
          go_wp2
          go_ret
          exact ⟨rfl, O5.k⟩
        have dsz : decide ((65536 : Int) < m.a.val.size) = false := decide_eq_false hsz
        clear hsz
        go_wp2_with fail
        refine (last_eq O5.d HLA.out).mono ?_
        rintro _ _ ⟨rfl, rfl⟩
        go_upto_region 17 with (fail)
        clear x1 x7 dsz
        have hgw : ga < wc.heap.size := b5.lt
        go_cut [10] (fun s10 wx => CallAt wc m.client sq s10 wx)
        case first =>
          have F : ∀ w', Kept No wc w' → w'.cell? ⟨ga, 0, none⟩ = some (.int .u8 m.kind.toNat) ∧ w'.cell? ⟨ga, 1, none⟩ = some (.int .u8 m.client.toNat) ∧ w'.cell? ⟨ga, 2, none⟩ = some (.int .u32 m.seq) ∧ w'.cell? ⟨ga, 3, none⟩ = some (.int .i64 m.a.why) ∧ w'.cell? ⟨ga, 4, none⟩ = some (.int .u8 m.a.node) ∧ w'.cell? ⟨ga, 5, none⟩ = some (.int .u32 m.a.boot) ∧ w'.cell? ⟨ga, 6, none⟩ = some (.int .u32 m.a.num) ∧ w'.cell? ⟨ga, 7, none⟩ = some (.string m.a.val) ∧ w'.cell? ⟨ga, 8, none⟩ = some (.int .u32 m.a.ver) :=
            fun w' kk => let B := b5.kept kk id; ⟨B.cell 0, B.cell 1, B.cell 2, B.cell 3, B.cell 4, B.cell 5, B.cell 6, B.cell 7, B.cell 8⟩
          have KD : Kept No wc wc.drew := (Kept.refl No wc).drew
          have KA : Kept No wc (wc.alloc (.cells #[.int .u8 0, .int .u32 0] 39)).drew := ((Kept.refl No wc).alloc _).drew
          have BA : Blk (wc.alloc (.cells #[.int .u8 0, .int .u32 0] 39)).drew wc.heap.size 39 [.int .u8 0, .int .u32 0] := Blk.new' (w := wc) rfl _ _
          go_region_held3 (fun w' => w'.cell? ⟨ga, 0, none⟩ = some (.int .u8 m.kind.toNat) ∧ w'.cell? ⟨ga, 1, none⟩ = some (.int .u8 m.client.toNat) ∧ w'.cell? ⟨ga, 2, none⟩ = some (.int .u32 m.seq) ∧ w'.cell? ⟨ga, 3, none⟩ = some (.int .i64 m.a.why) ∧ w'.cell? ⟨ga, 4, none⟩ = some (.int .u8 m.a.node) ∧ w'.cell? ⟨ga, 5, none⟩ = some (.int .u32 m.a.boot) ∧ w'.cell? ⟨ga, 6, none⟩ = some (.int .u32 m.a.num) ∧ w'.cell? ⟨ga, 7, none⟩ = some (.string m.a.val) ∧ w'.cell? ⟨ga, 8, none⟩ = some (.int .u32 m.a.ver))
            (first | (with_reducible exact F _ KD) | (with_reducible exact F _ KA) | (with_reducible exact F _ k6) | (with_reducible exact F _ (k6.alloc _)) | (with_reducible exact F _ (k6.fresh2 (Nat.le_refl _) _ _)) | go_keep)
            (first
              | (go_at_call 16; refine (seq_eq HIN.out hl0 hl1 HSQ.out _).mono ?_; rintro _ w6 ⟨rfl, k6'⟩; first | (have k6 : Kept No wc w6 := KA.transNo k6'; have B6 := BA.kept k6' id; have g0 := B6.cell 0; have g1 := B6.cell 1; have gf0 := B6.frozen 0; have gf1 := B6.frozen 1) | (have k6 : Kept No wc w6 := KD.transNo k6'))
              | fail)
          all_goals
            go_wp2
            go_meet
            first
              | exact ⟨wc.heap.size, rfl, Nat.le_refl _, B6.set2 _ _, k6.fresh2 (Nat.le_refl _) _ _⟩
              | exact ⟨w6.heap.size, rfl, k6.size, Blk.new w6 _ _, k6.alloc _⟩
        case rest =>
          obtain ⟨g10, rfl, hg10, B10, K10⟩ := hcut
          have O6 := O5.kept K10
          have b6 := b5.kept K10 id
          clear O5 b5 K10
          generalize hw6 : wc = w6 at *
          clear hw6
          have HBQ : ∀ w', Kept (fun x => x = b ∨ x = q) w6 w' → (w'.cell? ⟨ga, 0, none⟩ = some (.int .u8 m.kind.toNat) ∧ w'.cell? ⟨ga, 1, none⟩ = some (.int .u8 m.client.toNat) ∧ w'.cell? ⟨ga, 2, none⟩ = some (.int .u32 m.seq) ∧ w'.cell? ⟨ga, 3, none⟩ = some (.int .i64 m.a.why) ∧ w'.cell? ⟨ga, 4, none⟩ = some (.int .u8 m.a.node) ∧ w'.cell? ⟨ga, 5, none⟩ = some (.int .u32 m.a.boot) ∧ w'.cell? ⟨ga, 6, none⟩ = some (.int .u32 m.a.num) ∧ w'.cell? ⟨ga, 7, none⟩ = some (.string m.a.val) ∧ w'.cell? ⟨ga, 8, none⟩ = some (.int .u32 m.a.ver)) ∧ w'.cell? ⟨g10, 0, none⟩ = some (.int .u8 m.client.toNat) ∧ w'.cell? ⟨g10, 1, none⟩ = some (.int .u32 sq) := fun w' kk =>
            let B := b6.kept kk (by omega); let B' := B10.kept kk (by omega)
            ⟨⟨B.cell 0, B.cell 1, B.cell 2, B.cell 3, B.cell 4, B.cell 5, B.cell 6, B.cell 7, B.cell 8⟩, B'.cell 0, B'.cell 1⟩
          have HF6 := Lib.hid HBQ
          have x0 : w6.cell? ⟨ga, 0, none⟩ = some (.int .u8 m.kind.toNat) := b6.cell 0
          have hg6 : g10 < w6.heap.size := B10.lt
          clear HBQ b6 B10
          go_upto_block 4 with (fail)
          clear x0
          go_cut [11] (fun s11 wx => Played w p b q s11 wx)
          case first =>
            have kb : ∀ x, x = b → (x = b ∨ x = q) := fun _ h => .inl h
            by_cases h2 : (m.kind.toNat : Int) % 4 = 2
            · have dk : ((m.kind.toNat : Int) % 4 == 2) = true := by rw [beq_iff_eq]; exact h2
              clear h2
              have ht := rTell_ref hRef m.client sq m.a
              obtain ⟨er, D', eD⟩ : ∃ er D', pTell D m.client sq m.a = (er, D') := ⟨_, _, rfl⟩
              obtain ⟨er', L', eL⟩ : ∃ er' L', rTell L m.client sq m.a = (er', L') := ⟨_, _, rfl⟩
              have hok' := hok.tell m.client sq m.a
              rw [eD] at ht hok'
              rw [eL] at ht
              obtain ⟨rfl, hRef'⟩ := ht
              have ED := Lib.hid eD
              have EL := Lib.hid eL
              have HO6 := Lib.hid O6
              have KD : Kept No w6 w6.drew := (Kept.refl No w6).drew
              clear eD eL O6
              go_wp2
              go_region_held3 (fun w' => (w'.cell? ⟨ga, 3, none⟩ = some (.int .i64 m.a.why) ∧ w'.cell? ⟨ga, 4, none⟩ = some (.int .u8 m.a.node) ∧ w'.cell? ⟨ga, 5, none⟩ = some (.int .u32 m.a.boot) ∧ w'.cell? ⟨ga, 6, none⟩ = some (.int .u32 m.a.num) ∧ w'.cell? ⟨ga, 7, none⟩ = some (.string m.a.val) ∧ w'.cell? ⟨ga, 8, none⟩ = some (.int .u32 m.a.ver)) ∧ w'.cell? ⟨g10, 0, none⟩ = some (.int .u8 m.client.toNat) ∧ w'.cell? ⟨g10, 1, none⟩ = some (.int .u32 sq))
                (first | (with_reducible exact acts_drop (HF6.out _ KD.no)) | (with_reducible exact acts_drop (HF6.out _ K7)) | (with_reducible exact acts_drop (HF6.out _ K8)) | go_keep)
                (first
                  | (go_at_call 18; refine (tell_eq (HO6.out.d.kept KD id id) ED.out).mono ?_; rintro _ w7 ⟨rfl, d7, k7⟩; have K7 : Kept (fun x => x = b ∨ x = q) w6 w7 := KD.no.trans k7 fun _ _ h => .inl h; have R7 := RefB.off (HO6.out.d.kept KD id id) (HO6.out.r.keptNo KD) k7 (Ne.symm hbq))
                  | (go_at_call 28; refine (rtell_eq R7 hup hLl EL.out).mono ?_; rintro _ w8 ⟨rfl, r8, k8⟩; have K8 : Kept (fun x => x = b ∨ x = q) w6 w8 := K7.trans k8 fun _ _ h => .inr h; have d8 := d7.kept k8 hpq hbq)
                  | fail)
              go_wp2
              go_meet
              exact ⟨rfl, D', L', ⟨d8, r8, HO6.out.k.above K8 fun c e => by rcases e with rfl | rfl <;> omega⟩, hok', hRef'⟩
            · have dk : ((m.kind.toNat : Int) % 4 == 2) = false := by rw [beq_eq_false_iff_ne]; exact h2
              by_cases h3 : (m.kind.toNat : Int) % 4 = 3
              · have dk3 : ((m.kind.toNat : Int) % 4 == 3) = true := by rw [beq_iff_eq]; exact h3
                clear h2 h3
                have HD := Lib.hid (fun (w' : World) (hd : DeskB w' p b D) => se_Leave hd m.client)
                have HLV := Lib.hid (fun (w' : World) (hh : RefB w' q L) => r_leave hh hup hLl m.client)
                have hz' : (getK L m.client).isSome = (getK D m.client).isSome := by rw [hRef.same]
                obtain ⟨z, hz⟩ : ∃ z, (getK D m.client).isSome = z := ⟨_, rfl⟩
                rw [hz'] at HLV
                rw [hz] at HLV HD
                have HO6 := Lib.hid O6
                have KD : Kept No w6 w6.drew := (Kept.refl No w6).drew
                clear O6 hz hz'
                go_wp2
                go_region_held3 (fun w' => w'.cell? ⟨ga, 1, none⟩ = some (.int .u8 m.client.toNat))
                  (first | (with_reducible exact acts_one (HF6.out _ KD.no)) | (with_reducible exact acts_one (HF6.out _ K7)) | (with_reducible exact acts_one (HF6.out _ K8)) | go_keep)
                  (first
                    | (go_at_call 29; refine (HD.out _ (HO6.out.d.kept KD id id)).mono ?_; rintro _ w7 ⟨rfl, d7, k7⟩; have K7 : Kept (fun x => x = b ∨ x = q) w6 w7 := KD.no.trans k7 fun _ _ h => .inl h; have R7 := RefB.off (HO6.out.d.kept KD id id) (HO6.out.r.keptNo KD) k7 (Ne.symm hbq))
                    | (go_at_call 30; refine (HLV.out _ R7).mono ?_; rintro _ w8 ⟨rfl, r8, k8⟩; have K8 : Kept (fun x => x = b ∨ x = q) w6 w8 := K7.trans k8 fun _ _ h => .inr h; have d8 := d7.kept k8 hpq hbq)
                    | fail)
                go_wp2
                go_meet
                exact ⟨by cases z <;> rfl, _, _, ⟨d8, r8, HO6.out.k.above K8 fun c e => by rcases e with rfl | rfl <;> omega⟩, hok.del _, hRef.del _⟩
              · have dk3 : ((m.kind.toNat : Int) % 4 == 3) = false := by rw [beq_eq_false_iff_ne]; exact h3
                clear h2 h3
                have hc := rCome_ref hRef nd m.client sq
                have hok' := hok.come m.client sq
                obtain ⟨x, v, er, D', eD⟩ : ∃ x v er D', pCome D m.client sq = (x, v, er, D') := ⟨_, _, _, _, rfl⟩
                obtain ⟨x', v', er', L', eL⟩ : ∃ x v er L', rCome L m.client sq = (x, v, er, L') := ⟨_, _, _, _, rfl⟩
                rw [eD] at hc hok'
                rw [eL] at hc
                obtain ⟨rfl, rfl, rfl, hRef'⟩ := hc
                have lb0 : 0 ≤ (lk L m.client).last := by rw [HLKQ.out]; exact (hok.bd m.client).1
                have lb1 : (lk L m.client).last ≤ 2147483647 := by rw [HLKQ.out]; exact (hok.bd m.client).2
                obtain ⟨_, e0, e1⟩ := HF6.out w6 (Kept.refl _ _)
                have ED := Lib.hid eD
                have EL := Lib.hid eL
                clear eD eL
                go_wp2_with fail
                refine (come_eq O6.d hok q0 q1 ED.out).mono ?_
                rintro _ w7 ⟨rfl, d7, k7⟩
                clear e0 e1
                have K7 : Kept (fun x => x = b ∨ x = q) w6 w7 := k7.mono fun _ _ h => .inl h
                have R7 := RefB.off O6.d O6.r k7 (Ne.symm hbq)
                have KA := (Kept.refl No w7).alloc (.cells #[.int .i64 v'.why, .int .u8 v'.node, .int .u32 v'.boot, .int .u32 v'.num, .string v'.val, .int .u32 v'.ver] 40)
                have A13 := Blk.new w7 40 [.int .i64 v'.why, .int .u8 v'.node, .int .u32 v'.boot, .int .u32 v'.num, .string v'.val, .int .u32 v'.ver]
                have K8 : Kept (fun x => x = b ∨ x = q) w6 (w7.alloc (.cells #[.int .i64 v'.why, .int .u8 v'.node, .int .u32 v'.boot, .int .u32 v'.num, .string v'.val, .int .u32 v'.ver] 40)) := K7.transNo KA
                obtain ⟨_, e0, e1⟩ := HF6.out _ K8
                have hb7 : b < w7.heap.size := d7.mp.lt
                have hq7 : q < w7.heap.size := by obtain ⟨_, _, hcc⟩ := R7; exact hcc.st.lt
                go_wp2_with fail
                clear e0 e1
                have d8 := d7.kept KA id id
                have R8 := R7.keptNo KA
                generalize w7.alloc _ = w8 at *
                generalize hg13 : w7.heap.size = g13 at *
                refine (rcome_eq R8 hup hLl q0 q1 lb0 lb1 EL.out).mono ?_
                rintro _ w9 ⟨rfl, r9, k9⟩
                have KB := (Kept.refl No w9).alloc (.cells #[.int .i64 v'.why, .int .u8 v'.node, .int .u32 v'.boot, .int .u32 v'.num, .string v'.val, .int .u32 v'.ver] 33)
                have A16 := Blk.new w9 33 [.int .i64 v'.why, .int .u8 v'.node, .int .u32 v'.boot, .int .u32 v'.num, .string v'.val, .int .u32 v'.ver]
                have A13' := (A13.kept k9 (by omega)).kept KB id
                have K10 := (K8.trans k9 fun _ _ h => .inr h).transNo KB
                have d10 := (d8.kept k9 hpq hbq).kept KB id id
                have r10 := r9.keptNo KB
                have hEq := eqlAnsr_same v'
                go_upto_region 22 with (fail)
                clear R7 R8 d7 d8 r9 A13 KA KB
                generalize w9.alloc _ = w10 at *
                generalize w9.heap.size = g16 at *
                have KD : Kept No w10 w10.drew := (Kept.refl No w10).drew
                have HC := Lib.hid (fun (w' : World) (k : Kept No w10 w') => And.intro (get6 (A13'.kept k id)) (get6 (A16.kept k id)))
                have HP := Lib.hid (And.intro d10 (And.intro r10 K10))
                have HO := Lib.hid (fun w => ours_calls v' w)
                have HO6 := Lib.hid O6
                clear d10 r10 K10 A13' A16 O6
                go_region_held3 (fun w' => (w'.cell? ⟨g13, 0, none⟩ = some (.int .i64 v'.why) ∧ w'.cell? ⟨g13, 1, none⟩ = some (.int .u8 v'.node) ∧ w'.cell? ⟨g13, 2, none⟩ = some (.int .u32 v'.boot) ∧ w'.cell? ⟨g13, 3, none⟩ = some (.int .u32 v'.num) ∧ w'.cell? ⟨g13, 4, none⟩ = some (.string v'.val) ∧ w'.cell? ⟨g13, 5, none⟩ = some (.int .u32 v'.ver)) ∧ (w'.cell? ⟨g16, 0, none⟩ = some (.int .i64 v'.why) ∧ w'.cell? ⟨g16, 1, none⟩ = some (.int .u8 v'.node) ∧ w'.cell? ⟨g16, 2, none⟩ = some (.int .u32 v'.boot) ∧ w'.cell? ⟨g16, 3, none⟩ = some (.int .u32 v'.num) ∧ w'.cell? ⟨g16, 4, none⟩ = some (.string v'.val) ∧ w'.cell? ⟨g16, 5, none⟩ = some (.int .u32 v'.ver)))
                  (first | (with_reducible exact HC.out _ KD) | (with_reducible exact HC.out _ K11) | go_keep)
                  (first
                    | (go_at_call 32; refine (HO.out _).mono ?_; rintro _ w11 ⟨rfl, k11⟩; have K11 : Kept No w10 w11 := KD.transNo k11)
                    | fail)
                go_wp2
                go_meet
                obtain ⟨d10, r10, K10⟩ := HP.out
                exact ⟨by rfl, D', L', ⟨d10.kept K11 id id, r10.keptNo K11, (HO6.out.k.above K10 fun c e => by rcases e with rfl | rfl <;> omega).transNo K11⟩, hok', hRef'⟩
          case rest =>
            obtain ⟨rfl, D', L', O7, hok', hRef'⟩ := hcut
            clear hRef hok hup nd hLl HF6 O6 HIN HSQ HLA HLKQ hgw
            have nd' := O7.d.mp.nodup Try.skey
            have hLl : L'.length ≤ 16 := by rw [hRef'.len nd']; exact hok'.len
            obtain ⟨ra', rc', hrc⟩ := O7.r
            have c0 : wc.cell? ⟨q, 0, none⟩ = some (.slice ra' L'.length rc') := hrc.st.cell 0
            obtain ⟨i0, hi, hz0, hz1, hz2⟩ := info_parts Try.si_call
            go_upto_block 5 with (fail)
            go_cut [18] (fun s18 wx => OpenTo w wc L' s18 wx)
            case first =>
              go_wp2_with fail
              go_loopw [18, 148] (fun s i wx => OpenRel wc L' s i wx) (fun _ i _ => L'.length - (intOf i).toNat)
              case atStart => exact ⟨0, none, 0, Nat.zero_le _, rfl, rfl, Owns.nil _ _ _, (fun c ⟨_, _, h, _⟩ => nomatch h), Kept.refl _ _⟩
              case round =>
                clear c0
                obtain ⟨j, oa, ocap, hj, rfl, rfl, ho, hat, kj⟩ := hrel
                have j0 : (0 : Int) ≤ j := by omega
                by_cases hjl : j < L'.length
                · have j1 : (j : Int) < L'.length := by omega
                  obtain ⟨px, hpx⟩ : ∃ px, L'[j]? = some px := ⟨_, List.getElem?_eq_getElem hjl⟩
                  obtain ⟨rb, ro, rfl, hrb, y0, y1, y2, y3, y4, y5, y6, y7, y8⟩ := (hrc.keptNo kj).at hpx
                  have htake := openL_take hpx
                  have hlen := openL_len (L'.take j)
                  rw [List.length_take] at hlen
                  have hlen256 : (openL (L'.take j)).length ≤ 16 := by omega
                  generalize hLj : openL (L'.take j) = Lj at *
                  clear hpx hlen
                  have K5 := (Kept.refl No wr).alloc (.cells #[.int .u8 px.1.toNat, .int .u32 px.2.last, .bool px.2.opn, .int .i64 px.2.a.why, .int .u8 px.2.a.node, .int .u32 px.2.a.boot, .int .u32 px.2.a.num, .string px.2.a.val, .int .u32 px.2.a.ver] 66)
                  cases hop : px.2.opn with
                  | false =>
                    rw [hop, if_neg (by decide), List.append_nil] at htake
                    rw [hop] at y2 K5
                    have HT := Lib.hid htake
                    clear htake
                    go_wp2
                    exact ⟨⟨j + 1, oa, ocap, by omega, by go_num, by rw [HT.out], by rw [HT.out]; exact ho.keptNo K5, hat, kj.transNo K5⟩, by simp [intOf]; omega⟩
                  | true =>
                    rw [hop, if_pos rfl] at htake
                    rw [hop] at y2 K5
                    have HT := Lib.hid htake
                    clear htake
                    have K6 := K5.alloc (.cells #[.int .u8 px.1.toNat, .int .u32 px.2.last] 39)
                    have e6 : (wr.alloc (.cells #[.int .u8 px.1.toNat, .int .u32 px.2.last, .bool true, .int .i64 px.2.a.why, .int .u8 px.2.a.node, .int .u32 px.2.a.boot, .int .u32 px.2.a.num, .string px.2.a.val, .int .u32 px.2.a.ver] 66)).heap.size = wr.heap.size + 1 := World.size_alloc _ _
                    have B6 := Blk.new (wr.alloc (.cells #[.int .u8 px.1.toNat, .int .u32 px.2.last, .bool true, .int .i64 px.2.a.why, .int .u8 px.2.a.node, .int .u32 px.2.a.boot, .int .u32 px.2.a.num, .string px.2.a.val, .int .u32 px.2.a.ver] 66)) 39 [.int .u8 px.1.toNat, .int .u32 px.2.last]
                    rw [e6] at B6
                    have hn6 := Rd.ofBlk' B6
                    have ho6 := ho.keptNo K6
                    have hone : ∀ u ∈ [Value.int .u8 px.1.toNat, Value.int .u32 px.2.last], u.oneCell' = true := by simp [Value.oneCell']
                    clear e6 B6 ho
                    go_wp2_with (at_builtin; go_must (refine wpList_onto rfl (.tmp 154) (.tmp 160) 72 rfl 39 i0 _ 2 8 Try.su_calls hi hz0 hz1 hz2 rfl (by decide) oa Lj.length ocap (ccells Lj) rfl ho6 (some ⟨wr.heap.size + 1, 0, none⟩) 1 1 [.int .u8 px.1.toNat, .int .u32 px.2.last] rfl (by simp) rfl hn6 hone (by unfold maxLen; omega) (by omega) ?_; intro a3 cap3 w3 hap3))
                    have e7 : (Lj ++ [(px.1, px.2.last)]).length = Lj.length + 1 := by simp
                    have hw6 := K6.size
                    have hsz := kj.size
                    exact ⟨⟨j + 1, a3, cap3, by omega, by go_num, by rw [HT.out, e7], by rw [HT.out, e7, ccells_snoc]; exact hap3.own, fun c hc => (hap3.at_ c hc).elim (hat c) (fun h => by omega), (kj.transNo K6).trans hap3.kept fun c hc h => absurd (hat c h) (by omega)⟩, by simp [intOf]; omega⟩
                · have j1 : ¬ (j : Int) < L'.length := by omega
                  have hT : L'.take j = L' := List.take_of_length_le (by omega)
                  rw [hT] at ho ⊢
                  clear hT
                  go_wp2
                  go_meet
                  exact ⟨oa, ocap, rfl, ho, kj⟩
            case rest =>
              obtain ⟨oa, ocap, rfl, ho, ko⟩ := hcut
              have O8 := O7.kept ko
              have HA := Lib.hid (se_All sortsTo16 (by decide) O8.d hok'.len)
              clear c0 hrc O7 ko hi hz0 hz1 hz2
              go_wp2_with fail
              refine HA.out.mono ?_
              rintro _ w9 ⟨S, sa, sc, rfl, hpS, hsS, hrS, k9⟩
              rw [hRef'.open nd' hpS hsS] at hrS ⊢
              have O9 := O8.kept k9
              have ho9 := ho.rd.keptNo k9
              clear HA O8 ho k9 hpS hsS
              generalize hM : openL L' = M at *
              have hMl : M.length ≤ 16 := by rw [← hM]; have := openL_len L'; omega
              clear hM
              go_wp2
              go_loopw [176] (fun i wx => ∃ j : Nat, j ≤ M.length ∧ i = .int .i64 j ∧ Kept No w9 wx) (fun i _ => M.length - (intOf i).toNat)
              case atStart => exact ⟨0, Nat.zero_le _, rfl, Kept.refl _ _⟩
              case round =>
                obtain ⟨j, hj, rfl, kj⟩ := hrel
                have j0 : (0 : Int) ≤ j := by omega
                by_cases hjl : j < M.length
                · have j1 : (j : Int) < M.length := by omega
                  obtain ⟨cx, hcx⟩ : ∃ cx, M[j]? = some cx := ⟨_, List.getElem?_eq_getElem hjl⟩
                  obtain ⟨b1, o1, rfl, y0, y1⟩ := ccells_at (hrS.keptNo kj) hcx
                  obtain ⟨b2, o2, rfl, z0, z1⟩ := ccells_at (ho9.keptNo kj) hcx
                  have hneq := neqCall_same cx.1.toNat cx.2
                  clear hcx
                  go_wp2
                  go_quiet (fail)
                  go_wp2
                  exact ⟨⟨j + 1, by omega, by go_num, kj.drewN _⟩, by simp [intOf]; omega⟩
                · have j1 : ¬ (j : Int) < M.length := by omega
                  have O10 := O9.kept kj
                  go_wp2
                  go_roundw
                  case rel => exact ⟨k + 1, D', L', by omega, by go_num, O10, hok', hRef'⟩
                  case measure => simp [intOf]; omega
    · have hi1 : ¬ ((k : Int) < n) := by omega
      go_wp2
      go_ret
      exact ⟨rfl, hO.k⟩
end Go.Proofs.Ytencnfgmgcdiiaa
