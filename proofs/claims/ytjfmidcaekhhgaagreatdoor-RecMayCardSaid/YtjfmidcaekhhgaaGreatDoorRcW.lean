/- Which records are too long; a record of the document's package as one of rec's: walks. Printed by gen_rcw.py. -/
import Derived.Test.YtjfmidcaekhhgaaGreatDoorRcA
namespace Go.Proofs.YtjfmidcaekhhgaaGreatDoor
open Go.RowKit Go.PM

def rlongTo (m : PRec) (k : Nat) : Nat := (m.writes.take k).foldl (fun n x => n + min x.2.2.1.length 10000) m.item.2.1.length
def rlongB (m : PRec) : Bool := decide (10000 < rlongTo m (min m.writes.length 40)) || (decide (40 < m.writes.length) || decide (40 < m.missing.length))
theorem rlongTo_step (m : PRec) (k : Nat) (h : k < m.writes.length) : rlongTo m (k + 1) = rlongTo m k + min m.writes[k].2.2.1.length 10000 := by
  unfold rlongTo
  rw [List.take_succ_eq_append_getElem h, List.foldl_append]
  rfl
theorem rlongTo_le (m : PRec) (k : Nat) (h : k ≤ m.writes.length) : rlongTo m k ≤ m.item.2.1.length + k * 10000 := by
  induction k with
  | zero => simp [rlongTo]
  | succ k ih =>
    rw [rlongTo_step m k h]
    have := ih (by omega)
    omega
theorem Rc.val {w : World} {T : TypeId} {g : Nat} {m : PRec} {aw am : Option Addr} {cw cm : Nat} (h : Rc w T g m aw cw am cm) : w.cell? ⟨g, 19, none⟩ = some (.string ⟨m.item.2.1.toArray⟩) := h.item 1 _ rfl
section
variable {w : World}
def RlRel (w0 : World) (T : TypeId) (g : Nat) (m : PRec) (aw : Option Addr) (cw : Nat) (am : Option Addr) (cm : Nat) (n i : Value) (wr : World) : Prop :=
  ∃ k : Nat, k ≤ min m.writes.length 40 ∧ i = .int .i64 k ∧ n = .int .i64 (rlongTo m k) ∧ Rc wr T g m aw cw am cm ∧ Kept No w0 wr
set_option maxRecDepth 100000 in
set_option maxHeartbeats 1000000 in
theorem rlong_calls (m : PRec) (hm : m.Wf) (hs : m.Sm) (aw : Option Addr) (cw : Nat) (am : Option Addr) (cm : Nat) (hrw : Rd w aw (pwsv m.writes)) (hrm : Rd w am (ucells m.missing)) (haw : ∀ b, At aw b → b < w.heap.size) (ham : ∀ b, At am b → b < w.heap.size) (hc : m.writes.length ≤ cw) :
    Calls Tryz.prog 14 #[.agg (recv m aw cw am cm).toArray] w fun e w' => e = .returned (.bool (rlongB m)) ∧ Kept No w w' := by
  have B0 := Blk.new w 50 (recv m aw cw am cm)
  have K0 := (Kept.refl No w).alloc (.cells (recv m aw cw am cm).toArray 50)
  have M0 : Rc (w.alloc (.cells (recv m aw cw am cm).toArray 50)) 50 w.heap.size m aw cw am cm := ⟨B0, hrw.keptNo K0, hrm.keptNo K0, fun b hb => K0.lt (haw b hb), fun b hb => K0.lt (ham b hb), hm, hs⟩
  have c19 := M0.val
  have c8 := M0.writes
  go_enter Tryz.func14, Tryz.ntmps14
  go_wp2
  go_loopw [3, 5, 18] (fun n _ i wr => RlRel w 50 w.heap.size m aw cw am cm n i wr) (fun _ _ i _ => min m.writes.length 40 - (intOf i).toNat)
  case atStart => exact ⟨0, by omega, rfl, rfl, M0, K0⟩
  case round =>
    obtain ⟨k, hk, rfl, rfl, hM, hkk⟩ := hrel
    by_cases hlt : k < min m.writes.length 40
    · have i0 : (0 : Int) ≤ k := by omega
      have hltw : k < m.writes.length := by omega
      have i1 : (k : Int) < ((min (m.writes.length : Int) 40).toNat : Nat) := by omega
      have i2 : (k : Int) < max (min (m.writes.length : Int) 40) 0 := by omega
      obtain ⟨x, hx⟩ : ∃ x, m.writes[k] = x := ⟨_, rfl⟩
      have wx : wfPW x := hx ▸ hm.writes _ (List.getElem_mem hltw)
      have vx := hx ▸ hs.each _ (List.getElem_mem hltw)
      have xl := pwv_length wx
      have fa := flat_at pwv 21 m.writes (fun y hy => pwv_length (hm.writes y hy)) k hltw
      rw [hx] at fa
      obtain ⟨b, o, rfl, hbl⟩ := hM.rdw.addr (by
        have : pwv x ≠ [] := fun e => by rw [e] at xl; simp at xl
        cases e : pwsv m.writes with
        | nil => unfold pwsv at e; rw [e] at fa; simp at fa; exact absurd fa this
        | cons y z => simp)
      have sg : Seg wr b (o + k * 21) (pwv x) := (Seg.ofRd hM.rdw).sub (k * 21) _ (by rw [xl]; exact fa)
      have K1 := (Kept.refl No wr).alloc (.cells (pwv x).toArray 69)
      have B1 := Blk.new wr 69 (pwv x)
      have hst := rlongTo_step m k hltw
      have hle := rlongTo_le m k (by omega)
      have hsi := hs.item
      rw [hx] at hst
      have cv := (B1.cell 9).trans (show (pwv x)[9]? = some (.string ⟨x.2.2.1.toArray⟩) by rw [pwv, List.getElem?_append_right (by rw [bcells_length, wx.1]; omega), bcells_length, wx.1]; rfl)
      clear fa hx B0 K0 M0 B1 c19 c8
      go_wp2_with (first
        | (with_reducible refine wpList_ld rfl 69 _ rfl Tryz.isAgg69 21 Tryz.sizeOf69 b (o + k * 21) rfl (pwv x) xl sg ?_)
        | (with_reducible refine wpList_st_last rfl 69 _ _ rfl 21 Tryz.sizeOf69 wr.heap.size rfl rfl (pwv x) rfl xl _ _ rfl (pwv_one x) ?_))
      refine ⟨⟨k + 1, by omega, by go_num, by rw [hst]; go_num, hM.keptNo K1, hkk.trans K1 fun _ _ h => h⟩, by simp [intOf]; omega⟩
    · have hkN : k = min m.writes.length 40 := by omega
      subst hkN
      have j1 : max (min (m.writes.length : Int) 40) 0 ≤ ((min m.writes.length 40 : Nat) : Int) := by omega
      have c8 := hM.writes
      have c9 := hM.missing
      clear B0 K0 M0 c19 hM
      by_cases h1 : (10000 : Int) < (rlongTo m (min m.writes.length 40) : Nat)
      · have hB : rlongB m = true := by unfold rlongB; simp only [Bool.or_eq_true, decide_eq_true_eq]; left; omega
        have HB := Lib.hid hB
        clear hB
        go_wp2
        go_ret
        exact ⟨by rw [HB.out]; rfl, hkk⟩
      · have h2 : (rlongTo m (min m.writes.length 40) : Int) ≤ 10000 := by omega
        by_cases h3 : (40 : Int) < m.writes.length
        · have hB : rlongB m = true := by unfold rlongB; simp only [Bool.or_eq_true, decide_eq_true_eq]; right; left; omega
          have HB := Lib.hid hB
          have h4 := decide_eq_false h1
          clear hB h1
          go_wp2
          go_ret
          exact ⟨by rw [HB.out]; rfl, hkk⟩
        · have hB : rlongB m = decide ((40 : Int) < m.missing.length) := by
            unfold rlongB
            rw [decide_eq_false (show ¬ 10000 < rlongTo m (min m.writes.length 40) by omega), decide_eq_false (show ¬ 40 < m.writes.length by omega), Bool.false_or, Bool.false_or]
            exact decide_eq_decide.2 (by omega)
          have HB := Lib.hid hB
          have h4 := decide_eq_false h1
          have h5 := decide_eq_false h3
          clear hB h1 h3
          generalize hz : decide ((40 : Int) < m.missing.length) = zz at *
          go_wp2
          go_ret
          exact ⟨by rw [HB.out]; rfl, hkk⟩

theorem recv_eq (m : PRec) (h : m.Wf) (aw : Option Addr) (cw : Nat) (am : Option Addr) (cm : Nat) : recv m aw cw am cm = [.int .u8 m.kind, .int .u32 m.n, .int .u8 m.tx.1, .int .u32 m.tx.2.1, .int .u32 m.tx.2.2, .int .u32 m.reg.1, .int .u32 m.reg.2, .int .u64 m.members, .slice aw m.writes.length cw, .slice am m.missing.length cm, .int .u8 (vsOf m.key 0), .int .u8 (vsOf m.key 1), .int .u8 (vsOf m.key 2), .int .u8 (vsOf m.key 3), .int .u8 (vsOf m.key 4), .int .u8 (vsOf m.key 5), .int .u8 (vsOf m.key 6), .int .u8 (vsOf m.key 7), .int .u32 m.item.1, .string ⟨m.item.2.1.toArray⟩, .int .u32 m.item.2.2.1, .int .u8 m.item.2.2.2.1, .int .u8 m.item.2.2.2.2.1, .int .u8 (vsOf m.item.2.2.2.2.2 0), .int .u8 (vsOf m.item.2.2.2.2.2 1), .int .u8 (vsOf m.item.2.2.2.2.2 2), .int .u8 (vsOf m.item.2.2.2.2.2 3), .int .u8 (vsOf m.item.2.2.2.2.2 4), .int .u8 (vsOf m.item.2.2.2.2.2 5), .int .u8 (vsOf m.item.2.2.2.2.2 6), .int .u8 (vsOf m.item.2.2.2.2.2 7)] := by
  have h1 := congrArg Array.toList (up_eq m.key h.key)
  have h2 := congrArg Array.toList (up_eq m.item.2.2.2.2.2 h.item.2.2.2.2)
  simp only at h1 h2
  simp only [recv, txv, regv, itemv, cfgv, cfgc, ← h1, ← h2, List.cons_append, List.nil_append]
set_option maxRecDepth 100000 in
set_option maxHeartbeats 1000000 in
theorem rtheirs_calls (m : PRec) (hm : m.Wf) (aw : Option Addr) (cw : Nat) (am : Option Addr) (cm : Nat) :
    Calls Tryz.prog 17 #[.agg (recv m aw cw am cm).toArray] w fun e w' => e = .returned (.agg (recv m aw cw am cm).toArray) ∧ Kept No w w' := by
  have B0 := (Blk.new w 50 (recv m aw cw am cm)).alloc (.cells #[.int .u8 0, .int .u32 0, .int .u8 0, .int .u32 0, .int .u32 0, .int .u32 0, .int .u32 0, .int .u64 0, .slice none 0 0, .slice none 0 0, .int .u8 0, .int .u8 0, .int .u8 0, .int .u8 0, .int .u8 0, .int .u8 0, .int .u8 0, .int .u8 0, .int .u32 0, .string ⟨#[]⟩, .int .u32 0, .int .u8 0, .int .u8 0, .int .u8 0, .int .u8 0, .int .u8 0, .int .u8 0, .int .u8 0, .int .u8 0, .int .u8 0, .int .u8 0] 53)
  have B1 := Blk.new' (w := w.alloc (.cells (recv m aw cw am cm).toArray 50)) (g := w.heap.size + 1) (by rw [World.size_alloc]) 53 [.int .u8 0, .int .u32 0, .int .u8 0, .int .u32 0, .int .u32 0, .int .u32 0, .int .u32 0, .int .u64 0, .slice none 0 0, .slice none 0 0, .int .u8 0, .int .u8 0, .int .u8 0, .int .u8 0, .int .u8 0, .int .u8 0, .int .u8 0, .int .u8 0, .int .u32 0, .string ⟨#[]⟩, .int .u32 0, .int .u8 0, .int .u8 0, .int .u8 0, .int .u8 0, .int .u8 0, .int .u8 0, .int .u8 0, .int .u8 0, .int .u8 0, .int .u8 0]
  have KK := ((Kept.refl No w).alloc (.cells (recv m aw cw am cm).toArray 50)).alloc (.cells #[.int .u8 0, .int .u32 0, .int .u8 0, .int .u32 0, .int .u32 0, .int .u32 0, .int .u32 0, .int .u64 0, .slice none 0 0, .slice none 0 0, .int .u8 0, .int .u8 0, .int .u8 0, .int .u8 0, .int .u8 0, .int .u8 0, .int .u8 0, .int .u8 0, .int .u32 0, .string ⟨#[]⟩, .int .u32 0, .int .u8 0, .int .u8 0, .int .u8 0, .int .u8 0, .int .u8 0, .int .u8 0, .int .u8 0, .int .u8 0, .int .u8 0, .int .u8 0] 53)
  have hfl := recv_eq m hm aw cw am cm
  have c0 := (B0.cell 0).trans (show (recv m aw cw am cm)[0]? = some (.int .u8 m.kind) by rw [hfl]; rfl)
  have c1 := (B0.cell 1).trans (show (recv m aw cw am cm)[1]? = some (.int .u32 m.n) by rw [hfl]; rfl)
  have c2 := (B0.cell 2).trans (show (recv m aw cw am cm)[2]? = some (.int .u8 m.tx.1) by rw [hfl]; rfl)
  have c3 := (B0.cell 3).trans (show (recv m aw cw am cm)[3]? = some (.int .u32 m.tx.2.1) by rw [hfl]; rfl)
  have c4 := (B0.cell 4).trans (show (recv m aw cw am cm)[4]? = some (.int .u32 m.tx.2.2) by rw [hfl]; rfl)
  have c5 := (B0.cell 5).trans (show (recv m aw cw am cm)[5]? = some (.int .u32 m.reg.1) by rw [hfl]; rfl)
  have c6 := (B0.cell 6).trans (show (recv m aw cw am cm)[6]? = some (.int .u32 m.reg.2) by rw [hfl]; rfl)
  have c7 := (B0.cell 7).trans (show (recv m aw cw am cm)[7]? = some (.int .u64 m.members) by rw [hfl]; rfl)
  have c8 := (B0.cell 8).trans (show (recv m aw cw am cm)[8]? = some (.slice aw m.writes.length cw) by rw [hfl]; rfl)
  have c9 := (B0.cell 9).trans (show (recv m aw cw am cm)[9]? = some (.slice am m.missing.length cm) by rw [hfl]; rfl)
  have c10 := (B0.cell 10).trans (show (recv m aw cw am cm)[10]? = some (.int .u8 (vsOf m.key 0)) by rw [hfl]; rfl)
  have c11 := (B0.cell 11).trans (show (recv m aw cw am cm)[11]? = some (.int .u8 (vsOf m.key 1)) by rw [hfl]; rfl)
  have c12 := (B0.cell 12).trans (show (recv m aw cw am cm)[12]? = some (.int .u8 (vsOf m.key 2)) by rw [hfl]; rfl)
  have c13 := (B0.cell 13).trans (show (recv m aw cw am cm)[13]? = some (.int .u8 (vsOf m.key 3)) by rw [hfl]; rfl)
  have c14 := (B0.cell 14).trans (show (recv m aw cw am cm)[14]? = some (.int .u8 (vsOf m.key 4)) by rw [hfl]; rfl)
  have c15 := (B0.cell 15).trans (show (recv m aw cw am cm)[15]? = some (.int .u8 (vsOf m.key 5)) by rw [hfl]; rfl)
  have c16 := (B0.cell 16).trans (show (recv m aw cw am cm)[16]? = some (.int .u8 (vsOf m.key 6)) by rw [hfl]; rfl)
  have c17 := (B0.cell 17).trans (show (recv m aw cw am cm)[17]? = some (.int .u8 (vsOf m.key 7)) by rw [hfl]; rfl)
  have c18 := (B0.cell 18).trans (show (recv m aw cw am cm)[18]? = some (.int .u32 m.item.1) by rw [hfl]; rfl)
  have c19 := (B0.cell 19).trans (show (recv m aw cw am cm)[19]? = some (.string ⟨m.item.2.1.toArray⟩) by rw [hfl]; rfl)
  have c20 := (B0.cell 20).trans (show (recv m aw cw am cm)[20]? = some (.int .u32 m.item.2.2.1) by rw [hfl]; rfl)
  have c21 := (B0.cell 21).trans (show (recv m aw cw am cm)[21]? = some (.int .u8 m.item.2.2.2.1) by rw [hfl]; rfl)
  have c22 := (B0.cell 22).trans (show (recv m aw cw am cm)[22]? = some (.int .u8 m.item.2.2.2.2.1) by rw [hfl]; rfl)
  have c23 := (B0.cell 23).trans (show (recv m aw cw am cm)[23]? = some (.int .u8 (vsOf m.item.2.2.2.2.2 0)) by rw [hfl]; rfl)
  have c24 := (B0.cell 24).trans (show (recv m aw cw am cm)[24]? = some (.int .u8 (vsOf m.item.2.2.2.2.2 1)) by rw [hfl]; rfl)
  have c25 := (B0.cell 25).trans (show (recv m aw cw am cm)[25]? = some (.int .u8 (vsOf m.item.2.2.2.2.2 2)) by rw [hfl]; rfl)
  have c26 := (B0.cell 26).trans (show (recv m aw cw am cm)[26]? = some (.int .u8 (vsOf m.item.2.2.2.2.2 3)) by rw [hfl]; rfl)
  have c27 := (B0.cell 27).trans (show (recv m aw cw am cm)[27]? = some (.int .u8 (vsOf m.item.2.2.2.2.2 4)) by rw [hfl]; rfl)
  have c28 := (B0.cell 28).trans (show (recv m aw cw am cm)[28]? = some (.int .u8 (vsOf m.item.2.2.2.2.2 5)) by rw [hfl]; rfl)
  have c29 := (B0.cell 29).trans (show (recv m aw cw am cm)[29]? = some (.int .u8 (vsOf m.item.2.2.2.2.2 6)) by rw [hfl]; rfl)
  have c30 := (B0.cell 30).trans (show (recv m aw cw am cm)[30]? = some (.int .u8 (vsOf m.item.2.2.2.2.2 7)) by rw [hfl]; rfl)
  have hfold : #[Value.int .u8 m.kind, .int .u32 m.n, .int .u8 m.tx.1, .int .u32 m.tx.2.1, .int .u32 m.tx.2.2, .int .u32 m.reg.1, .int .u32 m.reg.2, .int .u64 m.members, .slice aw m.writes.length cw, .slice am m.missing.length cm, .int .u8 (vsOf m.key 0), .int .u8 (vsOf m.key 1), .int .u8 (vsOf m.key 2), .int .u8 (vsOf m.key 3), .int .u8 (vsOf m.key 4), .int .u8 (vsOf m.key 5), .int .u8 (vsOf m.key 6), .int .u8 (vsOf m.key 7), .int .u32 m.item.1, .string ⟨m.item.2.1.toArray⟩, .int .u32 m.item.2.2.1, .int .u8 m.item.2.2.2.1, .int .u8 m.item.2.2.2.2.1, .int .u8 (vsOf m.item.2.2.2.2.2 0), .int .u8 (vsOf m.item.2.2.2.2.2 1), .int .u8 (vsOf m.item.2.2.2.2.2 2), .int .u8 (vsOf m.item.2.2.2.2.2 3), .int .u8 (vsOf m.item.2.2.2.2.2 4), .int .u8 (vsOf m.item.2.2.2.2.2 5), .int .u8 (vsOf m.item.2.2.2.2.2 6), .int .u8 (vsOf m.item.2.2.2.2.2 7)] = (recv m aw cw am cm).toArray := by rw [hfl]
  have l31 := recv_length hm aw cw am cm
  have hone := recv_one m aw cw am cm
  have S9 := (B1.setRow (splice [.int .u8 0, .int .u32 0, .int .u8 0, .int .u32 0, .int .u32 0, .int .u32 0, .int .u32 0, .int .u64 0, .slice none 0 0, .slice none 0 0, .int .u8 0, .int .u8 0, .int .u8 0, .int .u8 0, .int .u8 0, .int .u8 0, .int .u8 0, .int .u8 0, .int .u32 0, .string ⟨#[]⟩, .int .u32 0, .int .u8 0, .int .u8 0, .int .u8 0, .int .u8 0, .int .u8 0, .int .u8 0, .int .u8 0, .int .u8 0, .int .u8 0, .int .u8 0] 0 (recv m aw cw am cm))).seg0
  have hsp : splice ([.int .u8 0, .int .u32 0, .int .u8 0, .int .u32 0, .int .u32 0, .int .u32 0, .int .u32 0, .int .u64 0, .slice none 0 0, .slice none 0 0, .int .u8 0, .int .u8 0, .int .u8 0, .int .u8 0, .int .u8 0, .int .u8 0, .int .u8 0, .int .u8 0, .int .u32 0, .string ⟨#[]⟩, .int .u32 0, .int .u8 0, .int .u8 0, .int .u8 0, .int .u8 0, .int .u8 0, .int .u8 0, .int .u8 0, .int .u8 0, .int .u8 0, .int .u8 0] : List Value) 0 (recv m aw cw am cm) = recv m aw cw am cm := splice_all _ _ (by rw [l31]; rfl)
  rw [hsp] at S9
  clear B0 hfl
  go_enter Tryz.func17, Tryz.ntmps17
  go_wp2_with (with_reducible refine wpList_st rfl 53 _ _ rfl 31 Tryz.sizeOf53 (w.heap.size + 1) 0 rfl (recv m aw cw am cm) rfl l31 _ _ B1 (by decide) hone ?_; rw [hsp])
  refine bodyPost_ret (v := .agg (recv m aw cw am cm).toArray) (by rw [results_row _ Tryz.results17 _ Tryz.isAgg53 31 Tryz.sizeOf53 (w.heap.size + 1) rfl _ l31 S9]) rfl ?_
  exact ⟨rfl, KK.setRow (fun h => absurd h (by omega)) _⟩
end
end Go.Proofs.YtjfmidcaekhhgaaGreatDoor
