/- Package msg: GetWrites, as a walk. Printed by gen_idg.py. -/
import Derived.Test.YtjfmidcaekhhgaaGreatDoorIdQ
namespace Go.Proofs.YtjfmidcaekhhgaaGreatDoor
open Go.RowKit Go.PM

theorem Tryz.cu_writes : Tryz.prog.underlying 33 = some (.slice 69) := by kernel_rfl
theorem Tryz.cinf_write : (Tryz.prog.info? 69).map (fun i => (i.zero, i.size, i.bytes)) = some (some (.agg #[.int .u8 0, .int .u8 0, .int .u8 0, .int .u8 0, .int .u8 0, .int .u8 0, .int .u8 0, .int .u8 0, .int .u32 0, .string ⟨#[]⟩, .int .u32 0, .int .u8 0, .int .u8 0, .int .u8 0, .int .u8 0, .int .u8 0, .int .u8 0, .int .u8 0, .int .u8 0, .int .u8 0, .int .u8 0]), 21, 48) := by kernel_rfl

set_option maxRecDepth 100000 in
theorem build_write (k : List UInt8) (hk : k.length = 8) (x : PItem) (hx : wfItem x) (w : World) :
    (Instr.build 69 #[(0, .agg (bcells k).toArray), (1, .agg (itemv x).toArray)]).run Tryz.prog w = .ok (.agg (pwv (k, x)).toArray) w := by
  obtain ⟨e, l, c1, c2, c3, u⟩ := x
  have hu : u.length = 8 := hx.2.2.2.2
  obtain ⟨a0, a1, a2, a3, a4, a5, a6, a7, rfl⟩ := list8 k hk
  obtain ⟨b0, b1, b2, b3, b4, b5, b6, b7, rfl⟩ := list8 u hu
  simp only [pwv, itemv, cfgv, cfgc, bcells, List.map_cons, List.map_nil, List.cons_append, List.nil_append]
  go_simp
set_option maxRecDepth 100000 in
theorem buildSlice_write (k : List UInt8) (hk : k.length = 8) (x : PItem) (hx : wfItem x) (w : World) :
    (Instr.buildSlice 33 1 #[(0, .agg (pwv (k, x)).toArray)]).run Tryz.prog w = .ok (.slice (some ⟨w.heap.size, 0, none⟩) 1 1) (w.alloc (.cells (pwv (k, x)).toArray 69)) := by
  obtain ⟨e, l, c1, c2, c3, u⟩ := x
  have hu : u.length = 8 := hx.2.2.2.2
  obtain ⟨a0, a1, a2, a3, a4, a5, a6, a7, rfl⟩ := list8 k hk
  obtain ⟨b0, b1, b2, b3, b4, b5, b6, b7, rfl⟩ := list8 u hu
  simp only [pwv, itemv, cfgv, cfgc, bcells, List.map_cons, List.map_nil, List.cons_append, List.nil_append]
  go_simp

section
variable {w : World} {g : Nat} {s : PR} {a : Option Addr} {c : Nat}
theorem getItem_eq {y : PItem} {t : PR} (e : itemC.get s = (y, t)) (h : Rdr w g s a c) :
    Calls Tryz.prog 111 #[.pointer (some ⟨g, 0, none⟩)] w fun e w' => e = .returned (.agg (itemv y).toArray) ∧ Kept (· = g) w w' ∧ Rdr w' g t a c := by
  have := getItem_calls h; rw [e] at this; exact this
theorem pwsv_snoc (l : List PW) (x : PW) : pwsv (l ++ [x]) = pwsv l ++ pwv x := by simp [pwsv]
/-- What GetWrites has made so far: writes in an array of its own, off the reader. -/
structure WOwn (w0 w : World) (g : Nat) (l : List PW) (al : Option Addr) (capl : Nat) : Prop where
  own : Owns w 69 21 al l.length capl (pwsv l)
  new : ∀ b, At al b → w0.heap.size ≤ b
def GwRel (w0 : World) (g : Nat) (s1 : PR) (a : Option Addr) (c : Nat) (l i : Value) (wr : World) (n : Nat) : Prop :=
  ∃ (k : Nat) (al : Option Addr) (capl : Nat), k ≤ n ∧ i = .int .u64 k ∧ l = .slice al k capl ∧ Rdr wr g (writeC.getN k s1).2 a c ∧ WOwn w0 wr g (writeC.getN k s1).1 al capl ∧ Kept (· = g) w0 wr
/-- What GetWrites answers. -/
def GwPost (w : World) (g : Nat) (s : PR) (a : Option Addr) (c : Nat) (e : Ending) (w' : World) : Prop :=
  ∃ al capl, e = .returned (.slice al (writesC.get s).1.length capl) ∧ WOwn w w' g (writesC.get s).1 al capl ∧ Kept (· = g) w w' ∧ Rdr w' g (writesC.get s).2 a c
theorem writeC_eq {s t1 t2 : PR} {k : List UInt8} {x : PItem} (e1 : s.key = (k, t1)) (e2 : itemC.get t1 = (x, t2)) : writeC.get s = ((k, x), t2) := by
  simp only [writeC, Codec.seq, keyC, e1, e2]
theorem writeC_wf (s : PR) : wfPW (writeC.get s).1 ∧ (writeC.get s).1.2.2.1.length ≤ 64 := by
  obtain ⟨k, t1, e1⟩ : ∃ y t, s.key = (y, t) := ⟨_, _, rfl⟩
  obtain ⟨x, t2, e2⟩ : ∃ y t, itemC.get t1 = (y, t) := ⟨_, _, rfl⟩
  have h1 := PR.key_length s
  have h2 := itemC_wf t1
  rw [writeC_eq e1 e2]
  rw [e1] at h1
  rw [e2] at h2
  exact ⟨⟨h1, h2.1⟩, h2.2⟩
theorem getN_all {α : Type} (c : Codec α) (p : α → Prop) (h : ∀ s, p (c.get s).1) (n : Nat) (s : PR) : ∀ x ∈ (c.getN n s).1, p x := by
  induction n generalizing s with
  | zero => intro x hx; cases hx
  | succ n ih =>
    intro x hx
    simp only [Codec.getN, List.mem_cons] at hx
    rcases hx with rfl | hx
    · exact h s
    · exact ih _ x hx

set_option maxRecDepth 100000 in
set_option maxHeartbeats 2000000 in
theorem getWrites_calls (h : Rdr w g s a c) :
    Calls Tryz.prog 109 #[.pointer (some ⟨g, 0, none⟩)] w (GwPost w g s a c) := by
  obtain ⟨n, s1, e1⟩ : ∃ y t, s.num 16 = (y, t) := ⟨_, _, rfl⟩
  have hn16 : n ≤ 16 := by have := PR.num_le s 16; rw [e1] at this; exact this
  have HP := Lib.hid (show ∀ e w', (∃ al capl, e = .returned (.slice al (if (writeC.getN n s1).2.why = 0 then (writeC.getN n s1).1 else []).length capl) ∧ WOwn w w' g (if (writeC.getN n s1).2.why = 0 then (writeC.getN n s1).1 else []) al capl ∧ Kept (· = g) w w' ∧ Rdr w' g (writeC.getN n s1).2 a c) → GwPost w g s a c e w' from fun e w' hh => by
    unfold GwPost
    have : writesC.get s = (if (writeC.getN n s1).2.why = 0 then (writeC.getN n s1).1 else [], (writeC.getN n s1).2) := by
      simp only [writesC, Codec.many, e1]
    rw [this]
    exact hh)
  have HN := Lib.hid (rnum_eq (most := 16) e1 (by decide) h)
  have hgw := h.box.lt
  have hlt := h.lt
  have n0 : w.heap.size ≠ g := Nat.ne_of_gt hgw
  obtain ⟨i0, hi0, hz0, hz1, hz2⟩ := info_parts Tryz.cinf_write
  have HLT := Lib.hid hlt
  have hn16' : (n : Int) ≤ 16 := by omega
  clear h hlt e1
  go_enter Tryz.func109, Tryz.ntmps109
  go_wp2_with (go_at_call 106; refine HN.out.mono ?_; rintro _ w1 ⟨rfl, k1, r1⟩)
  go_loopw [3, 4, 7] (fun l _ i wr => GwRel w g s1 a c l i wr n) (fun _ _ i _ => n - (intOf i).toNat)
  case atStart => exact ⟨0, none, 0, by omega, rfl, rfl, r1, ⟨Owns.nil _ _ _, fun b ⟨_, _, e, _⟩ => nomatch e⟩, k1⟩
  case round =>
    clear k1 r1
    obtain ⟨k, al, capl, hk, rfl, rfl, hR, hO, hK⟩ := hrel
    by_cases hlt : k < n
    · have i0' : (0 : Int) ≤ k := by omega
      have i1 : (k : Int) < n := by omega
      obtain ⟨ky, t1, ek⟩ : ∃ y t, (writeC.getN k s1).2.key = (y, t) := ⟨_, _, rfl⟩
      obtain ⟨it, t2, ei⟩ : ∃ y t, itemC.get t1 = (y, t) := ⟨_, _, rfl⟩
      have kl : ky.length = 8 := by have := PR.key_length (writeC.getN k s1).2; rw [ek] at this; exact this
      have iw : wfItem it := by have := (itemC_wf t1).1; rw [ei] at this; exact this
      have hstep : writeC.getN (k + 1) s1 = ((writeC.getN k s1).1 ++ [(ky, it)], t2) := by
        rw [getN_snoc]
        rw [writeC_eq ek ei]
      have HS := Lib.hid hstep
      have HKY := Lib.hid (rkey_eq ek hR)
      have HI := Lib.hid (fun (W : World) (hW : Rdr W g t1 a c) => getItem_eq ei hW)
      have l8 : (bcells ky).length = 8 := by rw [bcells_length, kl]
      have hone := bcells_one ky
      have lpw : (pwv (ky, it)).length = 1 * 21 := pwv_length ⟨kl, iw⟩
      have hbw := fun w => build_write ky kl it iw w
      have hbs := fun w => buildSlice_write ky kl it iw w
      have hmx : k + 1 ≤ maxLen := by unfold maxLen; omega
      have hby : (k + 1) * 48 ≤ 140737488355328 := by omega
      have hlenk : (writeC.getN k s1).1.length = k := Codec.getN_length _ _ _
      have hown := hO.own
      rw [hlenk] at hown
      have hnew := hO.new
      clear hstep ek ei hO hlenk
      go_wp2_with (first
        | (go_at_call 110; refine HKY.out.mono ?_; rintro _ wk ⟨rfl, kk, rk⟩)
        | (with_reducible refine wpList_st_last rfl 28 _ _ rfl 8 Tryz.sizeOf28 _ rfl rfl (bcells ky) rfl l8 _ _ rfl hone ?_))
      have bk1 : Blk (wk.alloc (.cells (bcells ky).toArray 28)).drew wk.heap.size 28 (bcells ky) := Blk.new wk _ _
      have hbk := (Kept.refl No wk).alloc (.cells (bcells ky).toArray 28)
      have rk2 := (rk.keptNo hbk).keptNo (Kept.refl No _).drew
      have bk2 := bk1
      have ngk : wk.heap.size ≠ g := Nat.ne_of_gt rk.box.lt
      have nk : ¬ wk.heap.size = g := ngk
      have hownk := (hown.kept kk fun b hb e => by have := hnew b hb; omega).keptNo hbk
      have KB := ((hK.trans kk fun _ _ h => h).trans hbk fun _ _ h => h.elim).drew
      have ol : (∀ w5 : World, ¬ At al wk.heap.size) ∧ ∀ (w4 : World), Kept (· = g) (wk.alloc (.cells (bcells ky).toArray 28)).drew w4 → Owns (w4.alloc (.cells (pwv (ky, it)).toArray 69)) 69 21 al k capl (pwsv (writeC.getN k s1).1) := by
        refine ⟨fun _ hat => ?_, fun w4 k4 => ?_⟩
        · have := (hown.kept kk fun b hb e => by have := hnew b hb; omega).lt _ hat
          omega
        · exact ((hownk.keptNo (Kept.refl No _).drew).kept k4 fun b hb e => by have := hnew b hb; omega).keptNo ((Kept.refl No _).alloc _)
      clear hown hownk
      refine wp_region_held_drew (S := fun w' => Blk w' wk.heap.size 28 (bcells ky)) (by kernel_rfl) (bk1) (fun hHeld => ?_)
      refine wpAnyH_take (i := 0) (oi := _) (v := ?_) rfl (by kernel_rfl) (by kernel_rfl) (by kernel_rfl) (fun _ _ _ h => h) (Or.inl ⟨by rfl, ?_⟩) (by assumption) ?_
      rotate_left
      · intro wv hSw; (try dsimp only at hSw); go_simp; (try with_reducible rfl)
      (try simp only [List.getElem_toArray, List.getElem_cons_zero, Act.put, List.setIfInBounds_toArray, List.set_cons_zero, List.set_cons_succ])
      refine wpAnyH_take (i := 1) (oi := _) (v := ?_) rfl (by kernel_rfl) (by kernel_rfl) (by kernel_rfl) (fun _ _ _ h => h) (Or.inl ⟨by rfl, ?_⟩) (by assumption) ?_
      rotate_left
      · intro wv hSw; refine ld_val 28 ?lx1 ?l11 Tryz.isAgg28 8 Tryz.sizeOf28 wk.heap.size 0 ?l21 (bcells ky) l8 (hSw.seg0); (case l11 => rfl); (case l21 => rfl)
      (try simp only [List.getElem_toArray, List.getElem_cons_zero, List.getElem_cons_succ, Act.put, List.setIfInBounds_toArray, List.set_cons_zero, List.set_cons_succ])
      refine wpAnyH_take (i := 2) (oi := _) (v := ?_) rfl (by kernel_rfl) (by kernel_rfl) (by kernel_rfl) (fun _ _ _ h => h) (Or.inl ⟨by rfl, ?_⟩) (by assumption) ?_
      rotate_left
      · intro wv hSw; (try dsimp only at hSw); go_simp; (try with_reducible rfl)
      (try simp only [List.getElem_toArray, List.getElem_cons_zero, List.getElem_cons_succ, Act.put, List.setIfInBounds_toArray, List.set_cons_zero, List.set_cons_succ])
      refine wpAnyH_ready (rs := [3]) (by kernel_rfl) (by simp) ?_
      refine AllReadyH.cons (o := _) rfl (fun K hK => ?_) AllReadyH.nil
      go_simp
      go_at_call 111; refine (HI.out _ rk2).mono ?_; rintro _ w4 ⟨rfl, k4, r4⟩; have bk4 := bk2.kept k4 nk
      (try go_wp2_with fail)
      refine hK.out _ _ (bk4) (fun hHeld => ?_)
      clear hK K
      (try simp only [List.getElem_toArray, List.getElem_cons_zero, List.getElem_cons_succ, Act.put, List.setIfInBounds_toArray, List.set_cons_zero, List.set_cons_succ])
      refine wpAnyH_take (i := 4) (oi := _) (v := ?_) rfl (by kernel_rfl) (by kernel_rfl) (by kernel_rfl) (fun _ _ _ h => h) (Or.inl ⟨by rfl, ?_⟩) (by assumption) ?_
      rotate_left
      · intro wv hSw; refine build_val 69 ?bx1 ?bx2 #[(0, .agg (bcells ky).toArray), (1, .agg (itemv it).toArray)] ?bx3 (.agg (pwv (ky, it)).toArray) (hbw wv); (case bx2 => rfl); (case bx3 => (simp only [List.map_toArray, List.map_cons, List.map_nil]; rfl))
      (try simp only [List.getElem_toArray, List.getElem_cons_zero, List.getElem_cons_succ, Act.put, List.setIfInBounds_toArray, List.set_cons_zero, List.set_cons_succ])
      refine wpAnyH_ready (rs := [5]) (by kernel_rfl) (by simp) ?_
      refine AllReadyH.cons (o := _) rfl (fun K hK => ?_) AllReadyH.nil
      rw [if_pos (by rfl)]
      refine wp_buildSlice 33 1 ?by1 ?by2 #[(0, .agg (pwv (ky, it)).toArray)] ?by3 _ (hbs _) ?_; (case by2 => rfl); (case by3 => (simp only [List.map_toArray, List.map_cons, List.map_nil]; rfl))
      refine hK.out _ _ (bk4.alloc _) (fun hHeld => ?_)
      clear hK K
      (try simp only [List.getElem_toArray, List.getElem_cons_zero, List.getElem_cons_succ, Act.put, List.setIfInBounds_toArray, List.set_cons_zero, List.set_cons_succ])
      refine wpAnyH_ready (rs := [6]) (by kernel_rfl) (by simp) ?_
      refine AllReadyH.cons (o := _) rfl (fun K hK => ?_) AllReadyH.nil
      rw [if_pos (by rfl)]
      (try simp only [List.getElem_toArray, List.getElem_cons_zero, List.getElem_cons_succ]); refine wp_onto (.tmp 11) (.tmp 16) 33 rfl 69 i0 _ 21 48 Tryz.cu_writes hi0 hz0 hz1 hz2 rfl (by decide) al k capl (pwsv (writeC.getN k s1).1) rfl (ol.2 w4 k4) (some ⟨w4.heap.size, 0, none⟩) 1 1 (pwv (ky, it)) rfl (fun h => nomatch h) lpw (Rd.ofBlk' (Blk.new w4 _ _)) (pwv_one _) hmx hby ?_; intro a5 cap5 w5 ho5
      refine hK.out _ _ ((bk4.alloc _).kept ho5.kept (ol.1 w5)) (fun hHeld => ?_)
      clear hK K
      (try simp only [Act.put, List.setIfInBounds_toArray, List.set_cons_zero, List.set_cons_succ])
      refine wpAnyH_take (i := 7) (oi := _) (v := ?_) rfl (by kernel_rfl) (by kernel_rfl) (by kernel_rfl) (fun _ _ _ h => h) (Or.inl ⟨by rfl, ?_⟩) (by assumption) ?_
      rotate_left
      · intro wv hSw; (try dsimp only at hSw); go_simp; (try with_reducible rfl)
      (try simp only [List.getElem_toArray, List.getElem_cons_zero, List.getElem_cons_succ, Act.put, List.setIfInBounds_toArray, List.set_cons_zero, List.set_cons_succ])
      refine wpAnyH_done (by kernel_rfl) ?_ _
      go_wp2
      have hlen2 : (writeC.getN (k + 1) s1).1.length = k + 1 := Codec.getN_length _ _ _
      have ngal : ∀ b, At al b → b ≠ g := fun b hb e => by have := hnew b hb; omega
      have r5 := (r4.keptNo ((Kept.refl No w4).alloc (.cells (pwv (ky, it)).toArray 69))).kept ho5.kept (fun hat => ngal g hat rfl) (fun q hq hat => by
        have h1 := HLT.out q hq
        have h2 := hnew q hat
        omega)
      have KC := ((KB.trans k4 fun _ _ h => h).alloc (.cells (pwv (ky, it)).toArray 69)).trans ho5.kept fun b hb hat => by have := hnew b hat; omega
      refine ⟨⟨k + 1, a5, cap5, by omega, by go_num, rfl, by rw [HS.out]; exact r5, ⟨by rw [hlen2]; have := ho5.own; rw [HS.out, pwsv_snoc]; exact this, fun b hb => ?_⟩, KC⟩, by simp [intOf]; omega⟩
      rcases ho5.at_ b hb with h1 | h1
      · exact hnew b h1
      · have := ((KB.trans k4 fun _ _ h => h).alloc (.cells (pwv (ky, it)).toArray 69)).size
        omega
    · obtain rfl : n = k := by omega
      have hlen2 : (writeC.getN n s1).1.length = n := Codec.getN_length _ _ _
      have HF := Lib.hid (rfault_calls hR)
      by_cases h0 : (writeC.getN n s1).2.why = 0
      · have HF2 := Lib.hid (fault_none hR h0)
        have hne := neqFault 0 0 fun _ => rfl
        rw [decide_eq_false (fun h => h rfl)] at hne
        have HI := Lib.hid (show (if (writeC.getN n s1).2.why = 0 then (writeC.getN n s1).1 else []) = (writeC.getN n s1).1 from if_pos h0)
        have HL := Lib.hid hlen2
        clear h0 hlen2 HF
        go_wp2_with (go_at_call 74; refine HF2.out.mono ?_; rintro _ w5 ⟨rfl, k5⟩)
        go_ret
        refine HP.out _ _ ⟨al, capl, ?_, ?_, hK.transNo k5, hR.keptNo k5⟩
        · rw [HI.out, HL.out]; rfl
        · rw [HI.out]; exact ⟨hO.own.keptNo k5, hO.new⟩
      · have hne := neqFault (writeC.getN n s1).2.why (writeC.getN n s1).2.fat hR.ok.none
        rw [decide_eq_true h0] at hne
        have HI := Lib.hid (show (if (writeC.getN n s1).2.why = 0 then (writeC.getN n s1).1 else []) = [] from if_neg h0)
        clear h0 hlen2
        go_wp2_with (go_at_call 74; refine HF.out.mono ?_; rintro _ w5 ⟨rfl, k5⟩)
        go_ret
        refine HP.out _ _ ⟨none, 0, ?_, ?_, hK.transNo k5, hR.keptNo k5⟩
        · rw [HI.out]; rfl
        · rw [HI.out]; exact ⟨Owns.nil _ _ _, fun b ⟨_, _, e, _⟩ => nomatch e⟩
end
end Go.Proofs.YtjfmidcaekhhgaaGreatDoor
