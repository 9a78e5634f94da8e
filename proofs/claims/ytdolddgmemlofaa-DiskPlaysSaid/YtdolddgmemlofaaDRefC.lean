/- The document's disk, by the pure disk: Read, Force. -/
import Derived.Test.YtdolddgmemlofaaDRefB
namespace Go.Proofs.Ytdolddgmemlofaa
open Go.RowKit Go.PM
set_option maxRecDepth 100000

section
variable {w w' : World} {q : Nat} {s : PD} {B : List UInt8} {n : Nat} {a : Option Addr} {cap : Nat} {T : Nat → Prop}

theorem RX.part (h : RX w q s B n a cap T) {k : Nat} (hk0 : s.fr ≤ (k : Int)) : B.drop k = s.part (k : Int) s.fin := by
  have hf := h.fin
  have hfin : s.fin = s.fr + (s.b.length : Int) := rfl
  have h0 := h.ok.fr0
  unfold PD.part
  rw [← h.bytes, List.drop_drop, List.take_of_length_le (by rw [List.length_drop, h.len]; omega)]
  congr 1; omega

theorem open_rd {w : World} {a : Option Addr} {xs : List UInt8} (h : Rd w a (bcells xs)) (c k : Nat) (hc : xs.length ≤ c) : Rd w (if c = k then a else a.map fun x => x.add k) (bcells (xs.drop k)) := by
  have e : (xs.drop k).take (xs.length - k) = xs.drop k := List.take_of_length_le (by rw [List.length_drop]; exact Nat.le_refl _)
  split
  · rename_i hck
    have : xs.drop k = [] := List.drop_of_length_le (by omega)
    rw [this]; exact Rd.nil _ _
  · have := mid_rd h k (xs.length - k)
    rw [e] at this; exact this

set_option maxHeartbeats 1000000 in
theorem r_read (h : RX w q s B n a cap T) (hlo2 : n ≤ 1099511627776) :
    Calls Try.prog 51 #[.pointer (some ⟨q, 0, none⟩)] w (DRead w s.read) := by
  obtain ⟨i0, hi0, hz0, hz1, hz2⟩ := info_parts Try.dinf_byte
  have c5 : w.cell? ⟨q, 5, none⟩ = some (.bool (!s.on)) := Blk.cell h.box 5
  have hX := h
  clear h
  cases hon : s.on
  · have HON := Lib.hid hon
    rw [hon] at c5
    clear hon
    go_enter Try.func51, Try.ntmps51
    go_wp2
    go_ret2
    rw [PD.read_off HON.out]
    exact ⟨none, 0, rfl, Owns.nil _ _ _, Kept.refl _ _, fun b ⟨_, _, h, _⟩ => nomatch h⟩
  · have HON := Lib.hid hon
    rw [hon] at c5
    clear hon
    have hb0 := hX.ok.base0
    have hb1 := hX.ok.base1
    have hf0 := hX.ok.fr0
    rw [← hX.fin] at hb1
    obtain ⟨k, hk⟩ : ∃ k : Nat, s.base = (k : Int) := ⟨s.base.toNat, by omega⟩
    have hkn : k ≤ n := by omega
    have hcle := hX.own.le
    have hcm := hX.own.max
    unfold maxLen at hcm
    have hkd : Kept No w w.drew := (Kept.refl No w).drew
    have c1d : w.drew.cell? ⟨q, 1, none⟩ = some (.slice a n cap) := Blk.cell (hX.keptNo hkd).box 1
    have c2d : w.drew.cell? ⟨q, 2, none⟩ = some (.int .i64 (k : Int)) := by rw [← hk]; exact Blk.cell (hX.keptNo hkd).box 2
    have hpart := hX.part (k := k) (by omega)
    have hread : s.read = (B.drop k, 0) := by rw [PD.read_on HON.out, hk, hpart]
    have hlen : (B.drop k).length = n - k := by rw [List.length_drop, hX.len]
    have hrd := open_rd (hX.own.rd.keptNo hkd) cap k (by rw [hX.len]; exact hcle)
    have hnil : (if cap = k then a else a.map fun x => x.add k) = none → cap - k = 0 := by
      intro hn
      have h0 : a = none := by
        split at hn
        · exact hn
        · cases a with
          | none => rfl
          | some ad => simp at hn
      have := hX.nil h0
      omega
    have hone := bcells_one (B.drop k)
    have hlB : (bcells (B.drop k)).length = (n - k) * 1 := by simp [hX.len]
    have HLB := Lib.hid hlB
    have HREAD := Lib.hid hread
    have HLEN := Lib.hid hlen
    have hmx0 : 0 + (n - k) ≤ maxLen := by unfold maxLen; omega
    have hby0 : (0 + (n - k)) * 1 ≤ 140737488355328 := by omega
    have hi1 : (0 : Int) ≤ (k : Int) := by omega
    have hi2 : (k : Int) ≤ (n : Int) := by omega
    have hi3 : (n : Int) ≤ (cap : Int) := by omega
    clear hk hpart hread hlen hlB hb0 hb1
    go_enter Try.func51, Try.ntmps51
    go_wp2_with fail
    go_region_law (refine step_wp rfl ?_; try simp only [List.getElem_toArray, List.getElem_cons_zero, List.getElem_cons_succ, Act.put, List.setIfInBounds_toArray, List.set_cons_zero, List.set_cons_succ]; refine wp_onto (.const (.slice none 0 0)) (.tmp 16) 32 rfl 5 i0 _ 1 1 Try.du_bytes hi0 hz0 hz1 hz2 rfl (by decide) none 0 0 [] rfl (Owns.nil _ _ _) (if cap = k then a else a.map fun x => x.add k) (n - k) (cap - k) (bcells (B.drop k)) rfl hnil HLB.out hrd hone hmx0 hby0 ?_; intro a3 cap3 w3 hap3; have o3 := onto_nil hap3)
    all_goals
      go_wp2
      all_goals
        go_ret2
        rw [HREAD.out]
        exact ⟨a3, cap3, by rw [HLEN.out]; rfl, by rw [HLEN.out]; exact o3.1, hkd.transNo o3.2.1, fun b hb => o3.2.2 b hb⟩

theorem RX.forced (h : RX w q s B n a cap T) {f : Int} (hf0 : -1 ≤ f) (hf1 : f ≤ 9223372036854775807) {w2 : World} (hb : RB w2 q { s with fuse := f } a n cap) (hk : Kept (· = q) w w2) :
    RX ((w2.setCell ⟨q, 3, none⟩ (.int .i64 s.base)).setCell ⟨q, 4, none⟩ (.int .i64 (n : Int))) q (({ s with fuse := f } : PD).settle s.base) B n a cap T ∧ Kept (· = q) w ((w2.setCell ⟨q, 3, none⟩ (.int .i64 s.base)).setCell ⟨q, 4, none⟩ (.int .i64 (n : Int))) := by
  have hk2 := (hk.setCell (a := ⟨q, 3, none⟩) (fun _ => rfl) (.int .i64 s.base)).setCell (a := ⟨q, 4, none⟩) (fun _ => rfl) (.int .i64 (n : Int))
  have hok : ({ s with fuse := f } : PD).Ok := h.ok.fused hf0 hf1
  refine ⟨h.put (s' := ({ s with fuse := f } : PD).settle s.base) ?_ hk2 (hok.settle hok.base0 hok.base1) (PD.settle_fin { s with fuse := f } hok.base0 hok.base1) ?_, hk2⟩
  · have := Blk.set (Blk.set hb 3 (.int .i64 s.base)) 4 (.int .i64 (n : Int))
    unfold RB
    show Blk _ q _ [_, _, _, _, .int .i64 s.fin, _, _, _]
    rw [← h.fin]; exact this
  · show B.drop s.base.toNat = s.part s.base s.fin
    have hb0 := h.ok.base0
    have h0 := h.ok.fr0
    have := h.part (k := s.base.toNat) (by omega)
    rw [this]; congr 1; omega

set_option maxHeartbeats 1000000 in
theorem r_force (h : RX w q s B n a cap T) :
    Calls Try.prog 75 #[.pointer (some ⟨q, 0, none⟩)] w (RCode w q T s.force) := by
  have c1 : w.cell? ⟨q, 1, none⟩ = some (.slice a n cap) := Blk.cell h.box 1
  have c2 : w.cell? ⟨q, 2, none⟩ = some (.int .i64 s.base) := Blk.cell h.box 2
  have c5 : w.cell? ⟨q, 5, none⟩ = some (.bool (!s.on)) := Blk.cell h.box 5
  have c6 : w.cell? ⟨q, 6, none⟩ = some (.bool (s.fuse != -1)) := Blk.cell h.box 6
  have c7 : w.cell? ⟨q, 7, none⟩ = some (.int .i64 (max s.fuse 0)) := Blk.cell h.box 7
  have c3 : w.cell? ⟨q, 3, none⟩ = some (.int .i64 s.fr) := Blk.cell h.box 3
  have c4 : w.cell? ⟨q, 4, none⟩ = some (.int .i64 s.se) := Blk.cell h.box 4
  have f3 := Blk.frozen h.box 3
  have f4 := Blk.frozen h.box 4
  have f5 := Blk.frozen h.box 5
  have f7 := Blk.frozen h.box 7
  have hfu0 := h.ok.fuse0
  have hfu1 := h.ok.fuse1
  have hX := h
  clear h
  cases hon : s.on
  · have HON := Lib.hid hon
    rw [hon] at c5
    clear hon
    go_enter Try.func75, Try.ntmps75
    go_wp2
    go_ret
    rw [PD.force_off HON.out]; exact hX.sameCode (Kept.refl _ _) 10
  · have HON := Lib.hid hon
    rw [hon] at c5
    clear hon
    by_cases h0 : s.fuse = 0
    · have HF := Lib.hid h0
      rw [h0] at c6 c7
      clear h0
      go_enter Try.func75, Try.ntmps75
      go_wp2
      go_ret
      have hk : Kept (· = q) w _ := (Kept.refl (· = q) w).setCell (a := ⟨q, 5, none⟩) (fun _ => rfl) (.bool true)
      rw [PD.force_burnt HON.out HF.out]; exact hX.putCode (s' := { s with on := false }) (Blk.set hX.box 5 _) hk (hX.ok.off _) rfl hX.bytes 10
    · by_cases h1 : s.fuse = -1
      · have HF := Lib.hid h1
        rw [h1] at c6 c7
        clear h0 h1
        go_enter Try.func75, Try.ntmps75
        go_wp2_with fail
        go_region_law (fail)
        all_goals
          go_wp2
          go_ret
          obtain ⟨r1, r2⟩ := hX.forced (f := s.fuse) hfu0 hfu1 (w2 := w.drew) (Blk.drewN hX.box 1) ((Kept.refl _ w).drew)
          rw [PD.force_none HON.out HF.out]
          exact ⟨T, rfl, ⟨B, n, a, cap, r1⟩, DGrows.same (r2.mono fun _ _ e => e ▸ hX.tq)⟩
      · have HF0 := Lib.hid h0
        have HF1 := Lib.hid h1
        have hf2 : 1 ≤ s.fuse := by omega
        have e6 : (s.fuse != -1) = true := bne_iff_ne.2 h1
        have e7 : max s.fuse 0 = s.fuse := by omega
        rw [e6] at c6
        rw [e7] at c7
        have hb0 : (s.fuse == 0) = false := beq_eq_false_iff_ne.2 h0
        clear h0 h1 e6 e7
        have hk := (Kept.refl (· = q) w).setCell (a := ⟨q, 7, none⟩) (fun _ => rfl) (.int .i64 (s.fuse - 1))
        have hb7 : RB (w.setCell ⟨q, 7, none⟩ (.int .i64 (s.fuse - 1))) q { s with fuse := s.fuse - 1 } a n cap := by
          have := Blk.set hX.box 7 (.int .i64 (s.fuse - 1))
          unfold RB
          show Blk _ q _ [_, _, _, _, _, _, .bool (s.fuse - 1 != -1), .int .i64 (max (s.fuse - 1) 0)]
          rw [show (s.fuse - 1 != -1) = (s.fuse != -1) by rw [bne_iff_ne.2 (show s.fuse - 1 ≠ -1 by omega), bne_iff_ne.2 (show s.fuse ≠ -1 by omega)], show max (s.fuse - 1) 0 = s.fuse - 1 by omega]
          exact this
        go_enter Try.func75, Try.ntmps75
        go_wp2_with fail
        go_region_law (fail)
        all_goals
          go_wp2
          go_ret
          obtain ⟨r1, r2⟩ := hX.forced (f := s.fuse - 1) (by omega) (by omega) (w2 := (w.setCell ⟨q, 7, none⟩ (.int .i64 (s.fuse - 1))).drew) (Blk.drewN hb7 1) hk.drew
          rw [PD.force_some HON.out HF0.out HF1.out]
          exact ⟨T, rfl, ⟨B, n, a, cap, r1⟩, DGrows.same (r2.mono fun _ _ e => e ▸ hX.tq)⟩
end
end Go.Proofs.Ytdolddgmemlofaa
