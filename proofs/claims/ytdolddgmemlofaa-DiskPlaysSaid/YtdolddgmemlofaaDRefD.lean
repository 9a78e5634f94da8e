/- The document's disk, by the pure disk: Start. -/
import Derived.Test.YtdolddgmemlofaaDRefC
namespace Go.Proofs.Ytdolddgmemlofaa
open Go.RowKit Go.PM
set_option maxRecDepth 100000

/-- What Start leaves of all bytes. -/
def restAll (B : List UInt8) (s : PD) (keep : Int) (tail : List UInt8) : List UInt8 :=
  if tail.length = 0 then B.take (s.se + min (max keep 0) (s.fin - s.se)).toNat else B.take s.se.toNat ++ tail

section
variable {w w' : World} {q : Nat} {s : PD} {B : List UInt8} {n : Nat} {a : Option Addr} {cap : Nat} {T : Nat → Prop}

theorem RX.rest (h : RX w q s B n a cap T) (keep : Int) (tail : List UInt8) : (restAll B s keep tail).drop s.fr.toNat = s.rest keep tail ∧ ((restAll B s keep tail).length : Int) = s.fr + ((s.rest keep tail).length : Int) := by
  have hf := h.fin
  have hfin : s.fin = s.fr + (s.b.length : Int) := rfl
  have h0 := h.ok.fr0
  have hs0 := h.ok.se0
  have hs1 := h.ok.se1
  have hpl := s.part_length hs0 hs1 (Int.le_refl _)
  have hrl := PD.rest_length h.ok keep tail
  have e1 : s.part s.fr s.se = s.b.take (s.se - s.fr).toNat := by unfold PD.part; rw [show (s.fr - s.fr).toNat = 0 by omega, List.drop_zero]
  have e2 : s.part s.se s.fin = s.b.drop (s.se - s.fr).toNat := by
    unfold PD.part
    rw [List.take_of_length_le]
    rw [List.length_drop]; omega
  by_cases ht : tail.length = 0
  · have e3 : s.tail keep tail = (s.b.drop (s.se - s.fr).toNat).take (min (max keep 0) (s.fin - s.se)).toNat := by
      unfold PD.tail; rw [if_pos ht, e2]; congr 1
      rw [← e2, hpl]
    have e4 : s.rest keep tail = s.b.take ((s.se - s.fr).toNat + (min (max keep 0) (s.fin - s.se)).toNat) := by unfold PD.rest; rw [e1, e3, List.take_add]
    have e5 : (restAll B s keep tail).drop s.fr.toNat = s.rest keep tail := by
      unfold restAll; rw [if_pos ht, List.drop_take, h.bytes, e4]; congr 1; omega
    refine ⟨e5, ?_⟩
    rw [← e5, List.length_drop]
    have : (restAll B s keep tail).length = min (s.se + min (max keep 0) (s.fin - s.se)).toNat B.length := by unfold restAll; rw [if_pos ht, List.length_take]
    rw [h.len] at this
    omega
  · have e3 : s.tail keep tail = tail := by unfold PD.tail; rw [if_neg ht]
    have e5 : (restAll B s keep tail).drop s.fr.toNat = s.rest keep tail := by
      unfold restAll; rw [if_neg ht, List.drop_append_of_le_length (by rw [List.length_take, h.len]; omega), List.drop_take, h.bytes]
      unfold PD.rest; rw [e1, e3]; congr 2; omega
    refine ⟨e5, ?_⟩
    rw [← e5, List.length_drop]
    have : (restAll B s keep tail).length = min s.se.toNat B.length + tail.length := by unfold restAll; rw [if_neg ht, List.length_append, List.length_take]
    rw [h.len] at this
    omega

/-- What stays of all bytes lies at s10. -/
def RestAt (w : World) (X : List UInt8) (v : Value) (w' : World) : Prop :=
  ∃ a c, v = .slice a X.length c ∧ Owns w' 5 1 a X.length c (bcells X) ∧ Kept No w w' ∧ ∀ b, At a b → w.heap.size ≤ b

set_option maxHeartbeats 1000000 in
theorem rstart_no (h : RX w q s B n a cap T) (keep : Int) (cut : Bool) (tail : List UInt8) (at_ : Option Addr) (ct : Nat) (hno : s.on = true ∨ (s.on = false ∧ s.room - (s.se - s.fr) < tail.length)) :
    Calls Try.prog 80 #[.pointer (some ⟨q, 0, none⟩), .int .i64 keep, .bool cut, .slice at_ tail.length ct] w (RCode w q T (s.start keep cut tail)) := by
  have c0 : w.cell? ⟨q, 0, none⟩ = some (.int .i64 s.room) := Blk.cell h.box 0
  have c3 : w.cell? ⟨q, 3, none⟩ = some (.int .i64 s.fr) := Blk.cell h.box 3
  have c4 : w.cell? ⟨q, 4, none⟩ = some (.int .i64 s.se) := Blk.cell h.box 4
  have c5 : w.cell? ⟨q, 5, none⟩ = some (.bool (!s.on)) := Blk.cell h.box 5
  rcases hno with hon | ⟨hon, hf⟩
  · rw [hon] at c5
    have HON := Lib.hid hon
    clear hon
    go_enter Try.func80, Try.ntmps80
    go_wp2
    go_ret
    rw [PD.start_on HON.out]; exact h.sameCode (Kept.refl _ _) 11
  · have h0 := h.ok.se0
    have h1 := h.ok.se1
    have hr1 := h.ok.room1
    have hr2 := h.ok.room2
    have hf0 := h.ok.fr0
    have hfit := h.ok.fits
    have hfin : s.fin = s.fr + (s.b.length : Int) := rfl
    have e1 : IntKind.i64.wrap (s.se - s.fr) = s.se - s.fr := by rw [IntKind.wrap_i64]; omega
    have e2 : IntKind.i64.wrap (s.room - (s.se - s.fr)) = s.room - (s.se - s.fr) := by rw [IntKind.wrap_i64]; omega
    have hf' : decide (s.room - (s.se - s.fr) < (tail.length : Int)) = true := by simpa using hf
    rw [hon] at c5
    have HON := Lib.hid hon
    have HF := Lib.hid hf
    clear hon hf hfin
    go_enter Try.func80, Try.ntmps80
    go_wp2
    go_quiet (fail)
    go_wp2
    go_ret
    rw [PD.start_full HON.out HF.out]; exact h.sameCode ((Kept.refl _ _).drewN _) 9

theorem RX.started (hX : RX w q s B n a cap T) (hon : s.on = false) (keep : Int) (cut : Bool) (tail : List UInt8) (hf : (tail.length : Int) ≤ s.room - (s.se - s.fr)) {w5 : World} {a5 : Option Addr} {c5' L : Nat} (hL : (restAll B s keep tail).length = L)
    (ho5 : Owns w5 5 1 a5 L c5' (bcells (restAll B s keep tail))) (hk5 : Kept No w w5) (hat5 : ∀ b, At a5 b → w.heap.size ≤ b) (K : Int) (hK : K = if cut = true ∧ s.base ≤ (L : Int) then s.base else s.fr) :
    RCode w q T (s.start keep cut tail) (.returned (.int .i64 0)) (((((((w5.setCell ⟨q, 1, none⟩ (.slice a5 L c5')).setCell ⟨q, 2, none⟩ (.int .i64 K)).setCell ⟨q, 3, none⟩ (.int .i64 K)).setCell ⟨q, 4, none⟩ (.int .i64 (L : Int))).setCell ⟨q, 5, none⟩ (.bool false)).setCell ⟨q, 6, none⟩ (.bool false)).setCell ⟨q, 7, none⟩ (.int .i64 0)) := by
  obtain ⟨hrest, hrestl⟩ := hX.rest keep tail
  have hstart := PD.start_ok (n := keep) (cut := cut) (x := tail) hon hf
  have hok := PD.Ok.start hX.ok keep cut tail
  obtain ⟨hin0, hin1⟩ := PD.back_in hX.ok keep cut tail
  have hback : ({ s with b := s.rest keep tail } : PD).back cut = if cut = true ∧ s.base ≤ s.fr + ((s.rest keep tail).length : Int) then s.base else s.fr := rfl
  rw [hL] at hrestl
  rw [← hrestl, ← hK] at hback
  rw [hback] at hin0 hin1 hstart
  rw [hstart] at hok ⊢
  have hfr0 := hX.ok.fr0
  have hin0' : s.fr ≤ K := hin0
  have hin2 : K ≤ s.fr + ((s.rest keep tail).length : Int) := hin1
  have b5 : Blk w5 q 92 [.int .i64 s.room, .slice a n cap, .int .i64 s.base, .int .i64 s.fr, .int .i64 s.se, .bool (!s.on), .bool (s.fuse != -1), .int .i64 (max s.fuse 0)] := Blk.kept hX.box hk5 id
  have hpl := PD.part_length ({ s with b := s.rest keep tail, base := K } : PD) (i := K) (j := s.fr + ((s.rest keep tail).length : Int)) hin0 hin2 (Int.le_refl _)
  have hkk := (((((((Kept.refl (· = q) w5).setCell (a := ⟨q, 1, none⟩) (fun _ => rfl) (.slice a5 L c5')).setCell (a := ⟨q, 2, none⟩) (fun _ => rfl) (.int .i64 K)).setCell (a := ⟨q, 3, none⟩) (fun _ => rfl) (.int .i64 K)).setCell (a := ⟨q, 4, none⟩) (fun _ => rfl) (.int .i64 (L : Int))).setCell (a := ⟨q, 5, none⟩) (fun _ => rfl) (.bool false)).setCell (a := ⟨q, 6, none⟩) (fun _ => rfl) (.bool false)).setCell (a := ⟨q, 7, none⟩) (fun _ => rfl) (.int .i64 0)
  have b1 := Blk.set b5 1 (.slice a5 L c5')
  simp only [List.set_cons_succ, List.set_cons_zero] at b1
  have b2 := Blk.set b1 2 (.int .i64 K)
  simp only [List.set_cons_succ, List.set_cons_zero] at b2
  have b3 := Blk.set b2 3 (.int .i64 K)
  simp only [List.set_cons_succ, List.set_cons_zero] at b3
  have b4 := Blk.set b3 4 (.int .i64 (L : Int))
  simp only [List.set_cons_succ, List.set_cons_zero] at b4
  have b6 := Blk.set b4 5 (.bool false)
  simp only [List.set_cons_succ, List.set_cons_zero] at b6
  have b7 := Blk.set b6 6 (.bool false)
  simp only [List.set_cons_succ, List.set_cons_zero] at b7
  have b8 := Blk.set b7 7 (.int .i64 0)
  simp only [List.set_cons_succ, List.set_cons_zero] at b8
  have hfe : ({ s with b := s.rest keep tail, base := K } : PD).fin = (L : Int) := hrestl.symm
  have hrb : RB (((((((w5.setCell ⟨q, 1, none⟩ (.slice a5 L c5')).setCell ⟨q, 2, none⟩ (.int .i64 K)).setCell ⟨q, 3, none⟩ (.int .i64 K)).setCell ⟨q, 4, none⟩ (.int .i64 (L : Int))).setCell ⟨q, 5, none⟩ (.bool false)).setCell ⟨q, 6, none⟩ (.bool false)).setCell ⟨q, 7, none⟩ (.int .i64 0)) q
      { ({ s with b := s.rest keep tail, base := K } : PD).settle K with on := true, fuse := -1 } a5 L c5' := by
    unfold RB PD.settle
    have h1 : ((-1 : Int) != -1) = false := by decide
    have h2 : max (-1 : Int) 0 = 0 := by decide
    simp only [hfe, h1, h2, Bool.not_true]
    with_reducible exact b8
  have hfin : (L : Int) = ({ ({ s with b := s.rest keep tail, base := K } : PD).settle K with on := true, fuse := -1 } : PD).fin := by
    show (L : Int) = K + ((({ s with b := s.rest keep tail, base := K } : PD).part K (s.fr + ((s.rest keep tail).length : Int))).length : Int)
    rw [hpl]; omega
  have hdrop : (restAll B s keep tail).drop K.toNat = ((s.rest keep tail).drop (K - s.fr).toNat).take (s.fr + ((s.rest keep tail).length : Int) - K).toNat := by
    have e9 : s.fr.toNat + (K - s.fr).toNat = K.toNat := by omega
    rw [List.take_of_length_le (by rw [List.length_drop]; omega), ← hrest, List.drop_drop, e9]
  obtain ⟨r1, r2⟩ := hX.fresh ho5 hk5 hat5 hrb hkk hok hL hfin hdrop
  exact ⟨_, rfl, r1, r2⟩

set_option maxHeartbeats 4000000 in
theorem rstart_ok (h : RX w q s B n a cap T) (hlo2 : n ≤ 1099511627776) (hon : s.on = false) (keep : Int) (hk0 : -9223372036854775808 ≤ keep) (hk1 : keep ≤ 9223372036854775807) (cut : Bool) (tail : List UInt8) (m : Nat) (hm : tail.length = m) (at_ : Option Addr) (ct : Nat) (hr : Rd w at_ (bcells tail)) (hct : at_ = none → ct = 0)
    (hf : (m : Int) ≤ s.room - (s.se - s.fr)) :
    Calls Try.prog 80 #[.pointer (some ⟨q, 0, none⟩), .int .i64 keep, .bool cut, .slice at_ m ct] w (RCode w q T (s.start keep cut tail)) := by
  obtain ⟨i0, hi0, hz0, hz1, hz2⟩ := info_parts Try.dinf_byte
  have hX := h
  clear h
  have c0 : w.cell? ⟨q, 0, none⟩ = some (.int .i64 s.room) := Blk.cell hX.box 0
  have c3 : w.cell? ⟨q, 3, none⟩ = some (.int .i64 s.fr) := Blk.cell hX.box 3
  have c4 : w.cell? ⟨q, 4, none⟩ = some (.int .i64 s.se) := Blk.cell hX.box 4
  have c5 : w.cell? ⟨q, 5, none⟩ = some (.bool (!s.on)) := Blk.cell hX.box 5
  have c1 : w.cell? ⟨q, 1, none⟩ = some (.slice a n cap) := Blk.cell hX.box 1
  have h0 := hX.ok.se0
  have h1 := hX.ok.se1
  have hr1 := hX.ok.room1
  have hr2 := hX.ok.room2
  have hf0 := hX.ok.fr0
  have hfit := hX.ok.fits
  have hfin : s.fin = s.fr + (s.b.length : Int) := rfl
  have hfn := hX.fin
  have e1 : IntKind.i64.wrap (s.se - s.fr) = s.se - s.fr := by rw [IntKind.wrap_i64]; omega
  have e2 : IntKind.i64.wrap (s.room - (s.se - s.fr)) = s.room - (s.se - s.fr) := by rw [IntKind.wrap_i64]; omega
  have e3 : IntKind.i64.wrap ((n : Int) - s.se) = (n : Int) - s.se := by rw [IntKind.wrap_i64]; omega
  have hf' : decide (s.room - (s.se - s.fr) < (m : Int)) = false := by simpa using hf
  have hml : m ≤ 65536 := by omega
  obtain ⟨E, hE⟩ : ∃ E : Nat, s.se + min (max keep 0) ((n : Int) - s.se) = (E : Int) := ⟨(s.se + min (max keep 0) ((n : Int) - s.se)).toNat, by omega⟩
  have e4 : IntKind.i64.wrap (s.se + min (max keep 0) ((n : Int) - s.se)) = (E : Int) := by rw [hE, IntKind.wrap_i64]; omega
  have hEn : E ≤ n := by omega
  rw [hon] at c5
  have HON := Lib.hid hon
  have HF := Lib.hid hf
  have HM := Lib.hid hm
  have HFN := Lib.hid hfn
  have HE := Lib.hid hE
  clear hon hf hfin hm hfn hE
  go_enter Try.func80, Try.ntmps80
  go_wp2
  go_quiet (fail)
  go_upto_region 5 with (fail)
  go_cut [9] (fun s9 wx => s9 = .int .i64 E ∧ ∃ d, wx = w.drewN d)
  case first =>
    go_quiet (fail)
    go_wp2_with fail
    all_goals
      go_meet
      exact ⟨by have := HE.out; congr 1; omega, _, rfl⟩
  case rest =>
    obtain ⟨rfl, d, hwc⟩ := hcut
    subst hwc
    clear e1 e2 e3 e4
    have hcle := hX.own.le
    have hcm := hX.own.max
    unfold maxLen at hcm
    have hnil := hX.nil
    have hkd : Kept No w (w.drewN d) := (Kept.refl No w).drewN d
    have hrdE : Rd (w.drewN d) a (bcells (B.take E)) := by have := (hX.own.rd.keptNo hkd).take E; simpa [bcells, List.map_take] using this
    have honeE := bcells_one (B.take E)
    have hlE : (bcells (B.take E)).length = E * 1 := by simp [hX.len]; omega
    have HLE := Lib.hid hlE
    have hmxE : 0 + E ≤ maxLen := by unfold maxLen; omega
    have hbyE : (0 + E) * 1 ≤ 140737488355328 := by omega
    have hEc : E ≤ cap := by omega
    clear hlE
    go_upto_if 61 with (at_builtin; refine wpList_onto rfl (.const (.slice none 0 0)) (.tmp 57) 32 rfl 5 i0 _ 1 1 Try.du_bytes hi0 hz0 hz1 hz2 rfl (by decide) none 0 0 [] rfl (Owns.nil _ _ _) a E cap (bcells (B.take E)) rfl hnil HLE.out hrdE honeE hmxE hbyE ?_; intro a3 cap3 w3 hap3; have o3 := onto_nil hap3)
    go_cut [10] (fun s10 wx => RestAt w (restAll B s keep tail) s10 wx)
    case first =>
      by_cases hm0 : m = 0
      · subst hm0
        go_wp2_with fail
        go_meet
        have e : restAll B s keep tail = B.take E := by
          unfold restAll; rw [if_pos HM.out]; congr 1
          have := HE.out; have := HFN.out; omega
        have hl : (B.take E).length = E := by rw [List.length_take, hX.len]; omega
        rw [e]
        exact ⟨a3, cap3, by rw [hl], by rw [hl]; exact o3.1, hkd.transNo o3.2.1, o3.2.2⟩
      · have hm1 : decide ((0 : Int) < (m : Int)) = true := by simp; omega
        obtain ⟨k, hk⟩ : ∃ k : Nat, s.se = (k : Int) := ⟨s.se.toNat, by omega⟩
        have hkn : k ≤ n := by have := HFN.out; omega
        have k3d : Kept No w w3.drew := (hkd.transNo o3.2.1).drew
        have c1d : w3.drew.cell? ⟨q, 1, none⟩ = some (.slice a n cap) := Blk.cell (hX.keptNo k3d).box 1
        have c4d : w3.drew.cell? ⟨q, 4, none⟩ = some (.int .i64 (k : Int)) := by rw [← hk]; exact Blk.cell (hX.keptNo k3d).box 4
        have hrdk : Rd w3.drew a (bcells (B.take k)) := by have := (hX.own.rd.keptNo k3d).take k; simpa [bcells, List.map_take] using this
        have honek := bcells_one (B.take k)
        have hlk : (bcells (B.take k)).length = k * 1 := by simp [hX.len]; omega
        have HLK := Lib.hid hlk
        have hmxk : 0 + k ≤ maxLen := by unfold maxLen; omega
        have hbyk : (0 + k) * 1 ≤ 140737488355328 := by omega
        have hmxm : k + m ≤ maxLen := by unfold maxLen; omega
        have hbym : (k + m) * 1 ≤ 140737488355328 := by omega
        have honet := bcells_one tail
        have hlt : (bcells tail).length = m * 1 := by simp [HM.out]
        have HLT := Lib.hid hlt
        have HK := Lib.hid hk
        have hi1 : (0 : Int) ≤ (k : Int) := by omega
        have hi2 : (k : Int) ≤ (cap : Int) := by omega
        have hi3 : (k : Int) ≤ (n : Int) := by omega
        clear hlk hlt hk
        go_wp2_with fail
        go_region_law (first
          | (refine step_wp rfl ?_; (try simp only [List.getElem_toArray, List.getElem_cons_zero, List.getElem_cons_succ, Act.put, List.setIfInBounds_toArray, List.set_cons_zero, List.set_cons_succ]); refine wp_onto (.const (.slice none 0 0)) (.tmp 70) 32 rfl 5 i0 _ 1 1 Try.du_bytes hi0 hz0 hz1 hz2 rfl (by decide) none 0 0 [] rfl (Owns.nil _ _ _) a k cap (bcells (B.take k)) rfl hnil HLK.out hrdk honek hmxk hbyk ?_; intro a5 cap5 w5 hap5; have o5 := onto_nil hap5)
          | (refine step_wp rfl ?_; (try simp only [List.getElem_toArray, List.getElem_cons_zero, List.getElem_cons_succ, Act.put, List.setIfInBounds_toArray, List.set_cons_zero, List.set_cons_succ]); refine wp_onto (.tmp 71) (.tmp 72) 32 rfl 5 i0 _ 1 1 Try.du_bytes hi0 hz0 hz1 hz2 rfl (by decide) a5 k cap5 (bcells (B.take k)) rfl o5.1 at_ m ct (bcells tail) rfl hct HLT.out (hr.keptNo (k3d.transNo o5.2.1)) honet hmxm hbym ?_; intro a6 cap6 w6 hap6)
          | fail)
        all_goals
          go_wp2_with fail
          go_meet
          have e : restAll B s keep tail = B.take k ++ tail := by
            unfold restAll; rw [if_neg (by rw [HM.out]; exact hm0)]
            have := HK.out
            rw [show s.se.toNat = k by omega]
          have hl : (B.take k ++ tail).length = k + m := by rw [List.length_append, List.length_take, hX.len, HM.out]; omega
          have hc : bcells (B.take k ++ tail) = bcells (B.take k) ++ bcells tail := by simp [bcells]
          have k5 := k3d.transNo o5.2.1
          rw [e]
          exact ⟨a6, cap6, by rw [hl], by rw [hl, hc]; exact hap6.own, k5.trans hap6.kept (fun b hb hat => absurd (o5.2.2 b hat) (by have := k3d.size; omega)), fun b hb => (hap6.at_ b hb).elim (fun h => Nat.le_trans k3d.size (o5.2.2 b h)) (fun h => Nat.le_trans k5.size h)⟩
    case rest =>
      obtain ⟨a5, c5', rfl, ho5, hk5, hat5⟩ := hcut
      obtain ⟨w5, hw5⟩ : ∃ w5 : World, w5 = wc := ⟨_, rfl⟩
      subst hw5
      obtain ⟨L, hL⟩ : ∃ L, (restAll B s keep tail).length = L := ⟨_, rfl⟩
      have FIN := Lib.hid (fun (K : Int) => hX.started HON.out keep cut tail (by rw [HM.out]; exact HF.out) hL (by rw [← hL]; exact ho5) hk5 hat5 K)
      simp only [hL]
      have b5 := Blk.kept hX.box hk5 id
      have d1 := b5.cell 1
      have d2 : w5.cell? ⟨q, 2, none⟩ = some (.int .i64 s.base) := b5.cell 2
      have d3 : w5.cell? ⟨q, 3, none⟩ = some (.int .i64 s.fr) := b5.cell 3
      have d4 := b5.cell 4
      have d5 := b5.cell 5
      have d6 := b5.cell 6
      have d7 := b5.cell 7
      have g1 := b5.frozen 1
      have g2 := b5.frozen 2
      have g3 := b5.frozen 3
      have g4 := b5.frozen 4
      have g5 := b5.frozen 5
      have g6 := b5.frozen 6
      have g7 := b5.frozen 7
      cases cut with
      | false =>
        go_wp2
        go_ret
        exact FIN.out _ (by simp)
      | true =>
        by_cases hbase : s.base ≤ (L : Int)
        · go_wp2
          go_ret
          exact FIN.out _ (by simp [hbase])
        · go_wp2
          go_ret
          exact FIN.out _ (by rw [if_neg (fun h => absurd h.2 (by omega))])

theorem r_start (h : RX w q s B n a cap T) (hlo2 : n ≤ 1099511627776) (keep : Int) (hk0 : -9223372036854775808 ≤ keep) (hk1 : keep ≤ 9223372036854775807) (cut : Bool) (tail : List UInt8) (at_ : Option Addr) (ct : Nat) (hr : Rd w at_ (bcells tail)) (hct : at_ = none → ct = 0) :
    Calls Try.prog 80 #[.pointer (some ⟨q, 0, none⟩), .int .i64 keep, .bool cut, .slice at_ tail.length ct] w (RCode w q T (s.start keep cut tail)) := by
  cases hon : s.on with
  | true => exact rstart_no h keep cut tail at_ ct (.inl hon)
  | false =>
    by_cases hf : (tail.length : Int) ≤ s.room - (s.se - s.fr)
    · exact rstart_ok h hlo2 hon keep hk0 hk1 cut tail tail.length rfl at_ ct hr hct hf
    · exact rstart_no h keep cut tail at_ ct (.inr ⟨hon, by omega⟩)
end
end Go.Proofs.Ytdolddgmemlofaa
