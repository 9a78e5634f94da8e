/- The document's disk, by the pure disk: Append, Trim, Read, Force. -/
import Derived.Test.YtdolddgmemlofaaDRefA
namespace Go.Proofs.Ytdolddgmemlofaa
open Go.RowKit Go.PM
set_option maxRecDepth 100000

section
variable {w w' : World} {q : Nat} {s : PD} {B : List UInt8} {n : Nat} {a : Option Addr} {cap : Nat} {T : Nat → Prop}

/-- New bytes are stored, and what the struct says besides. -/
theorem RX.fresh (h : RX w q s B n a cap T) {s' : PD} {B' : List UInt8} {n' cap' : Nat} {a' : Option Addr} {w1 w2 : World} (ho : Owns w1 5 1 a' n' cap' (bcells B')) (hk : Kept No w w1) (hat : ∀ b, At a' b → w.heap.size ≤ b)
    (hb : RB w2 q s' a' n' cap') (hk2 : Kept (· = q) w1 w2) (hok : s'.Ok) (hl : B'.length = n') (hf : (n' : Int) = s'.fin) (hd : B'.drop s'.fr.toNat = s'.b) : RS w2 q s' (fun k => T k ∨ At a' k) ∧ DGrows T (fun k => T k ∨ At a' k) w w2 := by
  have hq := h.lt q h.tq
  have hne : ∀ b, At a' b → b ≠ q := fun b hb => by have := hat b hb; omega
  exact ⟨⟨B', n', a', cap', hb, ho.kept hk2 (fun b hb e => hne b hb e), hok, hl, hf, hd, .inl h.tq, fun k hk' => ⟨.inr hk', hne k hk'⟩, fun k hk' => hk'.elim (fun h' => hk2.lt (hk.lt (h.lt k h'))) (fun h' => hk2.lt (ho.lt k h'))⟩,
    (Kept.no hk).trans hk2 (fun _ _ e => e ▸ h.tq), fun k hk' => hk'.imp id (hat k)⟩

theorem onto_nil {w w1 : World} {a' : Option Addr} {n cap' : Nat} {ys : List Value} (hap : Onto w w1 5 1 none a' (0 + n) cap' ([] ++ ys)) : Owns w1 5 1 a' n cap' ys ∧ Kept No w w1 ∧ ∀ b, At a' b → w.heap.size ≤ b := by
  rw [Nat.zero_add, List.nil_append] at hap
  exact ⟨hap.own, hap.kept.mono fun _ _ ⟨_, _, h, _⟩ => (nomatch h), fun b hb => (hap.at_ b hb).elim (fun ⟨_, _, h, _⟩ => nomatch h) id⟩

set_option maxHeartbeats 1000000 in
theorem r_append (h : RX w q s B n a cap T) (hlo : s.fr ≤ 4611686018427387904) (hlo2 : n ≤ 1099511627776) (x : List UInt8) (a2 : Option Addr) (c2 : Nat) (hr : Rd w a2 (bcells x)) (hc2 : a2 = none → c2 = 0) :
    Calls Try.prog 81 #[.pointer (some ⟨q, 0, none⟩), .slice a2 x.length c2] w (RTwo w q T (s.append x)) := by
  obtain ⟨i0, hi0, hz0, hz1, hz2⟩ := info_parts Try.dinf_byte
  have c1 : w.cell? ⟨q, 1, none⟩ = some (.slice a n cap) := Blk.cell h.box 1
  have c5 : w.cell? ⟨q, 5, none⟩ = some (.bool (!s.on)) := Blk.cell h.box 5
  have hone := bcells_one x
  have honeB := bcells_one B
  have hX := h
  clear h
  cases hon : s.on
  · have HON := Lib.hid hon
    rw [hon] at c5
    clear hon
    go_enter Try.func81, Try.ntmps81
    go_wp2
    go_ret2
    rw [PD.append_off HON.out]
    exact ⟨T, rfl, ⟨B, n, a, cap, hX⟩, DGrows.same (Kept.refl _ _)⟩
  · have HON := Lib.hid hon
    rw [hon] at c5
    clear hon
    obtain ⟨L, hL⟩ : ∃ L, s.left = L := ⟨_, rfl⟩
    have HL := Lib.hid hL
    have hL1 : L ≤ 65536 := by have := hX.ok.room2; have : s.left = s.room - (s.b.length : Int) := rfl; omega
    clear hL
    by_cases hfull : L < x.length
    · go_enter Try.func81, Try.ntmps81
      go_wp2_with (go_at_call 52; refine (r_left hX hlo HL.out).mono ?_; rintro e w' ⟨rfl, k, rfl⟩)
      go_ret2
      rw [PD.append_full HON.out (by rw [HL.out]; exact hfull)]
      exact ⟨T, rfl, ⟨B, n, a, cap, hX.keptNo ((Kept.refl _ _).drewN k)⟩, DGrows.same ((Kept.refl _ _).drewN k)⟩
    · have hle : (x.length : Int) ≤ L := by omega
      have hmx : n + x.length ≤ maxLen := by unfold maxLen; omega
      have hmx0 : 0 + n ≤ maxLen := by unfold maxLen; omega
      have hby0 : (0 + n) * 1 ≤ 140737488355328 := by omega
      have hby : (n + x.length) * 1 ≤ 140737488355328 := by omega
      have hlB : (bcells B).length = n * 1 := by simp [hX.len]
      have HLB := Lib.hid hlB
      have hnil := hX.nil
      have hok := hX.ok.append x
      have hfx : s.append x = ((n : Int), 0, { s with b := s.b ++ x }) := by rw [PD.append_ok HON.out (by rw [HL.out]; exact hle : (x.length : Int) ≤ s.left), ← hX.fin]
      rw [hfx] at hok
      have HFX := Lib.hid hfx
      clear hfx hlB
      go_enter Try.func81, Try.ntmps81
      go_wp2_with (first
        | (go_at_call 52; refine (r_left hX hlo HL.out).mono ?_; rintro e w' ⟨rfl, k, rfl⟩; have c1k : (w.drewN k).cell? ⟨q, 1, none⟩ = some (.slice a n cap) := c1)
        | (at_builtin; refine wpList_onto rfl (.const (.slice none 0 0)) (.tmp 27) 32 rfl 5 i0 _ 1 1 Try.du_bytes hi0 hz0 hz1 hz2 rfl (by decide) none 0 0 [] rfl (Owns.nil _ _ _) a n cap (bcells B) rfl hnil HLB.out (hX.own.rd.keptNo ((Kept.refl No w).drewN k)) honeB hmx0 hby0 ?_; intro a3 cap3 w3 hap3; have o3 := onto_nil hap3)
        | (at_builtin; go_must (refine wpList_onto rfl (.tmp 28) (.tmp 29) 32 rfl 5 i0 _ 1 1 Try.du_bytes hi0 hz0 hz1 hz2 rfl (by decide) a3 n cap3 (bcells B) rfl o3.1 a2 x.length c2 (bcells x) rfl hc2 (by simp) (hr.keptNo (((Kept.refl No w).drewN k).transNo o3.2.1)) hone hmx hby ?_; intro a4 cap4 w4 hap4; have k4 : Kept No w w4 := (((Kept.refl No w).drewN k).transNo o3.2.1).trans hap4.kept (fun b hb hat => absurd (o3.2.2 b hat) (by simp; omega)); have b4 := Blk.kept hX.box k4 id; have d1 := b4.cell 1; have g1 := b4.frozen 1)))
      go_ret2
      rw [HFX.out]
      have hfr0 := hX.ok.fr0
      have hfin := hX.fin
      have hfin2 : s.fin = s.fr + (s.b.length : Int) := rfl
      have hlen := hX.len
      have hcell : bcells (B ++ x) = bcells B ++ bcells x := by simp [bcells]
      obtain ⟨r1, r2⟩ := hX.fresh (s' := { s with b := s.b ++ x }) (B' := B ++ x) (n' := n + x.length) (cap' := cap4) (a' := a4) (w1 := w4) (by rw [hcell]; exact hap4.own) k4
        (fun b hb => (hap4.at_ b hb).elim (o3.2.2 b) (fun h => Nat.le_trans (((Kept.refl No w).drewN k).transNo o3.2.1).size h)) (Blk.set b4 1 _) ((Kept.refl (· = q) w4).setCell (a := ⟨q, 1, none⟩) (fun _ => rfl) (.slice a4 (n + x.length) cap4)) hok
        (by simp [hlen]) (by show ((n + x.length : Nat) : Int) = s.fr + ((s.b ++ x).length : Int); rw [List.length_append]; omega)
        (by show (B ++ x).drop s.fr.toNat = s.b ++ x; rw [List.drop_append_of_le_length (by omega), hX.bytes])
      exact ⟨_, rfl, r1, r2⟩

set_option maxHeartbeats 1000000 in
theorem r_trim (h : RX w q s B n a cap T) (hlo2 : n ≤ 1099511627776) (m : Int) :
    Calls Try.prog 77 #[.pointer (some ⟨q, 0, none⟩), .int .i64 m] w (RCode w q T (s.trim m)) := by
  obtain ⟨i0, hi0, hz0, hz1, hz2⟩ := info_parts Try.dinf_byte
  have c1 : w.cell? ⟨q, 1, none⟩ = some (.slice a n cap) := Blk.cell h.box 1
  have c2 : w.cell? ⟨q, 2, none⟩ = some (.int .i64 s.base) := Blk.cell h.box 2
  have c4 : w.cell? ⟨q, 4, none⟩ = some (.int .i64 s.se) := Blk.cell h.box 4
  have c5 : w.cell? ⟨q, 5, none⟩ = some (.bool (!s.on)) := Blk.cell h.box 5
  have hX := h
  clear h
  have hb0 := hX.ok.base0
  have hf0 := hX.ok.fr0
  have hf := hX.fin
  have HF := Lib.hid hf
  clear hf
  cases hon : s.on
  · have HON := Lib.hid hon
    rw [hon] at c5
    clear hon
    go_enter Try.func77, Try.ntmps77
    go_wp2
    go_ret
    rw [PD.trim_off HON.out]; exact hX.sameCode (Kept.refl _ _) 10
  · have HON := Lib.hid hon
    rw [hon] at c5
    clear hon
    by_cases hi : s.base ≤ m
    · by_cases hi2 : m ≤ (n : Int)
      · obtain ⟨mm, rfl⟩ : ∃ mm : Nat, m = (mm : Int) := ⟨m.toNat, by omega⟩
        have hmn : mm ≤ n := by omega
        have hin : s.inside (mm : Int) := ⟨hi, by rw [← HF.out]; exact hi2⟩
        have hok := hX.ok.trim (mm : Int)
        rw [PD.trim_in HON.out hin] at hok
        have HIN := Lib.hid hin
        clear hin
        have hcle := hX.own.le
        have hnil := hX.nil
        have hrd : Rd w a (bcells (B.take mm)) := by have := hX.own.rd.take mm; simpa [bcells, List.map_take] using this
        have hone := bcells_one (B.take mm)
        have hlB : (bcells (B.take mm)).length = mm * 1 := by simp [hX.len]; omega
        have HLB := Lib.hid hlB
        have hmx0 : 0 + mm ≤ maxLen := by unfold maxLen; omega
        have hby0 : (0 + mm) * 1 ≤ 140737488355328 := by omega
        have hcm := hX.own.max
        unfold maxLen at hcm
        clear hlB
        have fin : ∀ (w3 : World) (a3 : Option Addr) (cap3 : Nat) (v : Int), Owns w3 5 1 a3 mm cap3 (bcells (B.take mm)) ∧ Kept No w w3 ∧ (∀ b, At a3 b → w.heap.size ≤ b) → min s.se (mm : Int) = v →
            RCode w q T (s.trim (mm : Int)) (.returned (.int .i64 0)) ((w3.setCell ⟨q, 1, none⟩ (.slice a3 mm cap3)).setCell ⟨q, 4, none⟩ (.int .i64 v)) := by
          rintro w3 a3 cap3 v ⟨o1, o2, o3⟩ rfl
          have hpl := s.part_length (i := s.fr) (j := (mm : Int)) (Int.le_refl _) (by omega) (by rw [← HF.out]; exact hi2)
          obtain ⟨r1, r2⟩ := hX.fresh (s' := { s with b := s.part s.fr (mm : Int), se := min s.se (mm : Int) }) (B' := B.take mm) (n' := mm) (cap' := cap3) (a' := a3) (w1 := w3) o1 o2 o3 (Blk.set (Blk.set (Blk.kept hX.box o2 id) 1 (.slice a3 mm cap3)) 4 (.int .i64 (min s.se (mm : Int))))
            (((Kept.refl (· = q) w3).setCell (a := ⟨q, 1, none⟩) (fun _ => rfl) (.slice a3 mm cap3)).setCell (a := ⟨q, 4, none⟩) (fun _ => rfl) (.int .i64 (min s.se (mm : Int)))) hok
            (by simp [hX.len]; omega) (by show (mm : Int) = s.fr + ((s.part s.fr (mm : Int)).length : Int); omega)
            (by show (B.take mm).drop s.fr.toNat = s.part s.fr (mm : Int); unfold PD.part; rw [List.drop_take, hX.bytes, show (s.fr - s.fr).toNat = 0 by omega, List.drop_zero]; congr 1; omega)
          rw [PD.trim_in HON.out HIN.out]
          exact ⟨_, rfl, r1, r2⟩
        by_cases hms : s.se ≤ (mm : Int)
        all_goals
          have FIN := Lib.hid fin
          clear fin
          go_enter Try.func77, Try.ntmps77
          go_wp2_with (at_builtin; refine wpList_onto rfl (.const (.slice none 0 0)) (.tmp 32) 32 rfl 5 i0 _ 1 1 Try.du_bytes hi0 hz0 hz1 hz2 rfl (by decide) none 0 0 [] rfl (Owns.nil _ _ _) a mm cap (bcells (B.take mm)) rfl hnil HLB.out hrd hone hmx0 hby0 ?_; intro a3 cap3 w3 hap3; have o3 := onto_nil hap3; have b3 := Blk.kept hX.box o3.2.1 id; have d1 := b3.cell 1; have g1 := b3.frozen 1; have d4 := b3.cell 4; have g4 := b3.frozen 4)
          go_ret
          exact FIN.out w3 a3 cap3 _ o3 (by omega)
      · go_enter Try.func77, Try.ntmps77
        go_wp2
        go_ret
        rw [PD.trim_out HON.out (fun h => absurd h.2 (by rw [← HF.out]; omega))]; exact hX.sameCode (Kept.refl _ _) 1
    · go_enter Try.func77, Try.ntmps77
      go_wp2
      go_ret
      rw [PD.trim_out HON.out (fun h => absurd h.1 (by omega))]; exact hX.sameCode (Kept.refl _ _) 1
end
end Go.Proofs.Ytdolddgmemlofaa
