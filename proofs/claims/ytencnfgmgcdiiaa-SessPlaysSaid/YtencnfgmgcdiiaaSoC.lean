/- slices' partition of a window of bytes about a pivot. -/
import Derived.Test.YtencnfgmgcdiiaaSoB
import Derived.Deep.CutBlock
namespace Go.Proofs.Ytencnfgmgcdiiaa
open Go.RowKit Go.PM

def UpRel (w : World) (S : List UInt8) (a b j i0 : Nat) (s : Value) (wx : World) : Prop := ∃ i : Nat, i0 ≤ i ∧ s = .int .i64 i ∧ PInv a b i j S ∧ Kept No w wx
def UpTo (w : World) (S : List UInt8) (a b j i0 : Nat) (s : Value) (wx : World) : Prop := ∃ i : Nat, i0 ≤ i ∧ s = .int .i64 i ∧ PInv a b i j S ∧ (j < i ∨ vsOf S a ≤ vsOf S i) ∧ Kept No w wx
def DnRel (w : World) (S : List UInt8) (a b i j0 : Nat) (s : Value) (wx : World) : Prop := ∃ j : Nat, j ≤ j0 ∧ s = .int .i64 j ∧ PInv a b i j S ∧ Kept No w wx
def DnTo (w : World) (S : List UInt8) (a b i j0 : Nat) (s : Value) (wx : World) : Prop := ∃ j : Nat, j ≤ j0 ∧ s = .int .i64 j ∧ PInv a b i j S ∧ (j < i ∨ vsOf S j < vsOf S a) ∧ Kept No w wx
def PartRel (w : World) (g : Nat) (T : TypeId) (tail : List Value) (l : List UInt8) (a b : Nat) (s t : Value) (wr : World) : Prop :=
  ∃ i j : Nat, s = .int .i64 i ∧ t = .int .i64 j ∧ Kept (· = g) w wr ∧ ∃ S, Win a b l S ∧ PInv a b i j S ∧ Blk wr g T (bcells S ++ tail)
def PartPost (w : World) (g : Nat) (T : TypeId) (tail : List Value) (l : List UInt8) (a b : Nat) (e : Ending) (w' : World) : Prop :=
  ∃ (m : Nat) (d : Bool) (S : List UInt8), e = .returned (.tuple #[.int .i64 m, .bool d]) ∧ Kept (· = g) w w' ∧ Win a b l S ∧ Parted a b m S ∧ Blk w' g T (bcells S ++ tail)

section
variable {w : World}
set_option maxRecDepth 100000 in
set_option maxHeartbeats 8000000 in
theorem part_sort_calls (g : Nat) (l : List UInt8) (tail : List Value) (n cap a b p : Nat) (hl : l.length = n) (hn : n < 1000000) (hap : a < p) (hpb : p < b) (h1 : b ≤ n) (T : TypeId) (hb : Blk w g T (bcells l ++ tail)) :
    Calls Try.prog 79 #[.slice (some ⟨g, 0, none⟩) n cap, .int .i64 a, .int .i64 b, .int .i64 p] w (PartPost w g T tail l a b) := by
  have a0 : (0 : Int) ≤ a := by omega
  have a1 : (a : Int) < n := by omega
  have p0 : (0 : Int) ≤ p := by omega
  have p1 : (p : Int) < n := by omega
  have hne : ¬ a = p := by omega
  have c1 := (hb.cell a).trans (btcell l tail (by omega))
  have c2 := (hb.cell p).trans (btcell l tail (by omega))
  have f1 := hb.frozen a
  have f2 := hb.frozen p
  have wa : IntKind.i64.wrap ((a : Int) + 1) = ((a + 1 : Nat) : Int) := by rw [IntKind.wrap_i64]; omega
  have wb : IntKind.i64.wrap ((b : Int) - 1) = ((b - 1 : Nat) : Int) := by rw [IntKind.wrap_i64]; omega
  have B1 := (blk_sw hb (i := a) (j := p) (by omega) (by omega)).kept (Kept.refl No _).drew id
  have K1 := (((Kept.refl (· = g) w).setCell (a := ⟨g, a, none⟩) (fun _ => rfl) (.int .u8 (vsOf l p))).setCell (a := ⟨g, p, none⟩) (fun _ => rfl) (.int .u8 (vsOf l a))).drew
  have W1 : Win a b l (sw l a p) := Win.sw (by omega) (by omega) (by omega) (by omega) (by omega) hpb
  go_enter Try.func79, Try.ntmps79
  go_wp2
  go_region
  clear c1 c2 f1 f2 hb
  generalize World.drew _ = w1 at *
  have hS1 : (sw l a p).length = n := by rw [sw_length, hl]
  generalize sw l a p = S1 at *
  have P1 := PInv.start S1 (show a + 1 < b by omega)
  have EA : (a : Int) + 1 = ((a + 1 : Nat) : Int) := by omega
  have EB : (b : Int) - 1 = ((b - 1 : Nat) : Int) := by omega
  generalize hi0 : a + 1 = ii at *
  generalize hj0 : b - 1 = jj at *
  go_upto_block 0 with (fail)
  go_cut [10] (fun s10 wx => UpTo w1 S1 a b jj ii s10 wx)
  case first =>
    go_wp2_with fail
    go_loopw [10] (fun t wx => UpRel w1 S1 a b jj ii t wx) (fun t _ => b + 1 - (intOf t).toNat)
    case atStart => exact ⟨_, Nat.le_refl _, rfl, P1, Kept.refl _ _⟩
    case round =>
      obtain ⟨i, hge, rfl, hP, Kx⟩ := hrel
      have BS := B1.kept Kx id
      have ai := hP.ai
      have ij := hP.ij
      have jb := hP.jb
      have i0 : (0 : Int) ≤ i := by omega
      have a0 : (0 : Int) ≤ a := by omega
      have a1 : (a : Int) < n := by omega
      by_cases hij : i ≤ jj
      · have i1 : (i : Int) < n := by omega
        have hij' : (i : Int) ≤ jj := by omega
        have c1 := (BS.cell i).trans (btcell S1 tail (by omega))
        have c2 := (BS.cell a).trans (btcell S1 tail (by omega))
        cases hlt2 : ltB (vsOf S1 i) (vsOf S1 a)
        · have hfin : vsOf S1 a ≤ vsOf S1 i := by unfold ltB at hlt2; have := of_decide_eq_false hlt2; omega
          go_wp2
          go_quiet ((go_at_call 77; exact less_q _ _ _ _ hlt2))
          go_wp2
          go_meet
          exact ⟨i, hge, rfl, hP, .inr hfin, Kx.drewN _⟩
        · have hfin : vsOf S1 i < vsOf S1 a := by unfold ltB at hlt2; exact of_decide_eq_true hlt2
          go_wp2
          go_quiet ((go_at_call 77; exact less_q _ _ _ _ hlt2))
          go_wp2
          exact ⟨⟨i + 1, by omega, by go_num, hP.up hij hfin, Kx.drewN _⟩, by simp [intOf]; omega⟩
      · have hij' : ¬ (i : Int) ≤ jj := by omega
        go_wp2
        go_quiet (fail)
        go_wp2
        go_meet
        exact ⟨i, hge, rfl, hP, .inl (by omega), Kx.drewN _⟩
  case rest =>
    obtain ⟨i, hgi, rfl, hP, hx, Kx⟩ := hcut
    have B2 := B1.kept Kx id
    have K2 := K1.trans Kx fun _ _ h => h.elim
    generalize wc = w2 at *
    clear P1
    go_upto_block 2 with (fail)
    go_cut [11] (fun s11 wx => DnTo w2 S1 a b i jj s11 wx)
    case first =>
      go_wp2_with fail
      go_loopw [11] (fun t wx => DnRel w2 S1 a b i jj t wx) (fun t _ => (intOf t).toNat)
      case atStart => exact ⟨_, Nat.le_refl _, rfl, hP, Kept.refl _ _⟩
      case round =>
        obtain ⟨j, hge, rfl, hP, Kx⟩ := hrel
        have BS := B2.kept Kx id
        have ai := hP.ai
        have ij := hP.ij
        have jb := hP.jb
        have j0 : (0 : Int) ≤ j := by omega
        have j1 : (j : Int) < n := by omega
        have a0 : (0 : Int) ≤ a := by omega
        have a1 : (a : Int) < n := by omega
        by_cases hij : i ≤ j
        · have hij' : (i : Int) ≤ j := by omega
          have c1 := (BS.cell j).trans (btcell S1 tail (by omega))
          have c2 := (BS.cell a).trans (btcell S1 tail (by omega))
          cases hlt2 : ltB (vsOf S1 j) (vsOf S1 a)
          · have hfin : vsOf S1 a ≤ vsOf S1 j := by unfold ltB at hlt2; have := of_decide_eq_false hlt2; omega
            go_wp2
            go_quiet ((go_at_call 77; exact less_q _ _ _ _ hlt2))
            go_wp2
            exact ⟨⟨j - 1, by omega, by rw [show (((j - 1 : Nat)) : Int) = (j : Int) - 1 by omega], hP.down hij hfin, Kx.drewN _⟩, by simp [intOf]; omega⟩
          · have hfin : vsOf S1 j < vsOf S1 a := by unfold ltB at hlt2; exact of_decide_eq_true hlt2
            go_wp2
            go_quiet ((go_at_call 77; exact less_q _ _ _ _ hlt2))
            go_wp2
            go_meet
            exact ⟨j, hge, rfl, hP, .inr hfin, Kx.drewN _⟩
        · have hij' : ¬ (i : Int) ≤ j := by omega
          go_wp2
          go_quiet (fail)
          go_wp2
          go_meet
          exact ⟨j, hge, rfl, hP, .inl (by omega), Kx.drewN _⟩
    case rest =>
      obtain ⟨j, hgj, rfl, hP, hy, Ky⟩ := hcut
      have BS := B2.kept Ky id
      have KX := K2.trans Ky fun _ _ h => h.elim
      have HW := W1
      clear B1 B2 K1 Kx Ky K2
      by_cases hij : j < i
      · have ai := hP.ai
        have ij := hP.ij
        have jb := hP.jb
        have j0 : (0 : Int) ≤ j := by omega
        have j1 : (j : Int) < n := by omega
        have a0 : (0 : Int) ≤ a := by omega
        have a1 : (a : Int) < n := by omega
        have hgt : (j : Int) < i := by omega
        have c1 := (BS.cell j).trans (btcell S1 tail (by omega))
        have c2 := (BS.cell a).trans (btcell S1 tail (by omega))
        have f1 := BS.frozen j
        have f2 := BS.frozen a
        have hPart := hP.finish (by omega) (by omega)
        have hWin := HW.trans (Win.sw (i := j) (j := a) (by omega) (by omega) (by omega) jb (by omega) (by omega))
        have BW := (blk_sw BS (i := j) (j := a) (by omega) (by omega)).kept (Kept.refl No _).drew id
        have KW := ((KX.setCell (a := ⟨g, j, none⟩) (fun _ => rfl) (.int .u8 (vsOf S1 a))).setCell (a := ⟨g, a, none⟩) (fun _ => rfl) (.int .u8 (vsOf S1 j))).drew
        by_cases hja : j = a
        · subst hja
          go_wp2
          go_region
          go_wp2
          go_ret2
          exact ⟨j, true, _, rfl, KW, hWin, hPart, BW⟩
        · go_wp2
          go_region
          go_wp2
          go_ret2
          exact ⟨j, true, _, rfl, KW, hWin, hPart, BW⟩
      · have ai := hP.ai
        have ij := hP.ij
        have jb := hP.jb
        have i0 : (0 : Int) ≤ i := by omega
        have i1 : (i : Int) < n := by omega
        have j0 : (0 : Int) ≤ j := by omega
        have j1 : (j : Int) < n := by omega
        have hgt : ¬ (j : Int) < i := by omega
        have hlow : vsOf S1 a ≤ vsOf S1 i := hx.resolve_left (by omega)
        have hhigh : vsOf S1 j < vsOf S1 a := hy.resolve_left (by omega)
        have hne : ¬ i = j := fun e => by subst e; omega
        have c1 := (BS.cell i).trans (btcell S1 tail (by omega))
        have c2 := (BS.cell j).trans (btcell S1 tail (by omega))
        have f1 := BS.frozen i
        have f2 := BS.frozen j
        have hP2 := hP.swap (by omega) (by omega) hlow hhigh
        have HW2 := HW.trans (Win.sw (i := i) (j := j) (by omega) (by omega) (by omega) (by omega) (by omega) jb)
        have BW := (blk_sw BS (i := i) (j := j) (by omega) (by omega)).kept (Kept.refl No _).drew id
        have KW := ((KX.setCell (a := ⟨g, i, none⟩) (fun _ => rfl) (.int .u8 (vsOf S1 j))).setCell (a := ⟨g, j, none⟩) (fun _ => rfl) (.int .u8 (vsOf S1 i))).drew
        have ej : (((j - 1 : Nat)) : Int) = (j : Int) - 1 := by omega
        go_wp2
        go_region
        have hS2 : (sw S1 i j).length = n := by rw [sw_length, hS1]
        clear c1 c2 f1 f2 BS KX hlow hhigh hx hy hP HW
        generalize World.drew _ = w3 at *
        generalize sw S1 i j = S2 at *
        go_wp2
        go_loopw [10, 11] (fun s t wx => PartRel w g T tail l a b s t wx) (fun s t _ => (intOf t).toNat + 1 - (intOf s).toNat)
        case atStart => exact ⟨i + 1, j - 1, by go_num, by rw [ej], KW, S2, HW2, hP2, BW⟩
        case round =>
          clear hP2 HW2 BW KW hS2 ai ij jb i0 i1 j0 j1 hgt hne ej hij
          obtain ⟨iq, jq, rfl, rfl, Kw, S, HW, hP0, B3⟩ := hrel
          have hSl : S.length = n := by rw [HW.len, hl]
          go_upto_block 6 with (fail)
          go_cut [10] (fun s10 wx => UpTo wr S a b jq iq s10 wx)
          case first =>
            go_wp2_with fail
            go_loopw [10] (fun t wx => UpRel wr S a b jq iq t wx) (fun t _ => b + 1 - (intOf t).toNat)
            case atStart => exact ⟨_, Nat.le_refl _, rfl, hP0, Kept.refl _ _⟩
            case round =>
              obtain ⟨i, hge, rfl, hP, Kx⟩ := hrel
              have BS := B3.kept Kx id
              have ai := hP.ai
              have ij := hP.ij
              have jb := hP.jb
              have i0 : (0 : Int) ≤ i := by omega
              have a0 : (0 : Int) ≤ a := by omega
              have a1 : (a : Int) < n := by omega
              by_cases hij : i ≤ jq
              · have i1 : (i : Int) < n := by omega
                have hij' : (i : Int) ≤ jq := by omega
                have c1 := (BS.cell i).trans (btcell S tail (by omega))
                have c2 := (BS.cell a).trans (btcell S tail (by omega))
                cases hlt2 : ltB (vsOf S i) (vsOf S a)
                · have hfin : vsOf S a ≤ vsOf S i := by unfold ltB at hlt2; have := of_decide_eq_false hlt2; omega
                  go_wp2
                  go_quiet ((go_at_call 77; exact less_q _ _ _ _ hlt2))
                  go_wp2
                  go_meet
                  exact ⟨i, hge, rfl, hP, .inr hfin, Kx.drewN _⟩
                · have hfin : vsOf S i < vsOf S a := by unfold ltB at hlt2; exact of_decide_eq_true hlt2
                  go_wp2
                  go_quiet ((go_at_call 77; exact less_q _ _ _ _ hlt2))
                  go_wp2
                  exact ⟨⟨i + 1, by omega, by go_num, hP.up hij hfin, Kx.drewN _⟩, by simp [intOf]; omega⟩
              · have hij' : ¬ (i : Int) ≤ jq := by omega
                go_wp2
                go_quiet (fail)
                go_wp2
                go_meet
                exact ⟨i, hge, rfl, hP, .inl (by omega), Kx.drewN _⟩
          case rest =>
            obtain ⟨i, hgi, rfl, hP, hx, Kx⟩ := hcut
            have B4 := B3.kept Kx id
            have K4 := Kw.trans Kx fun _ _ h => h.elim
            have hiq := hP0.ij
            generalize wc = w4 at *
            go_upto_block 8 with (fail)
            go_cut [11] (fun s11 wx => DnTo w4 S a b i jq s11 wx)
            case first =>
              go_wp2_with fail
              go_loopw [11] (fun t wx => DnRel w4 S a b i jq t wx) (fun t _ => (intOf t).toNat)
              case atStart => exact ⟨_, Nat.le_refl _, rfl, hP, Kept.refl _ _⟩
              case round =>
                obtain ⟨j, hge, rfl, hP, Kx⟩ := hrel
                have BS := B4.kept Kx id
                have ai := hP.ai
                have ij := hP.ij
                have jb := hP.jb
                have j0 : (0 : Int) ≤ j := by omega
                have j1 : (j : Int) < n := by omega
                have a0 : (0 : Int) ≤ a := by omega
                have a1 : (a : Int) < n := by omega
                by_cases hij : i ≤ j
                · have hij' : (i : Int) ≤ j := by omega
                  have c1 := (BS.cell j).trans (btcell S tail (by omega))
                  have c2 := (BS.cell a).trans (btcell S tail (by omega))
                  cases hlt2 : ltB (vsOf S j) (vsOf S a)
                  · have hfin : vsOf S a ≤ vsOf S j := by unfold ltB at hlt2; have := of_decide_eq_false hlt2; omega
                    go_wp2
                    go_quiet ((go_at_call 77; exact less_q _ _ _ _ hlt2))
                    go_wp2
                    exact ⟨⟨j - 1, by omega, by rw [show (((j - 1 : Nat)) : Int) = (j : Int) - 1 by omega], hP.down hij hfin, Kx.drewN _⟩, by simp [intOf]; omega⟩
                  · have hfin : vsOf S j < vsOf S a := by unfold ltB at hlt2; exact of_decide_eq_true hlt2
                    go_wp2
                    go_quiet ((go_at_call 77; exact less_q _ _ _ _ hlt2))
                    go_wp2
                    go_meet
                    exact ⟨j, hge, rfl, hP, .inr hfin, Kx.drewN _⟩
                · have hij' : ¬ (i : Int) ≤ j := by omega
                  go_wp2
                  go_quiet (fail)
                  go_wp2
                  go_meet
                  exact ⟨j, hge, rfl, hP, .inl (by omega), Kx.drewN _⟩
            case rest =>
              obtain ⟨j, hgj, rfl, hP, hy, Ky⟩ := hcut
              have BS := B4.kept Ky id
              have KX := K4.trans Ky fun _ _ h => h.elim
              clear B3 B4 Kx Ky K4 Kw
              by_cases hij : j < i
              · have ai := hP.ai
                have ij := hP.ij
                have jb := hP.jb
                have j0 : (0 : Int) ≤ j := by omega
                have j1 : (j : Int) < n := by omega
                have a0 : (0 : Int) ≤ a := by omega
                have a1 : (a : Int) < n := by omega
                have hgt : (j : Int) < i := by omega
                have c1 := (BS.cell j).trans (btcell S tail (by omega))
                have c2 := (BS.cell a).trans (btcell S tail (by omega))
                have f1 := BS.frozen j
                have f2 := BS.frozen a
                have hPart := hP.finish (by omega) (by omega)
                have hWin := HW.trans (Win.sw (i := j) (j := a) (by omega) (by omega) (by omega) jb (by omega) (by omega))
                have BW := (blk_sw BS (i := j) (j := a) (by omega) (by omega)).kept (Kept.refl No _).drew id
                have KW := ((KX.setCell (a := ⟨g, j, none⟩) (fun _ => rfl) (.int .u8 (vsOf S a))).setCell (a := ⟨g, a, none⟩) (fun _ => rfl) (.int .u8 (vsOf S j))).drew
                by_cases hja : j = a
                · subst hja
                  go_wp2
                  go_region
                  go_wp2
                  go_ret2
                  exact ⟨j, false, _, rfl, KW, hWin, hPart, BW⟩
                · go_wp2
                  go_region
                  go_wp2
                  go_ret2
                  exact ⟨j, false, _, rfl, KW, hWin, hPart, BW⟩
              · have ai := hP.ai
                have ij := hP.ij
                have jb := hP.jb
                have i0 : (0 : Int) ≤ i := by omega
                have i1 : (i : Int) < n := by omega
                have j0 : (0 : Int) ≤ j := by omega
                have j1 : (j : Int) < n := by omega
                have hgt : ¬ (j : Int) < i := by omega
                have hlow : vsOf S a ≤ vsOf S i := hx.resolve_left (by omega)
                have hhigh : vsOf S j < vsOf S a := hy.resolve_left (by omega)
                have hne : ¬ i = j := fun e => by subst e; omega
                have c1 := (BS.cell i).trans (btcell S tail (by omega))
                have c2 := (BS.cell j).trans (btcell S tail (by omega))
                have f1 := BS.frozen i
                have f2 := BS.frozen j
                have hP2 := hP.swap (by omega) (by omega) hlow hhigh
                have HW2 := HW.trans (Win.sw (i := i) (j := j) (by omega) (by omega) (by omega) (by omega) (by omega) jb)
                have BW := (blk_sw BS (i := i) (j := j) (by omega) (by omega)).kept (Kept.refl No _).drew id
                have KW := ((KX.setCell (a := ⟨g, i, none⟩) (fun _ => rfl) (.int .u8 (vsOf S j))).setCell (a := ⟨g, j, none⟩) (fun _ => rfl) (.int .u8 (vsOf S i))).drew
                have ej : (((j - 1 : Nat)) : Int) = (j : Int) - 1 := by omega
                go_wp2
                go_region
                go_wp2
                exact ⟨⟨i + 1, j - 1, by go_num, by rw [ej], KW, _, HW2, hP2, BW⟩, by simp [intOf]; omega⟩
end
end Go.Proofs.Ytencnfgmgcdiiaa
