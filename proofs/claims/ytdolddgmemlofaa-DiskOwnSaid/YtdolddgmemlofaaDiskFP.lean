/- DiskForced: the plain law. No Go here. -/
import Derived.Test.YtdolddgmemlofaaDiskP
namespace Go.PM

theorem PD.start_nil {s : PD} (h : s.Ok) (n : Int) (cut : Bool) : (s.start n cut []).2.on = true := by
  cases hon : s.on with
  | true => rw [PD.start_on hon]; exact hon
  | false =>
    rw [PD.start_ok hon (by have := h.se1; have := h.fits; have : s.fin = s.fr + (s.b.length : Int) := rfl; simp; omega)]

theorem PD.start_fr {s : PD} (h : s.Ok) (n : Int) (cut : Bool) (x : List UInt8) : (s.start n cut x).2.fr ≤ s.fr + 65536 := by
  have := (PD.far h ⟨5, n, x, cut⟩).1
  have e : s.does ⟨5, n, x, cut⟩ = (0, s.start n cut x) := by unfold PD.does; simp
  rw [e] at this; exact this

theorem PD.rest_nil {s : PD} (h : s.Ok) (keep : Int) : s.rest keep [] = s.b.take (s.rest keep []).length ∧ s.se - s.fr ≤ ((s.rest keep []).length : Int) ∧ (s.rest keep []).length ≤ s.b.length := by
  have hfin : s.fin = s.fr + (s.b.length : Int) := rfl
  have h0 := h.se0
  have h1 := h.se1
  have e1 : s.part s.fr s.se = s.b.take (s.se - s.fr).toNat := by unfold PD.part; rw [show (s.fr - s.fr).toNat = 0 by omega, List.drop_zero]
  have e2 : s.part s.se s.fin = s.b.drop (s.se - s.fr).toNat := by
    unfold PD.part
    rw [List.take_of_length_le]
    rw [List.length_drop]; omega
  obtain ⟨j, hj⟩ : ∃ j, (min (max keep 0) ((s.part s.se s.fin).length : Int)).toNat = j := ⟨_, rfl⟩
  have e3 : s.tail keep [] = (s.b.drop (s.se - s.fr).toNat).take j := by unfold PD.tail; rw [if_pos (show ([] : List UInt8).length = 0 from rfl), hj, e2]
  have e4 : s.rest keep [] = s.b.take ((s.se - s.fr).toNat + j) := by
    unfold PD.rest; rw [e1, e3, List.take_add]
  have hl : (s.rest keep []).length = min ((s.se - s.fr).toNat + j) s.b.length := by rw [e4, List.length_take]
  refine ⟨?_, ?_, ?_⟩
  · rw [hl, e4]
    rcases Nat.le_total ((s.se - s.fr).toNat + j) s.b.length with h | h
    · rw [Nat.min_eq_left h]
    · rw [Nat.min_eq_right h, List.take_of_length_le h, List.take_of_length_le (Nat.le_refl _)]
  · rw [hl]; omega
  · rw [hl]; omega

/-- What is behind a Fail and a Start of no tail. -/
structure PD.Came (t u : PD) (cut : Bool) (x : List UInt8) : Prop where
  on : u.on = true
  read : u.read = (x, 0)
  base : u.base = t.fr ∨ (cut = true ∧ u.base = t.base)
  base0 : t.fr ≤ u.base
  base1 : u.base ≤ u.fin
  fin0 : t.se ≤ u.fin
  fin1 : u.fin - t.fr ≤ (t.b.length : Int)
  bytes : x = (t.b.drop (u.base - t.fr).toNat).take (u.fin - u.base).toNat
  len : (x.length : Int) = u.fin - u.base
  fr : u.fr ≤ t.fr + 65536

theorem PD.came {t : PD} (h : t.Ok) (keep : Int) (cut : Bool) :
    ∃ u x, ({ t with on := false } : PD).start keep cut [] = (0, u) ∧ t.Came u cut x := by
  have h' : ({ t with on := false } : PD).Ok := h.off false
  have hfin : t.fin = t.fr + (t.b.length : Int) := rfl
  have hse0 := h.se0
  have hse1 := h.se1
  have hfit := h.fits
  have hroom := h.room2
  obtain ⟨r1, r2, r3⟩ := PD.rest_nil h' keep
  obtain ⟨b0, b1⟩ := PD.back_in h' keep cut []
  have hst := PD.start_ok (s := { t with on := false }) (n := keep) (cut := cut) (x := []) rfl (by simp; omega)
  obtain ⟨X, hX⟩ : ∃ X, ({ t with on := false } : PD).rest keep [] = X := ⟨_, rfl⟩
  rw [hX] at r1 r2 r3 b0 b1 hst
  obtain ⟨B, hB⟩ : ∃ B, ({ ({ t with on := false } : PD) with b := X } : PD).back cut = B := ⟨_, rfl⟩
  have hB2 : B = t.fr ∨ (cut = true ∧ B = t.base) := by
    rw [← hB]; unfold PD.back
    split
    · rename_i hc; exact .inr ⟨hc.1, rfl⟩
    · exact .inl rfl
  rw [hB] at b0 b1 hst
  have b0' : t.fr ≤ B := b0
  have b1' : B ≤ t.fr + (X.length : Int) := b1
  have r2' : t.se - t.fr ≤ (X.length : Int) := r2
  have r3' : X.length ≤ t.b.length := r3
  have r1' : X = t.b.take X.length := r1
  refine ⟨_, (t.b.drop (B - t.fr).toNat).take (t.fr + (X.length : Int) - B).toNat, hst, ?_⟩
  have hp := PD.part_length ({ ({ t with on := false } : PD) with b := X, base := B } : PD) (i := B) (j := t.fr + (X.length : Int)) b0' b1' (by show _ ≤ t.fr + (X.length : Int); omega)
  have hufin : ({ ({ ({ t with on := false } : PD) with b := X, base := B } : PD).settle B with on := true, fuse := -1 } : PD).fin = t.fr + (X.length : Int) := by
    show B + ((({ ({ t with on := false } : PD) with b := X, base := B } : PD).part B (t.fr + (X.length : Int))).length : Int) = _
    rw [hp]; omega
  have hbytes : ({ ({ t with on := false } : PD) with b := X, base := B } : PD).part B (t.fr + (X.length : Int)) = (t.b.drop (B - t.fr).toNat).take (t.fr + (X.length : Int) - B).toNat := by
    show (X.drop (B - t.fr).toNat).take (t.fr + (X.length : Int) - B).toNat = _
    have hd : X.drop (B - t.fr).toNat = (t.b.drop (B - t.fr).toNat).take (X.length - (B - t.fr).toNat) := by
      conv => lhs; rw [r1']
      rw [List.drop_take]
    rw [hd, List.take_take, show min (t.fr + (X.length : Int) - B).toNat (X.length - (B - t.fr).toNat) = (t.fr + (X.length : Int) - B).toNat by omega]
  refine ⟨rfl, ?_, hB2, b0', by rw [hufin]; exact b1', by rw [hufin]; omega, by rw [hufin]; omega, ?_, ?_, ?_⟩
  · rw [PD.read_on rfl, hufin]
    show ((((({ ({ t with on := false } : PD) with b := X, base := B } : PD).part B (t.fr + (X.length : Int))).drop (B - B).toNat).take (t.fr + (X.length : Int) - B).toNat, (0 : Int)) : List UInt8 × Int) = _
    rw [hbytes, show (B - B).toNat = 0 by omega, List.drop_zero, List.take_take, Nat.min_self]
  · rw [hufin]; rfl
  · rw [hufin, ← hbytes, hp]; rfl
  · show B ≤ t.fr + 65536; omega
end Go.PM
