/- The pure disk: what each call makes of its bytes. No Go here. -/
namespace Go.PM

/-- A disk: the place of its first byte, its bytes, its room, the base, the forced end, whether it is on, its fuse. -/
structure PD where
  fr : Int
  b : List UInt8
  room : Int
  base : Int
  se : Int
  on : Bool
  fuse : Int

def PD.fin (s : PD) : Int := s.fr + (s.b.length : Int)
/-- What is there from a place on, up to another one. -/
def PD.part (s : PD) (i j : Int) : List UInt8 := (s.b.drop (i - s.fr).toNat).take (j - i).toNat
def PD.left (s : PD) : Int := s.room - (s.b.length : Int)
def PD.inside (s : PD) (to : Int) : Prop := s.base ≤ to ∧ to ≤ s.fin
instance (s : PD) (i : Int) : Decidable (s.inside i) := by unfold PD.inside; infer_instance
def PD.new (room : Int) : PD := ⟨0, [], room, 0, 0, true, -1⟩
def PD.append (s : PD) (x : List UInt8) : Int × Int × PD :=
  if s.on = true then (if (x.length : Int) ≤ s.left then (s.fin, 0, { s with b := s.b ++ x }) else (0, 9, s)) else (0, 10, s)
/-- All that is there from a place on is there whatever comes. -/
def PD.settle (s : PD) (base : Int) : PD := { s with fr := base, b := s.part base s.fin, base := base, se := s.fin }
def PD.force (s : PD) : Int × PD :=
  if s.on = true then (if s.fuse = 0 then (10, { s with on := false }) else (0, ({ s with fuse := if s.fuse = -1 then -1 else s.fuse - 1 } : PD).settle s.base)) else (10, s)
def PD.cut (s : PD) (to : Int) : Int × PD := if s.on = true then (if s.inside to then (0, { s with base := to }) else (1, s)) else (10, s)
def PD.trim (s : PD) (to : Int) : Int × PD := if s.on = true then (if s.inside to then (0, { s with b := s.part s.fr to, se := min s.se to }) else (1, s)) else (10, s)
def PD.read (s : PD) : List UInt8 × Int := if s.on = true then (s.part s.base s.fin, 0) else ([], 10)
def PD.arm (s : PD) (n : Int) : PD := { s with fuse := max n (-1) }
def PD.fail (s : PD) : Int × PD := if s.on = true then (0, { s with on := false }) else (11, s)
/-- What stays behind the forced end. -/
def PD.tail (s : PD) (keep : Int) (tail : List UInt8) : List UInt8 :=
  if tail.length = 0 then (s.part s.se s.fin).take (min (max keep 0) ((s.part s.se s.fin).length : Int)).toNat else tail
def PD.rest (s : PD) (keep : Int) (tail : List UInt8) : List UInt8 := s.part s.fr s.se ++ s.tail keep tail
def PD.back (s : PD) (cut : Bool) : Int := if cut = true ∧ s.base ≤ s.fin then s.base else s.fr
def PD.start (s : PD) (keep : Int) (cut : Bool) (tail : List UInt8) : Int × PD :=
  if s.on = true then (11, s)
  else if (tail.length : Int) ≤ s.room - (s.se - s.fr) then
    (0, { ({ s with b := s.rest keep tail, base := ({ s with b := s.rest keep tail } : PD).back cut } : PD).settle (({ s with b := s.rest keep tail } : PD).back cut) with on := true, fuse := -1 })
  else (9, s)

/-- An act. -/
structure DAct where
  kind : Int
  n : Int
  b : List UInt8
  cut : Bool

/-- What a call answers, and the disk behind it. -/
def PD.does (s : PD) (a : DAct) : Int × Int × PD :=
  if a.kind % 8 = 1 then (0, s.force)
  else if a.kind % 8 = 2 then (0, s.cut a.n)
  else if a.kind % 8 = 7 then (0, s.trim a.n)
  else if a.kind % 8 = 3 then (0, 0, s.arm a.n)
  else if a.kind % 8 = 4 then (0, s.fail)
  else if a.kind % 8 = 5 then (0, s.start a.n a.cut a.b)
  else s.append a.b

/-- What holds of every disk that was made. -/
structure PD.Ok (s : PD) : Prop where
  room1 : 1 ≤ s.room
  room2 : s.room ≤ 65536
  fits : (s.b.length : Int) ≤ s.room
  fr0 : 0 ≤ s.fr
  base0 : s.fr ≤ s.base
  base1 : s.base ≤ s.fin
  se0 : s.fr ≤ s.se
  se1 : s.se ≤ s.fin
  fuse0 : -1 ≤ s.fuse
  fuse1 : s.fuse ≤ 9223372036854775807

theorem PD.part_length (s : PD) {i j : Int} (h0 : s.fr ≤ i) (h1 : i ≤ j) (h2 : j ≤ s.fin) : ((s.part i j).length : Int) = j - i := by
  unfold PD.part PD.fin at *
  rw [List.length_take, List.length_drop]
  omega

theorem PD.Ok.new {room : Int} (h1 : 1 ≤ room) (h2 : room ≤ 65536) : (PD.new room).Ok :=
  ⟨h1, h2, by simp [PD.new]; omega, Int.le_refl _, Int.le_refl _, by simp [PD.new, PD.fin], Int.le_refl _, by simp [PD.new, PD.fin], by simp [PD.new], by simp [PD.new]⟩

theorem PD.settle_fin (s : PD) {base : Int} (h0 : s.fr ≤ base) (h1 : base ≤ s.fin) : (s.settle base).fin = s.fin := by
  have := s.part_length h0 h1 (Int.le_refl _)
  simp only [PD.settle]
  show base + ((s.part base s.fin).length : Int) = _
  omega

theorem PD.Ok.settle {s : PD} (h : s.Ok) {base : Int} (h0 : s.fr ≤ base) (h1 : base ≤ s.fin) : (s.settle base).Ok := by
  have hl := s.part_length h0 h1 (Int.le_refl _)
  have hf := s.settle_fin h0 h1
  have := h.fr0
  have hfit := h.fits
  have hfin : s.fin = s.fr + (s.b.length : Int) := rfl
  refine ⟨h.room1, h.room2, ?_, ?_, Int.le_refl _, ?_, ?_, ?_, h.fuse0, h.fuse1⟩
  · show ((s.part base s.fin).length : Int) ≤ s.room
    omega
  · show 0 ≤ base
    omega
  · rw [hf]; exact h1
  · exact h1
  · rw [hf]; exact Int.le_refl _

theorem PD.Ok.append {s : PD} (h : s.Ok) (x : List UInt8) : (s.append x).2.2.Ok := by
  unfold PD.append
  split
  · split
    · rename_i hl
      unfold PD.left at hl
      have hfin : s.fin = s.fr + (s.b.length : Int) := rfl
      have hfin2 : ({ s with b := s.b ++ x } : PD).fin = s.fr + ((s.b ++ x).length : Int) := rfl
      have hll : ((s.b ++ x).length : Int) = s.b.length + x.length := by simp
      have := h.base1
      have := h.se1
      refine ⟨h.room1, h.room2, ?_, h.fr0, h.base0, ?_, h.se0, ?_, h.fuse0, h.fuse1⟩
      · show ((s.b ++ x).length : Int) ≤ s.room
        omega
      · rw [hfin2]; show s.base ≤ _; omega
      · rw [hfin2]; show s.se ≤ _; omega
    · exact h
  · exact h

theorem PD.Ok.off {s : PD} (h : s.Ok) (o : Bool) : ({ s with on := o } : PD).Ok := ⟨h.room1, h.room2, h.fits, h.fr0, h.base0, h.base1, h.se0, h.se1, h.fuse0, h.fuse1⟩
theorem PD.Ok.fused {s : PD} (h : s.Ok) {n : Int} (h0 : -1 ≤ n) (h1 : n ≤ 9223372036854775807) : ({ s with fuse := n } : PD).Ok := ⟨h.room1, h.room2, h.fits, h.fr0, h.base0, h.base1, h.se0, h.se1, h0, h1⟩

theorem PD.Ok.force {s : PD} (h : s.Ok) : (s.force).2.Ok := by
  unfold PD.force
  split
  · split
    · exact h.off _
    · have := h.fuse0
      have := h.fuse1
      have h2 : ({ s with fuse := if s.fuse = -1 then -1 else s.fuse - 1 } : PD).Ok := h.fused (by split <;> omega) (by split <;> omega)
      exact h2.settle h.base0 h.base1
  · exact h

theorem PD.Ok.cut {s : PD} (h : s.Ok) (to : Int) : (s.cut to).2.Ok := by
  unfold PD.cut
  split
  · split
    · rename_i hi
      have := h.base0
      exact ⟨h.room1, h.room2, h.fits, h.fr0, Int.le_trans h.base0 hi.1, hi.2, h.se0, h.se1, h.fuse0, h.fuse1⟩
    · exact h
  · exact h

theorem PD.Ok.trim {s : PD} (h : s.Ok) (to : Int) : (s.trim to).2.Ok := by
  unfold PD.trim
  split
  · split
    · rename_i hi
      obtain ⟨hi0, hi1⟩ := hi
      have hb0 := h.base0
      have hl := s.part_length (i := s.fr) (j := to) (Int.le_refl _) (by omega) hi1
      have hfin : s.fin = s.fr + (s.b.length : Int) := rfl
      have hfin2 : ({ s with b := s.part s.fr to, se := min s.se to } : PD).fin = s.fr + ((s.part s.fr to).length : Int) := rfl
      have := h.se0
      have hfit := h.fits
      refine ⟨h.room1, h.room2, ?_, h.fr0, h.base0, ?_, ?_, ?_, h.fuse0, h.fuse1⟩
      · show ((s.part s.fr to).length : Int) ≤ s.room
        omega
      · rw [hfin2]; show s.base ≤ _; omega
      · show s.fr ≤ min s.se to; omega
      · rw [hfin2]; show min s.se to ≤ _; omega
    · exact h
  · exact h

theorem PD.Ok.arm {s : PD} (h : s.Ok) {n : Int} (h1 : n ≤ 9223372036854775807) : (s.arm n).Ok := h.fused (by omega) (by omega)

theorem PD.Ok.fail {s : PD} (h : s.Ok) : (s.fail).2.Ok := by
  unfold PD.fail
  split
  · exact h.off _
  · exact h

theorem PD.tail_length {s : PD} (h : s.Ok) (keep : Int) (tail : List UInt8) : ((s.tail keep tail).length : Int) ≤ max (s.fin - s.se) tail.length := by
  have hl := s.part_length h.se0 h.se1 (Int.le_refl _)
  unfold PD.tail
  split
  · rw [List.length_take]; omega
  · omega

theorem PD.rest_length {s : PD} (h : s.Ok) (keep : Int) (tail : List UInt8) : ((s.rest keep tail).length : Int) = s.se - s.fr + (s.tail keep tail).length := by
  have hl := s.part_length (Int.le_refl _) h.se0 h.se1
  unfold PD.rest
  rw [List.length_append]; omega

theorem PD.back_in {s : PD} (h : s.Ok) (keep : Int) (cut : Bool) (tail : List UInt8) :
    s.fr ≤ ({ s with b := s.rest keep tail } : PD).back cut ∧ ({ s with b := s.rest keep tail } : PD).back cut ≤ ({ s with b := s.rest keep tail } : PD).fin := by
  have hl := s.rest_length h keep tail
  have := h.se0
  have := h.base0
  have hfin2 : ({ s with b := s.rest keep tail } : PD).fin = s.fr + ((s.rest keep tail).length : Int) := rfl
  unfold PD.back
  split
  · rename_i hc; exact ⟨h.base0, hc.2⟩
  · exact ⟨Int.le_refl _, by rw [hfin2]; show s.fr ≤ _; omega⟩

theorem PD.Ok.started {s : PD} (h : s.Ok) (keep : Int) (cut : Bool) (tail : List UInt8) (ht : (tail.length : Int) ≤ s.room - (s.se - s.fr)) :
    ({ s with b := s.rest keep tail, base := ({ s with b := s.rest keep tail } : PD).back cut, se := s.fr } : PD).Ok := by
  have hl := s.rest_length h keep tail
  have htl := s.tail_length h keep tail
  obtain ⟨hb0, hb1⟩ := s.back_in h keep cut tail
  have hfin : s.fin = s.fr + (s.b.length : Int) := rfl
  have hfit := h.fits
  have := h.se0
  have := h.se1
  refine ⟨h.room1, h.room2, ?_, h.fr0, hb0, hb1, Int.le_refl _, ?_, h.fuse0, h.fuse1⟩
  · show ((s.rest keep tail).length : Int) ≤ s.room
    omega
  · show s.fr ≤ s.fr + ((s.rest keep tail).length : Int)
    omega

theorem PD.Ok.start {s : PD} (h : s.Ok) (keep : Int) (cut : Bool) (tail : List UInt8) : (s.start keep cut tail).2.Ok := by
  unfold PD.start
  split
  · exact h
  · split
    · rename_i ht
      obtain ⟨hb0, hb1⟩ := s.back_in h keep cut tail
      have h1 := (h.started keep cut tail ht).settle hb0 hb1
      exact (h1.off true).fused (by omega) (by omega)
    · exact h

theorem PD.Ok.does {s : PD} (h : s.Ok) (a : DAct) (h1 : a.n ≤ 9223372036854775807) : (s.does a).2.2.Ok := by
  unfold PD.does
  split
  · exact h.force
  · split
    · exact h.cut _
    · split
      · exact h.trim _
      · split
        · exact h.arm h1
        · split
          · exact h.fail
          · split
            · exact h.start _ _ _
            · exact h.append _

/-- How far its first byte's place goes in one call. -/
theorem PD.far {s : PD} (h : s.Ok) (a : DAct) : (s.does a).2.2.fr ≤ s.fr + 65536 ∧ (s.does a).2.2.room = s.room := by
  have hb := h.base1
  have hfin : s.fin = s.fr + (s.b.length : Int) := rfl
  have hfit := h.fits
  have hr := h.room2
  unfold PD.does
  split
  · unfold PD.force; split
    · split
      · exact ⟨by show s.fr ≤ _; omega, rfl⟩
      · exact ⟨by show s.base ≤ _; omega, rfl⟩
    · exact ⟨by show s.fr ≤ _; omega, rfl⟩
  · split
    · unfold PD.cut; split
      · split <;> exact ⟨by show s.fr ≤ _; omega, rfl⟩
      · exact ⟨by show s.fr ≤ _; omega, rfl⟩
    · split
      · unfold PD.trim; split
        · split <;> exact ⟨by show s.fr ≤ _; omega, rfl⟩
        · exact ⟨by show s.fr ≤ _; omega, rfl⟩
      · split
        · exact ⟨by show s.fr ≤ _; omega, rfl⟩
        · split
          · unfold PD.fail; split <;> exact ⟨by show s.fr ≤ _; omega, rfl⟩
          · split
            · unfold PD.start; split
              · exact ⟨by show s.fr ≤ _; omega, rfl⟩
              · split
                · rename_i ht
                  obtain ⟨hb0, hb1⟩ := s.back_in h a.n a.cut a.b
                  have hok := (h.started a.n a.cut a.b ht).fits
                  have hfin2 : ({ s with b := s.rest a.n a.b } : PD).fin = s.fr + ((s.rest a.n a.b).length : Int) := rfl
                  have hok' : ((s.rest a.n a.b).length : Int) ≤ s.room := hok
                  refine ⟨?_, rfl⟩
                  show ({ s with b := s.rest a.n a.b } : PD).back a.cut ≤ s.fr + 65536
                  omega
                · exact ⟨by show s.fr ≤ _; omega, rfl⟩
            · unfold PD.append; split
              · split <;> exact ⟨by show s.fr ≤ _; omega, rfl⟩
              · exact ⟨by show s.fr ≤ _; omega, rfl⟩

section
variable {s : PD} {n : Int} {x : List UInt8} {cut : Bool}
theorem PD.append_off (h : s.on = false) : s.append x = (0, 10, s) := by unfold PD.append; rw [if_neg (by simp [h])]
theorem PD.append_full (h : s.on = true) (hl : s.left < x.length) : s.append x = (0, 9, s) := by unfold PD.append; rw [if_pos h, if_neg (by omega)]
theorem PD.append_ok (h : s.on = true) (hl : (x.length : Int) ≤ s.left) : s.append x = (s.fin, 0, { s with b := s.b ++ x }) := by unfold PD.append; rw [if_pos h, if_pos hl]
theorem PD.force_off (h : s.on = false) : s.force = (10, s) := by unfold PD.force; rw [if_neg (by simp [h])]
theorem PD.force_burnt (h : s.on = true) (hf : s.fuse = 0) : s.force = (10, { s with on := false }) := by unfold PD.force; rw [if_pos h, if_pos hf]
theorem PD.force_none (h : s.on = true) (hf : s.fuse = -1) : s.force = (0, s.settle s.base) := by
  unfold PD.force; rw [if_pos h, if_neg (by omega), if_pos hf]
  cases s; simp at hf; subst hf; rfl
theorem PD.force_some (h : s.on = true) (hf : s.fuse ≠ 0) (hg : s.fuse ≠ -1) : s.force = (0, ({ s with fuse := s.fuse - 1 } : PD).settle s.base) := by
  unfold PD.force; rw [if_pos h, if_neg hf, if_neg hg]
theorem PD.cut_off (h : s.on = false) : s.cut n = (10, s) := by unfold PD.cut; rw [if_neg (by simp [h])]
theorem PD.cut_in (h : s.on = true) (hi : s.inside n) : s.cut n = (0, { s with base := n }) := by unfold PD.cut; rw [if_pos h, if_pos hi]
theorem PD.cut_out (h : s.on = true) (hi : ¬ s.inside n) : s.cut n = (1, s) := by unfold PD.cut; rw [if_pos h, if_neg hi]
theorem PD.trim_off (h : s.on = false) : s.trim n = (10, s) := by unfold PD.trim; rw [if_neg (by simp [h])]
theorem PD.trim_in (h : s.on = true) (hi : s.inside n) : s.trim n = (0, { s with b := s.part s.fr n, se := min s.se n }) := by unfold PD.trim; rw [if_pos h, if_pos hi]
theorem PD.trim_out (h : s.on = true) (hi : ¬ s.inside n) : s.trim n = (1, s) := by unfold PD.trim; rw [if_pos h, if_neg hi]
theorem PD.read_off (h : s.on = false) : s.read = ([], 10) := by unfold PD.read; rw [if_neg (by simp [h])]
theorem PD.read_on (h : s.on = true) : s.read = (s.part s.base s.fin, 0) := by unfold PD.read; rw [if_pos h]
theorem PD.fail_off (h : s.on = false) : s.fail = (11, s) := by unfold PD.fail; rw [if_neg (by simp [h])]
theorem PD.fail_on (h : s.on = true) : s.fail = (0, { s with on := false }) := by unfold PD.fail; rw [if_pos h]
theorem PD.start_on (h : s.on = true) : s.start n cut x = (11, s) := by unfold PD.start; rw [if_pos h]
theorem PD.start_full (h : s.on = false) (hl : s.room - (s.se - s.fr) < x.length) : s.start n cut x = (9, s) := by unfold PD.start; rw [if_neg (by simp [h]), if_neg (by omega)]
theorem PD.start_ok (h : s.on = false) (hl : (x.length : Int) ≤ s.room - (s.se - s.fr)) : s.start n cut x =
    (0, { ({ s with b := s.rest n x, base := ({ s with b := s.rest n x } : PD).back cut } : PD).settle (({ s with b := s.rest n x } : PD).back cut) with on := true, fuse := -1 }) := by
  unfold PD.start; rw [if_neg (by simp [h]), if_pos hl]
end

/-- What settle asks. -/
structure PD.Half (s : PD) : Prop where
  room1 : 1 ≤ s.room
  room2 : s.room ≤ 65536
  fits : (s.b.length : Int) ≤ s.room
  fr0 : 0 ≤ s.fr
  fuse0 : -1 ≤ s.fuse
  fuse1 : s.fuse ≤ 9223372036854775807

theorem PD.Ok.half {s : PD} (h : s.Ok) : s.Half := ⟨h.room1, h.room2, h.fits, h.fr0, h.fuse0, h.fuse1⟩
theorem PD.Half.settle {s : PD} (h : s.Half) {base : Int} (h0 : s.fr ≤ base) (h1 : base ≤ s.fin) : (s.settle base).Ok := by
  have hl := s.part_length h0 h1 (Int.le_refl _)
  have hf := s.settle_fin h0 h1
  have := h.fr0
  have hfit := h.fits
  have hfin : s.fin = s.fr + (s.b.length : Int) := rfl
  refine ⟨h.room1, h.room2, ?_, ?_, Int.le_refl _, ?_, ?_, ?_, h.fuse0, h.fuse1⟩
  · show ((s.part base s.fin).length : Int) ≤ s.room
    omega
  · show 0 ≤ base
    omega
  · rw [hf]; exact h1
  · exact h1
  · rw [hf]; exact Int.le_refl _
end Go.PM
