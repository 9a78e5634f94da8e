/- DiskErrors: the plain law. No Go here. -/
import Derived.Test.YtdolddgmemlofaaDiskP
namespace Go.PM

/-- What an error turns: nothing but the power. -/
theorem PD.err {s : PD} (a : DAct) (he : (s.does a).2.1 ≠ 0) :
    ((s.does a).2.2 = s ∧ ((s.does a).2.1 = 10 → s.on = false)) ∨ ((s.does a).2.2 = { s with on := false } ∧ (s.does a).2.1 = 10) := by
  have off : ∀ {b : Bool}, ¬ b = true → b = false := fun h => by simpa using h
  unfold PD.does at *
  split
  · rename_i h; rw [if_pos h] at he
    unfold PD.force at *
    split
    · rename_i hon; rw [if_pos hon] at he
      split
      · exact .inr ⟨rfl, rfl⟩
      · rename_i hf; rw [if_neg hf] at he; exact absurd rfl he
    · rename_i hon; exact .inl ⟨rfl, fun _ => off hon⟩
  · rename_i h; rw [if_neg h] at he
    split
    · rename_i h; rw [if_pos h] at he
      unfold PD.cut at *
      split
      · rename_i hon; rw [if_pos hon] at he
        split
        · rename_i hf; rw [if_pos hf] at he; exact absurd rfl he
        · exact .inl ⟨rfl, fun h => by simp at h⟩
      · rename_i hon; exact .inl ⟨rfl, fun _ => off hon⟩
    · rename_i h; rw [if_neg h] at he
      split
      · rename_i h; rw [if_pos h] at he
        unfold PD.trim at *
        split
        · rename_i hon; rw [if_pos hon] at he
          split
          · rename_i hf; rw [if_pos hf] at he; exact absurd rfl he
          · exact .inl ⟨rfl, fun h => by simp at h⟩
        · rename_i hon; exact .inl ⟨rfl, fun _ => off hon⟩
      · rename_i h; rw [if_neg h] at he
        split
        · rename_i h; rw [if_pos h] at he; exact absurd rfl he
        · rename_i h; rw [if_neg h] at he
          split
          · rename_i h; rw [if_pos h] at he
            unfold PD.fail at *
            split
            · rename_i hon; rw [if_pos hon] at he; exact absurd rfl he
            · exact .inl ⟨rfl, fun h => by simp at h⟩
          · rename_i h; rw [if_neg h] at he
            split
            · rename_i h; rw [if_pos h] at he
              unfold PD.start at *
              split
              · exact .inl ⟨rfl, fun h => by simp at h⟩
              · rename_i hon; rw [if_neg hon] at he
                split
                · rename_i hl; rw [if_pos hl] at he; exact absurd rfl he
                · exact .inl ⟨rfl, fun h => by simp at h⟩
            · rename_i h; rw [if_neg h] at he
              unfold PD.append at *
              split
              · rename_i hon; rw [if_pos hon] at he
                split
                · rename_i hl; rw [if_pos hl] at he; exact absurd rfl he
                · exact .inl ⟨rfl, fun h => by simp at h⟩
              · rename_i hon; exact .inl ⟨rfl, fun _ => off hon⟩

/-- What the law asks behind an error. -/
structure PD.Same (s t : PD) (g : Int) : Prop where
  base : t.base = s.base
  fin : t.fin = s.fin
  left : t.left = s.left
  on : t.on = true → s.on = true
  read : s.read.2 = 0 → t.read.2 = 0 → t.read.1 = s.read.1
  down : g = 10 → t.on = false
  else_ : g ≠ 10 → t.on = s.on

theorem PD.same {s : PD} (a : DAct) (he : (s.does a).2.1 ≠ 0) : s.Same (s.does a).2.2 (s.does a).2.1 := by
  rcases s.err a he with ⟨h1, h2⟩ | ⟨h1, h2⟩
  · rw [h1]; exact ⟨rfl, rfl, rfl, id, fun _ _ => rfl, h2, fun _ => rfl⟩
  · rw [h1]
    refine ⟨rfl, rfl, rfl, fun h => (nomatch h), fun _ h => ?_, fun _ => rfl, fun h => absurd h2 h⟩
    rw [PD.read_off rfl] at h; simp at h
end Go.PM
