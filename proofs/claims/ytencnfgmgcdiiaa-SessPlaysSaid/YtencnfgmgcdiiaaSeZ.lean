/- slices.Sorted over a desk's keys, as many as the sort takes. -/
import Derived.Test.YtencnfgmgcdiiaaSeY
namespace Go.Proofs.Ytencnfgmgcdiiaa
open Go.RowKit Go.PM

/-- Up to N bytes are sorted. -/
def SortsTo (N : Nat) : Prop := ∀ (w : World) (g : Nat) (l : List UInt8) (tail : List Value) (n cap : Nat), l.length = n → l.Nodup → n ≤ N → ∀ T, Blk w g T (bcells l ++ tail) →
    Calls Try.prog 62 #[.slice (some ⟨g, 0, none⟩) n cap] w (IwPost w g T tail l 0 n)
theorem sortsTo12 : SortsTo 12 := fun _ g l tail n cap hl _ hn T hb => sort_small g l tail n cap hl hn T hb

section
variable {w : World}
set_option maxRecDepth 100000 in
set_option maxHeartbeats 1000000 in
theorem sorted_calls {ν : Type} {ev : ν → Value} {N : Nat} (HS : SortsTo N) (hN : N ≤ 256) (Bm b : Nat) (D : List (UInt8 × ν)) (hl : D.length ≤ N) (hBm : w.cell? ⟨Bm, 0, none⟩ = some (.map (some b))) (hM : MapR w b ekb ev D) :
    Calls Try.prog 51 #[.func (.func 66) #[] #[.pointer (some ⟨Bm, 0, none⟩)]] w fun e w' =>
      ∃ (v : Value) (S : List UInt8), e = .returned v ∧ BSl w w' v S ∧ S.Perm (D.map (·.1)) ∧ SrtW 0 S.length S ∧ Kept No w w' := by
  have hnd := hM.nodup Try.skey
  have HC := Lib.hid (collect_calls w Bm b D (by omega) hBm hM)
  have HS' := Lib.hid HS
  have HL := Lib.hid hl
  clear hM hBm HS hl
  go_enter Try.func51, Try.ntmps51
  go_wp2_with (go_at_call 65; refine HC.out.mono ?_; rintro _ w1 ⟨v, ss, rfl, ⟨h1, h2⟩, h3, h4, h5⟩)
  have hp : ss.Perm (D.map (·.1)) := (List.perm_ext_iff_of_nodup h1 hnd).2 h2
  have hsl : ss.length ≤ N := by have := hp.length_eq; simp only [List.length_map] at this; have := HL.out; omega
  have K1 : Kept No w w1 := Kept.ofBelow h5 (Nat.le_refl _)
  rcases BSl.ofOwns h3 with ⟨rfl, rfl⟩ | ⟨g, cap, tail, rfl, hg, hB⟩
  · have HN := Lib.hid (sort_nil (w := w1))
    clear h1 h2 h3 h4 h5
    go_wp2_with (go_at_call 62; refine HN.out.mono ?_; rintro _ _ ⟨rfl, rfl⟩)
    go_ret
    exact ⟨_, [], rfl, .inl ⟨rfl, rfl⟩, hp, fun a b h1 h2 h3 => by simp at h3, K1⟩
  · have HB := Lib.hid (HS'.out w1 g ss tail ss.length cap rfl h1 hsl _ hB)
    clear h1 h2 h3 h4 h5
    go_wp2_with (go_at_call 62; refine HB.out.mono ?_; rintro _ w2 ⟨rfl, k2, S, hpS, _, hsS, BS⟩)
    go_ret
    have hlS := hpS.length_eq
    exact ⟨_, S, rfl, .inr ⟨g, cap, tail, by rw [hlS]; rfl, hg, BS⟩, hpS.trans hp, by rw [hlS]; exact hsS, K1.trans k2 fun b hb he => absurd he (by omega)⟩
end
end Go.Proofs.Ytencnfgmgcdiiaa
