/- The document's network: To, New; each call by the pure network. -/
import Derived.Test.YtdolddgmemlofaaRefD
import Derived.Test.YtdolddgmemlofaaNetF
namespace Go.Proofs.Ytdolddgmemlofaa
open Go.RowKit Go.PM

section
variable {w : World} {p : Nat} {room : Int} {a : Option Addr} {cap : Nat} {lost : Int} {l : List RW} {T : Nat → Prop}

set_option maxRecDepth 100000 in
set_option maxHeartbeats 1000000 in
theorem r_to (hN : RX w p room a cap lost l T) (n : Int) :
    Calls Try.prog 27 #[.pointer (some ⟨p, 0, none⟩), .int .u8 n] w (FreshI w (placesTo (l.map RW.t) n l.length)) := by
  obtain ⟨i0, hi0, hz0, hz1, hz2⟩ := info_parts Try.inf_int
  have hr0 : 0 < room := by have := hN.room1; omega
  have hl256 : l.length ≤ 256 := by have := hN.fits; have := hN.room2; omega
  go_enter Try.func27, Try.ntmps27
  go_wp2_with fail
  go_loopw [5, 6] (fun v i wr => ToRel w (l.map RW.t) n v i wr) (fun _ i _ => l.length - (intOf i).toNat)
  case atStart => exact ⟨0, none, 0, Nat.zero_le _, rfl, rfl, by simpa [placesTo, icells] using Own.nil _ _ _, Kept.refl _ _, fun b ⟨_, _, h, _⟩ => nomatch h⟩
  case round =>
    obtain ⟨k, a1, cap1, hk, rfl, rfl, ho, hkept, hat⟩ := hrel
    have h1 := hN.keptNo hkept
    have hp1 := h1.lt p h1.sp
    have c1 := h1.box.cell 1
    have hpl := placesTo_le (l.map RW.t) n k
    simp only [List.length_map] at hk
    by_cases hlt : k < l.length
    · obtain ⟨m, hm⟩ : ∃ m, l[k]? = some m := ⟨_, List.getElem?_eq_getElem hlt⟩
      obtain ⟨g, rfl, hg, _, d1, _⟩ := h1.at hm
      have HS : Hid (placesTo (l.map RW.t) n (k + 1) = placesTo (l.map RW.t) n k ++ if m.t = n then [k] else []) := by
        show _ = _
        rw [placesTo_succ]; simp [hm]
      clear hm
      by_cases ht : m.t = n
      · have htb : (m.t == n) = true := beq_iff_eq.2 ht
        rw [if_pos ht] at HS
        clear ht
        have hO := fun X => ho.keptNo ((Kept.refl No wr).alloc X)
        have hR := fun vs => Rd.ofBlk' (Blk.new wr 3 vs)
        have h1c : ∀ u ∈ [Value.int .i64 (k : Int)], u.oneCell' = true := by simp [Value.oneCell']
        have hmx : (placesTo (l.map RW.t) n k).length + 1 ≤ maxLen := by unfold maxLen; omega
        go_wp2_with (at_builtin; go_must (refine wpList_append rfl (.tmp 26) (.tmp 28) 55 rfl 3 i0 _ 1 8 Try.u_ints hi0 hz0 hz1 hz2 rfl (by decide) a1 (placesTo (l.map RW.t) n k).length cap1 (icells (placesTo (l.map RW.t) n k)) rfl (hO _) _ 1 1 _ rfl (fun h => nomatch h) rfl (hR _) h1c hmx (by omega) ?_; intro a2 cap2 w2 hap))
        go_roundw
        case rel =>
          have e1 : (placesTo (l.map RW.t) n k).length + 1 = (placesTo (l.map RW.t) n (k + 1)).length := by rw [HS.out]; simp
          have e2 : icells (placesTo (l.map RW.t) n k) ++ [Value.int .i64 (k : Int)] = icells (placesTo (l.map RW.t) n (k + 1)) := by rw [HS.out]; simp [icells]
          rw [e1, e2] at hap
          refine ⟨k + 1, a2, cap2, by simp; omega, by go_num, by rw [e1], hap.own, (hkept.alloc _).trans hap.kept (fun b hb hb' => ?_), fun b hb => ?_⟩
          · exact absurd (hat b hb') (by omega)
          · have := hkept.size
            exact (hap.at_ b hb).elim (hat b) (fun h => by rw [World.size_alloc] at h; omega)
        case measure => simp [intOf]; omega
      · have htb : (m.t == n) = false := beq_eq_false_iff_ne.2 ht
        rw [if_neg ht] at HS
        clear ht
        go_wp2
        go_roundw
        case rel =>
          have e1 : placesTo (l.map RW.t) n k = placesTo (l.map RW.t) n (k + 1) := by rw [HS.out]; simp
          rw [e1] at ho ⊢
          exact ⟨k + 1, a1, cap1, by simp; omega, by go_num, rfl, ho, hkept, hat⟩
        case measure => simp [intOf]; omega
    · go_wp2
      go_ret
      have e : k = l.length := by omega
      subst e
      exact ⟨a1, cap1, rfl, ho, hkept, hat⟩

set_option maxRecDepth 100000 in
set_option maxHeartbeats 400000 in
theorem r_new_ok (room : Int) (w : World) (h0 : 1 ≤ room) (h1 : room ≤ 256) :
    Calls Try.prog 21 #[.int .i64 room] w fun e w' => e = .returned (.tuple #[.agg #[.int .i64 room, .slice none 0 0, .int .i64 0], .int .i64 0]) ∧ Kept No w w' := by
  go_enter Try.func21, Try.ntmps21
  go_wp2
  refine bodyPost_ret (v := .tuple #[.agg #[.int .i64 room, .slice none 0 0, .int .i64 0], .int .i64 0]) (by simp [results, Try.results21, go_sem]) rfl
      ⟨rfl, (Kept.refl No w).alloc _⟩

set_option maxRecDepth 100000 in
set_option maxHeartbeats 400000 in
theorem r_new_bad (room : Int) (w : World) (h0 : room < 1 ∨ 256 < room) :
    Calls Try.prog 21 #[.int .i64 room] w fun e w' => e = .returned (.tuple #[.agg #[.int .i64 0, .slice none 0 0, .int .i64 0], .int .i64 1]) ∧ Kept No w w' := by
  have h' : room < 1 ∨ (1 ≤ room ∧ 256 < room) := by omega
  clear h0
  rcases h' with h' | ⟨h', h''⟩
  all_goals
    go_enter Try.func21, Try.ntmps21
    go_wp2
    refine bodyPost_ret (v := .tuple #[.agg #[.int .i64 0, .slice none 0 0, .int .i64 0], .int .i64 1]) (by simp [results, Try.results21, go_sem]) rfl
      ⟨rfl, (Kept.refl No w).alloc _⟩
end
end Go.Proofs.Ytdolddgmemlofaa
