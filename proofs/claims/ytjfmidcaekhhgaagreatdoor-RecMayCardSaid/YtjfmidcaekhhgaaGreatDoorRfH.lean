/- The document's SameWrites and sets: walks. Printed by gen_rfh.py. -/
import Derived.Test.YtjfmidcaekhhgaaGreatDoorRcU
namespace Go.Proofs.YtjfmidcaekhhgaaGreatDoor
open Go.RowKit Go.PM

section
variable {w : World}
set_option maxRecDepth 100000 in
set_option maxHeartbeats 1000000 in
theorem sameWrites_some (ws vs : List PW) (n : Nat) (hn : ws.length = n) (hn' : vs.length = n) (b o c b' o' c' : Nat) (hw : ∀ x ∈ ws, wfPW x) (hv : ∀ x ∈ vs, wfPW x) (hr : Rd w (some ⟨b, o, none⟩) (pwsv ws)) (hs : Rd w (some ⟨b', o', none⟩) (pwsv vs)) (hlen : n ≤ 140737488355328) :
    Calls Tryz.prog 61 #[.slice (some ⟨b, o, none⟩) n c, .slice (some ⟨b', o', none⟩) n c'] w fun x w' => x = .returned (.bool (sameW ws vs)) ∧ Kept No w w' := by
  subst hn
  go_enter Tryz.func61, Tryz.ntmps61
  go_wp2
  go_loopw [5] (fun i wr => EqRel w ws vs i wr) (fun i _ => ws.length - (intOf i).toNat)
  case atStart => exact ⟨0, by omega, rfl, rfl, Kept.refl _ _⟩
  case round =>
    obtain ⟨k, hk, rfl, ht, hK⟩ := hrel
    by_cases hlt : k < ws.length
    · have i0 : (0 : Int) ≤ k := by omega
      have i1 : (k : Int) < ws.length := by omega
      have hlt' : k < vs.length := by omega
      obtain ⟨x, hx⟩ : ∃ x, ws[k] = x := ⟨_, rfl⟩
      obtain ⟨y, hy⟩ : ∃ y, vs[k] = y := ⟨_, rfl⟩
      have wx : wfPW x := hx ▸ hw _ (List.getElem_mem hlt)
      have wy : wfPW y := hy ▸ hv _ (List.getElem_mem hlt')
      have xl := pwv_length wx
      have yl := pwv_length wy
      have fa := flat_at pwv 21 ws (fun y hy => pwv_length (hw y hy)) k hlt
      have fb := flat_at pwv 21 vs (fun y hy => pwv_length (hv y hy)) k hlt'
      rw [hx] at fa
      rw [hy] at fb
      have s1 : Seg wr b (o + k * 21) (pwv x) := (Seg.ofRd (hr.keptNo hK)).sub (k * 21) _ (by rw [xl]; exact fa)
      have s2 : Seg wr b' (o' + k * 21) (pwv y) := (Seg.ofRd (hs.keptNo hK)).sub (k * 21) _ (by rw [yl]; exact fb)
      have hS0 : Seg wr.drew b (o + k * 21) (pwv x) ∧ Seg wr.drew b' (o' + k * 21) (pwv y) := ⟨s1, s2⟩
      have hq := fun w => neqWrite x y wx wy w
      have hg := eqGuard_write
      have hst : ws.take (k + 1) = ws.take k ++ [x] ∧ vs.take (k + 1) = vs.take k ++ [y] := by
        rw [List.take_succ_eq_append_getElem hlt, List.take_succ_eq_append_getElem hlt', hx, hy]; exact ⟨rfl, rfl⟩
      have hxk : ws[k]? = some x := by rw [List.getElem?_eq_getElem hlt, hx]
      have hyk : vs[k]? = some y := by rw [List.getElem?_eq_getElem hlt', hy]
      have HST := Lib.hid hst
      have HT := Lib.hid ht
      have HX := Lib.hid hxk
      have HY := Lib.hid hyk
      clear fa fb hx hy hst ht hxk hyk
      by_cases e : x = y
      · rw [decide_eq_true e] at hq
        have HE := Lib.hid e
        clear e
        go_wp2
        refine wp_region_held_drew (S := fun w' => Seg w' b (o + k * 21) (pwv x) ∧ Seg w' b' (o' + k * 21) (pwv y)) (by kernel_rfl) (hS0) (fun hHeld => ?_)
        refine wpAnyH_take (i := 0) (oi := _) (v := ?_) rfl (by kernel_rfl) (by kernel_rfl) (by kernel_rfl) (fun _ _ _ h => h) (Or.inl ⟨by rfl, ?_⟩) (by assumption) ?_
        rotate_left
        · intro wv hSw; (try dsimp only at hSw); go_simp; (try with_reducible rfl)
        (try simp only [List.getElem_toArray, List.getElem_cons_zero, Act.put, List.setIfInBounds_toArray, List.set_cons_zero, List.set_cons_succ])
        refine wpAnyH_take (i := 1) (oi := _) (v := ?_) rfl (by kernel_rfl) (by kernel_rfl) (by kernel_rfl) (fun _ _ _ h => h) (Or.inl ⟨by rfl, ?_⟩) (by assumption) ?_
        rotate_left
        · intro wv hSw; (try dsimp only at hSw); go_simp; (try with_reducible rfl)
        (try simp only [List.getElem_toArray, List.getElem_cons_zero, List.getElem_cons_succ, Act.put, List.setIfInBounds_toArray, List.set_cons_zero, List.set_cons_succ])
        refine wpAnyH_take (i := 2) (oi := _) (v := ?_) rfl (by kernel_rfl) (by kernel_rfl) (by kernel_rfl) (fun _ _ _ h => h) (Or.inl ⟨by rfl, ?_⟩) (by assumption) ?_
        rotate_left
        · intro wv hSw; (try dsimp only at hSw); go_simp; (try with_reducible rfl)
        (try simp only [List.getElem_toArray, List.getElem_cons_zero, List.getElem_cons_succ, Act.put, List.setIfInBounds_toArray, List.set_cons_zero, List.set_cons_succ])
        refine wpAnyH_take (i := 3) (oi := _) (v := ?_) rfl (by kernel_rfl) (by kernel_rfl) (by kernel_rfl) (fun _ _ _ h => h) (Or.inl ⟨by rfl, ?_⟩) (by assumption) ?_
        rotate_left
        · intro wv hSw; refine ld_val 69 ?lx1 ?l11 Tryz.isAgg69 21 Tryz.sizeOf69 b (o + k * 21) ?l21 (pwv x) xl (hSw.1); (case l11 => rfl); (case l21 => rfl)
        (try simp only [List.getElem_toArray, List.getElem_cons_zero, List.getElem_cons_succ, Act.put, List.setIfInBounds_toArray, List.set_cons_zero, List.set_cons_succ])
        refine wpAnyH_take (i := 4) (oi := _) (v := ?_) rfl (by kernel_rfl) (by kernel_rfl) (by kernel_rfl) (fun _ _ _ h => h) (Or.inl ⟨by rfl, ?_⟩) (by assumption) ?_
        rotate_left
        · intro wv hSw; (try dsimp only at hSw); go_simp; (try with_reducible rfl)
        (try simp only [List.getElem_toArray, List.getElem_cons_zero, List.getElem_cons_succ, Act.put, List.setIfInBounds_toArray, List.set_cons_zero, List.set_cons_succ])
        refine wpAnyH_take (i := 5) (oi := _) (v := ?_) rfl (by kernel_rfl) (by kernel_rfl) (by kernel_rfl) (fun _ _ _ h => h) (Or.inl ⟨by rfl, ?_⟩) (by assumption) ?_
        rotate_left
        · intro wv hSw; (try dsimp only at hSw); go_simp; (try with_reducible rfl)
        (try simp only [List.getElem_toArray, List.getElem_cons_zero, List.getElem_cons_succ, Act.put, List.setIfInBounds_toArray, List.set_cons_zero, List.set_cons_succ])
        refine wpAnyH_take (i := 6) (oi := _) (v := ?_) rfl (by kernel_rfl) (by kernel_rfl) (by kernel_rfl) (fun _ _ _ h => h) (Or.inl ⟨by rfl, ?_⟩) (by assumption) ?_
        rotate_left
        · intro wv hSw; (try dsimp only at hSw); go_simp; (try with_reducible rfl)
        (try simp only [List.getElem_toArray, List.getElem_cons_zero, List.getElem_cons_succ, Act.put, List.setIfInBounds_toArray, List.set_cons_zero, List.set_cons_succ])
        refine wpAnyH_take (i := 7) (oi := _) (v := ?_) rfl (by kernel_rfl) (by kernel_rfl) (by kernel_rfl) (fun _ _ _ h => h) (Or.inl ⟨by rfl, ?_⟩) (by assumption) ?_
        rotate_left
        · intro wv hSw; refine ld_val 69 ?lx2 ?l12 Tryz.isAgg69 21 Tryz.sizeOf69 b' (o' + k * 21) ?l22 (pwv y) yl (hSw.2); (case l12 => rfl); (case l22 => rfl)
        (try simp only [List.getElem_toArray, List.getElem_cons_zero, List.getElem_cons_succ, Act.put, List.setIfInBounds_toArray, List.set_cons_zero, List.set_cons_succ])
        refine wpAnyH_take (i := 8) (oi := _) (v := ?_) rfl (by kernel_rfl) (by kernel_rfl) (by kernel_rfl) (fun _ _ _ h => h) (Or.inl ⟨by rfl, ?_⟩) (by assumption) ?_
        rotate_left
        · intro wv hSw; (try dsimp only at hSw); go_simp; (try with_reducible rfl)
        (try simp only [List.getElem_toArray, List.getElem_cons_zero, List.getElem_cons_succ, Act.put, List.setIfInBounds_toArray, List.set_cons_zero, List.set_cons_succ])
        refine wpAnyH_done (by kernel_rfl) ?_ _
        go_wp2
        refine ⟨⟨k + 1, by omega, by go_num, by rw [HST.out.1, HST.out.2, HT.out, HE.out], hK.drew⟩, by simp [intOf]; omega⟩
      · rw [decide_eq_false e] at hq
        have HE : Hid (sameW ws vs = false) := Lib.hid (sameW_no fun h => e (by have h1 := HX.out; rw [h, HY.out] at h1; exact (Option.some.inj h1).symm))
        clear e
        go_wp2
        refine wp_region_held_drew (S := fun w' => Seg w' b (o + k * 21) (pwv x) ∧ Seg w' b' (o' + k * 21) (pwv y)) (by kernel_rfl) (hS0) (fun hHeld => ?_)
        refine wpAnyH_take (i := 0) (oi := _) (v := ?_) rfl (by kernel_rfl) (by kernel_rfl) (by kernel_rfl) (fun _ _ _ h => h) (Or.inl ⟨by rfl, ?_⟩) (by assumption) ?_
        rotate_left
        · intro wv hSw; (try dsimp only at hSw); go_simp; (try with_reducible rfl)
        (try simp only [List.getElem_toArray, List.getElem_cons_zero, Act.put, List.setIfInBounds_toArray, List.set_cons_zero, List.set_cons_succ])
        refine wpAnyH_take (i := 1) (oi := _) (v := ?_) rfl (by kernel_rfl) (by kernel_rfl) (by kernel_rfl) (fun _ _ _ h => h) (Or.inl ⟨by rfl, ?_⟩) (by assumption) ?_
        rotate_left
        · intro wv hSw; (try dsimp only at hSw); go_simp; (try with_reducible rfl)
        (try simp only [List.getElem_toArray, List.getElem_cons_zero, List.getElem_cons_succ, Act.put, List.setIfInBounds_toArray, List.set_cons_zero, List.set_cons_succ])
        refine wpAnyH_take (i := 2) (oi := _) (v := ?_) rfl (by kernel_rfl) (by kernel_rfl) (by kernel_rfl) (fun _ _ _ h => h) (Or.inl ⟨by rfl, ?_⟩) (by assumption) ?_
        rotate_left
        · intro wv hSw; (try dsimp only at hSw); go_simp; (try with_reducible rfl)
        (try simp only [List.getElem_toArray, List.getElem_cons_zero, List.getElem_cons_succ, Act.put, List.setIfInBounds_toArray, List.set_cons_zero, List.set_cons_succ])
        refine wpAnyH_take (i := 3) (oi := _) (v := ?_) rfl (by kernel_rfl) (by kernel_rfl) (by kernel_rfl) (fun _ _ _ h => h) (Or.inl ⟨by rfl, ?_⟩) (by assumption) ?_
        rotate_left
        · intro wv hSw; refine ld_val 69 ?lx3 ?l13 Tryz.isAgg69 21 Tryz.sizeOf69 b (o + k * 21) ?l23 (pwv x) xl (hSw.1); (case l13 => rfl); (case l23 => rfl)
        (try simp only [List.getElem_toArray, List.getElem_cons_zero, List.getElem_cons_succ, Act.put, List.setIfInBounds_toArray, List.set_cons_zero, List.set_cons_succ])
        refine wpAnyH_take (i := 4) (oi := _) (v := ?_) rfl (by kernel_rfl) (by kernel_rfl) (by kernel_rfl) (fun _ _ _ h => h) (Or.inl ⟨by rfl, ?_⟩) (by assumption) ?_
        rotate_left
        · intro wv hSw; (try dsimp only at hSw); go_simp; (try with_reducible rfl)
        (try simp only [List.getElem_toArray, List.getElem_cons_zero, List.getElem_cons_succ, Act.put, List.setIfInBounds_toArray, List.set_cons_zero, List.set_cons_succ])
        refine wpAnyH_take (i := 5) (oi := _) (v := ?_) rfl (by kernel_rfl) (by kernel_rfl) (by kernel_rfl) (fun _ _ _ h => h) (Or.inl ⟨by rfl, ?_⟩) (by assumption) ?_
        rotate_left
        · intro wv hSw; (try dsimp only at hSw); go_simp; (try with_reducible rfl)
        (try simp only [List.getElem_toArray, List.getElem_cons_zero, List.getElem_cons_succ, Act.put, List.setIfInBounds_toArray, List.set_cons_zero, List.set_cons_succ])
        refine wpAnyH_take (i := 6) (oi := _) (v := ?_) rfl (by kernel_rfl) (by kernel_rfl) (by kernel_rfl) (fun _ _ _ h => h) (Or.inl ⟨by rfl, ?_⟩) (by assumption) ?_
        rotate_left
        · intro wv hSw; (try dsimp only at hSw); go_simp; (try with_reducible rfl)
        (try simp only [List.getElem_toArray, List.getElem_cons_zero, List.getElem_cons_succ, Act.put, List.setIfInBounds_toArray, List.set_cons_zero, List.set_cons_succ])
        refine wpAnyH_take (i := 7) (oi := _) (v := ?_) rfl (by kernel_rfl) (by kernel_rfl) (by kernel_rfl) (fun _ _ _ h => h) (Or.inl ⟨by rfl, ?_⟩) (by assumption) ?_
        rotate_left
        · intro wv hSw; refine ld_val 69 ?lx4 ?l14 Tryz.isAgg69 21 Tryz.sizeOf69 b' (o' + k * 21) ?l24 (pwv y) yl (hSw.2); (case l14 => rfl); (case l24 => rfl)
        (try simp only [List.getElem_toArray, List.getElem_cons_zero, List.getElem_cons_succ, Act.put, List.setIfInBounds_toArray, List.set_cons_zero, List.set_cons_succ])
        refine wpAnyH_take (i := 8) (oi := _) (v := ?_) rfl (by kernel_rfl) (by kernel_rfl) (by kernel_rfl) (fun _ _ _ h => h) (Or.inl ⟨by rfl, ?_⟩) (by assumption) ?_
        rotate_left
        · intro wv hSw; (try dsimp only at hSw); go_simp; (try with_reducible rfl)
        (try simp only [List.getElem_toArray, List.getElem_cons_zero, List.getElem_cons_succ, Act.put, List.setIfInBounds_toArray, List.set_cons_zero, List.set_cons_succ])
        refine wpAnyH_done (by kernel_rfl) ?_ _
        go_wp2
        go_ret
        exact ⟨by rw [HE.out]; rfl, hK.drew⟩
    · have i1 : (ws.length : Int) ≤ k := by omega
      have HE : Hid (sameW ws vs = true) := Lib.hid (sameW_yes (by rw [List.take_of_length_le (by omega), List.take_of_length_le (by omega)] at ht; exact ht))
      clear ht
      go_wp2
      go_ret
      exact ⟨by rw [HE.out]; rfl, hK⟩

set_option maxHeartbeats 400000 in
theorem sameWrites_calls (ws vs : List PW) (n n' : Nat) (hn : ws.length = n) (hn' : vs.length = n') (a a' : Option Addr) (c c' : Nat) (hw : ∀ x ∈ ws, wfPW x) (hv : ∀ x ∈ vs, wfPW x) (hr : Rd w a (pwsv ws)) (hs : Rd w a' (pwsv vs)) (hlen : n ≤ 140737488355328) (hlen' : n' ≤ 140737488355328) :
    Calls Tryz.prog 61 #[.slice a n c, .slice a' n' c'] w fun x w' => x = .returned (.bool (sameW ws vs)) ∧ Kept No w w' := by
  have pos : ∀ (l : List PW) (ad : Option Addr), (∀ x ∈ l, wfPW x) → Rd w ad (pwsv l) → 0 < l.length → ∃ b o, ad = some ⟨b, o, none⟩ := fun l ad hl h h0 => by
    obtain ⟨b, o, e, _⟩ := h.addr (by
      cases l with
      | nil => exact absurd h0 (by decide)
      | cons x l =>
        have h1 := pwv_length (hl x (by simp))
        unfold pwsv
        rw [List.flatMap_cons, List.length_append]
        omega)
    exact ⟨b, o, e⟩
  by_cases e : n = n'
  · subst e
    by_cases h0 : 0 < n
    · obtain ⟨b, o, rfl⟩ := pos ws a hw hr (by omega)
      obtain ⟨b', o', rfl⟩ := pos vs a' hv hs (by omega)
      exact sameWrites_some ws vs n hn hn' b o c b' o' c' hw hv hr hs hlen
    · obtain rfl : n = 0 := by omega
      have h1 : ws = [] := List.eq_nil_of_length_eq_zero hn
      have h2 : vs = [] := List.eq_nil_of_length_eq_zero hn'
      subst h1 h2
      clear hr hs pos hw hv
      go_enter Tryz.func61, Tryz.ntmps61
      go_wp2
      go_loopw [5] (fun i wr => i = .int .i64 0 ∧ wr = w) (fun i _ => 0)
      case atStart => exact ⟨rfl, rfl⟩
      case round =>
        obtain ⟨rfl, rfl⟩ := hrel
        go_wp2
        go_ret
        exact ⟨by rw [sameW_yes rfl]; rfl, Kept.refl _ _⟩
  · have q : ((n : Int) == n') = false := beq_eq_false_iff_ne.2 (by omega)
    have HE : Hid (sameW ws vs = false) := Lib.hid (sameW_no fun h => e (by rw [← hn, ← hn', h]))
    clear hr hs pos hw hv hn hn' e
    go_enter Tryz.func61, Tryz.ntmps61
    go_wp2
    go_ret
    exact ⟨by rw [HE.out]; rfl, Kept.refl _ _⟩

set_option maxRecDepth 100000 in
set_option maxHeartbeats 1000000 in
theorem sets_calls (xs ys : List Nat) (n n' : Nat) (hn : xs.length = n) (hn' : ys.length = n') (a a' : Option Addr) (c c' : Nat) (hr : Rd w a (ucells xs)) (hs : Rd w a' (ucells ys)) (hlen : n ≤ 140737488355328) (hlen' : n' ≤ 140737488355328) :
    Calls Tryz.prog 69 #[.slice a n c, .slice a' n' c'] w fun e w' => e = .returned (.bool (xs == ys)) ∧ Kept No w w' := by
  by_cases hne : n = n'
  case neg =>
    have HB := Lib.hid (show (xs == ys) = false from beq_eq_false_iff_ne.2 fun h => hne (by rw [← hn, ← hn', h]))
    have q : ((n : Int) == n') = false := beq_eq_false_iff_ne.2 (by omega)
    clear hn hn' hr hs hne
    go_enter Tryz.func69, Tryz.ntmps69
    go_wp2
    go_ret
    exact ⟨by rw [HB.out]; rfl, Kept.refl _ _⟩
  subst hne
  have q : ((n : Int) == n) = true := beq_iff_eq.2 rfl
  have hl64 : (n : Int) ≤ 140737488355328 := by omega
  go_enter Tryz.func69, Tryz.ntmps69
  go_wp2
  go_loopw [5] (fun i wr => EuRel xs ys w i wr) (fun i _ => n - (intOf i).toNat)
  case atStart => exact ⟨0, by omega, rfl, fun j hj => by omega, Kept.refl _ _⟩
  case round =>
    obtain ⟨k, hk, rfl, heq, hkk⟩ := hrel
    by_cases hlt : k < n
    · have hkx : k < xs.length := by omega
      have hky : k < ys.length := by omega
      have i1 : (k : Int) < n := by omega
      have i0 : (0 : Int) ≤ k := by omega
      obtain ⟨x, hx⟩ : ∃ x, xs[k] = x := ⟨_, rfl⟩
      obtain ⟨y, hy⟩ : ∃ y, ys[k] = y := ⟨_, rfl⟩
      obtain ⟨b, o, rfl, hc1⟩ := (hr.keptNo hkk) k (.int .u64 x) (by simp [ucells, hkx, hx])
      obtain ⟨b', o', rfl, hc2⟩ := (hs.keptNo hkk) k (.int .u64 y) (by simp [ucells, hky, hy])
      have h1 : xs[k]? = some x := by rw [List.getElem?_eq_getElem hkx, hx]
      have h2 : ys[k]? = some y := by rw [List.getElem?_eq_getElem hky, hy]
      have hd1 : ∀ d, (wr.drewN d).cell? ⟨b, o + k, none⟩ = some (.int .u64 x) := fun _ => hc1
      have hd2 : ∀ d, (wr.drewN d).cell? ⟨b', o' + k, none⟩ = some (.int .u64 y) := fun _ => hc2
      by_cases he : x = y
      · have hq : ((x : Int) == y) = true := beq_iff_eq.2 (by omega)
        have HN := Lib.hid (show ∀ j, j < k + 1 → xs[j]? = ys[j]? from fun j hj => by
          rcases Nat.lt_succ_iff_lt_or_eq.1 hj with h | h
          · exact heq j h
          · rw [h, h1, h2, he])
        clear he hx hy h1 h2 heq hr hs
        go_wp2
        go_quiet (fail)
        go_wp2
        exact ⟨⟨k + 1, by omega, by go_num, HN.out, hkk.drewN _⟩, by simp [intOf]; omega⟩
      · have hq : ((x : Int) == y) = false := beq_eq_false_iff_ne.2 (by omega)
        have HB := Lib.hid (show (xs == ys) = false from beq_eq_false_iff_ne.2 fun h => he (by rw [h, h2] at h1; exact (Option.some.inj h1).symm))
        clear he hx hy h1 h2 heq hr hs
        go_wp2
        go_quiet (fail)
        go_wp2
        go_ret
        exact ⟨by rw [HB.out]; rfl, hkk.drewN _⟩
    · obtain rfl : n = k := by omega
      have HB := Lib.hid (show (xs == ys) = true from beq_iff_eq.2 (List.ext_getElem? fun j => by
        rcases Nat.lt_or_ge j n with h | h
        · exact heq j h
        · rw [List.getElem?_eq_none (by omega), List.getElem?_eq_none (by omega)]))
      clear heq hr hs
      go_wp2
      go_ret
      exact ⟨by rw [HB.out]; rfl, hkk⟩
end
end Go.Proofs.YtjfmidcaekhhgaaGreatDoor
