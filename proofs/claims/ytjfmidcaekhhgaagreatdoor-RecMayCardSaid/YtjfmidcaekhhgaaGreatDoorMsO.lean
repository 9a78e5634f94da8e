/- Writes compared, as a walk: slices.Equal. Printed by gen_mso.py. -/
import Derived.Test.YtjfmidcaekhhgaaGreatDoorMsN
namespace Go.Proofs.YtjfmidcaekhhgaaGreatDoor
open Go.RowKit Go.PM

theorem eqWrite (x y : PW) (hx : wfPW x) (hy : wfPW y) (w : World) (D : Nat) :
    (Op.equalIn (D + 5) 69 (.agg (pwv x).toArray) (.agg (pwv y).toArray)).run Tryz.prog w = .ok (decide (x = y)) w := by
  rw [run_equalIn_agg w (D + 4) _ _ _ Tryz.u_write Tryz.st_write]
  obtain ⟨k, n, t, e, r, v, l⟩ := x
  obtain ⟨k', n', t', e', r', v', m⟩ := y
  have hk : k.length = 8 := hx.1
  have hk' : k'.length = 8 := hy.1
  have hl : l.length = 8 := hx.2.2.2.2.2
  have hm : m.length = 8 := hy.2.2.2.2.2
  have E : decide ((k, n, t, e, r, v, l) = (k', n', t', e', r', v', m)) = ((k == k') && ((n : Int) == n' && (decide (t = t') && ((e : Int) == e' && ((r : Int) == r' && ((v : Int) == v' && l == m)))))) := by
    rw [Bool.eq_iff_iff]; simp [Int.natCast_inj]
  rw [E]
  clear E hx hy
  simp only [Program.fieldsOf, Tryz.underlying69]
  have a0 := Tryz.isAgg22
  have a1 := Tryz.isAgg9
  have a2 := Tryz.isAgg30
  have z2 := Tryz.sizeOf30
  have u0 := Tryz.underlying22
  have u1 := Tryz.underlying9
  have hb := fun w => eqKey k k' hk hk' w (D + 2)
  have ha := fun w => eqArr8 l m hl hm w D
  obtain ⟨a, b, c, d, f0, f1, f2, f3, rfl⟩ := list8 l hl
  obtain ⟨a', b', c', d', g0, g1, g2, g3, rfl⟩ := list8 m hm
  obtain ⟨p0, p1, p2, p3, p4, p5, p6, p7, rfl⟩ := list8 k hk
  obtain ⟨q0, q1, q2, q3, q4, q5, q6, q7, rfl⟩ := list8 k' hk'
  simp only [bcells, List.map_cons, List.map_nil] at ha hb
  simp only [Op.eqFields, part, pwv, itemv, cfgv, cfgc, bcells, List.map_cons, List.map_nil, List.cons_append, List.nil_append]
  go_simp
  generalize (a == a' && (b == b' && (c == c' && (d == d' && (f0 == g0 && (f1 == g1 && (f2 == g2 && f3 == g3))))))) = B
  generalize (p0 == q0 && (p1 == q1 && (p2 == q2 && (p3 == q3 && (p4 == q4 && (p5 == q5 && (p6 == q6 && p7 == q7))))))) = C
  cases C
  · simp
  · by_cases h1 : (n : Int) = n'
    · by_cases h2 : t = t'
      · by_cases h3 : (e : Int) = e'
        · by_cases h4 : (r : Int) = r'
          · by_cases h5 : (v : Int) = v'
            · cases B <;> simp [h1, h2, h3, h4, h5]
            · simp [h1, h2, h3, h4, h5]
          · simp [h1, h2, h3, h4]
        · simp [h1, h2, h3]
      · simp [h1, h2]
    · simp [h1]
theorem neqWrite (x y : PW) (hx : wfPW x) (hy : wfPW y) (w : World) :
    (binOp .neq 69 (.agg (pwv x).toArray) (.agg (pwv y).toArray)).run Tryz.prog w = .ok (.bool (!decide (x = y))) w := by
  rw [run_neq_struct, eqWrite x y hx hy w 9995]; rfl
theorem eqGuard_write : Tryz.prog.eqGuardType Tryz.prog.depth 69 = false := by kernel_rfl

/-- The same writes? -/
noncomputable def sameW (ws vs : List PW) : Bool := @decide (ws = vs) (Classical.propDecidable _)
theorem sameW_yes {ws vs : List PW} (h : ws = vs) : sameW ws vs = true := @decide_eq_true _ (Classical.propDecidable _) h
theorem sameW_no {ws vs : List PW} (h : ¬ ws = vs) : sameW ws vs = false := @decide_eq_false _ (Classical.propDecidable _) h
section
variable {w : World}
def EqRel (w0 : World) (ws vs : List PW) (i : Value) (wr : World) : Prop :=
  ∃ k : Nat, k ≤ ws.length ∧ i = .int .i64 k ∧ ws.take k = vs.take k ∧ Kept No w0 wr
set_option maxRecDepth 100000 in
set_option maxHeartbeats 1000000 in
theorem equal_some (ws vs : List PW) (n : Nat) (hn : ws.length = n) (hn' : vs.length = n) (b o c b' o' c' : Nat) (hw : ∀ x ∈ ws, wfPW x) (hv : ∀ x ∈ vs, wfPW x) (hr : Rd w (some ⟨b, o, none⟩) (pwsv ws)) (hs : Rd w (some ⟨b', o', none⟩) (pwsv vs)) (hlen : n ≤ 140737488355328) :
    Calls Tryz.prog 60 #[.slice (some ⟨b, o, none⟩) n c, .slice (some ⟨b', o', none⟩) n c'] w fun x w' => x = .returned (.bool (sameW ws vs)) ∧ Kept No w w' := by
  subst hn
  go_enter Tryz.func60, Tryz.ntmps60
  go_wp2
  go_loopw [5, 13] (fun _ i wr => EqRel w ws vs i wr) (fun _ i _ => ws.length - (intOf i).toNat)
  case atStart => exact ⟨0, by omega, rfl, rfl, Kept.refl _ _⟩
  case round =>
    obtain ⟨k, hk, rfl, ht, hK⟩ := hrel
    by_cases hlt : k < ws.length
    · have i0 : (0 : Int) ≤ k := by omega
      have i1 : (k : Int) < ws.length := by omega
      have hlt' : k < vs.length := by omega
      obtain ⟨x, hx⟩ : ∃ x, ws[k] = x := ⟨_, rfl⟩
      obtain ⟨y, hy⟩ : ∃ y, vs[k] = y := ⟨_, rfl⟩
      have wx : wfPW x := hx ▸ hw _ (List.getElem_mem hlt)
      have wy : wfPW y := hy ▸ hv _ (List.getElem_mem hlt')
      have xl := pwv_length wx
      have yl := pwv_length wy
      have fa := flat_at pwv 21 ws (fun y hy => pwv_length (hw y hy)) k hlt
      have fb := flat_at pwv 21 vs (fun y hy => pwv_length (hv y hy)) k hlt'
      rw [hx] at fa
      rw [hy] at fb
      have s1 : Seg wr b (o + k * 21) (pwv x) := (Seg.ofRd (hr.keptNo hK)).sub (k * 21) _ (by rw [xl]; exact fa)
      have s2 : Seg wr b' (o' + k * 21) (pwv y) := (Seg.ofRd (hs.keptNo hK)).sub (k * 21) _ (by rw [yl]; exact fb)
      have hS0 : Seg wr.drew b (o + k * 21) (pwv x) ∧ Seg wr.drew b' (o' + k * 21) (pwv y) := ⟨s1, s2⟩
      have hq := fun w => neqWrite x y wx wy w
      have hg := eqGuard_write
      have hst : ws.take (k + 1) = ws.take k ++ [x] ∧ vs.take (k + 1) = vs.take k ++ [y] := by
        rw [List.take_succ_eq_append_getElem hlt, List.take_succ_eq_append_getElem hlt', hx, hy]; exact ⟨rfl, rfl⟩
      have hxk : ws[k]? = some x := by rw [List.getElem?_eq_getElem hlt, hx]
      have hyk : vs[k]? = some y := by rw [List.getElem?_eq_getElem hlt', hy]
      have HST := Lib.hid hst
      have HT := Lib.hid ht
      have HX := Lib.hid hxk
      have HY := Lib.hid hyk
      clear fa fb hx hy hst ht hxk hyk
      by_cases e : x = y
      · rw [decide_eq_true e] at hq
        have HE := Lib.hid e
        clear e
        go_wp2
        refine wp_region_held_drew (S := fun w' => Seg w' b (o + k * 21) (pwv x) ∧ Seg w' b' (o' + k * 21) (pwv y)) (by kernel_rfl) (hS0) (fun hHeld => ?_)
        refine wpAnyH_take (i := 0) (oi := _) (v := ?_) rfl (by kernel_rfl) (by kernel_rfl) (by kernel_rfl) (fun _ _ _ h => h) (Or.inl ⟨by rfl, ?_⟩) (by assumption) ?_
        rotate_left
        · intro wv hSw; (try dsimp only at hSw); go_simp; (try with_reducible rfl)
        (try simp only [List.getElem_toArray, List.getElem_cons_zero, Act.put, List.setIfInBounds_toArray, List.set_cons_zero, List.set_cons_succ])
        refine wpAnyH_take (i := 1) (oi := _) (v := ?_) rfl (by kernel_rfl) (by kernel_rfl) (by kernel_rfl) (fun _ _ _ h => h) (Or.inl ⟨by rfl, ?_⟩) (by assumption) ?_
        rotate_left
        · intro wv hSw; (try dsimp only at hSw); go_simp; (try with_reducible rfl)
        (try simp only [List.getElem_toArray, List.getElem_cons_zero, List.getElem_cons_succ, Act.put, List.setIfInBounds_toArray, List.set_cons_zero, List.set_cons_succ])
        refine wpAnyH_take (i := 2) (oi := _) (v := ?_) rfl (by kernel_rfl) (by kernel_rfl) (by kernel_rfl) (fun _ _ _ h => h) (Or.inl ⟨by rfl, ?_⟩) (by assumption) ?_
        rotate_left
        · intro wv hSw; (try dsimp only at hSw); go_simp; (try with_reducible rfl)
        (try simp only [List.getElem_toArray, List.getElem_cons_zero, List.getElem_cons_succ, Act.put, List.setIfInBounds_toArray, List.set_cons_zero, List.set_cons_succ])
        refine wpAnyH_take (i := 3) (oi := _) (v := ?_) rfl (by kernel_rfl) (by kernel_rfl) (by kernel_rfl) (fun _ _ _ h => h) (Or.inl ⟨by rfl, ?_⟩) (by assumption) ?_
        rotate_left
        · intro wv hSw; refine ld_val 69 ?lx1 ?l11 Tryz.isAgg69 21 Tryz.sizeOf69 b (o + k * 21) ?l21 (pwv x) xl (hSw.1); (case l11 => rfl); (case l21 => rfl)
        (try simp only [List.getElem_toArray, List.getElem_cons_zero, List.getElem_cons_succ, Act.put, List.setIfInBounds_toArray, List.set_cons_zero, List.set_cons_succ])
        refine wpAnyH_take (i := 4) (oi := _) (v := ?_) rfl (by kernel_rfl) (by kernel_rfl) (by kernel_rfl) (fun _ _ _ h => h) (Or.inl ⟨by rfl, ?_⟩) (by assumption) ?_
        rotate_left
        · intro wv hSw; (try dsimp only at hSw); go_simp; (try with_reducible rfl)
        (try simp only [List.getElem_toArray, List.getElem_cons_zero, List.getElem_cons_succ, Act.put, List.setIfInBounds_toArray, List.set_cons_zero, List.set_cons_succ])
        refine wpAnyH_take (i := 5) (oi := _) (v := ?_) rfl (by kernel_rfl) (by kernel_rfl) (by kernel_rfl) (fun _ _ _ h => h) (Or.inl ⟨by rfl, ?_⟩) (by assumption) ?_
        rotate_left
        · intro wv hSw; (try dsimp only at hSw); go_simp; (try with_reducible rfl)
        (try simp only [List.getElem_toArray, List.getElem_cons_zero, List.getElem_cons_succ, Act.put, List.setIfInBounds_toArray, List.set_cons_zero, List.set_cons_succ])
        refine wpAnyH_take (i := 6) (oi := _) (v := ?_) rfl (by kernel_rfl) (by kernel_rfl) (by kernel_rfl) (fun _ _ _ h => h) (Or.inl ⟨by rfl, ?_⟩) (by assumption) ?_
        rotate_left
        · intro wv hSw; (try dsimp only at hSw); go_simp; (try with_reducible rfl)
        (try simp only [List.getElem_toArray, List.getElem_cons_zero, List.getElem_cons_succ, Act.put, List.setIfInBounds_toArray, List.set_cons_zero, List.set_cons_succ])
        refine wpAnyH_take (i := 7) (oi := _) (v := ?_) rfl (by kernel_rfl) (by kernel_rfl) (by kernel_rfl) (fun _ _ _ h => h) (Or.inl ⟨by rfl, ?_⟩) (by assumption) ?_
        rotate_left
        · intro wv hSw; refine ld_val 69 ?lx2 ?l12 Tryz.isAgg69 21 Tryz.sizeOf69 b' (o' + k * 21) ?l22 (pwv y) yl (hSw.2); (case l12 => rfl); (case l22 => rfl)
        (try simp only [List.getElem_toArray, List.getElem_cons_zero, List.getElem_cons_succ, Act.put, List.setIfInBounds_toArray, List.set_cons_zero, List.set_cons_succ])
        refine wpAnyH_take (i := 8) (oi := _) (v := ?_) rfl (by kernel_rfl) (by kernel_rfl) (by kernel_rfl) (fun _ _ _ h => h) (Or.inl ⟨by rfl, ?_⟩) (by assumption) ?_
        rotate_left
        · intro wv hSw; (try dsimp only at hSw); go_simp; (try with_reducible rfl)
        (try simp only [List.getElem_toArray, List.getElem_cons_zero, List.getElem_cons_succ, Act.put, List.setIfInBounds_toArray, List.set_cons_zero, List.set_cons_succ])
        refine wpAnyH_done (by kernel_rfl) ?_ _
        go_wp2
        refine ⟨⟨k + 1, by omega, by go_num, by rw [HST.out.1, HST.out.2, HT.out, HE.out], hK.drew⟩, by simp [intOf]; omega⟩
      · rw [decide_eq_false e] at hq
        have HE : Hid (sameW ws vs = false) := Lib.hid (sameW_no fun h => e (by have h1 := HX.out; rw [h, HY.out] at h1; exact (Option.some.inj h1).symm))
        clear e
        go_wp2
        refine wp_region_held_drew (S := fun w' => Seg w' b (o + k * 21) (pwv x) ∧ Seg w' b' (o' + k * 21) (pwv y)) (by kernel_rfl) (hS0) (fun hHeld => ?_)
        refine wpAnyH_take (i := 0) (oi := _) (v := ?_) rfl (by kernel_rfl) (by kernel_rfl) (by kernel_rfl) (fun _ _ _ h => h) (Or.inl ⟨by rfl, ?_⟩) (by assumption) ?_
        rotate_left
        · intro wv hSw; (try dsimp only at hSw); go_simp; (try with_reducible rfl)
        (try simp only [List.getElem_toArray, List.getElem_cons_zero, Act.put, List.setIfInBounds_toArray, List.set_cons_zero, List.set_cons_succ])
        refine wpAnyH_take (i := 1) (oi := _) (v := ?_) rfl (by kernel_rfl) (by kernel_rfl) (by kernel_rfl) (fun _ _ _ h => h) (Or.inl ⟨by rfl, ?_⟩) (by assumption) ?_
        rotate_left
        · intro wv hSw; (try dsimp only at hSw); go_simp; (try with_reducible rfl)
        (try simp only [List.getElem_toArray, List.getElem_cons_zero, List.getElem_cons_succ, Act.put, List.setIfInBounds_toArray, List.set_cons_zero, List.set_cons_succ])
        refine wpAnyH_take (i := 2) (oi := _) (v := ?_) rfl (by kernel_rfl) (by kernel_rfl) (by kernel_rfl) (fun _ _ _ h => h) (Or.inl ⟨by rfl, ?_⟩) (by assumption) ?_
        rotate_left
        · intro wv hSw; (try dsimp only at hSw); go_simp; (try with_reducible rfl)
        (try simp only [List.getElem_toArray, List.getElem_cons_zero, List.getElem_cons_succ, Act.put, List.setIfInBounds_toArray, List.set_cons_zero, List.set_cons_succ])
        refine wpAnyH_take (i := 3) (oi := _) (v := ?_) rfl (by kernel_rfl) (by kernel_rfl) (by kernel_rfl) (fun _ _ _ h => h) (Or.inl ⟨by rfl, ?_⟩) (by assumption) ?_
        rotate_left
        · intro wv hSw; refine ld_val 69 ?lx3 ?l13 Tryz.isAgg69 21 Tryz.sizeOf69 b (o + k * 21) ?l23 (pwv x) xl (hSw.1); (case l13 => rfl); (case l23 => rfl)
        (try simp only [List.getElem_toArray, List.getElem_cons_zero, List.getElem_cons_succ, Act.put, List.setIfInBounds_toArray, List.set_cons_zero, List.set_cons_succ])
        refine wpAnyH_take (i := 4) (oi := _) (v := ?_) rfl (by kernel_rfl) (by kernel_rfl) (by kernel_rfl) (fun _ _ _ h => h) (Or.inl ⟨by rfl, ?_⟩) (by assumption) ?_
        rotate_left
        · intro wv hSw; (try dsimp only at hSw); go_simp; (try with_reducible rfl)
        (try simp only [List.getElem_toArray, List.getElem_cons_zero, List.getElem_cons_succ, Act.put, List.setIfInBounds_toArray, List.set_cons_zero, List.set_cons_succ])
        refine wpAnyH_take (i := 5) (oi := _) (v := ?_) rfl (by kernel_rfl) (by kernel_rfl) (by kernel_rfl) (fun _ _ _ h => h) (Or.inl ⟨by rfl, ?_⟩) (by assumption) ?_
        rotate_left
        · intro wv hSw; (try dsimp only at hSw); go_simp; (try with_reducible rfl)
        (try simp only [List.getElem_toArray, List.getElem_cons_zero, List.getElem_cons_succ, Act.put, List.setIfInBounds_toArray, List.set_cons_zero, List.set_cons_succ])
        refine wpAnyH_take (i := 6) (oi := _) (v := ?_) rfl (by kernel_rfl) (by kernel_rfl) (by kernel_rfl) (fun _ _ _ h => h) (Or.inl ⟨by rfl, ?_⟩) (by assumption) ?_
        rotate_left
        · intro wv hSw; (try dsimp only at hSw); go_simp; (try with_reducible rfl)
        (try simp only [List.getElem_toArray, List.getElem_cons_zero, List.getElem_cons_succ, Act.put, List.setIfInBounds_toArray, List.set_cons_zero, List.set_cons_succ])
        refine wpAnyH_take (i := 7) (oi := _) (v := ?_) rfl (by kernel_rfl) (by kernel_rfl) (by kernel_rfl) (fun _ _ _ h => h) (Or.inl ⟨by rfl, ?_⟩) (by assumption) ?_
        rotate_left
        · intro wv hSw; refine ld_val 69 ?lx4 ?l14 Tryz.isAgg69 21 Tryz.sizeOf69 b' (o' + k * 21) ?l24 (pwv y) yl (hSw.2); (case l14 => rfl); (case l24 => rfl)
        (try simp only [List.getElem_toArray, List.getElem_cons_zero, List.getElem_cons_succ, Act.put, List.setIfInBounds_toArray, List.set_cons_zero, List.set_cons_succ])
        refine wpAnyH_take (i := 8) (oi := _) (v := ?_) rfl (by kernel_rfl) (by kernel_rfl) (by kernel_rfl) (fun _ _ _ h => h) (Or.inl ⟨by rfl, ?_⟩) (by assumption) ?_
        rotate_left
        · intro wv hSw; (try dsimp only at hSw); go_simp; (try with_reducible rfl)
        (try simp only [List.getElem_toArray, List.getElem_cons_zero, List.getElem_cons_succ, Act.put, List.setIfInBounds_toArray, List.set_cons_zero, List.set_cons_succ])
        refine wpAnyH_done (by kernel_rfl) ?_ _
        go_wp2
        go_ret
        exact ⟨by rw [HE.out]; rfl, hK.drew⟩
    · have i1 : (ws.length : Int) ≤ k := by omega
      have HE : Hid (sameW ws vs = true) := Lib.hid (sameW_yes (by rw [List.take_of_length_le (by omega), List.take_of_length_le (by omega)] at ht; exact ht))
      clear ht
      go_wp2
      go_ret
      exact ⟨by rw [HE.out]; rfl, hK⟩

set_option maxHeartbeats 400000 in
theorem equal_calls (ws vs : List PW) (n n' : Nat) (hn : ws.length = n) (hn' : vs.length = n') (a a' : Option Addr) (c c' : Nat) (hw : ∀ x ∈ ws, wfPW x) (hv : ∀ x ∈ vs, wfPW x) (hr : Rd w a (pwsv ws)) (hs : Rd w a' (pwsv vs)) (hlen : n ≤ 140737488355328) (hlen' : n' ≤ 140737488355328) :
    Calls Tryz.prog 60 #[.slice a n c, .slice a' n' c'] w fun x w' => x = .returned (.bool (sameW ws vs)) ∧ Kept No w w' := by
  have pos : ∀ (l : List PW) (ad : Option Addr), (∀ x ∈ l, wfPW x) → Rd w ad (pwsv l) → 0 < l.length → ∃ b o, ad = some ⟨b, o, none⟩ := fun l ad hl h h0 => by
    obtain ⟨b, o, e, _⟩ := h.addr (by
      cases l with
      | nil => exact absurd h0 (by decide)
      | cons x l =>
        have h1 := pwv_length (hl x (by simp))
        unfold pwsv
        rw [List.flatMap_cons, List.length_append]
        omega)
    exact ⟨b, o, e⟩
  by_cases e : n = n'
  · subst e
    by_cases h0 : 0 < n
    · obtain ⟨b, o, rfl⟩ := pos ws a hw hr (by omega)
      obtain ⟨b', o', rfl⟩ := pos vs a' hv hs (by omega)
      exact equal_some ws vs n hn hn' b o c b' o' c' hw hv hr hs hlen
    · obtain rfl : n = 0 := by omega
      have h1 : ws = [] := List.eq_nil_of_length_eq_zero hn
      have h2 : vs = [] := List.eq_nil_of_length_eq_zero hn'
      subst h1 h2
      clear hr hs pos hw hv
      go_enter Tryz.func60, Tryz.ntmps60
      go_wp2
      go_loopw [5, 13] (fun _ i wr => i = .int .i64 0 ∧ wr = w) (fun _ i _ => 0)
      case atStart => exact ⟨rfl, rfl⟩
      case round =>
        obtain ⟨rfl, rfl⟩ := hrel
        go_wp2
        go_ret
        exact ⟨by rw [sameW_yes rfl]; rfl, Kept.refl _ _⟩
  · have q : ((n : Int) == n') = false := beq_eq_false_iff_ne.2 (by omega)
    have HE : Hid (sameW ws vs = false) := Lib.hid (sameW_no fun h => e (by rw [← hn, ← hn', h]))
    clear hr hs pos hw hv hn hn' e
    go_enter Tryz.func60, Tryz.ntmps60
    go_wp2
    go_ret
    exact ⟨by rw [HE.out]; rfl, Kept.refl _ _⟩
end
end Go.Proofs.YtjfmidcaekhhgaaGreatDoor
