/- The document's network: Twice, Late. -/
import Derived.Test.YtdolddgmemlofaaRefB
namespace Go.Proofs.Ytdolddgmemlofaa
open Go.RowKit Go.PM

theorem own_none {w : World} {T : TypeId} {s n cap : Nat} {a : Option Addr} {xs : List Value} (h : Own w T s a n cap xs) : a = none → cap = 0 := by
  rintro rfl
  rcases h.row with ⟨_, _, h⟩ | ⟨g, _, h, _⟩
  · exact h
  · exact (nomatch h)

theorem size_drewN' (w : World) (n : Nat) : (w.drewN n).heap.size = w.heap.size := rfl

theorem at_none_no {S : Prop} {k : Nat} : At none k → S := fun ⟨_, _, h, _⟩ => nomatch h

/-- Behind one wire more: of those that were there. -/
theorem rcode_push {w wB w6 : World} {p : Nat} {room : Int} {a a' : Option Addr} {cap cap' : Nat} {lost : Int} {l : List RW} {T T1 : Nat → Prop} {m : RW}
    (hk : Kept T w wB) (hT : ∀ k, T1 k → T k ∨ w.heap.size ≤ k) (hR : RX wB p room a cap lost l T1) (hk6 : Kept (At a) wB w6)
    (hm : (Rd w6 m.a (bcells m.b) ∧ (m.a = none → m.c = 0) ∧ m.b.length ≤ 4096 ∧ ∀ k, At m.a k → wB.heap.size ≤ k ∧ k < w6.heap.size ∧ ¬ At a' k) ∨ ROld wB p a T1 m)
    (ho : Own w6 39 3 a' (l.length + 1) cap' (rcells (l ++ [m]))) (hat : ∀ k, At a' k → At a k ∨ wB.heap.size ≤ k) (hfit : (l.length : Int) < room) :
    RCode w p room lost (l ++ [m]) T 0 (.returned (.int .i64 0)) (w6.setCell ⟨p, 1, none⟩ (.slice a' (l.length + 1) cap')) := by
  obtain ⟨T', h1, h2, h3, _⟩ := hR.pushed (l' := l ++ [m]) (fun m' hm' => by
    rcases List.mem_append.1 hm' with h | h
    · exact .inl (hR.bytes m' h)
    · have : m' = m := by simpa using h
      subst this
      exact hm.elim .inr .inl) hk6 (by simp) ho hat (by simp; omega)
  have hsB := hk.size
  exact ⟨a', cap', T', rfl, h1, hk.trans h3 (fun b hb e => (hT b e).elim id (by omega)), fun k hk' => (h2 k hk').elim (hT k) (by omega)⟩

section
variable {w : World} {p : Nat} {room : Int} {a : Option Addr} {cap : Nat} {lost : Int} {l : List RW} {T : Nat → Prop}

set_option maxRecDepth 100000 in
set_option maxHeartbeats 1000000 in
theorem r_twice_none (h : RX w p room a cap lost l T) (i : Int) (hi : i < 0 ∨ (l.length : Int) ≤ i) :
    Calls Try.prog 64 #[.pointer (some ⟨p, 0, none⟩), .int .i64 i] w (RCode w p room lost l T 6) := by
  go_enter Try.func64, Try.ntmps64
  go_wp2_with (go_at_call 62; go_must (refine (r_at_none h i hi).mono ?_))
  rintro e w1 ⟨rfl, hk⟩
  unfold RW.zero
  go_wp2
  go_ret
  exact ⟨a, cap, T, rfl, h.keptNo (hk.alloc _), (hk.alloc _).no, fun _ h => .inl h⟩

set_option maxRecDepth 100000 in
set_option maxHeartbeats 1000000 in
theorem r_twice_full (h : RX w p room a cap lost l T) (i : Nat) (m : RW) (hm : l[i]? = some m) (hf : (l.length : Int) = room) :
    Calls Try.prog 64 #[.pointer (some ⟨p, 0, none⟩), .int .i64 i] w (RCode w p room lost l T 9) := by
  have HM := Lib.hid hm
  clear hm
  have hge : room ≤ l.length := by omega
  clear hf
  go_enter Try.func64, Try.ntmps64
  go_wp2_with (go_at_call 62; go_must (refine (r_at_ok h i m HM.out).mono ?_))
  rintro e w1 ⟨rfl, hk⟩
  have hR := h.keptNo hk
  have c0 := hR.box.cell 0
  have c1 := hR.box.cell 1
  have hp1 := hR.box.lt
  go_wp2_with fail
  go_quiet (fail)
  go_wp2
  go_ret
  exact ⟨a, cap, T, rfl, h.keptNo ((hk.alloc _).drewN _), ((hk.alloc _).drewN _).no, fun _ h => .inl h⟩

set_option maxRecDepth 100000 in
set_option maxHeartbeats 2000000 in
theorem r_twice_ok (h : RX w p room a cap lost l T) (i : Nat) (m : RW) (hm : l[i]? = some m) (hf : (l.length : Int) < room) :
    Calls Try.prog 64 #[.pointer (some ⟨p, 0, none⟩), .int .i64 i] w (RCode w p room lost (l ++ [m]) T 0) := by
  obtain ⟨i0, hi0, hz0, hz1, hz2⟩ := info_parts Try.inf_rwire
  have hmem := List.mem_of_getElem? hm
  have HM := Lib.hid hm
  clear hm
  have hz : (Value.agg #[.int .u8 0, .int .u8 0, .slice none 0 0]).cells.size = 3 := rfl
  have hl256 : l.length ≤ 256 := by have := h.room2; omega
  have hf' : (l.length : Int) ≤ room - 1 := by omega
  have hX := h
  have hnil := own_none h.own
  have hlm : l.length ≤ maxLen := by unfold maxLen; omega
  have hlm1 : l.length + 1 ≤ maxLen := by unfold maxLen; omega
  have hN1 : ∀ u ∈ [Value.int .u8 m.f, .int .u8 m.t, .slice m.a m.b.length m.c], u.oneCell' = true := by simp [Value.oneCell']
  have hlr := rcells_length l
  have hor := rcells_one l
  go_enter Try.func64, Try.ntmps64
  go_wp2_with (go_at_call 62; go_must (refine (r_at_ok h i m HM.out).mono ?_))
  rintro e w1 ⟨rfl, hk⟩
  have hR := h.keptNo hk
  have c0 := hR.box.cell 0
  have c1 := hR.box.cell 1
  have hp1 := hR.box.lt
  go_wp2_with fail
  go_quiet (fail)
  have hR1 := fun n => hR.keptNo (((Kept.refl No w1).alloc (.cells #[.int .u8 m.f, .int .u8 m.t, .slice m.a m.b.length m.c] 39)).drewN n)
  have hRX := fun n => (hR1 n).keptNo ((Kept.refl No _).alloc (.cells #[.int .u8 m.f, .int .u8 m.t, .slice m.a m.b.length m.c] 39))
  have hbx := fun n => Blk.drewN (Blk.new' (w := w1) rfl 39 [.int .u8 m.f, .int .u8 m.t, .slice m.a m.b.length m.c]) n
  have hsz : ∀ n, ((w1.alloc (.cells #[.int .u8 m.f, .int .u8 m.t, .slice m.a m.b.length m.c] 39)).drewN n).heap.size = w1.heap.size + 1 := fun n => World.size_alloc _ _
  go_wp2_with fail
  go_region_law (first
      | (refine step_wp rfl ?_; try simp only [List.getElem_toArray, List.getElem_cons_zero, List.getElem_cons_succ, Act.put, List.setIfInBounds_toArray, List.set_cons_zero, List.set_cons_succ]
         refine wp_append (.const (.slice none 0 0)) (.tmp 30) 45 rfl 39 i0 _ 3 32 Try.u_rwires hi0 hz0 hz1 hz2 hz (by decide) none 0 0 [] rfl (Own.nil _ _ _) a l.length cap (rcells l) rfl hnil hlr (by first | exact (hR1 _).own.rd | exact (hRX _).own.rd) hor (by omega) (by omega) ?_
         intro a5 cap5 w5 hap5
         have k5 : Kept No ((w1.alloc (.cells #[.int .u8 m.f, .int .u8 m.t, .slice m.a m.b.length m.c] 39)).drewN (nq + 1)) w5 := (by first | exact hap5.kept.mono (fun _ _ h => at_none_no h) | exact ((Kept.refl No _).alloc _).trans hap5.kept (fun _ _ h => at_none_no h))
         have at5 : ∀ k, At a5 k → w1.heap.size + 1 ≤ k := (by have h1 := hap5.at_; simp only [World.size_alloc, size_drewN'] at h1; exact fun k hk => (h1 k hk).elim (fun h => at_none_no h) (by omega))
         have b5 := (hbx (nq + 1)).kept k5 id
         have b50 := b5.cell 0
         have b51 := b5.cell 1
         have b52 := b5.cell 2
         have b5l := b5.lt)
      | (refine step_wp rfl ?_; try simp only [List.getElem_toArray, List.getElem_cons_zero, List.getElem_cons_succ, Act.put, List.setIfInBounds_toArray, List.set_cons_zero, List.set_cons_succ]
         refine wp_append (.tmp 31) (.tmp 33) 45 rfl 39 i0 _ 3 32 Try.u_rwires hi0 hz0 hz1 hz2 hz (by decide) a5 l.length cap5 (rcells l) rfl (by first | simpa using hap5.own | simpa using hap5.own.keptNo ((Kept.refl No w5).alloc _)) _ 1 1 [.int .u8 m.f, .int .u8 m.t, .slice m.a m.b.length m.c] rfl (fun h => nomatch h) rfl (by first | exact Rd.ofBlk' (Blk.new' rfl _ _) | exact Rd.ofBlk' ((Blk.new' (w := (w1.alloc (.cells #[.int .u8 m.f, .int .u8 m.t, .slice m.a m.b.length m.c] 39)).drewN (nq + 1)) (by simp) _ _).kept hap5.kept (fun h => at_none_no h))) hN1 hlm1 (by omega) ?_
         intro a6 cap6 w6 hap6
         have k6 : Kept No ((w1.alloc (.cells #[.int .u8 m.f, .int .u8 m.t, .slice m.a m.b.length m.c] 39)).drewN (nq + 1)) w6 := (by first | exact k5.trans hap6.kept (fun b hb hb' => by have := at5 b hb'; rw [hsz] at hb; omega) | exact (k5.alloc _).trans hap6.kept (fun b hb hb' => by have := at5 b hb'; rw [hsz] at hb; omega))
         have at6 : ∀ k, At a6 k → w1.heap.size + 1 ≤ k := (by have h1 := hap6.at_; have h2 := k5.size; rw [hsz] at h2; (try simp only [World.size_alloc] at h1); exact fun k hk => (h1 k hk).elim (at5 k) (by omega))
         have q6 := Blk.kept (hR1 (nq + 1)).box k6 id
         have q61 := q6.cell 1
         have q6f := q6.frozen 1
         have q6l := q6.lt))
  all_goals
    go_wp2
    go_ret
    refine rcode_push (((hk.alloc _).drewN (nq + 1)).no) (fun _ h => .inl h) (hR1 (nq + 1)) k6.no (.inr ((hR1 (nq + 1)).bytes m hmem)) ?_ (fun k hk => .inr (by rw [hsz]; exact at6 k hk)) hf
    rw [rcells_append]; exact hap6.own

set_option maxRecDepth 100000 in
set_option maxHeartbeats 1000000 in
theorem r_late_none (h : RX w p room a cap lost l T) (i : Int) (hi : i < 0 ∨ (l.length : Int) ≤ i) :
    Calls Try.prog 65 #[.pointer (some ⟨p, 0, none⟩), .int .i64 i] w (RCode w p room lost l T 6) := by
  go_enter Try.func65, Try.ntmps65
  go_wp2_with (go_at_call 61; go_must (refine (r_take_none h i hi).mono ?_))
  rintro e w1 ⟨rfl, hk⟩
  unfold RW.zero
  go_wp2
  go_ret
  exact ⟨a, cap, T, rfl, h.keptNo (hk.alloc _), (hk.alloc _).no, fun _ h => .inl h⟩

set_option maxRecDepth 100000 in
set_option maxHeartbeats 2000000 in
theorem r_late_ok (h : RX w p room a cap lost l T) (i : Nat) (m : RW) (hm : l[i]? = some m) :
    Calls Try.prog 65 #[.pointer (some ⟨p, 0, none⟩), .int .i64 i] w (RCode w p room lost (l.eraseIdx i ++ [m]) T 0) := by
  obtain ⟨i0, hi0, hz0, hz1, hz2⟩ := info_parts Try.inf_rwire
  have hlt : i < l.length := (List.getElem?_eq_some_iff.1 hm).1
  have hle : (l.eraseIdx i).length + 1 = l.length := by rw [List.length_eraseIdx_of_lt hlt]; omega
  have hfull : ((l.eraseIdx i).length : Int) < room := by have := h.fits; omega
  have hl256 : (l.eraseIdx i).length ≤ 256 := by have := h.room2; omega
  have HM := Lib.hid hm
  clear hm hle hlt
  obtain ⟨l', hl'⟩ : ∃ l', l' = l.eraseIdx i := ⟨_, rfl⟩
  rw [← hl'] at hl256 hfull ⊢
  have HL := Lib.hid hl'
  clear hl'
  have hz : (Value.agg #[.int .u8 0, .int .u8 0, .slice none 0 0]).cells.size = 3 := rfl
  have hlm : l'.length + 1 ≤ maxLen := by unfold maxLen; omega
  have hN1 : ∀ u ∈ [Value.int .u8 m.f, .int .u8 m.t, .slice m.a m.b.length m.c], u.oneCell' = true := by simp [Value.oneCell']
  go_enter Try.func65, Try.ntmps65
  go_wp2_with (go_at_call 61; go_must (refine (r_take_ok h i m HM.out).mono ?_))
  rw [← HL.out]
  rintro e w1 ⟨a', cap', T', rfl, hR, hk, hg, ho⟩
  have hR1 := fun n => hR.keptNo (((Kept.refl No w1).alloc (.cells #[.int .u8 m.f, .int .u8 m.t, .slice m.a m.b.length m.c] 39)).drewN n)
  have hpa : ¬ At a' p := fun h' => (hR.sa p h').2 rfl
  have c1 := hR.box.cell 1
  have hp1 := hR.box.lt
  go_wp2_with fail
  go_region_law (first
      | (refine step_wp rfl ?_; try simp only [List.getElem_toArray, List.getElem_cons_zero, List.getElem_cons_succ, Act.put, List.setIfInBounds_toArray, List.set_cons_zero, List.set_cons_succ]
         refine wp_append (.tmp 19) (.tmp 21) 45 rfl 39 i0 _ 3 32 Try.u_rwires hi0 hz0 hz1 hz2 hz (by decide) a' l'.length cap' (rcells l') rfl ((hR1 1).own.keptNo ((Kept.refl No _).alloc (.cells #[.int .u8 m.f, .int .u8 m.t, .slice m.a m.b.length m.c] 39))) _ 1 1 [.int .u8 m.f, .int .u8 m.t, .slice m.a m.b.length m.c] rfl (fun h => nomatch h) rfl (Rd.ofBlk' (Blk.new' (w := (w1.alloc (.cells #[.int .u8 m.f, .int .u8 m.t, .slice m.a m.b.length m.c] 39)).drewN 1) (by simp) _ _)) hN1 hlm (by omega) ?_
         intro a6 cap6 w6 hap6
         have k6 : Kept (At a') ((w1.alloc (.cells #[.int .u8 m.f, .int .u8 m.t, .slice m.a m.b.length m.c] 39)).drewN 1) w6 := ((Kept.refl (At a') _).alloc _).trans hap6.kept (fun _ _ h => h)
         have at6 : ∀ k, At a6 k → At a' k ∨ w1.heap.size + 1 ≤ k := (by have h1 := hap6.at_; simp only [World.size_alloc, size_drewN', World.size_drew] at h1; exact fun k hk => (h1 k hk).imp id (by omega))
         have q6 := Blk.kept (hR1 1).box k6 hpa
         have q61 := q6.cell 1
         have q6f := q6.frozen 1
         have q6l := q6.lt))
  all_goals
    go_wp2
    go_ret
    have hsz : ((w1.alloc (.cells #[.int .u8 m.f, .int .u8 m.t, .slice m.a m.b.length m.c] 39)).drewN 1).heap.size = w1.heap.size + 1 := World.size_alloc _ _
    exact rcode_push ((hk.alloc _).drewN 1) hg (hR1 1) k6 (.inr ⟨ho.1.keptNo (((Kept.refl No w1).alloc _).drewN 1), ho.2⟩) (by rw [rcells_append]; exact hap6.own) (fun k hk => by rw [hsz]; exact at6 k hk) hfull
end
end Go.Proofs.Ytdolddgmemlofaa
