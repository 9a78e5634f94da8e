/- The document's network: Take, Drop. -/
import Derived.Test.YtdolddgmemlofaaRefA
namespace Go.Proofs.Ytdolddgmemlofaa
open Go.RowKit Go.PM

theorem Try.inf_rwire : (Try.prog.info? 39).map (fun i => (i.zero, i.size, i.bytes)) = some (some (.agg #[.int .u8 0, .int .u8 0, .slice none 0 0]), 3, 32) := by kernel_rfl
theorem Try.u_rwires : Try.prog.underlying 45 = some (.slice 39) := by kernel_rfl

theorem RX.pushed {wB w6 : World} {p : Nat} {room : Int} {a a' : Option Addr} {cap cap' n' : Nat} {lost : Int} {l l' : List RW} {T : Nat → Prop} (h : RX wB p room a cap lost l T)
    (hsub : ∀ m ∈ l', ROld wB p a T m ∨ (Rd w6 m.a (bcells m.b) ∧ (m.a = none → m.c = 0) ∧ m.b.length ≤ 4096 ∧ ∀ k, At m.a k → wB.heap.size ≤ k ∧ k < w6.heap.size ∧ ¬ At a' k))
    (hk : Kept (At a) wB w6) (hn : n' = l'.length) (ho : Own w6 39 3 a' n' cap' (rcells l')) (hat : ∀ k, At a' k → At a k ∨ wB.heap.size ≤ k) (hfit : (l'.length : Int) ≤ room) :
    ∃ T', RX (w6.setCell ⟨p, 1, none⟩ (.slice a' n' cap')) p room a' cap' lost l' T' ∧ (∀ k, T' k → T k ∨ wB.heap.size ≤ k) ∧ Kept T wB (w6.setCell ⟨p, 1, none⟩ (.slice a' n' cap')) ∧ ∀ k, T k → T' k := by
  subst hn
  have hp := h.lt p h.sp
  have hpa : ¬ At a p := fun e => (h.sa p e).2 rfl
  have hpa' : ¬ At a' p := fun e => (hat p e).elim hpa (by omega)
  have hk2 : Kept (fun k => k = p ∨ At a k) wB (w6.setCell ⟨p, 1, none⟩ (.slice a' l'.length cap')) := (hk.mono fun _ _ e => .inr e).setCell (a := ⟨p, 1, none⟩) (fun _ => .inl rfl) _
  have hs6 := hk.size
  have kp : Kept (· = p) w6 (w6.setCell ⟨p, 1, none⟩ (.slice a' l'.length cap')) := Kept.setCell (S := (· = p)) (Kept.refl _ w6) (a := ⟨p, 1, none⟩) (fun _ => rfl) _
  obtain ⟨T', h1, h2, h4⟩ := h.relist (w' := w6.setCell ⟨p, 1, none⟩ (.slice a' l'.length cap')) (lost' := lost)
    (fun m hm => (hsub m hm).imp id fun ⟨r1, r2, r3, r4⟩ => ⟨r1.kept kp (fun b hb (e : b = p) => by have := (r4 b hb).1; omega), r2, r3, fun k hk' => ⟨(r4 k hk').1, kp.lt (r4 k hk').2.1, (r4 k hk').2.2⟩⟩)
    (Blk.set (h.box.kept hk hpa) 1 _) (ho.kept kp (fun b hb (e : b = p) => hpa' (e ▸ hb))) hk2 hat hfit h.lost0 h.lost1
  exact ⟨T', h1, h2, hk2.mono (fun b _ e => e.elim (fun e => e ▸ h.sp) (fun e => (h.sa b e).1)), h4⟩

def RTook (w : World) (p : Nat) (room lost : Int) (l' : List RW) (T : Nat → Prop) (m : RW) (e : Ending) (w' : World) : Prop :=
  ∃ a' cap' T', e = .returned (.tuple #[.agg #[.int .u8 m.f, .int .u8 m.t, .slice m.a m.b.length m.c], .int .i64 0]) ∧ RX w' p room a' cap' lost l' T' ∧ Kept T w w' ∧ (∀ k, T' k → T k ∨ w.heap.size ≤ k) ∧ ROld w' p a' T' m

theorem rtook_end {w wB w5 w6 : World} {p i g : Nat} {room : Int} {a5 a6 : Option Addr} {cap cap5 cap6 : Nat} {lost : Int} {l : List RW} {T : Nat → Prop} {m : RW} {v0 v1 v2 : Value}
    (h : RX w p room (some ⟨g, 0, none⟩) cap lost l T) (hlt : i < l.length) (hm : m ∈ l) (hk : Kept No w wB) (hrl : w.heap.size < wB.heap.size) (hR : RX wB p room (some ⟨g, 0, none⟩) cap lost l T) (hk6 : Kept No wB w6)
    (hap5 : Appended wB w5 39 3 none a5 (0 + i) cap5 ([] ++ rcells (l.take i))) (hap6 : Appended w5 w6 39 3 a5 a6 (i + (l.length - (i + 1))) cap6 (rcells (l.take i) ++ rcells (l.drop (i + 1)))) :
    RTook w p room lost (l.eraseIdx i) T m (.returned (.tuple #[.agg #[.int .u8 m.f, .int .u8 m.t, .slice m.a m.b.length m.c], .int .i64 0]))
      ((((w6.setCell ⟨p, 1, none⟩ (.slice a6 (i + (l.length - (i + 1))) cap6)).setCell ⟨w.heap.size, 0, none⟩ v0).setCell ⟨w.heap.size, 1, none⟩ v1).setCell ⟨w.heap.size, 2, none⟩ v2) := by
  have hsz := hap5.kept.size
  have hn : i + (l.length - (i + 1)) = (l.eraseIdx i).length := by rw [List.length_eraseIdx_of_lt hlt]; omega
  have hcs : rcells (l.take i) ++ rcells (l.drop (i + 1)) = rcells (l.eraseIdx i) := by rw [← rcells_append, List.eraseIdx_eq_take_drop_succ]
  have ho := hap6.own
  rw [hcs] at ho
  have hat5 : ∀ k, At a5 k → wB.heap.size ≤ k := fun k hk => (hap5.at_ k hk).elim (fun ⟨_, _, h, _⟩ => nomatch h) id
  have hat : ∀ k, At a6 k → wB.heap.size ≤ k := fun k hk => (hap6.at_ k hk).elim (hat5 k) (by omega)
  obtain ⟨T', h1, h2, h3, h4⟩ := hR.pushed (fun m hm => .inl (hR.bytes m (List.mem_of_mem_eraseIdx hm))) hk6.no hn ho (fun k hk => .inr (hat k hk)) (by rw [← hn]; have := h.fits; omega)
  have hsB := hk.size
  have kk : Kept (· = w.heap.size) (w6.setCell ⟨p, 1, none⟩ (.slice a6 (i + (l.length - (i + 1))) cap6)) ((((w6.setCell ⟨p, 1, none⟩ (.slice a6 (i + (l.length - (i + 1))) cap6)).setCell ⟨w.heap.size, 0, none⟩ v0).setCell ⟨w.heap.size, 1, none⟩ v1).setCell ⟨w.heap.size, 2, none⟩ v2) :=
    ((Kept.setCell (S := (· = w.heap.size)) (Kept.refl _ _) (a := ⟨w.heap.size, 0, none⟩) (fun _ => rfl) v0).setCell (a := ⟨w.heap.size, 1, none⟩) (fun _ => rfl) v1).setCell (a := ⟨w.heap.size, 2, none⟩) (fun _ => rfl) v2
  obtain ⟨m1, m2, m3, m4⟩ := hR.bytes m hm
  have hpl := h.lt p h.sp
  refine ⟨a6, cap6, T', rfl, h1.kept kk (fun b hb (e : b = w.heap.size) => ?_), ?_, fun k hk' => (h2 k hk').imp id (by omega), ?_, m2, m3, fun k hk => ⟨h4 k (m4 k hk).1, (m4 k hk).2.1, fun e => by have := hat k e; have := h.lt k (m4 k hk).1; omega⟩⟩
  · rcases h2 b hb with h' | h'
    · have := h.lt b h'; omega
    · omega
  · exact (hk.no.trans h3 (fun b _ e => e)).trans kk (fun b hb (e : b = w.heap.size) => by omega)
  · exact ((m1.keptNo hk6).kept (Kept.setCell (S := (· = p)) (Kept.refl _ w6) (a := ⟨p, 1, none⟩) (fun _ => rfl) _) (fun b hb (e : b = p) => (m4 b hb).2.1 e)).kept kk (fun b hb (e : b = w.heap.size) => by have := h.lt b (m4 b hb).1; omega)

section
variable {w : World} {p : Nat} {room : Int} {a : Option Addr} {cap : Nat} {lost : Int} {l : List RW} {T : Nat → Prop}

set_option maxRecDepth 100000 in
set_option maxHeartbeats 1000000 in
theorem r_take_ok (h : RX w p room a cap lost l T) (i : Nat) (m : RW) (hm : l[i]? = some m) :
    Calls Try.prog 61 #[.pointer (some ⟨p, 0, none⟩), .int .i64 i] w (RTook w p room lost (l.eraseIdx i) T m) := by
  obtain ⟨i0, hi0, hz0, hz1, hz2⟩ := info_parts Try.inf_rwire
  have hlt : i < l.length := (List.getElem?_eq_some_iff.1 hm).1
  have hl : l.length ≤ 256 := by have := h.fits; have := h.room2; omega
  have hle := h.own.le
  have hmx := h.own.max
  unfold maxLen at hmx
  have hp := h.lt p h.sp
  have hpa : ¬ At a p := fun h' => (h.sa p h').2 rfl
  obtain ⟨g, rfl, hg, _, _, _⟩ := h.at hm
  have hX := h
  have HM := Lib.hid hm
  clear hm
  have hz : (Value.agg #[.int .u8 0, .int .u8 0, .slice none 0 0]).cells.size = 3 := rfl
  have hi00 : (0 : Int) ≤ i := by omega
  have hi1 : (i : Int) < l.length := by omega
  have hi2 : (i : Int) ≤ cap := by omega
  have hi3 : (i : Int) + 1 ≤ l.length := by omega
  have hi4 : (0 : Int) ≤ (i : Int) + 1 := by omega
  have hwr : IntKind.i64.wrap ((i : Int) + 1) = (i : Int) + 1 := by rw [IntKind.wrap_i64]; omega
  have hwn : ((i : Int) + 1).toNat = i + 1 := by omega
  go_enter Try.func61, Try.ntmps61
  go_wp2_with (go_at_call 62; go_must (refine (r_at_ok (h.keptNo ((Kept.refl No w).alloc _)) i m HM.out).mono ?_))
  rintro e w1 ⟨rfl, hk⟩
  have hk1 := (((Kept.refl No w).alloc _).transNo hk).alloc (.cells #[.int .u8 m.f, .int .u8 m.t, .slice m.a m.b.length m.c] 39)
  have hR := h.keptNo (((Kept.refl No w).alloc _).transNo hk)
  have c1 := hR.box.cell 1
  have hp1 := hR.lt p hR.sp
  have hrd := hR.own.rd
  have hR1 := fun n => hR.keptNo (((Kept.refl No w1).alloc (.cells #[.int .u8 m.f, .int .u8 m.t, .slice m.a m.b.length m.c] 39)).drewN n)
  have hrt : ∀ n, Rd ((w1.alloc (.cells #[.int .u8 m.f, .int .u8 m.t, .slice m.a m.b.length m.c] 39)).drewN n) (some ⟨g, 0, none⟩) (rcells (l.take i)) := fun n => by
    rw [← rcells_take]; exact ((hR1 n).own.rd).take _
  have hlt1 : (rcells (l.take i)).length = i * 3 := by rw [rcells_length, List.length_take]; omega
  have ho1 := rcells_one (l.take i)
  have ho2 := rcells_one (l.drop (i + 1))
  have hlt2 : (rcells (l.drop (i + 1))).length = (l.length - (i + 1)) * 3 := by rw [rcells_length, List.length_drop]
  have hrd2 : ∀ n, Rd ((w1.alloc (.cells #[.int .u8 m.f, .int .u8 m.t, .slice m.a m.b.length m.c] 39)).drewN n) (if cap = i + 1 then some ⟨g, 0, none⟩ else some ⟨g, (i + 1) * 3, none⟩) (rcells (l.drop (i + 1))) := fun n => by
    by_cases hc : cap = i + 1
    · have : l.drop (i + 1) = [] := List.drop_eq_nil_of_le (by omega)
      rw [this]; exact Rd.nil _ _
    · rw [if_neg hc]
      intro j x hj
      obtain ⟨b, o, e, hc⟩ := (hR1 n).own.rd ((i + 1) * 3 + j) x (by rw [← List.getElem?_drop, rcells_drop]; exact hj)
      simp only [Option.some.injEq, Addr.mk.injEq, and_true] at e
      obtain ⟨rfl, rfl⟩ := e
      exact ⟨_, _, rfl, by rw [Nat.zero_add] at hc; exact hc⟩
  have hnc : (if cap = i + 1 then some (⟨g, 0, none⟩ : Addr) else some ⟨g, (i + 1) * 3, none⟩) = none → cap - (i + 1) = 0 := by split <;> simp
  have hbx := Blk.drewN (Blk.new' (w := w1) rfl 39 [.int .u8 m.f, .int .u8 m.t, .slice m.a m.b.length m.c]) 1
  have hrb := Blk.drewN (Blk.alloc ((Blk.new' (w := w) rfl 39 [.int .u8 0, .int .u8 0, .slice none 0 0]).kept hk id) (.cells #[.int .u8 m.f, .int .u8 m.t, .slice m.a m.b.length m.c] 39)) 1
  go_wp2_with fail
  go_region_law (first
      | (refine step_wp rfl ?_; try simp only [List.getElem_toArray, List.getElem_cons_zero, List.getElem_cons_succ, Act.put, List.setIfInBounds_toArray, List.set_cons_zero, List.set_cons_succ]
         (refine wp_append (.const (.slice none 0 0)) (.tmp 22) 45 rfl 39 i0 _ 3 32 Try.u_rwires hi0 hz0 hz1 hz2 hz (by decide) none 0 0 [] rfl (Own.nil _ _ _) (some ⟨g, 0, none⟩) i cap (rcells (l.take i)) rfl (fun h => nomatch h) hlt1 (hrt _) ho1 (by unfold maxLen; omega) (by omega) ?_)
         intro a5 cap5 w5 hap5
         have q5 := Blk.kept (hR1 1).box hap5.kept (fun ⟨_, _, h, _⟩ => nomatch h)
         have q51 := q5.cell 1
         have q5l := q5.lt)
      | (refine step_wp rfl ?_; try simp only [List.getElem_toArray, List.getElem_cons_zero, List.getElem_cons_succ, Act.put, List.setIfInBounds_toArray, List.set_cons_zero, List.set_cons_succ]
         (refine wp_append (.tmp 23) (.tmp 30) 45 rfl 39 i0 _ 3 32 Try.u_rwires hi0 hz0 hz1 hz2 hz (by decide) a5 i cap5 (rcells (l.take i)) rfl (by simpa using hap5.own) _ (l.length - (i + 1)) _ (rcells (l.drop (i + 1))) rfl hnc hlt2 ((hrd2 1).kept hap5.kept (fun b _ ⟨_, _, h, _⟩ => nomatch h)) ho2 (by unfold maxLen; omega) (by omega) ?_)
         intro a6 cap6 w6 hap6
         have kB6 : Kept No ((w1.alloc (.cells #[.int .u8 m.f, .int .u8 m.t, .slice m.a m.b.length m.c] 39)).drewN 1) w6 := (hap5.kept.mono (fun _ _ ⟨_, _, h, _⟩ => nomatch h)).trans hap6.kept (fun b hb hb' => (hap5.at_ b hb').elim (fun ⟨_, _, h, _⟩ => nomatch h) (fun h => absurd hb (Nat.not_lt.2 h)))
         have q6 := Blk.kept (hR1 1).box kB6 id
         have q61 := q6.cell 1
         have q6f := q6.frozen 1
         have q6l := q6.lt
         have x6 := hbx.kept kB6 id
         have x60 := x6.cell 0
         have x61 := x6.cell 1
         have x62 := x6.cell 2
         have r6 := hrb.kept kB6 id
         have r60 := r6.cell 0
         have r61 := r6.cell 1
         have r62 := r6.cell 2
         have r6a := r6.frozen 0
         have r6b := r6.frozen 1
         have r6c := r6.frozen 2
         have r6l := r6.lt))
  all_goals
    go_wp2
    all_goals
      refine bodyPost_ret (v := .tuple #[.agg #[.int .u8 m.f, .int .u8 m.t, .slice m.a m.b.length m.c], .int .i64 0]) (by simp [results, Try.results61, go_sem, r60, r61, r62]) rfl ?_
      exact rtook_end hX hlt (List.mem_of_getElem? HM.out) (hk1.drewN 1) hrb.lt (hR1 1) kB6 hap5 hap6

set_option maxRecDepth 100000 in
set_option maxHeartbeats 1000000 in
theorem r_take_none (h : RX w p room a cap lost l T) (i : Int) (hi : i < 0 ∨ (l.length : Int) ≤ i) :
    Calls Try.prog 61 #[.pointer (some ⟨p, 0, none⟩), .int .i64 i] w (RWire w RW.zero 6) := by
  have hp := h.lt p h.sp
  go_enter Try.func61, Try.ntmps61
  go_wp2_with (go_at_call 62; go_must (refine (r_at_none (h.keptNo ((Kept.refl No w).alloc _)) i hi).mono ?_))
  rintro e w1 ⟨rfl, hk⟩
  have hbx : Blk w1 w.heap.size 39 [.int .u8 0, .int .u8 0, .slice none 0 0] := (Blk.new w _ _).kept hk id
  have hk1 : Kept No w w1 := ((Kept.refl No w).alloc _).transNo hk
  have x0 := hbx.cell 0
  have x1 := hbx.cell 1
  have x2 := hbx.cell 2
  have y0 := hbx.frozen 0
  have y1 := hbx.frozen 1
  have y2 := hbx.frozen 2
  have hlt := hbx.lt
  unfold RW.zero
  go_wp2
  have hw : w.heap.size < w.heap.size → No w.heap.size := fun h => absurd h (Nat.lt_irrefl _)
  refine bodyPost_ret (v := .tuple #[.agg #[.int .u8 0, .int .u8 0, .slice none 0 0], .int .i64 6]) (by simp [results, Try.results61, go_sem, x0, x1, x2, hlt]) rfl
      ⟨rfl, ?_⟩
  exact (((hk1.setCell (a := ⟨w.heap.size, 0, none⟩) hw (.int .u8 0)).setCell (a := ⟨w.heap.size, 1, none⟩) hw (.int .u8 0)).setCell (a := ⟨w.heap.size, 2, none⟩) hw (.slice none 0 0)).alloc _

def RCode (w : World) (p : Nat) (room lost : Int) (l' : List RW) (T : Nat → Prop) (code : Int) (e : Ending) (w' : World) : Prop :=
  ∃ a' cap' T', e = .returned (.int .i64 code) ∧ RX w' p room a' cap' lost l' T' ∧ Kept T w w' ∧ ∀ k, T' k → T k ∨ w.heap.size ≤ k

theorem RX.lose (h : RX w p room a cap lost l T) (h1 : lost < 2147483647) : RX (w.setCell ⟨p, 2, none⟩ (.int .i64 (lost + 1))) p room a cap (lost + 1) l T := by
  have k : Kept (· = p) w (w.setCell ⟨p, 2, none⟩ (.int .i64 (lost + 1))) := Kept.setCell (S := (· = p)) (Kept.refl _ w) (a := ⟨p, 2, none⟩) (fun _ => rfl) _
  exact ⟨Blk.set h.box 2 _, h.own.kept k (fun b hb (e : b = p) => (h.sa b hb).2 e), h.room1, h.room2, h.fits, by have := h.lost0; omega, by omega, h.sp, h.sa,
    fun m hm => let ⟨h1, h2, h3, h4⟩ := h.bytes m hm; ⟨h1.kept k (fun b hb (e : b = p) => (h4 b hb).2.1 e), h2, h3, h4⟩, fun b hb => k.lt (h.lt b hb)⟩

set_option maxRecDepth 100000 in
set_option maxHeartbeats 1000000 in
theorem r_drop_ok (h : RX w p room a cap lost l T) (i : Nat) (m : RW) (hm : l[i]? = some m) (hl : lost < 2147483647) :
    Calls Try.prog 63 #[.pointer (some ⟨p, 0, none⟩), .int .i64 i] w (RCode w p room (lost + 1) (l.eraseIdx i) T 0) := by
  have HM := Lib.hid hm
  have hl0 := h.lost0
  clear hm
  go_enter Try.func63, Try.ntmps63
  go_wp2_with (go_at_call 61; go_must (refine (r_take_ok h i m HM.out).mono ?_))
  rintro e w1 ⟨a', cap', T', rfl, hR, hk, hg, _⟩
  have c2 := hR.box.cell 2
  have f2 := hR.box.frozen 2
  have hp := hR.box.lt
  go_wp2
  go_ret
  exact ⟨a', cap', T', rfl, (hR.lose hl).keptNo ((Kept.refl No _).alloc _), (hk.setCell (a := ⟨p, 2, none⟩) (fun _ => h.sp) _).alloc _, hg⟩

set_option maxRecDepth 100000 in
set_option maxHeartbeats 1000000 in
theorem r_drop_none (h : RX w p room a cap lost l T) (i : Int) (hi : i < 0 ∨ (l.length : Int) ≤ i) :
    Calls Try.prog 63 #[.pointer (some ⟨p, 0, none⟩), .int .i64 i] w (RCode w p room lost l T 6) := by
  go_enter Try.func63, Try.ntmps63
  go_wp2_with (go_at_call 61; go_must (refine (r_take_none h i hi).mono ?_))
  rintro e w1 ⟨rfl, hk⟩
  unfold RW.zero
  go_wp2
  go_ret
  exact ⟨a, cap, T, rfl, h.keptNo (hk.alloc _), (hk.alloc _).no, fun _ h => .inl h⟩
end
end Go.Proofs.Ytdolddgmemlofaa
