/- What is sent, dropped, doubled, late. -/
import Derived.Test.YtdolddgmemlofaaNetC
namespace Go.Proofs.Ytdolddgmemlofaa
open Go.RowKit Go.PM

/-- A wire more lies behind. -/
theorem NetX.pushed {w w' : World} {p : Nat} {room : Int} {a a' : Option Addr} {cap cap' : Nat} {lost : Int} {l : List MW} {S : Nat → Prop} (h : NetX w p room a cap lost l S) (m : MW)
    (hfit : (l.length : Int) < room) (hb : NetB w' p room a' (l.length + 1) cap' lost) (ho : Own w' 36 3 a' (l.length + 1) cap' (mcells l ++ m.cells))
    (hk : Kept (fun k => k = p ∨ At a k) w w') (hat : ∀ k, At a' k → At a k ∨ w.heap.size ≤ k) (hmb : Blk w m.g 5 (bcells m.b)) (hmS : ¬ S m.g) (hml : m.b.length ≤ 4096) :
    NetX w' p room a' cap' lost (l ++ [m]) (fun k => S k ∨ At a' k ∨ k = m.g) := by
  have hl : (l ++ [m]).length = l.length + 1 := by simp
  have hp := h.lt p h.sp
  have hmlt := hmb.lt
  have hmp : m.g ≠ p := fun e => hmS (e ▸ h.sp)
  have hma : ¬ At a m.g := fun e => hmS (h.sa _ e).1
  have hna : ¬ At a' m.g := fun e => (hat _ e).elim hma (by omega)
  refine ⟨by rw [hl]; exact hb, by rw [hl, mcells_append]; simpa [mcells] using ho, h.room1, h.room2, by rw [hl]; omega, h.lost0, h.lost1, .inl h.sp, fun k hk' => ⟨.inr (.inl hk'), ?_⟩, ?_, ?_⟩
  · rcases hat k hk' with h' | h'
    · exact (h.sa k h').2
    · omega
  · intro m0 hm0
    rcases List.mem_append.1 hm0 with hm0 | hm0
    · obtain ⟨h1, h2, h3, h4, h5⟩ := h.bytes m0 hm0
      have hlt := h.lt _ h1
      refine ⟨.inl h1, h2, fun h' => ?_, h4.kept hk (fun e => e.elim h2 h3), h5⟩
      rcases hat _ h' with h' | h'
      · exact h3 h'
      · omega
    · have : m0 = m := by simpa using hm0
      subst this
      exact ⟨.inr (.inr rfl), hmp, hna, hmb.kept hk (fun e => e.elim hmp hma), hml⟩
  · intro k hk'
    rcases hk' with h' | h' | rfl
    · exact hk.lt (h.lt k h')
    · exact ho.lt k h'
    · exact hk.lt hmlt

/-- What a call that appends a wire leaves: a code, a network with l', its own blocks, all else as it was. -/
def NetPost (w : World) (p : Nat) (room : Int) (lost : Int) (l' : List (Int × Int × List UInt8)) (S : Nat → Prop) (code : Int) (e : Ending) (w' : World) : Prop :=
  ∃ a cap ml S', e = .returned (.int .i64 code) ∧ NetX w' p room a cap lost ml S' ∧ ml.map (fun m => (m.f, m.t, m.b)) = l' ∧ Kept S w w' ∧ ∀ k, S' k → S k ∨ w.heap.size ≤ k

theorem push_post {W w1 w2 : World} {p : Nat} {room : Int} {a a' : Option Addr} {cap cap' : Nat} {lost : Int} {l : List MW} {S : Nat → Prop} {X : Obj} {f t : Int} {g1 : Nat} {b : List UInt8}
    (hN : NetX w1 p room a cap lost l S) (hk : Kept S W w1) (hfull : (l.length : Int) < room) (hge : W.heap.size ≤ g1) (hgS : ¬ S g1) (hgb : Blk w1 g1 5 (bcells b)) (hb : b.length ≤ 4096)
    (hap : Appended (w1.alloc X) w2 36 3 a a' (l.length + 1) cap' (mcells l ++ [.int .u8 f, .int .u8 t, .slice (some ⟨g1, 0, none⟩) b.length b.length])) :
    NetPost W p room lost (l.map (fun m => (m.f, m.t, m.b)) ++ [(f, t, b)]) S 0 (.returned (.int .i64 0)) (w2.setCell ⟨p, 1, none⟩ (.slice a' (l.length + 1) cap')) := by
  have hp := hN.lt p hN.sp
  have hpa : ¬ At a p := fun h' => (hN.sa p h').2 rfl
  have hsz : (w1.alloc X).heap.size = w1.heap.size + 1 := World.size_alloc _ _
  have hpa' : ¬ At a' p := fun e => (hap.at_ _ e).elim hpa (by omega)
  have q : NetB w2 p room a l.length cap lost := (Blk.alloc hN.box _).kept hap.kept hpa
  have hk2 : Kept (fun k => k = p ∨ At a k) w1 (w2.setCell ⟨p, 1, none⟩ (.slice a' (l.length + 1) cap')) :=
    Kept.setCell (((Kept.refl _ w1).alloc X).trans hap.kept (fun k _ hk => .inr hk)) (a := ⟨p, 1, none⟩) (fun _ => .inl rfl) _
  have hn := hN.pushed ⟨f, t, g1, b⟩ hfull (Blk.set q 1 _) (hap.own.kept (Kept.setCell (S := (· = p)) (Kept.refl _ w2) (a := ⟨p, 1, none⟩) (fun _ => rfl) _) (fun k hk e => hpa' (e ▸ hk)))
    hk2 (fun k hk => (hap.at_ k hk).imp id (by omega)) hgb hgS hb
  refine ⟨a', cap', _, _, rfl, hn, by simp, hk.trans hk2 (fun k _ hk => hk.elim (fun e => e ▸ hN.sp) (fun e => (hN.sa _ e).1)), ?_⟩
  have hsW := hk.size
  rintro k (h' | h' | rfl)
  · exact .inl h'
  · exact (hap.at_ k h').imp (fun e => (hN.sa _ e).1) (by omega)
  · exact .inr hge

section
variable {w : World} {p : Nat} {room : Int} {a : Option Addr} {cap : Nat} {lost : Int} {l : List MW} {S : Nat → Prop}

set_option maxRecDepth 100000 in
set_option maxHeartbeats 1000000 in
theorem send_puts (hN : NetX w p room a cap lost l S) (f t : Int) (ad : Option Addr) (c : Nat) (b : List UInt8) (hr : Rd w ad (bcells b)) (hf : max f t < 8) (hb : b.length ≤ 4096) (hfull : (l.length : Int) < room) :
    Calls Try.prog 19 #[.pointer (some ⟨p, 0, none⟩), .agg #[.int .u8 f, .int .u8 t, .slice ad b.length c]] w (NetPost w p room lost (l.map (fun m => (m.f, m.t, m.b)) ++ [(f, t, b)]) S 0) := by
  obtain ⟨i0, hi0, hz0, hz1, hz2⟩ := info_parts Try.inf_wire
  have hp := hN.lt p hN.sp
  have hr0 : 0 < room := by have := hN.room1; omega
  have hfull' : decide ((l.length : Int) = room) = false := by simp; omega
  have hbx : ∀ X, NetX (w.alloc X) p room a cap lost l S := fun X => hN.keptNo ((Kept.refl No w).alloc X)
  go_enter Try.func19, Try.ntmps19
  go_wp2_with (first
    | (go_at_call 56; go_must (refine (ok_calls (hbx _).box hr0).mono ?_; rintro e w' ⟨rfl, rfl⟩))
    | (go_at_call 59; go_must (refine (isFull_calls (hbx _).box).mono ?_; rintro e w' ⟨rfl, k, rfl⟩; rw [hfull'])))
  all_goals
    have h0 := (hbx (Obj.cells #[.int .u8 f, .int .u8 t, .slice ad b.length c] 36)).keptNo ((Kept.refl No _).drewN (k + 1))
    have hrd := (hr.keptNo ((Kept.refl No w).alloc (Obj.cells #[.int .u8 f, .int .u8 t, .slice ad b.length c] 36))).keptNo ((Kept.refl No _).drewN (k + 1))
    have hbl : b.length ≤ 1099511627776 := by omega
    have hl256 : l.length ≤ 256 := by have := hN.room2; omega
    have hz : (Value.agg #[.int .u8 0, .int .u8 0, .slice none 0 0]).cells.size = 3 := rfl
    have hpa : ¬ At a p := fun h' => (hN.sa p h').2 rfl
    have c1 := hN.box.c1
    go_region_law? (first
      | (refine step_wp rfl ?_; try simp only [List.getElem_toArray, List.getElem_cons_zero, List.getElem_cons_succ, Act.put, List.setIfInBounds_toArray, List.set_cons_zero, List.set_cons_succ]
         refine wp_append (.tmp 30) (.tmp 33) 62 rfl 36 i0 _ 3 32 Try.u_wires hi0 hz0 hz1 hz2 hz (by decide) a l.length cap (mcells l) rfl (hOX _) _ 1 1 _ rfl (fun h => nomatch h) rfl (hNX _) hN1 hlm (by omega) ?_
         intro a' cap' w2 hap
         have q := (Blk.alloc h1.box _).kept hap.kept hpa
         have q1 := NetB.c1 q
         have qf := q.frozen 1)
      | (go_simp; refine (copied_calls f t ad c b _ hrd hbl).mono ?_; rintro e w1 ⟨v, rfl, ⟨g1, rfl, hge, hgb⟩, hk⟩
         have h1 := h0.keptNo hk
         have hp1 := h1.lt p h1.sp
         have c1 := h1.box.c1
         have hOX := fun X => h1.own.keptNo ((Kept.refl No w1).alloc X)
         have hNX := fun vs => Rd.ofBlk' (Blk.new w1 36 vs)
         have hN1 : ∀ u ∈ [Value.int .u8 f, .int .u8 t, .slice (some ⟨g1, 0, none⟩) b.length b.length], u.oneCell' = true := by simp [Value.oneCell']
         have hlm : l.length + 1 ≤ maxLen := by unfold maxLen; omega))
    all_goals
      go_wp2
      go_ret
      refine push_post h1 ?_ hfull ?_ ?_ hgb hb hap
      · exact (((Kept.refl S w).alloc _).drewN (k + 1)).transNo hk
      · simp at hge; omega
      · exact fun e => by have := hN.lt _ e; simp at hge; omega
end
end Go.Proofs.Ytdolddgmemlofaa
