/- Force; Grow and Concat of package slices. -/
import Derived.Test.YtdolddgmemlofaaDiskE
namespace Go.Proofs.Ytdolddgmemlofaa
open Go.RowKit Go.PM
set_option maxRecDepth 100000

theorem Try.du_rows : Try.prog.underlying 119 = some (.slice 32) := by kernel_rfl

section
variable {w : World} {p : Nat} {s : PD} {a : Option Addr} {cap : Nat} {S : Nat → Prop}

theorem DGrows.trans {S S1 S2 : Nat → Prop} {w w1 w2 : World} (h : DGrows S S1 w w1) (k : DGrows S1 S2 w1 w2) : DGrows S S2 w w2 :=
  ⟨h.kept.trans k.kept (fun b hb hs => (h.grow b hs).elim id (fun h' => absurd h' (by omega))), fun b hb => (k.grow b hb).elim (h.grow b) (fun h' => .inr (Nat.le_trans h.kept.size h'))⟩

set_option maxHeartbeats 1000000 in
theorem d_force (h : DX w p s a cap S) (hlo : s.fr ≤ 4611686018427387904) :
    Calls Try.prog 37 #[.pointer (some ⟨p, 0, none⟩)] w (DCode w p S s.force) := by
  have c3 := h.box.c3
  have c6 := h.box.c6
  have c7 := h.box.c7
  have f6 := h.box.frozen 6
  have f7 := h.box.frozen 7
  have hfu0 := h.ok.fuse0
  have hfu1 := h.ok.fuse1
  have hX := h
  clear h
  have tail : ∀ (s' : PD) (w' : World), DX w' p s' a cap S → DGrows S S w w' → s'.fr = s.fr → s'.base = s.base → Calls Try.prog 71 #[.pointer (some ⟨p, 0, none⟩), .int .i64 s.base] w' fun e w2 => e = .returned (.tuple #[]) ∧ ∃ S', DS w2 p (s'.settle s.base) S' ∧ DGrows S S' w w2 := by
    intro s' w' h' hg hf hb
    refine (d_settle h'.half (by omega) s.base (by rw [← hb]; exact h'.ok.base0) (by rw [← hb]; exact h'.ok.base1)).mono ?_
    rintro e w2 ⟨S', rfl, h2, hg2⟩
    exact ⟨rfl, S', h2, hg.trans hg2⟩
  cases hon : s.on
  · have HON := Lib.hid hon
    clear hon tail
    go_enter Try.func37, Try.ntmps37
    go_wp2_with (go_at_call 68; refine (d_ready hX.box hX.ok.room1).mono ?_; rw [HON.out]; rintro e w' ⟨rfl, rfl⟩)
    go_ret
    rw [PD.force_off HON.out]; exact hX.sameCode (Kept.refl _ _) 10
  · have HON := Lib.hid hon
    clear hon
    by_cases h0 : s.fuse = 0
    · have HF := Lib.hid h0
      have c7' : w.cell? ⟨p, 7, none⟩ = some (.int .i64 0) := by rw [c7, h0]
      clear h0 c7 tail
      go_enter Try.func37, Try.ntmps37
      go_wp2_with (go_at_call 68; refine (d_ready hX.box hX.ok.room1).mono ?_; rw [HON.out]; rintro e w' ⟨rfl, rfl⟩)
      go_ret
      have hk : Kept (· = p) w _ := (Kept.refl (· = p) w).setCell (a := ⟨p, 6, none⟩) (fun _ => rfl) (.bool false)
      rw [PD.force_burnt HON.out HF.out]; exact hX.putCode (s' := { s with on := false }) (Blk.set hX.box 6 _) hk (hX.ok.off _) rfl 10
    · by_cases h1 : s.fuse = -1
      · have HF := Lib.hid h1
        have c7' : w.cell? ⟨p, 7, none⟩ = some (.int .i64 (-1)) := by rw [c7, h1]
        clear h0 h1 c7
        have T := Lib.hid (tail s w hX (DGrows.same (Kept.refl _ _)) rfl rfl)
        clear tail
        go_enter Try.func37, Try.ntmps37
        go_wp2_with (first
          | (go_at_call 68; refine (d_ready hX.box hX.ok.room1).mono ?_; rw [HON.out]; rintro e w' ⟨rfl, rfl⟩)
          | (go_at_call 71; refine T.out.mono ?_; rintro e w2 ⟨rfl, S', h2, hg2⟩))
        go_ret
        rw [PD.force_none HON.out HF.out]; exact ⟨S', rfl, h2, hg2⟩
      · have hb0 : (s.fuse == 0) = false := beq_eq_false_iff_ne.2 h0
        have hb1 : (s.fuse != -1) = true := bne_iff_ne.2 h1
        have HF0 := Lib.hid h0
        have HF1 := Lib.hid h1
        have hf2 : 1 ≤ s.fuse := by omega
        clear h0 h1
        have hk : Kept (· = p) w _ := (Kept.refl (· = p) w).setCell (a := ⟨p, 7, none⟩) (fun _ => rfl) (.int .i64 (s.fuse - 1))
        have T := Lib.hid (tail { s with fuse := s.fuse - 1 } (w.setCell ⟨p, 7, none⟩ (.int .i64 (s.fuse - 1))) (hX.put (Blk.set hX.box 7 _) hk (hX.ok.fused (by omega) (by omega)) rfl) (DGrows.same (hk.mono fun b _ e => e ▸ hX.sp)) rfl rfl)
        clear tail hk
        go_enter Try.func37, Try.ntmps37
        go_wp2_with (first
          | (go_at_call 68; refine (d_ready hX.box hX.ok.room1).mono ?_; rw [HON.out]; rintro e w' ⟨rfl, rfl⟩)
          | (go_at_call 71; refine T.out.mono ?_; rintro e w2 ⟨rfl, S', h2, hg2⟩))
        go_ret
        rw [PD.force_some HON.out HF0.out HF1.out]; exact ⟨S', rfl, h2, hg2⟩

/-- What Grow of nil answers: room for n bytes at least. -/
def GrownPost (w : World) (_n : Nat) (e : Ending) (w' : World) : Prop :=
  ∃ a cap, e = .returned (.slice a 0 cap) ∧ Owns w' 5 1 a 0 cap [] ∧ Kept No w w' ∧ ∀ b, At a b → w.heap.size ≤ b

set_option maxHeartbeats 400000 in
theorem grow_nil (n : Nat) (L : Int) (hL : L = (n : Int)) (w : World) (hn : n ≤ 1099511627776) :
    Calls Try.prog 83 #[.slice none 0 0, .int .i64 L] w (GrownPost w n) := by
  subst hL
  obtain ⟨i0, hi0, hz0, hz1, hz2⟩ := info_parts Try.dinf_byte
  rcases Nat.eq_zero_or_pos n with rfl | hpos
  · go_enter Try.func83, Try.ntmps83
    go_wp2
    go_ret
    exact ⟨none, 0, rfl, Owns.nil _ _ _, Kept.refl _ _, fun b ⟨_, _, h, _⟩ => nomatch h⟩
  · have hmx : n ≤ maxLen := by unfold maxLen; omega
    have hi : (0 : Int) < n := by omega
    go_enter Try.func83, Try.ntmps83
    go_wp2_with (at_builtin; go_must (refine wpList_zeros rfl (.tmp 20) (.tmp 21) 32 3 rfl 5 .i64 i0 _ 1 1 Try.du_bytes Try.du_int hi0 hz0 hz1 hz2 rfl n rfl rfl (by omega) hmx (by omega) ?_; intro cap2 w2 ho hk hlt))
    go_ret
    have hc := ho.cut (m := 0) (c := cap2) (Nat.zero_le _) (Nat.le_refl _) (Nat.zero_le _)
    simp only [Nat.zero_mul, List.take_zero] at hc
    exact ⟨_, cap2, rfl, hc, hk, fun b ⟨_, _, h, h2⟩ => by cases h; omega⟩

def CatRel1 (n1 n2 : Nat) (v i : Value) : Prop :=
  (i = .int .i64 0 ∧ v = .int .i64 0) ∨ (i = .int .i64 1 ∧ v = .int .i64 n1) ∨ (i = .int .i64 2 ∧ v = .int .i64 (n1 + n2))

def CatSt (w : World) (v : Value) (n : Nat) (xs : List UInt8) (wr : World) : Prop :=
  ∃ a cap, v = .slice a n cap ∧ Owns wr 5 1 a n cap (bcells xs) ∧ Kept No w wr ∧ ∀ b, At a b → w.heap.size ≤ b

def CatRel2 (w : World) (n1 n2 : Nat) (x y : List UInt8) (v i : Value) (wr : World) : Prop :=
  (i = .int .i64 0 ∧ CatSt w v 0 [] wr) ∨ (i = .int .i64 1 ∧ CatSt w v n1 x wr) ∨ (i = .int .i64 2 ∧ CatSt w v (n1 + n2) (x ++ y) wr)

theorem CatSt.next {w wr w2 : World} {a a' : Option Addr} {n m cap cap' : Nat} {xs ys : List UInt8} (_ho : Owns wr 5 1 a n cap (bcells xs)) (hk : Kept No w wr) (hat : ∀ b, At a b → w.heap.size ≤ b)
    (hap : Onto wr w2 5 1 a a' (n + m) cap' (bcells xs ++ bcells ys)) : CatSt w (.slice a' (n + m) cap') (n + m) (xs ++ ys) w2 := by
  refine ⟨a', cap', rfl, ?_, hk.trans hap.kept (fun b hb h => absurd (hat b h) (by omega)), fun b hb => (hap.at_ b hb).elim (hat b) (fun h => Nat.le_trans hk.size h)⟩
  have : bcells (xs ++ ys) = bcells xs ++ bcells ys := by simp [bcells]
  rw [this]; exact hap.own

set_option maxHeartbeats 1000000 in
theorem concat_calls (g n1 n2 c1 c2 : Nat) (a1 a2 : Option Addr) (x y : List UInt8) (w : World) (hb : Blk w g 32 [.slice a1 n1 c1, .slice a2 n2 c2]) (hr1 : Rd w a1 (bcells x)) (hr2 : Rd w a2 (bcells y)) (hx : x.length = n1) (hy : y.length = n2)
    (hc1 : a1 = none → c1 = 0) (hc2 : a2 = none → c2 = 0) (hn1 : n1 ≤ 274877906944) (hn2 : n2 ≤ 274877906944) :
    Calls Try.prog 74 #[.slice (some ⟨g, 0, none⟩) 2 2] w (ClonedPost w (n1 + n2) (x ++ y)) := by
  obtain ⟨i0, hi0, hz0, hz1, hz2⟩ := info_parts Try.dinf_byte
  have d0 : w.cell? ⟨g, 0, none⟩ = some (.slice a1 n1 c1) := hb.cell 0
  have d1 : w.cell? ⟨g, 1, none⟩ = some (.slice a2 n2 c2) := hb.cell 1
  have HX := Lib.hid hx
  have HY := Lib.hid hy
  have hone1 := bcells_one x
  have hone2 := bcells_one y
  have hl1 : (bcells x).length = n1 * 1 := by simp [hx]
  have hl2 : (bcells y).length = n2 * 1 := by simp [hy]
  have HL1 := Lib.hid hl1
  have HL2 := Lib.hid hl2
  have hm1 : 0 + n1 ≤ maxLen := by unfold maxLen; omega
  have hm2 : n1 + n2 ≤ maxLen := by unfold maxLen; omega
  clear hx hy hl1 hl2
  go_enter Try.func74, Try.ntmps74
  go_wp2
  go_loop [3, 11] (fun v i => CatRel1 n1 n2 v i) (fun _ i => 2 - (intOf i).toNat)
  case atStart => exact .inl ⟨rfl, rfl⟩
  case round =>
    obtain ⟨rfl, rfl⟩ | ⟨rfl, rfl⟩ | ⟨rfl, rfl⟩ := hrel
    · go_wp2
      go_round
      case rel => exact .inr (.inl ⟨rfl, rfl⟩)
      case measure => simp [intOf]
    · go_wp2
      go_round
      case rel => exact .inr (.inr ⟨rfl, rfl⟩)
      case measure => simp [intOf]
    · go_wp2_with (go_at_call 83; refine (grow_nil (n1 + n2) _ (by omega) _ (by omega)).mono ?_; rintro e w1 ⟨a3, cap3, rfl, ho3, hk3, hat3⟩)
      go_loopw [6, 27] (fun v i wr => CatRel2 w n1 n2 x y v i wr) (fun _ i _ => 2 - (intOf i).toNat)
      case atStart => exact .inl ⟨rfl, a3, cap3, rfl, ho3, hk3, hat3⟩
      case round =>
        clear ho3 hk3 hat3
        obtain ⟨rfl, a5, cap5, rfl, ho, hk, hat⟩ | ⟨rfl, a5, cap5, rfl, ho, hk, hat⟩ | ⟨rfl, a5, cap5, rfl, ho, hk, hat⟩ := hrel
        · have e0 := (hb.kept hk id).cell 0
          go_wp2_with (at_builtin; go_must (refine wpList_onto rfl (.tmp 31) (.tmp 32) 32 rfl 5 i0 _ 1 1 Try.du_bytes hi0 hz0 hz1 hz2 rfl (by decide) a5 0 cap5 (bcells []) rfl ho a1 n1 c1 (bcells x) rfl hc1 HL1.out (hr1.keptNo hk) hone1 hm1 (by omega) ?_; intro a6 cap6 w6 hap))
          go_roundw
          case rel => exact .inr (.inl ⟨rfl, by have := CatSt.next ho hk hat hap; simpa using this⟩)
          case measure => simp [intOf]
        · have e0 := (hb.kept hk id).cell 1
          go_wp2_with (at_builtin; go_must (refine wpList_onto rfl (.tmp 31) (.tmp 32) 32 rfl 5 i0 _ 1 1 Try.du_bytes hi0 hz0 hz1 hz2 rfl (by decide) a5 n1 cap5 (bcells x) rfl ho a2 n2 c2 (bcells y) rfl hc2 HL2.out (hr2.keptNo hk) hone2 hm2 (by omega) ?_; intro a6 cap6 w6 hap))
          go_roundw
          case rel => exact .inr (.inr ⟨rfl, CatSt.next ho hk hat hap⟩)
          case measure => simp [intOf]
        · go_wp2
          go_ret
          exact ⟨a5, cap5, rfl, ho, hk, hat⟩
end
end Go.Proofs.Ytdolddgmemlofaa
