/- Start. -/
import Derived.Test.YtdolddgmemlofaaDiskF
namespace Go.Proofs.Ytdolddgmemlofaa
open Go.RowKit Go.PM
set_option maxRecDepth 100000

section
variable {w : World} {p : Nat} {s : PD} {a : Option Addr} {cap : Nat} {S : Nat → Prop}

set_option maxHeartbeats 400000 in
theorem start_on (h : DX w p s a cap S) (hon : s.on = true) (keep : Int) (cut : Bool) (tail : List UInt8) (at_ : Option Addr) (ct : Nat) :
    Calls Try.prog 45 #[.pointer (some ⟨p, 0, none⟩), .int .i64 keep, .bool cut, .slice at_ tail.length ct] w (DCode w p S (s.start keep cut tail)) := by
  have c6 := h.box.c6
  rw [hon] at c6
  have HON := Lib.hid hon
  clear hon
  go_enter Try.func45, Try.ntmps45
  go_wp2_with (go_at_call 70; refine (d_made h.box h.ok.room1).mono ?_; rintro e w' ⟨rfl, rfl⟩)
  go_ret
  rw [PD.start_on HON.out]; exact h.sameCode (Kept.refl _ _) 11

set_option maxHeartbeats 400000 in
theorem start_full (h : DX w p s a cap S) (_hlo : s.fr ≤ 4611686018427387904) (hon : s.on = false) (keep : Int) (cut : Bool) (tail : List UInt8) (at_ : Option Addr) (ct : Nat) (hf : s.room - (s.se - s.fr) < tail.length) :
    Calls Try.prog 45 #[.pointer (some ⟨p, 0, none⟩), .int .i64 keep, .bool cut, .slice at_ tail.length ct] w (DCode w p S (s.start keep cut tail)) := by
  have c2 := h.box.c2
  have c4 := h.box.c4
  have c5 := h.box.c5
  have c6 := h.box.c6
  have h0 := h.ok.se0
  have h1 := h.ok.se1
  have hl := h.len
  have hr1 := h.ok.room1
  have hr2 := h.ok.room2
  have hf0 := h.ok.fr0
  have hfin : s.fin = s.fr + (s.b.length : Int) := rfl
  have e1 : IntKind.i64.wrap (s.se - s.fr) = s.se - s.fr := by rw [IntKind.wrap_i64]; omega
  have e2 : IntKind.i64.wrap (s.room - (s.se - s.fr)) = s.room - (s.se - s.fr) := by rw [IntKind.wrap_i64]; omega
  have hf' : decide (s.room - (s.se - s.fr) < (tail.length : Int)) = true := by simpa using hf
  rw [hon] at c6
  have HON := Lib.hid hon
  have HF := Lib.hid hf
  clear hon hf hfin
  go_enter Try.func45, Try.ntmps45
  go_wp2_with (go_at_call 70; refine (d_made h.box h.ok.room1).mono ?_; rintro e w' ⟨rfl, rfl⟩)
  go_quiet (fail)
  go_wp2
  go_ret
  rw [PD.start_full HON.out HF.out]; exact h.sameCode ((Kept.refl _ _).drewN _) 9

/-- What is to stand behind the forced end lies at s3. -/
def TailAt (w : World) (x : List UInt8) (v : Value) (w' : World) : Prop :=
  ∃ a c, v = .slice a x.length c ∧ Rd w' a (bcells x) ∧ (a = none → c = 0) ∧ Kept No w w'

/-- Behind the new bytes' store. -/
def BytesAt (w : World) (p : Nat) (s : PD) (x : List UInt8) (w' : World) : Prop :=
  ∃ a c, DiskB w' p { s with b := x } a c ∧ Owns w' 5 1 a x.length c (bcells x) ∧ Kept (· = p) w w' ∧ ∀ b, At a b → w.heap.size ≤ b

theorem tailAt_part {w w' : World} {s : PD} {pa : Option Addr} {k m j : Nat} {keep : Int} (hP : s.part s.se s.fin = (s.b.drop k).take m) (hL : ((s.b.drop k).take m).length = m) (hr : Rd w' pa (bcells ((s.b.drop k).take m))) (hk : Kept No w w')
    (hn : pa = none → m = 0) (hj : (j : Int) = min (max keep 0) (m : Int)) (tail : List UInt8) (ht : tail.length = 0) : TailAt w (s.tail keep tail) (.slice pa j m) w' := by
  have e : s.tail keep tail = ((s.b.drop k).take m).take j := by
    unfold PD.tail; rw [if_pos ht, hP, hL]; congr 1; omega
  rw [e]
  have hl : (((s.b.drop k).take m).take j).length = j := by rw [List.length_take, hL]; omega
  refine ⟨pa, m, by rw [hl], ?_, hn, hk⟩
  have := hr.take j
  simpa [bcells, List.map_take] using this

theorem bytesAt_mk (hX : DX w p s a cap S) {w6 : World} {B : Nat} {x y X : List UInt8} {m n3 cap6 : Nat} {a6 : Option Addr} (k6 : Kept No w w6) (ho6 : Owns w6 5 1 a6 (m + n3) cap6 (bcells (x ++ y))) (hat6 : ∀ b, At a6 b → B ≤ b) (hB : w.heap.size ≤ B)
    (hxy : X = x ++ y) (hx : x.length = m) (hy : y.length = n3) : BytesAt w p s X (w6.setCell ⟨p, 1, none⟩ (.slice a6 (m + n3) cap6)) := by
  subst hx; subst hy
  have hl : X.length = x.length + y.length := by rw [hxy]; simp
  have hp := hX.lt p hX.sp
  have hk : Kept (· = p) w6 (w6.setCell ⟨p, 1, none⟩ (.slice a6 (x.length + y.length) cap6)) := (Kept.refl (· = p) w6).setCell (a := ⟨p, 1, none⟩) (fun _ => rfl) _
  refine ⟨a6, cap6, ?_, ?_, (Kept.no k6).trans hk (fun _ _ h => h), fun b hb => Nat.le_trans hB (hat6 b hb)⟩
  · have := Blk.set (hX.keptNo k6).box 1 (.slice a6 (x.length + y.length) cap6)
    unfold DiskB
    show Blk _ p _ [_, .slice a6 X.length cap6, _, _, _, _, _, _]
    rw [hl]; exact this
  · rw [hl, hxy]
    exact ho6.kept hk (fun b hb e => by have := hat6 b hb; omega)

theorem BytesAt.half (hX : DX w p s a cap S) {w7 w8 : World} {X : List UInt8} {a7 : Option Addr} {c7 : Nat} (ho : Owns w7 5 1 a7 X.length c7 (bcells X)) (hk : Kept (· = p) w w7) (hat : ∀ b, At a7 b → w.heap.size ≤ b) (hfit : (X.length : Int) ≤ s.room) {B : Int}
    (hb8 : DiskB w8 p { s with b := X, base := B } a7 c7) (hk8 : Kept (· = p) w7 w8) : DH w8 p { s with b := X, base := B } a7 c7 (fun k => S k ∨ At a7 k) ∧ DGrows S (fun k => S k ∨ At a7 k) w w8 := by
  have hp := hX.lt p hX.sp
  have hne : ∀ b, At a7 b → b ≠ p := fun b hb => by have := hat b hb; omega
  exact ⟨⟨hb8, ho.kept hk8 (fun b hb e => hne b hb e), ⟨hX.ok.room1, hX.ok.room2, hfit, hX.ok.fr0, hX.ok.fuse0, hX.ok.fuse1⟩, .inl hX.sp, fun k hk' => ⟨.inr hk', hne k hk'⟩,
    fun k hk' => hk'.elim (fun h => hk8.lt (hk.lt (hX.lt k h))) (fun h => hk8.lt (ho.lt k h))⟩,
    hk.mono (fun b _ e => e ▸ hX.sp) |>.trans hk8 (fun b _ e => e ▸ hX.sp), fun k hk' => hk'.imp id (hat k)⟩

set_option maxHeartbeats 4000000 in
theorem start_ok (h : DX w p s a cap S) (hlo : s.fr ≤ 4611686018427387904) (hon : s.on = false) (keep : Int) (hk0 : -9223372036854775808 ≤ keep) (hk1 : keep ≤ 9223372036854775807) (cut : Bool) (tail : List UInt8) (n : Nat) (hn : tail.length = n) (at_ : Option Addr) (ct : Nat) (hr : Rd w at_ (bcells tail)) (hct : at_ = none → ct = 0)
    (hf : (n : Int) ≤ s.room - (s.se - s.fr)) :
    Calls Try.prog 45 #[.pointer (some ⟨p, 0, none⟩), .int .i64 keep, .bool cut, .slice at_ n ct] w (DCode w p S (s.start keep cut tail)) := by
  have hX := h
  clear h
  have c2 := hX.box.c2
  have c4 := hX.box.c4
  have c5 := hX.box.c5
  have c6 := hX.box.c6
  have h0 := hX.ok.se0
  have h1 := hX.ok.se1
  have hl := hX.len
  have hr1 := hX.ok.room1
  have hr2 := hX.ok.room2
  have hf0 := hX.ok.fr0
  have hfin : s.fin = s.fr + (s.b.length : Int) := rfl
  have e1 : IntKind.i64.wrap (s.se - s.fr) = s.se - s.fr := by rw [IntKind.wrap_i64]; omega
  have e2 : IntKind.i64.wrap (s.room - (s.se - s.fr)) = s.room - (s.se - s.fr) := by rw [IntKind.wrap_i64]; omega
  have hf' : decide (s.room - (s.se - s.fr) < (n : Int)) = false := by simpa using hf
  have htl : n ≤ 65536 := by omega
  have hTL := PD.tail_length hX.ok keep tail
  have hTL2 : (s.tail keep tail).length ≤ 65536 := by omega
  rw [hon] at c6
  have HON := Lib.hid hon
  have HF := Lib.hid hf
  have E1 := Lib.hid e1
  have E2 := Lib.hid e2
  have HN := Lib.hid hn
  clear hon hf hfin hTL hn
  go_enter Try.func45, Try.ntmps45
  go_wp2_with (go_at_call 70; refine (d_made hX.box hX.ok.room1).mono ?_; rintro e w' ⟨rfl, rfl⟩)
  go_quiet (fail)
  clear e1 e2
  go_upto_if 40 with (fail)
  go_cut [3] (fun s3 wx => TailAt w (s.tail keep tail) s3 wx)
  case first =>
    by_cases hn0 : n = 0
    · subst hn0
      obtain ⟨k, m, hk, hm, hkm, hpart, hplen⟩ := part_nat h0 h1 (Int.le_refl _)
      have hrd := hX.own.rd
      have hnil := hX.nil
      have hcle := hX.own.le
      have hmx := hX.own.max
      have hdl := drop_take_length hkm
      have hm2 : s.fr + (s.b.length : Int) = s.fr + (k : Int) + (m : Int) := hm
      have HK := Lib.hid hk
      have HM := Lib.hid hm2
      have HP := Lib.hid hpart
      have HDL := Lib.hid hdl
      clear hk hm hm2 hpart hplen hdl
      have hpn : partAddr a k m = none → m = 0 := fun h => by have := hnil (part_none h); omega
      go_wp2_with fail
      have hkd : Kept No w (w.drewN nq).drew := ((Kept.refl No w).drewN nq).drew
      have c0d := (hX.keptNo hkd).box.c0
      have c1d := (hX.keptNo hkd).box.c1
      have c5d := (hX.keptNo hkd).box.c5
      go_region_held3 (fun w' => w'.cell? ⟨p, 0, none⟩ = some (.int .i64 s.fr) ∧ w'.cell? ⟨p, 1, none⟩ = some (.slice a s.b.length cap) ∧ w'.cell? ⟨p, 5, none⟩ = some (.int .i64 s.se))
        (first | (with_reducible exact ⟨c0d, c1d, c5d⟩) | (with_reducible exact ⟨(hX.keptNo k3).box.c0, (hX.keptNo k3).box.c1, (hX.keptNo k3).box.c5⟩) | (with_reducible exact ⟨(hX.keptNo k2).box.c0, (hX.keptNo k2).box.c1, (hX.keptNo k2).box.c5⟩) | go_keep)
        (first
          | (go_at_call 69; refine (row_end s.fr a s.b.length cap _ hf0 (by omega) (by omega)).mono ?_; rintro e w2 ⟨rfl, hk2⟩; have k2 := hkd.transNo hk2)
          | (go_at_call 73; refine (part_calls s.fr s.se (s.fr + (s.b.length : Int)) a s.b.length cap k m s.b _ (hrd.keptNo k2) hkm (by omega) hcle hmx hf0 hlo HK.out HM.out).mono ?_; rintro e w3 ⟨rfl, hrd3, hk3⟩; have k3 := k2.transNo hk3)
          | fail)
      go_wp2
      all_goals
        go_meet
        exact tailAt_part HP.out HDL.out hrd3 k3 hpn (by omega) tail HN.out
    · have hn1 : ((n : Int) == 0) = false := beq_eq_false_iff_ne.2 (by omega)
      go_wp2
      go_meet
      have e : s.tail keep tail = tail := by unfold PD.tail; rw [if_neg (by rw [HN.out]; exact hn0)]
      rw [e]
      exact ⟨at_, ct, by rw [HN.out], hr.keptNo ((Kept.refl No w).drewN _), hct, (Kept.refl No w).drewN _⟩
  case rest =>
    obtain ⟨a3, c3, rfl, hr3, hn3, hk3⟩ := hcut
    obtain ⟨wt, rfl⟩ : ∃ wt : World, wt = wc := ⟨_, rfl⟩
    obtain ⟨n3, hn3'⟩ : ∃ n3, (s.tail keep tail).length = n3 := ⟨_, rfl⟩
    have HN3 := Lib.hid hn3'
    rw [hn3'] at hTL2
    simp only [hn3']
    clear hn3'
    go_upto_region 10 with (fail)
    go_cut [] (fun wx => BytesAt w p s (s.rest keep tail) wx)
    case first =>
      obtain ⟨k, m, hk, hm, hkm, hpart, hplen⟩ := part_nat (Int.le_refl _) h0 h1
      obtain rfl : k = 0 := by omega
      have hrd := hX.own.rd
      have hnil := hX.nil
      have hcle := hX.own.le
      have hmx := hX.own.max
      have hdl := drop_take_length hkm
      have HM := Lib.hid hm
      have HP := Lib.hid hpart
      have HDL := Lib.hid hdl
      clear hk hm hpart hplen hdl
      have hpn : partAddr a 0 m = none → m = 0 := fun h => by have := hnil (part_none h); omega
      have hkd : Kept No w wt.drew := hk3.drew
      have c0d := (hX.keptNo hkd).box.c0
      have c1d := (hX.keptNo hkd).box.c1
      have c4d := (hX.keptNo hkd).box.c4
      have c5d := (hX.keptNo hkd).box.c5
      go_region_with (first
        | (go_at_call 73; refine (part_calls s.fr s.fr s.se a s.b.length cap 0 m s.b _ (hrd.keptNo hkd) hkm (by omega) hcle hmx hf0 hlo (by omega) HM.out).mono ?_; rintro e w5 ⟨rfl, hrd5, hk5⟩; have k5 := hkd.transNo hk5)
        | (go_at_call 74; refine (concat_calls _ m n3 m c3 (partAddr a 0 m) a3 _ (s.tail keep tail) _ (Blk.new _ _ _) (hrd5.keptNo ((Kept.refl No w5).alloc _)) ((hr3.keptNo ((Kept.refl No wt).drew.transNo hk5)).keptNo ((Kept.refl No w5).alloc _)) HDL.out HN3.out hpn hn3 (by omega) (by omega)).mono ?_; rintro e w6 ⟨a6, cap6, rfl, ho6, hk6, hat6⟩; have k6 := (k5.alloc _).transNo hk6; have hb6 := (hX.keptNo k6).box; have d1 := hb6.c1; have f1 := hb6.frozen 1))
      all_goals
        go_wp2_with fail
        go_meet
        have hB : w.heap.size ≤ (w5.alloc (.cells #[.slice (partAddr a 0 m) m m, .slice a3 n3 c3] 32)).heap.size := by have := k5.size; simp; omega
        exact bytesAt_mk hX k6 ho6 hat6 hB (by unfold PD.rest; rw [HP.out]) HDL.out HN3.out
    case rest =>
      obtain ⟨a7, c7, hb7, ho7, hk7, hat7⟩ := hcut
      obtain ⟨w7, rfl⟩ : ∃ w7 : World, w7 = wc := ⟨_, rfl⟩
      have hfit := (hX.ok.started keep cut tail (by rw [HN.out]; exact HF.out)).fits
      have hfit2 : ((s.rest keep tail).length : Int) ≤ s.room := hfit
      obtain ⟨hin0, hin1⟩ := PD.back_in hX.ok keep cut tail
      have HOK := PD.start_ok (n := keep) (cut := cut) (x := tail) HON.out (by rw [HN.out]; exact HF.out)
      have HBACK : ({ s with b := s.rest keep tail } : PD).back cut = if cut = true ∧ s.base ≤ s.fr + ((s.rest keep tail).length : Int) then s.base else s.fr := rfl
      have hin2 : ({ s with b := s.rest keep tail } : PD).back cut ≤ s.fr + ((s.rest keep tail).length : Int) := hin1
      generalize ({ s with b := s.rest keep tail } : PD).back cut = B at *
      generalize s.rest keep tail = X at *
      have HOK := Lib.hid HOK
      clear hfit hin1
      have d0 := hb7.c0
      have d1 := hb7.c1
      have d3 := hb7.c3
      have d4 := hb7.c4
      have f3 := hb7.frozen 3
      have hbb := hX.ok.base0
      have fin : ∀ (w8 : World), DiskB w8 p { s with b := X, base := B } a7 c7 → Kept (· = p) w7 w8 → Calls Try.prog 71 #[.pointer (some ⟨p, 0, none⟩), .int .i64 B] w8 fun e w9 => e = .returned (.tuple #[]) ∧ ∃ a9 c9 S9, DX w9 p (({ s with b := X, base := B } : PD).settle B) a9 c9 S9 ∧ DGrows S S9 w w9 := by
        intro w8 hb8 hk8
        obtain ⟨h8, hg8⟩ := BytesAt.half hX ho7 hk7 hat7 hfit2 hb8 hk8
        refine (d_settle h8 (by show s.fr ≤ _; omega) B hin0 hin2).mono ?_
        rintro e w9 ⟨S9, rfl, ⟨a9, c9, h9⟩, hg9⟩
        exact ⟨rfl, a9, c9, S9, h9, hg8.trans hg9⟩
      have FIN := Lib.hid fin
      clear fin
      cases cut with
      | false =>
        obtain rfl : B = s.fr := by rw [HBACK]; rfl
        clear HBACK
        go_wp2_with fail
        go_quiet (fail)
        go_wp2_with (go_at_call 71; refine (FIN.out _ (Blk.set (Blk.drewN hb7 nq) 3 (.int .i64 s.fr)) (((Kept.refl (· = p) w7).drewN nq).setCell (a := ⟨p, 3, none⟩) (fun _ => rfl) (.int .i64 s.fr))).mono ?_; rintro e w9 ⟨rfl, a9, c9, S9, h9, hg9⟩; have x6 := h9.box.c6; have y6 := h9.box.frozen 6; have x7 := h9.box.c7; have y7 := h9.box.frozen 7)
        all_goals
          go_ret
          have K9 := ((Kept.refl (· = p) w9).setCell (a := ⟨p, 6, none⟩) (fun _ => rfl) (.bool true)).setCell (a := ⟨p, 7, none⟩) (fun _ => rfl) (.int .i64 (-1))
          rw [HOK.out]
          exact ⟨S9, rfl, ⟨a9, c9, h9.put (Blk.set (Blk.set h9.box 6 (.bool true)) 7 (.int .i64 (-1))) K9 ((h9.ok.off true).fused (by omega) (by omega)) rfl⟩, hg9.trans (DGrows.same (K9.mono fun b _ e => e ▸ h9.sp))⟩
      | true =>
        by_cases hbase : s.base ≤ s.fr + (X.length : Int)
        · obtain rfl : B = s.base := by rw [HBACK, if_pos ⟨rfl, hbase⟩]
          clear HBACK
          have hkd : Kept No w7 w7.drew := (Kept.refl No w7).drew
          have r0 : w7.drew.cell? ⟨p, 0, none⟩ = some (.int .i64 s.fr) := d0
          have r1 : w7.drew.cell? ⟨p, 1, none⟩ = some (.slice a7 X.length c7) := d1
          have r3 : w7.drew.cell? ⟨p, 3, none⟩ = some (.int .i64 s.base) := d3
          have hXl : X.length ≤ 65536 := by omega
          go_wp2_with fail
          go_region_held3 (fun w' => w'.cell? ⟨p, 0, none⟩ = some (.int .i64 s.fr) ∧ w'.cell? ⟨p, 1, none⟩ = some (.slice a7 X.length c7) ∧ w'.cell? ⟨p, 3, none⟩ = some (.int .i64 s.base))
            (first | (with_reducible exact ⟨r0, r1, r3⟩) | (with_reducible exact ⟨q0, q1, q3⟩) | go_keep)
            (first | (go_at_call 69; refine (row_end s.fr a7 X.length c7 _ hf0 (by omega) (by omega)).mono ?_; rintro e w8 ⟨rfl, hk8⟩; have k8 := hkd.transNo hk8; have hb8 := Blk.kept hb7 k8 id; have q0 := DiskB.c0 hb8; have q1 := DiskB.c1 hb8; have q3 := DiskB.c3 hb8; have q4 := DiskB.c4 hb8; have g3 := Blk.frozen hb8 3) | fail)
          go_wp2_with (go_at_call 71; refine (FIN.out w8 hb8 (Kept.no k8)).mono ?_; rintro e w9 ⟨rfl, a9, c9, S9, h9, hg9⟩; have x6 := h9.box.c6; have y6 := h9.box.frozen 6; have x7 := h9.box.c7; have y7 := h9.box.frozen 7)
          go_ret
          have K9 := ((Kept.refl (· = p) w9).setCell (a := ⟨p, 6, none⟩) (fun _ => rfl) (.bool true)).setCell (a := ⟨p, 7, none⟩) (fun _ => rfl) (.int .i64 (-1))
          rw [HOK.out]
          exact ⟨S9, rfl, ⟨a9, c9, h9.put (Blk.set (Blk.set h9.box 6 (.bool true)) 7 (.int .i64 (-1))) K9 ((h9.ok.off true).fused (by omega) (by omega)) rfl⟩, hg9.trans (DGrows.same (K9.mono fun b _ e => e ▸ h9.sp))⟩
        · obtain rfl : B = s.fr := by rw [HBACK, if_neg (fun h => hbase h.2)]
          clear HBACK
          have hkd : Kept No w7 w7.drew := (Kept.refl No w7).drew
          have r0 : w7.drew.cell? ⟨p, 0, none⟩ = some (.int .i64 s.fr) := d0
          have r1 : w7.drew.cell? ⟨p, 1, none⟩ = some (.slice a7 X.length c7) := d1
          have r3 : w7.drew.cell? ⟨p, 3, none⟩ = some (.int .i64 s.base) := d3
          have hXl : X.length ≤ 65536 := by omega
          go_wp2_with fail
          go_region_held3 (fun w' => w'.cell? ⟨p, 0, none⟩ = some (.int .i64 s.fr) ∧ w'.cell? ⟨p, 1, none⟩ = some (.slice a7 X.length c7) ∧ w'.cell? ⟨p, 3, none⟩ = some (.int .i64 s.base))
            (first | (with_reducible exact ⟨r0, r1, r3⟩) | (with_reducible exact ⟨q0, q1, q3⟩) | go_keep)
            (first | (go_at_call 69; refine (row_end s.fr a7 X.length c7 _ hf0 (by omega) (by omega)).mono ?_; rintro e w8 ⟨rfl, hk8⟩; have k8 := hkd.transNo hk8; have hb8 := Blk.kept hb7 k8 id; have q0 := DiskB.c0 hb8; have q1 := DiskB.c1 hb8; have q3 := DiskB.c3 hb8; have q4 := DiskB.c4 hb8; have g3 := Blk.frozen hb8 3) | fail)
          go_wp2_with (go_at_call 71; refine (FIN.out _ (Blk.set hb8 3 (.int .i64 s.fr)) ((Kept.no (S := (· = p)) k8).setCell (a := ⟨p, 3, none⟩) (fun _ => rfl) (.int .i64 s.fr))).mono ?_; rintro e w9 ⟨rfl, a9, c9, S9, h9, hg9⟩; have x6 := h9.box.c6; have y6 := h9.box.frozen 6; have x7 := h9.box.c7; have y7 := h9.box.frozen 7)
          go_ret
          have K9 := ((Kept.refl (· = p) w9).setCell (a := ⟨p, 6, none⟩) (fun _ => rfl) (.bool true)).setCell (a := ⟨p, 7, none⟩) (fun _ => rfl) (.int .i64 (-1))
          rw [HOK.out]
          exact ⟨S9, rfl, ⟨a9, c9, h9.put (Blk.set (Blk.set h9.box 6 (.bool true)) 7 (.int .i64 (-1))) K9 ((h9.ok.off true).fused (by omega) (by omega)) rfl⟩, hg9.trans (DGrows.same (K9.mono fun b _ e => e ▸ h9.sp))⟩

theorem d_start (h : DX w p s a cap S) (hlo : s.fr ≤ 4611686018427387904) (keep : Int) (hk0 : -9223372036854775808 ≤ keep) (hk1 : keep ≤ 9223372036854775807) (cut : Bool) (tail : List UInt8) (at_ : Option Addr) (ct : Nat) (hr : Rd w at_ (bcells tail)) (hct : at_ = none → ct = 0) :
    Calls Try.prog 45 #[.pointer (some ⟨p, 0, none⟩), .int .i64 keep, .bool cut, .slice at_ tail.length ct] w (DCode w p S (s.start keep cut tail)) := by
  cases hon : s.on with
  | true => exact start_on h hon keep cut tail at_ ct
  | false =>
    by_cases hf : (tail.length : Int) ≤ s.room - (s.se - s.fr)
    · exact start_ok h hlo hon keep hk0 hk1 cut tail tail.length rfl at_ ct hr hct hf
    · exact start_full h hlo hon keep cut tail at_ ct (by omega)
end
end Go.Proofs.Ytdolddgmemlofaa
