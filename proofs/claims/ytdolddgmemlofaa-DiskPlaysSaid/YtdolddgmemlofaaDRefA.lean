/- The document's disk, by the pure disk: Left, Cut, Arm, Fail, Force. -/
import Derived.Test.YtdolddgmemlofaaDiskForced
namespace Go.Proofs.Ytdolddgmemlofaa
open Go.RowKit Go.PM
set_option maxRecDepth 100000

def RB (w : World) (q : Nat) (s : PD) (a : Option Addr) (n cap : Nat) : Prop :=
  Blk w q 92 [.int .i64 s.room, .slice a n cap, .int .i64 s.base, .int .i64 s.fr, .int .i64 s.se, .bool (!s.on), .bool (s.fuse != -1), .int .i64 (max s.fuse 0)]

/-- The document's disk at q is s; B are all bytes that ever were; T are its blocks. -/
structure RX (w : World) (q : Nat) (s : PD) (B : List UInt8) (n : Nat) (a : Option Addr) (cap : Nat) (T : Nat → Prop) : Prop where
  box : RB w q s a n cap
  own : Owns w 5 1 a n cap (bcells B)
  ok : s.Ok
  len : B.length = n
  fin : (n : Int) = s.fin
  bytes : B.drop s.fr.toNat = s.b
  tq : T q
  ta : ∀ k, At a k → T k ∧ k ≠ q
  lt : ∀ k, T k → k < w.heap.size
def RS (w : World) (q : Nat) (s : PD) (T : Nat → Prop) : Prop := ∃ B n a cap, RX w q s B n a cap T

section
variable {w w' : World} {q : Nat} {s : PD} {B : List UInt8} {n : Nat} {a : Option Addr} {cap : Nat} {T U : Nat → Prop}
theorem RX.kept (h : RX w q s B n a cap T) (k : Kept U w w') (hd : ∀ b, T b → ¬ U b) : RX w' q s B n a cap T :=
  ⟨Blk.kept h.box k (hd q h.tq), h.own.kept k (fun b hb => hd b (h.ta b hb).1), h.ok, h.len, h.fin, h.bytes, h.tq, h.ta, fun b hb => k.lt (h.lt b hb)⟩
theorem RX.keptNo (h : RX w q s B n a cap T) (k : Kept No w w') : RX w' q s B n a cap T := h.kept k fun _ _ h => h
theorem RS.kept (h : RS w q s T) (k : Kept U w w') (hd : ∀ b, T b → ¬ U b) : RS w' q s T := let ⟨B, n, a, cap, h⟩ := h; ⟨B, n, a, cap, h.kept k hd⟩
theorem RS.keptNo (h : RS w q s T) (k : Kept No w w') : RS w' q s T := h.kept k fun _ _ h => h
theorem RX.nil (h : RX w q s B n a cap T) : a = none → cap = 0 := fun ha => by
  rcases h.own.row with ⟨_, _, hc⟩ | ⟨g, _, h', _⟩
  · exact hc
  · rw [ha] at h'; cases h'
/-- Its struct is written anew; its bytes stay. -/
theorem RX.put (h : RX w q s B n a cap T) {s' : PD} (hb : RB w' q s' a n cap) (hk : Kept (· = q) w w') (ho : s'.Ok) (hf : s'.fin = s.fin) (hd : B.drop s'.fr.toNat = s'.b) : RX w' q s' B n a cap T :=
  ⟨hb, h.own.kept hk (fun b hb' e => (h.ta b hb').2 e), ho, h.len, by rw [hf]; exact h.fin, hd, h.tq, h.ta, fun b hb => hk.lt (h.lt b hb)⟩

def RCode (w : World) (q : Nat) (T : Nat → Prop) (r : Int × PD) (e : Ending) (w' : World) : Prop :=
  ∃ T', e = .returned (.int .i64 r.1) ∧ RS w' q r.2 T' ∧ DGrows T T' w w'
def RTwo (w : World) (q : Nat) (T : Nat → Prop) (r : Int × Int × PD) (e : Ending) (w' : World) : Prop :=
  ∃ T', e = .returned (.tuple #[.int .i64 r.1, .int .i64 r.2.1]) ∧ RS w' q r.2.2 T' ∧ DGrows T T' w w'
def RUnit (w : World) (q : Nat) (T : Nat → Prop) (s : PD) (e : Ending) (w' : World) : Prop :=
  ∃ T', e = .returned (.tuple #[]) ∧ RS w' q s T' ∧ DGrows T T' w w'
theorem RX.sameCode (h : RX w q s B n a cap T) (hk : Kept No w w') (code : Int) : RCode w q T (code, s) (.returned (.int .i64 code)) w' :=
  ⟨T, rfl, ⟨B, n, a, cap, h.keptNo hk⟩, DGrows.same hk.no⟩
theorem RX.putCode (h : RX w q s B n a cap T) {s' : PD} (hb : RB w' q s' a n cap) (hk : Kept (· = q) w w') (ho : s'.Ok) (hf : s'.fin = s.fin) (hd : B.drop s'.fr.toNat = s'.b) (code : Int) : RCode w q T (code, s') (.returned (.int .i64 code)) w' :=
  ⟨T, rfl, ⟨B, n, a, cap, h.put hb hk ho hf hd⟩, DGrows.same (hk.mono fun _ _ e => e ▸ h.tq)⟩

set_option maxHeartbeats 400000 in
theorem r_left (h : RX w q s B n a cap T) (_hlo : s.fr ≤ 4611686018427387904) {L : Int} (hL : s.left = L) :
    Calls Try.prog 52 #[.pointer (some ⟨q, 0, none⟩)] w fun e w' => e = .returned (.int .i64 L) ∧ ∃ k, w' = w.drewN k := by
  have c0 : w.cell? ⟨q, 0, none⟩ = some (.int .i64 s.room) := Blk.cell h.box 0
  have c1 : w.cell? ⟨q, 1, none⟩ = some (.slice a n cap) := Blk.cell h.box 1
  have c3 : w.cell? ⟨q, 3, none⟩ = some (.int .i64 s.fr) := Blk.cell h.box 3
  have hf := h.fin
  have hfin : s.fin = s.fr + (s.b.length : Int) := rfl
  have hf0 := h.ok.fr0
  have hfit := h.ok.fits
  have hr1 := h.ok.room1
  have hr2 := h.ok.room2
  have e1 : IntKind.i64.wrap ((n : Int) - s.fr) = (n : Int) - s.fr := by rw [IntKind.wrap_i64]; omega
  have e2 : IntKind.i64.wrap (s.room - ((n : Int) - s.fr)) = s.room - ((n : Int) - s.fr) := by rw [IntKind.wrap_i64]; omega
  have e3 : s.room - ((n : Int) - s.fr) = L := by rw [← hL]; unfold PD.left; omega
  have E3 := Lib.hid e3
  clear hf hfin hL e3
  go_enter Try.func52, Try.ntmps52
  go_wp2
  go_quiet (fail)
  go_wp2
  go_ret
  exact ⟨by rw [← E3.out]; rfl, _, rfl⟩

set_option maxHeartbeats 400000 in
theorem r_fail (h : RX w q s B n a cap T) :
    Calls Try.prog 79 #[.pointer (some ⟨q, 0, none⟩)] w (RCode w q T s.fail) := by
  have c5 : w.cell? ⟨q, 5, none⟩ = some (.bool (!s.on)) := Blk.cell h.box 5
  have f5 := Blk.frozen h.box 5
  have hk : Kept (· = q) w _ := (Kept.refl (· = q) w).setCell (a := ⟨q, 5, none⟩) (fun _ => rfl) (.bool true)
  cases hon : s.on
  all_goals
    rw [hon] at c5
    have HON := Lib.hid hon
    clear hon
    go_enter Try.func79, Try.ntmps79
    go_wp2
    go_ret
  · rw [PD.fail_off HON.out]; exact h.sameCode (Kept.refl _ _) 11
  · rw [PD.fail_on HON.out]; exact h.putCode (s' := { s with on := false }) (Blk.set h.box 5 _) hk (h.ok.off _) rfl h.bytes 0

set_option maxHeartbeats 400000 in
theorem r_cut (h : RX w q s B n a cap T) (m : Int) :
    Calls Try.prog 76 #[.pointer (some ⟨q, 0, none⟩), .int .i64 m] w (RCode w q T (s.cut m)) := by
  have c1 : w.cell? ⟨q, 1, none⟩ = some (.slice a n cap) := Blk.cell h.box 1
  have c2 : w.cell? ⟨q, 2, none⟩ = some (.int .i64 s.base) := Blk.cell h.box 2
  have c5 : w.cell? ⟨q, 5, none⟩ = some (.bool (!s.on)) := Blk.cell h.box 5
  have f2 := Blk.frozen h.box 2
  have hf := h.fin
  have HF := Lib.hid hf
  clear hf
  cases hon : s.on
  · have HON := Lib.hid hon
    rw [hon] at c5
    clear hon
    go_enter Try.func76, Try.ntmps76
    go_wp2
    go_ret
    rw [PD.cut_off HON.out]; exact h.sameCode (Kept.refl _ _) 10
  · have HON := Lib.hid hon
    rw [hon] at c5
    clear hon
    by_cases hi : s.base ≤ m
    · by_cases hi2 : m ≤ (n : Int)
      · go_enter Try.func76, Try.ntmps76
        go_wp2
        go_ret
        have hin : s.inside m := ⟨hi, by rw [← HF.out]; exact hi2⟩
        have hok := h.ok.cut m
        rw [PD.cut_in HON.out hin] at hok ⊢
        have hk : Kept (· = q) w _ := (Kept.refl (· = q) w).setCell (a := ⟨q, 2, none⟩) (fun _ => rfl) (.int .i64 m)
        exact h.putCode (s' := { s with base := m }) (Blk.set h.box 2 _) hk hok rfl h.bytes 0
      · go_enter Try.func76, Try.ntmps76
        go_wp2
        go_ret
        rw [PD.cut_out HON.out (fun h => absurd h.2 (by rw [← HF.out]; omega))]; exact h.sameCode (Kept.refl _ _) 1
    · go_enter Try.func76, Try.ntmps76
      go_wp2
      go_ret
      rw [PD.cut_out HON.out (fun h => absurd h.1 (by omega))]; exact h.sameCode (Kept.refl _ _) 1

set_option maxHeartbeats 400000 in
theorem r_arm (h : RX w q s B n a cap T) (m : Int) (h1 : m ≤ 9223372036854775807) :
    Calls Try.prog 78 #[.pointer (some ⟨q, 0, none⟩), .int .i64 m] w (RUnit w q T (s.arm m)) := by
  have f6 := Blk.frozen h.box 6
  have f7 := Blk.frozen h.box 7
  have c6 : w.cell? ⟨q, 6, none⟩ = some (.bool (s.fuse != -1)) := Blk.cell h.box 6
  have c7 : w.cell? ⟨q, 7, none⟩ = some (.int .i64 (max s.fuse 0)) := Blk.cell h.box 7
  have hX := h
  have key : ∀ (b : Bool) (v : Int), (max m (-1) != -1) = b → max (max m (-1)) 0 = v → RUnit w q T (s.arm m) (.returned (.tuple #[])) ((w.setCell ⟨q, 6, none⟩ (.bool b)).setCell ⟨q, 7, none⟩ (.int .i64 v)) := by
    rintro b v rfl rfl
    have hk : Kept (· = q) w _ := ((Kept.refl (· = q) w).setCell (a := ⟨q, 6, none⟩) (fun _ => rfl) (.bool (max m (-1) != -1))).setCell (a := ⟨q, 7, none⟩) (fun _ => rfl) (.int .i64 (max (max m (-1)) 0))
    exact ⟨T, rfl, ⟨B, n, a, cap, hX.put (s' := s.arm m) (Blk.set (Blk.set hX.box 6 _) 7 _) hk (hX.ok.arm h1) rfl hX.bytes⟩, DGrows.same (hk.mono fun _ _ e => e ▸ hX.tq)⟩
  clear h
  by_cases hm : 0 ≤ m
  · have K := Lib.hid (key true m (bne_iff_ne.2 (by omega)) (by omega))
    clear key hX
    go_enter Try.func78, Try.ntmps78
    go_wp2
    go_end0
    exact K.out
  · have hmx : max m (-1) = -1 := by omega
    have K := Lib.hid (key false 0 (by rw [hmx]; rfl) (by omega))
    clear key hX hmx
    go_enter Try.func78, Try.ntmps78
    go_wp2
    go_end0
    exact K.out
end
end Go.Proofs.Ytdolddgmemlofaa
