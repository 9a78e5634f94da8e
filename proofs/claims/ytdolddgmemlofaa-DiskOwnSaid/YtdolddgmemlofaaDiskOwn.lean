/- DiskOwn: the walk. -/
import Derived.Test.YtdolddgmemlofaaDiskZ
namespace Go.Proofs.Ytdolddgmemlofaa
open Go.RowKit Go.PM
set_option maxRecDepth 100000

theorem Try.du_ptrs : Try.prog.underlying 105 = some (.slice 70) := by kernel_rfl

section
variable {P : Program} {w : World} {ops : Array Oper} {rest : List Oper} {o : Oper} {a : Act} {Q : Exit → Act → World → Prop}
theorem wpList_onto_go (hw : Region.wanted o (yielded ops a.tmps) = true) (s x : Operand) (t : TypeId)
    (ho : o.op = .call { callee := .builtin .append, args := #[s, x], argTypes := #[t, t] })
    (e : TypeId) (i : TypeInfo) (z : Value) (size bytes : Nat) (ht : P.underlying t = some (.slice e)) (hi : P.info? e = some i) (hz : i.zero = some z)
    (hsize : i.size = size) (hby : i.bytes = bytes) (hzs : z.cells.size = size) (hsz : 0 < size)
    (ad : Option Addr) (n cap : Nat) (xs : List Value) (hs : a.eval s = .slice ad n cap) (hown : Owns w e size ad n cap xs)
    (a2 : Option Addr) (m c : Nat) (news : List Value) (hx : a.eval x = .slice a2 m c) (hc : a2 = none → c = 0) (hl : news.length = m * size) (hnews : Rd w a2 news) (h1 : ∀ u ∈ news, u.oneCell' = true)
    (h63 : n + m ≤ maxLen) (hbytes : (n + m) * bytes ≤ 140737488355328)
    (h : ∀ a' cap' w', Onto w w' e size ad a' (n + m) cap' (xs ++ news) → wpList P ops Q rest (a.put o.dst (.slice a' (n + m) cap')) w') : wpList P ops Q (o :: rest) a w :=
  wpList_go hw fun _ hK => wp_onto s x t ho e i z size bytes ht hi hz hsize hby hzs hsz ad n cap xs hs hown a2 m c news hx hc hl hnews h1 h63 hbytes fun a' c' w' h2 => hK _ _ (h a' c' w' h2)
end

/-- All are bytes. -/
def DByt (xs : List Value) : Prop := ∀ j, j < xs.length → ∃ v : Int, 0 ≤ v ∧ v ≤ 255 ∧ xs[j]? = some (.int .u8 v)
theorem dbyt_bcells (l : List UInt8) : DByt (bcells l) := fun j hj => by
  have hj' : j < l.length := by simpa using hj
  exact ⟨l[j].toNat, by omega, by have := l[j].toNat_lt; omega, bcells_get l j hj'⟩

/-- A slice of bytes of our own, behind w, in no block of S. -/
structure Mine (w : World) (S : Nat → Prop) (a : Option Addr) (n : Nat) (wr : World) : Prop where
  own : ∃ cap xs, Owns wr 5 1 a n cap xs ∧ DByt xs
  far : ∀ b, At a b → w.heap.size ≤ b ∧ ¬ S b

theorem Mine.bump {w wr : World} {S : Nat → Prop} {a : Option Addr} {n k : Nat} (h : Mine w S a n wr) (hk : k < n) :
    ∃ (g : Nat) (v : Int), a = some ⟨g, 0, none⟩ ∧ 0 ≤ v ∧ v ≤ 255 ∧ wr.cell? ⟨g, k, none⟩ = some (.int .u8 v) ∧ wr.frozen? ⟨g, k, none⟩ = false ∧ g < wr.heap.size ∧
      ∀ u : Int, 0 ≤ u → u ≤ 255 → Mine w S a n (wr.setCell ⟨g, k, none⟩ (.int .u8 u)) := by
  obtain ⟨cap, xs, hO, hb⟩ := h.own
  have hlen := hO.len
  obtain ⟨v, v0, v1, hv⟩ := hb k (by omega)
  rcases hO.row with ⟨_, hn, _⟩ | ⟨g, cur, rfl, hbl, hc, ht⟩
  · omega
  · have hle := hO.le
    have hkc : cur[k]? = some (.int .u8 v) := by
      rw [← ht, List.getElem?_take] at hv; split at hv
      · exact hv
      · exact (nomatch hv)
    refine ⟨g, v, rfl, v0, v1, by rw [hbl.cell]; exact hkc, hbl.frozen k, hbl.lt, fun u u0 u1 => ⟨⟨cap, (cur.set k (.int .u8 u)).take (n * 1), ⟨?_, hle, hO.max, .inr ⟨g, _, rfl, hbl.set k _, by rw [List.length_set]; exact hc, rfl⟩⟩, fun j hj => ?_⟩, h.far⟩⟩
    · rw [List.length_take, List.length_set]; omega
    · have hj' : j < n := by rw [List.length_take, List.length_set] at hj; omega
      rw [List.getElem?_take, if_pos (by omega)]
      by_cases hjk : j = k
      · subst hjk
        refine ⟨u, u0, u1, ?_⟩
        rw [List.getElem?_set_self (by omega)]
      · obtain ⟨v', a0, a1, hv'⟩ := hb j (by omega)
        refine ⟨v', a0, a1, ?_⟩
        rw [List.getElem?_set_ne (fun e => hjk e.symm)]
        rw [← ht, List.getElem?_take] at hv'; split at hv'
        · exact hv'
        · exact (nomatch hv')
theorem Mine.kept {w wr w' : World} {S T : Nat → Prop} {a : Option Addr} {n : Nat} (h : Mine w S a n wr) (k : Kept T wr w') (hd : ∀ b, At a b → ¬ T b) : Mine w S a n w' :=
  let ⟨cap, xs, hO, hb⟩ := h.own; ⟨⟨cap, xs, hO.kept k hd, hb⟩, h.far⟩
theorem Mine.keptNo {w wr w' : World} {S : Nat → Prop} {a : Option Addr} {n : Nat} (h : Mine w S a n wr) (k : Kept No wr w') : Mine w S a n w' := h.kept k fun _ _ h => h
theorem Mine.to {w wr wb w' : World} {S S' : Nat → Prop} {a : Option Addr} {n : Nat} (h : Mine w S a n wr) (kb : Kept No wr wb) (hg : DGrows S S' wb w') : Mine w S' a n w' := by
  obtain ⟨cap, xs, hO, hb⟩ := h.own
  refine ⟨⟨cap, xs, (hO.keptNo kb).kept hg.kept (fun b hb => (h.far b hb).2), hb⟩, fun b hb => ⟨(h.far b hb).1, fun hs => ?_⟩⟩
  rcases hg.grow b hs with h' | h'
  · exact (h.far b hb).2 h'
  · have := kb.lt (hO.lt b hb); omega

/-- The disk, all else as it was, and a slice of our own; besides R. -/
structure OSt (w : World) (p : Nat) (s : PD) (S : Nat → Prop) (a : Option Addr) (n : Nat) (R : World → Prop) (wr : World) : Prop where
  disk : DS wr p s S
  new : DNew w S
  kept : Kept No w wr
  mine : Mine w S a n wr
  more : R wr
def OwnRel (w : World) (p : Nat) (s : PD) (S : Nat → Prop) (a : Option Addr) (n : Nat) (R : World → Prop) (i : Value) (wr : World) : Prop :=
  ∃ k : Nat, k ≤ n ∧ i = .int .i64 k ∧ OSt w p s S a n R wr

theorem OSt.bump {w wr : World} {p : Nat} {s : PD} {S : Nat → Prop} {a : Option Addr} {n k : Nat} {R : World → Prop} (h : OSt w p s S a n R wr) (hk : k < n) (hR : ∀ (wr : World) (g k : Nat) (u : Value), At a g → R wr → R (wr.setCell ⟨g, k, none⟩ u)) :
    ∃ (g : Nat) (v : Int), a = some ⟨g, 0, none⟩ ∧ 0 ≤ v ∧ v ≤ 255 ∧ wr.cell? ⟨g, k, none⟩ = some (.int .u8 v) ∧ wr.frozen? ⟨g, k, none⟩ = false ∧ g < wr.heap.size ∧
      ∀ u : Int, 0 ≤ u → u ≤ 255 → OSt w p s S a n R (wr.setCell ⟨g, k, none⟩ (.int .u8 u)) := by
  obtain ⟨g, v, rfl, h0, h1, h2, h3, h4, h5⟩ := h.mine.bump hk
  obtain ⟨n1, n2⟩ := h.mine.far g ⟨g, 0, rfl, rfl⟩
  refine ⟨g, v, rfl, h0, h1, h2, h3, h4, fun u u0 u1 => ?_⟩
  exact ⟨h.disk.kept (Kept.setCell (S := (· = g)) (Kept.refl _ wr) (a := ⟨g, k, none⟩) (fun _ => rfl) _) (fun b hb e => n2 (e ▸ hb)), h.new,
    h.kept.setCell (a := ⟨g, k, none⟩) (fun h => by simp at h; omega) _, h5 u u0 u1, hR wr g k _ ⟨g, 0, rfl, rfl⟩ h.more⟩

/-- The law's disk, at each step. -/
def ownSt (l : List UInt8) (se : Int) (on : Bool) : PD := ⟨0, l, 65536, 0, se, on, -1⟩

theorem own_steps (l1 l2 : List UInt8) (h : l1.length + l2.length ≤ 32768) :
    (ownSt [] 0 true).append l1 = (0, 0, ownSt l1 0 true) ∧ (ownSt l1 0 true).force = (0, ownSt l1 l1.length true) ∧ (ownSt l1 l1.length true).fail = (0, ownSt l1 l1.length false) ∧
    (ownSt l1 l1.length false).start 0 true l2 = (0, ownSt (l1 ++ l2) (l1.length + l2.length) true) ∧ (ownSt (l1 ++ l2) (l1.length + l2.length) true).read = (l1 ++ l2, 0) := by
  have pall : ∀ (l : List UInt8) (se : Int) (on : Bool), (ownSt l se on).part 0 (ownSt l se on).fin = l := fun l se on => by
    simp [ownSt, PD.part, PD.fin]
  refine ⟨?_, ?_, ?_, ?_, ?_⟩
  · rw [PD.append_ok rfl (by simp [ownSt, PD.left]; omega)]; simp [ownSt, PD.fin]
  · rw [PD.force_none rfl rfl]
    show (0, PD.settle (ownSt l1 0 true) 0) = _
    unfold PD.settle
    rw [pall]; simp [ownSt, PD.fin]
  · rw [PD.fail_on rfl]; rfl
  · have hrest : (ownSt l1 l1.length false).rest 0 l2 = l1 ++ l2 := by
      have e1 : (ownSt l1 l1.length false).part (ownSt l1 l1.length false).fr (ownSt l1 l1.length false).se = l1 := by simp [ownSt, PD.part]
      have e2 : (ownSt l1 l1.length false).tail 0 l2 = l2 := by
        unfold PD.tail
        split
        · rename_i h0
          have : l2 = [] := List.eq_nil_of_length_eq_zero h0
          rw [this]; simp; left; omega
        · rfl
      unfold PD.rest; rw [e1, e2]
    have hback : ({ ownSt l1 l1.length false with b := l1 ++ l2 } : PD).back true = 0 := by
      unfold PD.back; simp [ownSt, PD.fin]
    rw [PD.start_ok rfl (by simp [ownSt]; omega), hrest, hback]
    have e3 : (({ ownSt l1 l1.length false with b := l1 ++ l2, base := 0 } : PD).part 0 ({ ownSt l1 l1.length false with b := l1 ++ l2, base := 0 } : PD).fin) = l1 ++ l2 := pall (l1 ++ l2) _ _
    unfold PD.settle
    rw [e3]; simp [ownSt, PD.fin]
  · rw [PD.read_on rfl]
    show ((ownSt (l1 ++ l2) _ true).part 0 (ownSt (l1 ++ l2) _ true).fin, (0 : Int)) = _
    rw [pall]

theorem onto_nil' {w w1 : World} {a' : Option Addr} {n cap' : Nat} {ys : List Value} (hap : Onto w w1 5 1 none a' (0 + n) cap' ([] ++ ys)) : Owns w1 5 1 a' n cap' ys ∧ Kept No w w1 ∧ ∀ b, At a' b → w.heap.size ≤ b := by
  rw [Nat.zero_add, List.nil_append] at hap
  exact ⟨hap.own, hap.kept.mono fun _ _ ⟨_, _, h, _⟩ => (nomatch h), fun b hb => (hap.at_ b hb).elim (fun ⟨_, _, h, _⟩ => nomatch h) id⟩
theorem Owns.nilcap {w : World} {T : TypeId} {s : Nat} {a : Option Addr} {n cap : Nat} {xs : List Value} (h : Owns w T s a n cap xs) : a = none → cap = 0 := fun ha => by
  rcases h.row with ⟨_, _, hc⟩ | ⟨g, _, h', _⟩
  · exact hc
  · rw [ha] at h'; cases h'
theorem own_to {wr w' : World} {S S' : Nat → Prop} {a : Option Addr} {n cap : Nat} {xs : List Value} (ho : Owns wr 5 1 a n cap xs) (hf : ∀ b, At a b → ¬ S b) (hg : DGrows S S' wr w') : Owns w' 5 1 a n cap xs ∧ ∀ b, At a b → ¬ S' b :=
  ⟨ho.kept hg.kept hf, fun b hb hs => (hg.grow b hs).elim (hf b hb) (fun h' => by have := ho.lt b hb; omega)⟩
theorem d_start_eq {w : World} {p : Nat} {s : PD} {a : Option Addr} {cap : Nat} {S : Nat → Prop} (h : DX w p s a cap S) (hlo : s.fr ≤ 4611686018427387904) (keep : Int) (hk0 : -9223372036854775808 ≤ keep) (hk1 : keep ≤ 9223372036854775807) (cut : Bool) (tail : List UInt8) (at_ : Option Addr) (ct : Nat) (hr : Rd w at_ (bcells tail)) (hct : at_ = none → ct = 0) {g : Int} {t : PD} (e : s.start keep cut tail = (g, t)) :
    Calls Try.prog 45 #[.pointer (some ⟨p, 0, none⟩), .int .i64 keep, .bool cut, .slice at_ tail.length ct] w (DCode w p S (g, t)) := by
  rw [← e]; exact d_start h hlo keep hk0 hk1 cut tail at_ ct hr hct

def ZRel (w : World) (zb sb : Nat) (i : Value) (wr : World) : Prop :=
  ∃ k : Nat, k ≤ 2 ∧ i = .int .i64 k ∧ Kept No w wr ∧ DiskZ wr zb ∧ Blk wr sb 70 [.pointer none, .pointer (some ⟨zb, 0, none⟩)]
end Go.Proofs.Ytdolddgmemlofaa
