/- NetOnce's plain law: what was sent, doubled, taken. No Go here. -/
import Derived.Test.YtdolddgmemlofaaNetP
namespace Go.PM

/-- How many wires hold just the byte v. -/
def wcnt (L : List PW) (v : UInt8) : Nat := L.countP fun x => x.2.2 == [v]

structure OnceInv (s : PN) (k : Nat) (sent dbl : UInt8 → Bool) (tak : UInt8 → Int) : Prop where
  each : ∀ x ∈ s.l, ∃ v : UInt8, x.2.2 = [v] ∧ v.toNat < k ∧ sent v = true
  once : ∀ v, dbl v = false → tak v + wcnt s.l v ≤ 1
  far : ∀ v : UInt8, k ≤ v.toNat → tak v = 0
  tak0 : ∀ v, 0 ≤ tak v ∧ tak v ≤ k

theorem once_new (room : Int) : OnceInv ⟨room, 0, []⟩ 0 (fun _ => false) (fun _ => false) (fun _ => 0) :=
  ⟨fun x hx => (nomatch hx), fun v _ => by simp [wcnt], fun _ _ => rfl, fun _ => ⟨by simp, by simp⟩⟩

section
variable {s s' : PN} {k : Nat} {sent dbl : UInt8 → Bool} {tak : UInt8 → Int}

theorem OnceInv.less (h : OnceInv s k sent dbl tak) (hsub : ∀ x ∈ s'.l, x ∈ s.l) (hc : ∀ v, wcnt s'.l v ≤ wcnt s.l v) : OnceInv s' (k + 1) sent dbl tak :=
  ⟨fun x hx => let ⟨v, h1, h2, h3⟩ := h.each x (hsub x hx); ⟨v, h1, by omega, h3⟩, fun v hv => by have := h.once v hv; have := hc v; omega,
    fun v hv => h.far v (by omega), fun v => ⟨(h.tak0 v).1, by have := (h.tak0 v).2; omega⟩⟩

theorem OnceInv.same (h : OnceInv s k sent dbl tak) (e : s'.l = s.l) : OnceInv s' (k + 1) sent dbl tak := h.less (by rw [e]; exact fun _ h => h) (by rw [e]; exact fun _ => Nat.le_refl _)

theorem wcnt_zero (h : OnceInv s k sent dbl tak) {v : UInt8} (hv : k ≤ v.toNat) : wcnt s.l v = 0 := by
  unfold wcnt
  rw [List.countP_eq_zero]
  intro x hx e
  obtain ⟨u, h1, h2, _⟩ := h.each x hx
  rw [h1] at e
  have : u = v := by simpa using e
  subst this; omega

theorem OnceInv.send (h : OnceInv s k sent dbl tak) (hk : k < 256) {x : PW} (hx : x.2.2 = [UInt8.ofNat k]) (e : s'.l = s.l ++ [x]) : OnceInv s' (k + 1) (fun j => if j = UInt8.ofNat k then true else sent j) dbl tak := by
  have hkk : (UInt8.ofNat k).toNat = k := by rw [UInt8.toNat_ofNat']; omega
  refine ⟨fun y hy => ?_, fun v hv => ?_, fun v hv => h.far v (by omega), fun v => ⟨(h.tak0 v).1, by have := (h.tak0 v).2; omega⟩⟩
  · rw [e] at hy
    rcases List.mem_append.1 hy with hy | hy
    · obtain ⟨v, h1, h2, h3⟩ := h.each y hy
      refine ⟨v, h1, by omega, ?_⟩
      split
      · rfl
      · exact h3
    · have : y = x := by simpa using hy
      subst this
      exact ⟨_, hx, by omega, by rw [if_pos rfl]⟩
  · have h1 := h.once v hv
    have h2 : wcnt s'.l v = wcnt s.l v + if x.2.2 == [v] then 1 else 0 := by
      unfold wcnt; rw [e, List.countP_append, List.countP_singleton]
    rw [h2]
    split
    · rename_i hb
      rw [hx] at hb
      have hvk : UInt8.ofNat k = v := by simpa using hb
      have h3 := wcnt_zero h (v := v) (by rw [← hvk]; omega)
      have h4 := h.far v (by rw [← hvk]; omega)
      omega
    · omega

theorem wcnt_erase {L : List PW} {i : Nat} {x : PW} (hx : L[i]? = some x) (v : UInt8) : wcnt L v = wcnt (L.eraseIdx i) v + if x.2.2 == [v] then 1 else 0 := by
  unfold wcnt
  have hi : i < L.length := (List.getElem?_eq_some_iff.1 hx).1
  have hL : L = L.take i ++ x :: L.drop (i + 1) := by
    have e : L[i] = x := (List.getElem?_eq_some_iff.1 hx).2
    rw [← e]; simp
  rw [List.eraseIdx_eq_take_drop_succ, List.countP_append]
  conv => lhs; rw [hL]
  rw [List.countP_append, List.countP_cons]
  omega

theorem OnceInv.drop (h : OnceInv s k sent dbl tak) {i : Nat} {x : PW} (hx : s.l[i]? = some x) (e : s'.l = s.l.eraseIdx i) : OnceInv s' (k + 1) sent dbl tak :=
  h.less (fun y hy => by rw [e] at hy; exact List.mem_of_mem_eraseIdx hy) (fun v => by rw [e]; have := wcnt_erase hx v; omega)

theorem OnceInv.late (h : OnceInv s k sent dbl tak) {i : Nat} {x : PW} (hx : s.l[i]? = some x) (e : s'.l = s.l.eraseIdx i ++ [x]) : OnceInv s' (k + 1) sent dbl tak :=
  h.less (fun y hy => by
    rw [e] at hy
    rcases List.mem_append.1 hy with hy | hy
    · exact List.mem_of_mem_eraseIdx hy
    · have : y = x := by simpa using hy
      subst this; exact List.mem_of_getElem? hx) (fun v => by
    have h1 := wcnt_erase hx v
    have h2 : wcnt s'.l v = wcnt (s.l.eraseIdx i) v + if x.2.2 == [v] then 1 else 0 := by
      unfold wcnt; rw [e, List.countP_append, List.countP_singleton]
    omega)

theorem OnceInv.mark (h : OnceInv s k sent dbl tak) (u : UInt8) : OnceInv s k sent (fun j => if j = u then true else dbl j) tak :=
  ⟨h.each, fun v hv => by
    split at hv
    · exact (nomatch hv)
    · exact h.once v hv, h.far, h.tak0⟩

theorem OnceInv.twice (h : OnceInv s k sent dbl tak) {i : Nat} {x : PW} {u : UInt8} (hx : s.l[i]? = some x) (hu : x.2.2 = [u]) (hd : dbl u = true) (e : s'.l = s.l ++ [x]) : OnceInv s' (k + 1) sent dbl tak := by
  refine ⟨fun y hy => ?_, fun v hv => ?_, fun v hv => h.far v (by omega), fun v => ⟨(h.tak0 v).1, by have := (h.tak0 v).2; omega⟩⟩
  · rw [e] at hy
    have hy' : y ∈ s.l := by
      rcases List.mem_append.1 hy with hy | hy
      · exact hy
      · have : y = x := by simpa using hy
        subst this; exact List.mem_of_getElem? hx
    obtain ⟨v, h1, h2, h3⟩ := h.each y hy'
    exact ⟨v, h1, by omega, h3⟩
  · have h1 := h.once v hv
    have h2 : wcnt s'.l v = wcnt s.l v + if x.2.2 == [v] then 1 else 0 := by
      unfold wcnt; rw [e, List.countP_append, List.countP_singleton]
    rw [h2, if_neg]
    · omega
    · rw [hu]
      intro hb
      have : u = v := by simpa using hb
      subst this; rw [hd] at hv; exact (nomatch hv)

/-- What a Take brings was sent, and was not taken before but it was doubled. -/
theorem OnceInv.take (h : OnceInv s k sent dbl tak) {i : Nat} {x : PW} (hx : s.l[i]? = some x) (e : s'.l = s.l.eraseIdx i) :
    ∃ v : UInt8, x.2.2 = [v] ∧ sent v = true ∧ (dbl v = false → tak v = 0) ∧ 0 ≤ tak v ∧ tak v ≤ k ∧ OnceInv s' (k + 1) sent dbl (fun j => if j = v then tak v + 1 else tak j) := by
  obtain ⟨v, h1, h2, h3⟩ := h.each x (List.mem_of_getElem? hx)
  have hw := wcnt_erase hx v
  rw [h1, if_pos (by simp)] at hw
  obtain ⟨t0, t1⟩ := h.tak0 v
  refine ⟨v, h1, h3, fun hd => by have := h.once v hd; omega, t0, t1, ?_, ?_, ?_, ?_⟩
  · intro y hy
    rw [e] at hy
    obtain ⟨u, h4, h5, h6⟩ := h.each y (List.mem_of_mem_eraseIdx hy)
    exact ⟨u, h4, by omega, h6⟩
  · intro u hu
    have h4 := h.once u hu
    have h5 := wcnt_erase hx u
    rw [e]
    split
    · rename_i hb; subst hb; omega
    · omega
  · intro u hu
    rw [if_neg (fun hb => by subst hb; omega)]
    exact h.far u (by omega)
  · intro u
    obtain ⟨a, b⟩ := h.tak0 u
    split
    · omega
    · omega

theorem at_inside {i : Int} (hi : s.inside i) : ∃ (n : Nat) (x : PW), i = n ∧ s.l[n]? = some x ∧ s.at i = (x, 0) := by
  obtain ⟨h0, h1⟩ := hi
  have hn : i.toNat < s.l.length := by omega
  refine ⟨i.toNat, s.l[i.toNat], by omega, by simp [hn], ?_⟩
  unfold PN.at; rw [if_pos ⟨h0, h1⟩]; simp [hn]

theorem at_outside {i : Int} (hi : ¬ s.inside i) : s.at i = ((0, 0, []), 6) := by
  unfold PN.at; rw [if_neg (show ¬ (0 ≤ i ∧ _) from hi)]

/-- What one call does to the law's books. -/
def OnceAft (s : PN) (k : Nat) (sent dbl : UInt8 → Bool) (tak : UInt8 → Int) (a : PAct) : Prop :=
  (a.kind % 6 = 0 ∧ (s.does a).2.1 = 0 ∧ OnceInv (s.does a).2.2 (k + 1) (fun j => if j = UInt8.ofNat k then true else sent j) dbl tak) ∨
  (a.kind % 6 = 1 ∧ (s.does a).2.1 = 0 ∧ ∃ v : UInt8, (s.does a).1.2.2 = [v] ∧ sent v = true ∧ (dbl v = false → tak v = 0) ∧ 0 ≤ tak v ∧ tak v ≤ k ∧ OnceInv (s.does a).2.2 (k + 1) sent dbl (fun j => if j = v then tak v + 1 else tak j)) ∨
  (((s.does a).2.1 ≠ 0 ∨ (a.kind % 6 ≠ 0 ∧ a.kind % 6 ≠ 1)) ∧ OnceInv (s.does a).2.2 (k + 1) sent dbl tak)

theorem once_does (h : OnceInv s k sent dbl tak) (hk : k < 256) (a : PAct) (hb : a.b = [UInt8.ofNat k])
    (hd : a.kind % 6 = 4 → ∀ (n : Nat) (x : PW) (u : UInt8), a.i = n → s.l[n]? = some x → x.2.2 = [u] → dbl u = true) : OnceAft s k sent dbl tak a := by
  have h6 : a.kind % 6 = 0 ∨ a.kind % 6 = 1 ∨ a.kind % 6 = 2 ∨ a.kind % 6 = 3 ∨ a.kind % 6 = 4 ∨ a.kind % 6 = 5 := by omega
  unfold OnceAft
  rcases h6 with e | e | e | e | e | e
  · have hs : s.does a = ((0, 0, []), s.send (a.f, a.t, a.b)) := by unfold PN.does; simp [e]
    rw [hs]
    unfold PN.send
    split
    · split
      · split
        · exact .inl ⟨e, rfl, h.send hk (x := (a.f, a.t, a.b)) hb rfl⟩
        · exact .inr (.inr ⟨.inl (by simp), h.same rfl⟩)
      · exact .inr (.inr ⟨.inl (by simp), h.same rfl⟩)
    · exact .inr (.inr ⟨.inl (by simp), h.same rfl⟩)
  · have hs : s.does a = s.take a.i := by unfold PN.does; simp [e]
    rw [hs]
    unfold PN.take
    by_cases hi : s.inside a.i
    · obtain ⟨n, x, hn, hx, hat⟩ := at_inside hi
      rw [if_pos hi, hat]
      exact .inr (.inl ⟨e, rfl, h.take hx (by simp [PN.without, hn])⟩)
    · rw [if_neg hi]; exact .inr (.inr ⟨.inl (by simp), h.same rfl⟩)
  · have hs : s.does a = ((s.at a.i).1, (s.at a.i).2, s) := by unfold PN.does; simp [e]
    rw [hs]
    exact .inr (.inr ⟨.inr ⟨by omega, by omega⟩, h.same rfl⟩)
  · have hs : s.does a = ((0, 0, []), s.drop a.i) := by unfold PN.does; simp [e]
    rw [hs]
    unfold PN.drop
    by_cases hi : s.inside a.i
    · obtain ⟨n, x, hn, hx, hat⟩ := at_inside hi
      rw [if_pos hi]
      exact .inr (.inr ⟨.inr ⟨by omega, by omega⟩, h.drop hx (by simp [PN.without, hn])⟩)
    · rw [if_neg hi]; exact .inr (.inr ⟨.inl (by simp), h.same rfl⟩)
  · have hs : s.does a = ((0, 0, []), s.twice a.i) := by unfold PN.does; simp [e]
    rw [hs]
    unfold PN.twice
    by_cases hi : s.inside a.i
    · obtain ⟨n, x, hn, hx, hat⟩ := at_inside hi
      obtain ⟨u, hu, _, _⟩ := h.each x (List.mem_of_getElem? hx)
      rw [if_pos hi, hat]
      split
      · exact .inr (.inr ⟨.inr ⟨by omega, by omega⟩, h.twice hx hu (hd e n x u hn hx hu) rfl⟩)
      · exact .inr (.inr ⟨.inl (by simp), h.same rfl⟩)
    · rw [if_neg hi]; exact .inr (.inr ⟨.inl (by simp), h.same rfl⟩)
  · have hs : s.does a = ((0, 0, []), s.late a.i) := by unfold PN.does; simp [e]
    rw [hs]
    unfold PN.late
    by_cases hi : s.inside a.i
    · obtain ⟨n, x, hn, hx, hat⟩ := at_inside hi
      rw [if_pos hi, hat]
      exact .inr (.inr ⟨.inr ⟨by omega, by omega⟩, h.late hx (by simp [PN.without, hn])⟩)
    · rw [if_neg hi]; exact .inr (.inr ⟨.inl (by simp), h.same rfl⟩)
end
end Go.PM
