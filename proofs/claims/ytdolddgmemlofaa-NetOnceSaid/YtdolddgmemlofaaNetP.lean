/- The pure network: what each call makes of wires. No Go here. -/
namespace Go.PM

abbrev PW := Int × Int × List UInt8

/-- A network: its room, how many were lost, its wires. -/
structure PN where
  room : Int
  lost : Int
  l : List PW

/-- One more lost. -/
def lmore (n : Int) : Int := if n < 2147483647 then n + 1 else n

def PN.at (s : PN) (i : Int) : PW × Int := if 0 ≤ i ∧ i < s.l.length then (s.l[i.toNat]?.getD (0, 0, []), 0) else ((0, 0, []), 6)
def PN.inside (s : PN) (i : Int) : Prop := 0 ≤ i ∧ i < s.l.length
instance (s : PN) (i : Int) : Decidable (s.inside i) := by unfold PN.inside; infer_instance
def PN.without (s : PN) (i : Int) : PN := { s with l := s.l.eraseIdx i.toNat }
def PN.take (s : PN) (i : Int) : PW × Int × PN := if s.inside i then ((s.at i).1, 0, s.without i) else ((0, 0, []), 6, s)
def PN.drop (s : PN) (i : Int) : Int × PN := if s.inside i then (0, { s.without i with lost := lmore s.lost }) else (6, s)
def PN.twice (s : PN) (i : Int) : Int × PN := if s.inside i then (if (s.l.length : Int) < s.room then (0, { s with l := s.l ++ [(s.at i).1] }) else (9, s)) else (6, s)
def PN.late (s : PN) (i : Int) : Int × PN := if s.inside i then (0, { s with l := (s.without i).l ++ [(s.at i).1] }) else (6, s)
def PN.send (s : PN) (x : PW) : Int × PN :=
  if max x.1 x.2.1 < 8 then
    if x.2.2.length ≤ 4096 then
      if (s.l.length : Int) < s.room then (0, { s with l := s.l ++ [x] }) else (9, { s with lost := lmore s.lost })
    else (5, s)
  else (1, s)

structure PAct where
  kind : Int
  f : Int
  t : Int
  i : Int
  b : List UInt8

/-- What a call answers, and the network behind it. -/
def PN.does (s : PN) (a : PAct) : PW × Int × PN :=
  if a.kind % 6 = 1 then s.take a.i
  else if a.kind % 6 = 2 then ((s.at a.i).1, (s.at a.i).2, s)
  else if a.kind % 6 = 3 then ((0, 0, []), s.drop a.i)
  else if a.kind % 6 = 4 then ((0, 0, []), s.twice a.i)
  else if a.kind % 6 = 5 then ((0, 0, []), s.late a.i)
  else ((0, 0, []), s.send (a.f, a.t, a.b))
end Go.PM
