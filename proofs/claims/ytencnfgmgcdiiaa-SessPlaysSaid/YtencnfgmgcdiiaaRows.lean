/-
  No cell of these rows narrows 'for every input' (looked for: loops, veiled, ifaces, maps, wideKeys, modest, calm, conditions, laid).
  DERIVED. THE GIVEN ROWS OF THIS SEAT. 11 by the template 'for every input the law returns true; each argument reads behind the call as it read before'; 0 by the template 'total and deterministic' (their statements: YtencnfgmgcdiiaaTotals.lean).
  GIVEN WITH THE SEED: the statements are not yours to turn. If you find one false, say at which input.
  Laid BY PROGRAM, IN A SANDBOX (cutbox-rows.mjs): the forced cells as the released guide's own fill.sh prints them over the translation 2d336feece2a6ebd… (all of the seat's roots in one cut). By AI agents, Wed Nov 11 2026. No macro, syntax, notation, axiom, sorry.
-/
import Derived.Test.YtencnfgmgcdiiaaChecked
import GoSem.Claim
import GoSem.ClaimJoined
import GoSem.ClaimMapViews
import Derived.JoinedTies
import Derived.KernelRfl
namespace Go.Proofs.Ytencnfgmgcdiiaa
/- THE CELL 'sum', in the pinned program and in every row, IS THE sha256 OF THE DUMP (.gsa) THAT YtencnfgmgcdiiaaProg.lean LOADS. Nothing in Lean hashes anything: it is a label: what it is worth is what the hold of that sum in a sandbox is worth. -/
noncomputable def Try.pinned : Pinned := { name := "ytencnfgmgcdiiaa", sum := "2d336feece2a6ebddfdad1d55233c20ac1dcf0cf9e0aa32c407eb256887e4ecf", checked := Try.checked }
namespace Rows
def none {H : Type} : Left H := { results := [], args := [] }

/-- 'parrellaw22.SessOnce': WHATEVER THE INPUT: true; the input reads as it did. -/
def sessOnceSpec : ChangeSpec := { name := "sessOnce", fn := fun _ => fun
  | [d] => { results := [.lit (.bool true)], args := [d] }
  | _ => none }
def sessOnceRow : OpenClaim := { program := "ytencnfgmgcdiiaa", sum := "2d336feece2a6ebddfdad1d55233c20ac1dcf0cf9e0aa32c407eb256887e4ecf", func := "parrel/parrellaw22.SessOnce", spec := "sessOnce", unfollowed := true, recurses := true, plainKeys := false, apart := false }
def SessOnceSaid : Prop := sessOnceRow.holds Try.pinned (OpenSpec.ofChange sessOnceSpec)

/-- ITS FALSE NEIGHBOUR: 'it returns false'. Refute it at one input. -/
def sessOnceWrong : ChangeSpec := { name := "sessOnce", fn := fun _ => fun
  | [d] => { results := [.lit (.bool false)], args := [d] }
  | _ => none }
def SessOnceWrongFalsely : Prop := sessOnceRow.holds Try.pinned (OpenSpec.ofChange sessOnceWrong)

/-- 'parrellaw29.AvailLosses': WHATEVER THE INPUT: true; the input reads as it did. -/
def availLossesSpec : ChangeSpec := { name := "availLosses", fn := fun _ => fun
  | [d] => { results := [.lit (.bool true)], args := [d] }
  | _ => none }
def availLossesRow : OpenClaim := { program := "ytencnfgmgcdiiaa", sum := "2d336feece2a6ebddfdad1d55233c20ac1dcf0cf9e0aa32c407eb256887e4ecf", func := "parrel/parrellaw29.AvailLosses", spec := "availLosses", unfollowed := true, recurses := true, plainKeys := false, apart := false }
def AvailLossesSaid : Prop := availLossesRow.holds Try.pinned (OpenSpec.ofChange availLossesSpec)

/-- ITS FALSE NEIGHBOUR: 'it returns false'. Refute it at one input. -/
def availLossesWrong : ChangeSpec := { name := "availLosses", fn := fun _ => fun
  | [d] => { results := [.lit (.bool false)], args := [d] }
  | _ => none }
def AvailLossesWrongFalsely : Prop := availLossesRow.holds Try.pinned (OpenSpec.ofChange availLossesWrong)

/-- 'parrellaw29.AvailEnds': WHATEVER THE INPUT: true; the input reads as it did. -/
def availEndsSpec : ChangeSpec := { name := "availEnds", fn := fun _ => fun
  | [d] => { results := [.lit (.bool true)], args := [d] }
  | _ => none }
def availEndsRow : OpenClaim := { program := "ytencnfgmgcdiiaa", sum := "2d336feece2a6ebddfdad1d55233c20ac1dcf0cf9e0aa32c407eb256887e4ecf", func := "parrel/parrellaw29.AvailEnds", spec := "availEnds", unfollowed := true, recurses := true, plainKeys := false, apart := false }
def AvailEndsSaid : Prop := availEndsRow.holds Try.pinned (OpenSpec.ofChange availEndsSpec)

/-- ITS FALSE NEIGHBOUR: 'it returns false'. Refute it at one input. -/
def availEndsWrong : ChangeSpec := { name := "availEnds", fn := fun _ => fun
  | [d] => { results := [.lit (.bool false)], args := [d] }
  | _ => none }
def AvailEndsWrongFalsely : Prop := availEndsRow.holds Try.pinned (OpenSpec.ofChange availEndsWrong)

/-- 'parrellaw29.AvailRise': WHATEVER THE INPUT: true; the input reads as it did. -/
def availRiseSpec : ChangeSpec := { name := "availRise", fn := fun _ => fun
  | [d1, d2, d3] => { results := [.lit (.bool true)], args := [d1, d2, d3] }
  | _ => none }
def availRiseRow : OpenClaim := { program := "ytencnfgmgcdiiaa", sum := "2d336feece2a6ebddfdad1d55233c20ac1dcf0cf9e0aa32c407eb256887e4ecf", func := "parrel/parrellaw29.AvailRise", spec := "availRise", unfollowed := true, recurses := true, plainKeys := false, apart := false }
def AvailRiseSaid : Prop := availRiseRow.holds Try.pinned (OpenSpec.ofChange availRiseSpec)

/-- ITS FALSE NEIGHBOUR: 'it returns false'. Refute it at one input. -/
def availRiseWrong : ChangeSpec := { name := "availRise", fn := fun _ => fun
  | [d1, d2, d3] => { results := [.lit (.bool false)], args := [d1, d2, d3] }
  | _ => none }
def AvailRiseWrongFalsely : Prop := availRiseRow.holds Try.pinned (OpenSpec.ofChange availRiseWrong)

/-- 'parrellaw22.SessPlays': WHATEVER THE INPUT: true; the input reads as it did. -/
def sessPlaysSpec : ChangeSpec := { name := "sessPlays", fn := fun _ => fun
  | [d] => { results := [.lit (.bool true)], args := [d] }
  | _ => none }
def sessPlaysRow : OpenClaim := { program := "ytencnfgmgcdiiaa", sum := "2d336feece2a6ebddfdad1d55233c20ac1dcf0cf9e0aa32c407eb256887e4ecf", func := "parrel/parrellaw22.SessPlays", spec := "sessPlays", unfollowed := true, recurses := true, plainKeys := false, apart := false }
def SessPlaysSaid : Prop := sessPlaysRow.holds Try.pinned (OpenSpec.ofChange sessPlaysSpec)

/-- ITS FALSE NEIGHBOUR: 'it returns false'. Refute it at one input. -/
def sessPlaysWrong : ChangeSpec := { name := "sessPlays", fn := fun _ => fun
  | [d] => { results := [.lit (.bool false)], args := [d] }
  | _ => none }
def SessPlaysWrongFalsely : Prop := sessPlaysRow.holds Try.pinned (OpenSpec.ofChange sessPlaysWrong)

/-- 'parrellaw22.SessApart': WHATEVER THE INPUT: true; the input reads as it did. -/
def sessApartSpec : ChangeSpec := { name := "sessApart", fn := fun _ => fun
  | [d1, d2] => { results := [.lit (.bool true)], args := [d1, d2] }
  | _ => none }
def sessApartRow : OpenClaim := { program := "ytencnfgmgcdiiaa", sum := "2d336feece2a6ebddfdad1d55233c20ac1dcf0cf9e0aa32c407eb256887e4ecf", func := "parrel/parrellaw22.SessApart", spec := "sessApart", unfollowed := true, recurses := true, plainKeys := false, apart := false }
def SessApartSaid : Prop := sessApartRow.holds Try.pinned (OpenSpec.ofChange sessApartSpec)

/-- ITS FALSE NEIGHBOUR: 'it returns false'. Refute it at one input. -/
def sessApartWrong : ChangeSpec := { name := "sessApart", fn := fun _ => fun
  | [d1, d2] => { results := [.lit (.bool false)], args := [d1, d2] }
  | _ => none }
def SessApartWrongFalsely : Prop := sessApartRow.holds Try.pinned (OpenSpec.ofChange sessApartWrong)

/-- 'parrellaw22.SessNobody': WHATEVER THE INPUT: true; the input reads as it did. -/
def sessNobodySpec : ChangeSpec := { name := "sessNobody", fn := fun _ => fun
  | [d1, d2] => { results := [.lit (.bool true)], args := [d1, d2] }
  | _ => none }
def sessNobodyRow : OpenClaim := { program := "ytencnfgmgcdiiaa", sum := "2d336feece2a6ebddfdad1d55233c20ac1dcf0cf9e0aa32c407eb256887e4ecf", func := "parrel/parrellaw22.SessNobody", spec := "sessNobody", unfollowed := true, recurses := true, plainKeys := false, apart := false }
def SessNobodySaid : Prop := sessNobodyRow.holds Try.pinned (OpenSpec.ofChange sessNobodySpec)

/-- ITS FALSE NEIGHBOUR: 'it returns false'. Refute it at one input. -/
def sessNobodyWrong : ChangeSpec := { name := "sessNobody", fn := fun _ => fun
  | [d1, d2] => { results := [.lit (.bool false)], args := [d1, d2] }
  | _ => none }
def SessNobodyWrongFalsely : Prop := sessNobodyRow.holds Try.pinned (OpenSpec.ofChange sessNobodyWrong)

/-- 'parrellaw29.AvailCounts': WHATEVER THE INPUT: true; the input reads as it did. -/
def availCountsSpec : ChangeSpec := { name := "availCounts", fn := fun _ => fun
  | [d1, d2] => { results := [.lit (.bool true)], args := [d1, d2] }
  | _ => none }
def availCountsRow : OpenClaim := { program := "ytencnfgmgcdiiaa", sum := "2d336feece2a6ebddfdad1d55233c20ac1dcf0cf9e0aa32c407eb256887e4ecf", func := "parrel/parrellaw29.AvailCounts", spec := "availCounts", unfollowed := true, recurses := true, plainKeys := false, apart := false }
def AvailCountsSaid : Prop := availCountsRow.holds Try.pinned (OpenSpec.ofChange availCountsSpec)

/-- ITS FALSE NEIGHBOUR: 'it returns false'. Refute it at one input. -/
def availCountsWrong : ChangeSpec := { name := "availCounts", fn := fun _ => fun
  | [d1, d2] => { results := [.lit (.bool false)], args := [d1, d2] }
  | _ => none }
def AvailCountsWrongFalsely : Prop := availCountsRow.holds Try.pinned (OpenSpec.ofChange availCountsWrong)

/-- 'parrellaw29.AvailAll': WHATEVER THE INPUT: true; the input reads as it did. -/
def availAllSpec : ChangeSpec := { name := "availAll", fn := fun _ => fun
  | [d1, d2] => { results := [.lit (.bool true)], args := [d1, d2] }
  | _ => none }
def availAllRow : OpenClaim := { program := "ytencnfgmgcdiiaa", sum := "2d336feece2a6ebddfdad1d55233c20ac1dcf0cf9e0aa32c407eb256887e4ecf", func := "parrel/parrellaw29.AvailAll", spec := "availAll", unfollowed := true, recurses := true, plainKeys := false, apart := false }
def AvailAllSaid : Prop := availAllRow.holds Try.pinned (OpenSpec.ofChange availAllSpec)

/-- ITS FALSE NEIGHBOUR: 'it returns false'. Refute it at one input. -/
def availAllWrong : ChangeSpec := { name := "availAll", fn := fun _ => fun
  | [d1, d2] => { results := [.lit (.bool false)], args := [d1, d2] }
  | _ => none }
def AvailAllWrongFalsely : Prop := availAllRow.holds Try.pinned (OpenSpec.ofChange availAllWrong)

/-- 'parrellaw29.AvailBest': WHATEVER THE INPUT: true; the input reads as it did. -/
def availBestSpec : ChangeSpec := { name := "availBest", fn := fun _ => fun
  | [d1, d2, d3] => { results := [.lit (.bool true)], args := [d1, d2, d3] }
  | _ => none }
def availBestRow : OpenClaim := { program := "ytencnfgmgcdiiaa", sum := "2d336feece2a6ebddfdad1d55233c20ac1dcf0cf9e0aa32c407eb256887e4ecf", func := "parrel/parrellaw29.AvailBest", spec := "availBest", unfollowed := true, recurses := true, plainKeys := false, apart := false }
def AvailBestSaid : Prop := availBestRow.holds Try.pinned (OpenSpec.ofChange availBestSpec)

/-- ITS FALSE NEIGHBOUR: 'it returns false'. Refute it at one input. -/
def availBestWrong : ChangeSpec := { name := "availBest", fn := fun _ => fun
  | [d1, d2, d3] => { results := [.lit (.bool false)], args := [d1, d2, d3] }
  | _ => none }
def AvailBestWrongFalsely : Prop := availBestRow.holds Try.pinned (OpenSpec.ofChange availBestWrong)

/-- 'parrellaw29.AvailMost': WHATEVER THE INPUT: true; the input reads as it did. -/
def availMostSpec : ChangeSpec := { name := "availMost", fn := fun _ => fun
  | [d1, d2, d3] => { results := [.lit (.bool true)], args := [d1, d2, d3] }
  | _ => none }
def availMostRow : OpenClaim := { program := "ytencnfgmgcdiiaa", sum := "2d336feece2a6ebddfdad1d55233c20ac1dcf0cf9e0aa32c407eb256887e4ecf", func := "parrel/parrellaw29.AvailMost", spec := "availMost", unfollowed := true, recurses := true, plainKeys := false, apart := false }
def AvailMostSaid : Prop := availMostRow.holds Try.pinned (OpenSpec.ofChange availMostSpec)

/-- ITS FALSE NEIGHBOUR: 'it returns false'. Refute it at one input. -/
def availMostWrong : ChangeSpec := { name := "availMost", fn := fun _ => fun
  | [d1, d2, d3] => { results := [.lit (.bool false)], args := [d1, d2, d3] }
  | _ => none }
def AvailMostWrongFalsely : Prop := availMostRow.holds Try.pinned (OpenSpec.ofChange availMostWrong)

/- THE SECOND FORM. 'bulk': how many values and letters a reading holds, each counted each time it is reached (what is shared counts as often as it is met; a slice's spare places count too). A statement '..UptoSaid' is the law's where the arguments, and the package variables that the reading takes, are together of bulk at most 1048576: NARROWER than '..Said'. Prove '..Said' where nothing that the law and all that it calls make is longer than what came in: it says more and counts as full. Else prove '..UptoSaid'. A law counts once. -/
mutual
def uptoBulk {H : Type} : DataW H → Nat
  | .lit (.string bytes) => bytes.length + 1
  | .lit _ => 1
  | .nil => 1
  | .ptr d => uptoBulk d + 1
  | .slice elems spare => uptoBulkAll elems + uptoBulkAll spare + 1
  | .agg parts => uptoBulkAll parts + 1
  | .iface _ d => uptoBulk d + 1
  | .map entries => uptoBulkEntries entries + 1
  | .held _ => 1
def uptoBulkAll {H : Type} : List (DataW H) → Nat
  | [] => 0
  | d :: r => uptoBulk d + uptoBulkAll r
def uptoBulkEntries {H : Type} : List (Lit × DataW H) → Nat
  | [] => 0
  | x :: r => uptoBulkEntry x + uptoBulkEntries r
def uptoBulkEntry {H : Type} : Lit × DataW H → Nat
  | (.string bytes, d) => bytes.length + uptoBulk d + 1
  | (_, d) => uptoBulk d + 1
 end
def uptoSmall : (H : Type) → List (DataW H) → Bool := fun _ ds => decide (uptoBulkAll ds ≤ 1048576)
def OpenSpec.upto (s : _root_.Go.ChangeSpec) : _root_.Go.OpenSpec := { _root_.Go.OpenSpec.ofChange s with cond := some uptoSmall }

/-- 'parrellaw22.SessOnce', WHERE WHAT IT READS IS OF BULK AT MOST 1048576: true; the input reads as it did. -/
def sessOnceUptoRow : OpenClaim := { program := "ytencnfgmgcdiiaa", sum := "2d336feece2a6ebddfdad1d55233c20ac1dcf0cf9e0aa32c407eb256887e4ecf", func := "parrel/parrellaw22.SessOnce", spec := "sessOnce", unfollowed := true, recurses := true, plainKeys := false, apart := false, narrowed := true }
def SessOnceUptoSaid : Prop := sessOnceUptoRow.holds Try.pinned (OpenSpec.upto sessOnceSpec)

/-- 'parrellaw29.AvailLosses', WHERE WHAT IT READS IS OF BULK AT MOST 1048576: true; the input reads as it did. -/
def availLossesUptoRow : OpenClaim := { program := "ytencnfgmgcdiiaa", sum := "2d336feece2a6ebddfdad1d55233c20ac1dcf0cf9e0aa32c407eb256887e4ecf", func := "parrel/parrellaw29.AvailLosses", spec := "availLosses", unfollowed := true, recurses := true, plainKeys := false, apart := false, narrowed := true }
def AvailLossesUptoSaid : Prop := availLossesUptoRow.holds Try.pinned (OpenSpec.upto availLossesSpec)

/-- 'parrellaw29.AvailEnds', WHERE WHAT IT READS IS OF BULK AT MOST 1048576: true; the input reads as it did. -/
def availEndsUptoRow : OpenClaim := { program := "ytencnfgmgcdiiaa", sum := "2d336feece2a6ebddfdad1d55233c20ac1dcf0cf9e0aa32c407eb256887e4ecf", func := "parrel/parrellaw29.AvailEnds", spec := "availEnds", unfollowed := true, recurses := true, plainKeys := false, apart := false, narrowed := true }
def AvailEndsUptoSaid : Prop := availEndsUptoRow.holds Try.pinned (OpenSpec.upto availEndsSpec)

/-- 'parrellaw29.AvailRise', WHERE WHAT IT READS IS OF BULK AT MOST 1048576: true; the input reads as it did. -/
def availRiseUptoRow : OpenClaim := { program := "ytencnfgmgcdiiaa", sum := "2d336feece2a6ebddfdad1d55233c20ac1dcf0cf9e0aa32c407eb256887e4ecf", func := "parrel/parrellaw29.AvailRise", spec := "availRise", unfollowed := true, recurses := true, plainKeys := false, apart := false, narrowed := true }
def AvailRiseUptoSaid : Prop := availRiseUptoRow.holds Try.pinned (OpenSpec.upto availRiseSpec)

/-- 'parrellaw22.SessPlays', WHERE WHAT IT READS IS OF BULK AT MOST 1048576: true; the input reads as it did. -/
def sessPlaysUptoRow : OpenClaim := { program := "ytencnfgmgcdiiaa", sum := "2d336feece2a6ebddfdad1d55233c20ac1dcf0cf9e0aa32c407eb256887e4ecf", func := "parrel/parrellaw22.SessPlays", spec := "sessPlays", unfollowed := true, recurses := true, plainKeys := false, apart := false, narrowed := true }
def SessPlaysUptoSaid : Prop := sessPlaysUptoRow.holds Try.pinned (OpenSpec.upto sessPlaysSpec)

/-- 'parrellaw22.SessApart', WHERE WHAT IT READS IS OF BULK AT MOST 1048576: true; the input reads as it did. -/
def sessApartUptoRow : OpenClaim := { program := "ytencnfgmgcdiiaa", sum := "2d336feece2a6ebddfdad1d55233c20ac1dcf0cf9e0aa32c407eb256887e4ecf", func := "parrel/parrellaw22.SessApart", spec := "sessApart", unfollowed := true, recurses := true, plainKeys := false, apart := false, narrowed := true }
def SessApartUptoSaid : Prop := sessApartUptoRow.holds Try.pinned (OpenSpec.upto sessApartSpec)

/-- 'parrellaw22.SessNobody', WHERE WHAT IT READS IS OF BULK AT MOST 1048576: true; the input reads as it did. -/
def sessNobodyUptoRow : OpenClaim := { program := "ytencnfgmgcdiiaa", sum := "2d336feece2a6ebddfdad1d55233c20ac1dcf0cf9e0aa32c407eb256887e4ecf", func := "parrel/parrellaw22.SessNobody", spec := "sessNobody", unfollowed := true, recurses := true, plainKeys := false, apart := false, narrowed := true }
def SessNobodyUptoSaid : Prop := sessNobodyUptoRow.holds Try.pinned (OpenSpec.upto sessNobodySpec)

/-- 'parrellaw29.AvailCounts', WHERE WHAT IT READS IS OF BULK AT MOST 1048576: true; the input reads as it did. -/
def availCountsUptoRow : OpenClaim := { program := "ytencnfgmgcdiiaa", sum := "2d336feece2a6ebddfdad1d55233c20ac1dcf0cf9e0aa32c407eb256887e4ecf", func := "parrel/parrellaw29.AvailCounts", spec := "availCounts", unfollowed := true, recurses := true, plainKeys := false, apart := false, narrowed := true }
def AvailCountsUptoSaid : Prop := availCountsUptoRow.holds Try.pinned (OpenSpec.upto availCountsSpec)

/-- 'parrellaw29.AvailAll', WHERE WHAT IT READS IS OF BULK AT MOST 1048576: true; the input reads as it did. -/
def availAllUptoRow : OpenClaim := { program := "ytencnfgmgcdiiaa", sum := "2d336feece2a6ebddfdad1d55233c20ac1dcf0cf9e0aa32c407eb256887e4ecf", func := "parrel/parrellaw29.AvailAll", spec := "availAll", unfollowed := true, recurses := true, plainKeys := false, apart := false, narrowed := true }
def AvailAllUptoSaid : Prop := availAllUptoRow.holds Try.pinned (OpenSpec.upto availAllSpec)

/-- 'parrellaw29.AvailBest', WHERE WHAT IT READS IS OF BULK AT MOST 1048576: true; the input reads as it did. -/
def availBestUptoRow : OpenClaim := { program := "ytencnfgmgcdiiaa", sum := "2d336feece2a6ebddfdad1d55233c20ac1dcf0cf9e0aa32c407eb256887e4ecf", func := "parrel/parrellaw29.AvailBest", spec := "availBest", unfollowed := true, recurses := true, plainKeys := false, apart := false, narrowed := true }
def AvailBestUptoSaid : Prop := availBestUptoRow.holds Try.pinned (OpenSpec.upto availBestSpec)

/-- 'parrellaw29.AvailMost', WHERE WHAT IT READS IS OF BULK AT MOST 1048576: true; the input reads as it did. -/
def availMostUptoRow : OpenClaim := { program := "ytencnfgmgcdiiaa", sum := "2d336feece2a6ebddfdad1d55233c20ac1dcf0cf9e0aa32c407eb256887e4ecf", func := "parrel/parrellaw29.AvailMost", spec := "availMost", unfollowed := true, recurses := true, plainKeys := false, apart := false, narrowed := true }
def AvailMostUptoSaid : Prop := availMostUptoRow.holds Try.pinned (OpenSpec.upto availMostSpec)

end Rows
end Go.Proofs.Ytencnfgmgcdiiaa
