/-
  No cell of these rows narrows 'for every input' (looked for: loops, veiled, ifaces, maps, wideKeys, modest, calm, conditions, laid).
  DERIVED. THE GIVEN ROWS OF THIS SEAT. 21 by the template 'for every input the law returns true; each argument reads behind the call as it read before'; 0 by the template 'total and deterministic' (their statements: YtcplbhjpefmliaaTotals.lean).
  GIVEN WITH THE SEED: the statements are not yours to turn. If you find one false, say at which input.
  Laid BY PROGRAM, IN A SANDBOX (cutbox-rows.mjs): the forced cells as the released guide's own fill.sh prints them over the translation 0c891148028e7aa3… (all of the seat's roots in one cut). By AI agents, Wed Nov 11 2026. No macro, syntax, notation, axiom, sorry.
-/
import Derived.Test.YtcplbhjpefmliaaChecked
import GoSem.Claim
import GoSem.ClaimJoined
import GoSem.ClaimMapViews
import Derived.JoinedTies
import Derived.KernelRfl
namespace Go.Proofs.Ytcplbhjpefmliaa
/- THE CELL 'sum', in the pinned program and in every row, IS THE sha256 OF THE DUMP (.gsa) THAT YtcplbhjpefmliaaProg.lean LOADS. Nothing in Lean hashes anything: it is a label: what it is worth is what the hold of that sum in a sandbox is worth. -/
noncomputable def Try.pinned : Pinned := { name := "ytcplbhjpefmliaa", sum := "0c891148028e7aa368e2e5062afdc7aab15f540f74a8e17bb98efdbfb315ca7d", checked := Try.checked }
namespace Rows
def none {H : Type} : Left H := { results := [], args := [] }

/-- 'penstocklaw05.TailMakes': WHATEVER THE INPUT: true; the input reads as it did. -/
def tailMakesSpec : ChangeSpec := { name := "tailMakes", fn := fun _ => fun
  | [d] => { results := [.lit (.bool true)], args := [d] }
  | _ => none }
def tailMakesRow : OpenClaim := { program := "ytcplbhjpefmliaa", sum := "0c891148028e7aa368e2e5062afdc7aab15f540f74a8e17bb98efdbfb315ca7d", func := "penstock/penstocklaw05.TailMakes", spec := "tailMakes", unfollowed := true, recurses := true, apart := false }
def TailMakesSaid : Prop := tailMakesRow.holds Try.pinned (OpenSpec.ofChange tailMakesSpec)

/-- ITS FALSE NEIGHBOUR: 'it returns false'. Refute it at one input. -/
def tailMakesWrong : ChangeSpec := { name := "tailMakes", fn := fun _ => fun
  | [d] => { results := [.lit (.bool false)], args := [d] }
  | _ => none }
def TailMakesWrongFalsely : Prop := tailMakesRow.holds Try.pinned (OpenSpec.ofChange tailMakesWrong)

/-- 'penstocklaw05.TailMeans': WHATEVER THE INPUT: true; the input reads as it did. -/
def tailMeansSpec : ChangeSpec := { name := "tailMeans", fn := fun _ => fun
  | [d1, d2, d3] => { results := [.lit (.bool true)], args := [d1, d2, d3] }
  | _ => none }
def tailMeansRow : OpenClaim := { program := "ytcplbhjpefmliaa", sum := "0c891148028e7aa368e2e5062afdc7aab15f540f74a8e17bb98efdbfb315ca7d", func := "penstock/penstocklaw05.TailMeans", spec := "tailMeans", unfollowed := true, recurses := true, apart := false }
def TailMeansSaid : Prop := tailMeansRow.holds Try.pinned (OpenSpec.ofChange tailMeansSpec)

/-- ITS FALSE NEIGHBOUR: 'it returns false'. Refute it at one input. -/
def tailMeansWrong : ChangeSpec := { name := "tailMeans", fn := fun _ => fun
  | [d1, d2, d3] => { results := [.lit (.bool false)], args := [d1, d2, d3] }
  | _ => none }
def TailMeansWrongFalsely : Prop := tailMeansRow.holds Try.pinned (OpenSpec.ofChange tailMeansWrong)

/-- 'penstocklaw05.TailHolds': WHATEVER THE INPUT: true; the input reads as it did. -/
def tailHoldsSpec : ChangeSpec := { name := "tailHolds", fn := fun _ => fun
  | [d1, d2, d3] => { results := [.lit (.bool true)], args := [d1, d2, d3] }
  | _ => none }
def tailHoldsRow : OpenClaim := { program := "ytcplbhjpefmliaa", sum := "0c891148028e7aa368e2e5062afdc7aab15f540f74a8e17bb98efdbfb315ca7d", func := "penstock/penstocklaw05.TailHolds", spec := "tailHolds", unfollowed := true, recurses := true, apart := false }
def TailHoldsSaid : Prop := tailHoldsRow.holds Try.pinned (OpenSpec.ofChange tailHoldsSpec)

/-- ITS FALSE NEIGHBOUR: 'it returns false'. Refute it at one input. -/
def tailHoldsWrong : ChangeSpec := { name := "tailHolds", fn := fun _ => fun
  | [d1, d2, d3] => { results := [.lit (.bool false)], args := [d1, d2, d3] }
  | _ => none }
def TailHoldsWrongFalsely : Prop := tailHoldsRow.holds Try.pinned (OpenSpec.ofChange tailHoldsWrong)

/-- 'penstocklaw05.TailRefuses': WHATEVER THE INPUT: true; the input reads as it did. -/
def tailRefusesSpec : ChangeSpec := { name := "tailRefuses", fn := fun _ => fun
  | [d1, d2, d3, d4, d5] => { results := [.lit (.bool true)], args := [d1, d2, d3, d4, d5] }
  | _ => none }
def tailRefusesRow : OpenClaim := { program := "ytcplbhjpefmliaa", sum := "0c891148028e7aa368e2e5062afdc7aab15f540f74a8e17bb98efdbfb315ca7d", func := "penstock/penstocklaw05.TailRefuses", spec := "tailRefuses", unfollowed := true, recurses := true, apart := false }
def TailRefusesSaid : Prop := tailRefusesRow.holds Try.pinned (OpenSpec.ofChange tailRefusesSpec)

/-- ITS FALSE NEIGHBOUR: 'it returns false'. Refute it at one input. -/
def tailRefusesWrong : ChangeSpec := { name := "tailRefuses", fn := fun _ => fun
  | [d1, d2, d3, d4, d5] => { results := [.lit (.bool false)], args := [d1, d2, d3, d4, d5] }
  | _ => none }
def TailRefusesWrongFalsely : Prop := tailRefusesRow.holds Try.pinned (OpenSpec.ofChange tailRefusesWrong)

/-- 'penstocklaw05.TailChunks': WHATEVER THE INPUT: true; the input reads as it did. -/
def tailChunksSpec : ChangeSpec := { name := "tailChunks", fn := fun _ => fun
  | [d1, d2, d3, d4] => { results := [.lit (.bool true)], args := [d1, d2, d3, d4] }
  | _ => none }
def tailChunksRow : OpenClaim := { program := "ytcplbhjpefmliaa", sum := "0c891148028e7aa368e2e5062afdc7aab15f540f74a8e17bb98efdbfb315ca7d", func := "penstock/penstocklaw05.TailChunks", spec := "tailChunks", unfollowed := true, recurses := true, apart := false }
def TailChunksSaid : Prop := tailChunksRow.holds Try.pinned (OpenSpec.ofChange tailChunksSpec)

/-- ITS FALSE NEIGHBOUR: 'it returns false'. Refute it at one input. -/
def tailChunksWrong : ChangeSpec := { name := "tailChunks", fn := fun _ => fun
  | [d1, d2, d3, d4] => { results := [.lit (.bool false)], args := [d1, d2, d3, d4] }
  | _ => none }
def TailChunksWrongFalsely : Prop := tailChunksRow.holds Try.pinned (OpenSpec.ofChange tailChunksWrong)

/-- 'penstocklaw05.TailGrows': WHATEVER THE INPUT: true; the input reads as it did. -/
def tailGrowsSpec : ChangeSpec := { name := "tailGrows", fn := fun _ => fun
  | [d1, d2, d3, d4, d5] => { results := [.lit (.bool true)], args := [d1, d2, d3, d4, d5] }
  | _ => none }
def tailGrowsRow : OpenClaim := { program := "ytcplbhjpefmliaa", sum := "0c891148028e7aa368e2e5062afdc7aab15f540f74a8e17bb98efdbfb315ca7d", func := "penstock/penstocklaw05.TailGrows", spec := "tailGrows", unfollowed := true, recurses := true, apart := false }
def TailGrowsSaid : Prop := tailGrowsRow.holds Try.pinned (OpenSpec.ofChange tailGrowsSpec)

/-- ITS FALSE NEIGHBOUR: 'it returns false'. Refute it at one input. -/
def tailGrowsWrong : ChangeSpec := { name := "tailGrows", fn := fun _ => fun
  | [d1, d2, d3, d4, d5] => { results := [.lit (.bool false)], args := [d1, d2, d3, d4, d5] }
  | _ => none }
def TailGrowsWrongFalsely : Prop := tailGrowsRow.holds Try.pinned (OpenSpec.ofChange tailGrowsWrong)

/-- 'penstocklaw05.TailTakes': WHATEVER THE INPUT: true; the input reads as it did. -/
def tailTakesSpec : ChangeSpec := { name := "tailTakes", fn := fun _ => fun
  | [d1, d2, d3] => { results := [.lit (.bool true)], args := [d1, d2, d3] }
  | _ => none }
def tailTakesRow : OpenClaim := { program := "ytcplbhjpefmliaa", sum := "0c891148028e7aa368e2e5062afdc7aab15f540f74a8e17bb98efdbfb315ca7d", func := "penstock/penstocklaw05.TailTakes", spec := "tailTakes", unfollowed := true, recurses := true, apart := false }
def TailTakesSaid : Prop := tailTakesRow.holds Try.pinned (OpenSpec.ofChange tailTakesSpec)

/-- ITS FALSE NEIGHBOUR: 'it returns false'. Refute it at one input. -/
def tailTakesWrong : ChangeSpec := { name := "tailTakes", fn := fun _ => fun
  | [d1, d2, d3] => { results := [.lit (.bool false)], args := [d1, d2, d3] }
  | _ => none }
def TailTakesWrongFalsely : Prop := tailTakesRow.holds Try.pinned (OpenSpec.ofChange tailTakesWrong)

/-- 'penstocklaw07.TurnMakes': WHATEVER THE INPUT: true; the input reads as it did. -/
def turnMakesSpec : ChangeSpec := { name := "turnMakes", fn := fun _ => fun
  | [d] => { results := [.lit (.bool true)], args := [d] }
  | _ => none }
def turnMakesRow : OpenClaim := { program := "ytcplbhjpefmliaa", sum := "0c891148028e7aa368e2e5062afdc7aab15f540f74a8e17bb98efdbfb315ca7d", func := "penstock/penstocklaw07.TurnMakes", spec := "turnMakes", unfollowed := true, recurses := true, apart := false }
def TurnMakesSaid : Prop := turnMakesRow.holds Try.pinned (OpenSpec.ofChange turnMakesSpec)

/-- ITS FALSE NEIGHBOUR: 'it returns false'. Refute it at one input. -/
def turnMakesWrong : ChangeSpec := { name := "turnMakes", fn := fun _ => fun
  | [d] => { results := [.lit (.bool false)], args := [d] }
  | _ => none }
def TurnMakesWrongFalsely : Prop := turnMakesRow.holds Try.pinned (OpenSpec.ofChange turnMakesWrong)

/-- 'penstocklaw07.TurnMeans': WHATEVER THE INPUT: true; the input reads as it did. -/
def turnMeansSpec : ChangeSpec := { name := "turnMeans", fn := fun _ => fun
  | [d1, d2, d3] => { results := [.lit (.bool true)], args := [d1, d2, d3] }
  | _ => none }
def turnMeansRow : OpenClaim := { program := "ytcplbhjpefmliaa", sum := "0c891148028e7aa368e2e5062afdc7aab15f540f74a8e17bb98efdbfb315ca7d", func := "penstock/penstocklaw07.TurnMeans", spec := "turnMeans", unfollowed := true, recurses := true, apart := false }
def TurnMeansSaid : Prop := turnMeansRow.holds Try.pinned (OpenSpec.ofChange turnMeansSpec)

/-- ITS FALSE NEIGHBOUR: 'it returns false'. Refute it at one input. -/
def turnMeansWrong : ChangeSpec := { name := "turnMeans", fn := fun _ => fun
  | [d1, d2, d3] => { results := [.lit (.bool false)], args := [d1, d2, d3] }
  | _ => none }
def TurnMeansWrongFalsely : Prop := turnMeansRow.holds Try.pinned (OpenSpec.ofChange turnMeansWrong)

/-- 'penstocklaw07.TurnHolds': WHATEVER THE INPUT: true; the input reads as it did. -/
def turnHoldsSpec : ChangeSpec := { name := "turnHolds", fn := fun _ => fun
  | [d1, d2, d3] => { results := [.lit (.bool true)], args := [d1, d2, d3] }
  | _ => none }
def turnHoldsRow : OpenClaim := { program := "ytcplbhjpefmliaa", sum := "0c891148028e7aa368e2e5062afdc7aab15f540f74a8e17bb98efdbfb315ca7d", func := "penstock/penstocklaw07.TurnHolds", spec := "turnHolds", unfollowed := true, recurses := true, apart := false }
def TurnHoldsSaid : Prop := turnHoldsRow.holds Try.pinned (OpenSpec.ofChange turnHoldsSpec)

/-- ITS FALSE NEIGHBOUR: 'it returns false'. Refute it at one input. -/
def turnHoldsWrong : ChangeSpec := { name := "turnHolds", fn := fun _ => fun
  | [d1, d2, d3] => { results := [.lit (.bool false)], args := [d1, d2, d3] }
  | _ => none }
def TurnHoldsWrongFalsely : Prop := turnHoldsRow.holds Try.pinned (OpenSpec.ofChange turnHoldsWrong)

/-- 'penstocklaw07.TurnRefuses': WHATEVER THE INPUT: true; the input reads as it did. -/
def turnRefusesSpec : ChangeSpec := { name := "turnRefuses", fn := fun _ => fun
  | [d1, d2, d3, d4, d5] => { results := [.lit (.bool true)], args := [d1, d2, d3, d4, d5] }
  | _ => none }
def turnRefusesRow : OpenClaim := { program := "ytcplbhjpefmliaa", sum := "0c891148028e7aa368e2e5062afdc7aab15f540f74a8e17bb98efdbfb315ca7d", func := "penstock/penstocklaw07.TurnRefuses", spec := "turnRefuses", unfollowed := true, recurses := true, apart := false }
def TurnRefusesSaid : Prop := turnRefusesRow.holds Try.pinned (OpenSpec.ofChange turnRefusesSpec)

/-- ITS FALSE NEIGHBOUR: 'it returns false'. Refute it at one input. -/
def turnRefusesWrong : ChangeSpec := { name := "turnRefuses", fn := fun _ => fun
  | [d1, d2, d3, d4, d5] => { results := [.lit (.bool false)], args := [d1, d2, d3, d4, d5] }
  | _ => none }
def TurnRefusesWrongFalsely : Prop := turnRefusesRow.holds Try.pinned (OpenSpec.ofChange turnRefusesWrong)

/-- 'penstocklaw07.TurnChunks': WHATEVER THE INPUT: true; the input reads as it did. -/
def turnChunksSpec : ChangeSpec := { name := "turnChunks", fn := fun _ => fun
  | [d1, d2, d3, d4] => { results := [.lit (.bool true)], args := [d1, d2, d3, d4] }
  | _ => none }
def turnChunksRow : OpenClaim := { program := "ytcplbhjpefmliaa", sum := "0c891148028e7aa368e2e5062afdc7aab15f540f74a8e17bb98efdbfb315ca7d", func := "penstock/penstocklaw07.TurnChunks", spec := "turnChunks", unfollowed := true, recurses := true, apart := false }
def TurnChunksSaid : Prop := turnChunksRow.holds Try.pinned (OpenSpec.ofChange turnChunksSpec)

/-- ITS FALSE NEIGHBOUR: 'it returns false'. Refute it at one input. -/
def turnChunksWrong : ChangeSpec := { name := "turnChunks", fn := fun _ => fun
  | [d1, d2, d3, d4] => { results := [.lit (.bool false)], args := [d1, d2, d3, d4] }
  | _ => none }
def TurnChunksWrongFalsely : Prop := turnChunksRow.holds Try.pinned (OpenSpec.ofChange turnChunksWrong)

/-- 'penstocklaw07.TurnGrows': WHATEVER THE INPUT: true; the input reads as it did. -/
def turnGrowsSpec : ChangeSpec := { name := "turnGrows", fn := fun _ => fun
  | [d1, d2, d3, d4, d5] => { results := [.lit (.bool true)], args := [d1, d2, d3, d4, d5] }
  | _ => none }
def turnGrowsRow : OpenClaim := { program := "ytcplbhjpefmliaa", sum := "0c891148028e7aa368e2e5062afdc7aab15f540f74a8e17bb98efdbfb315ca7d", func := "penstock/penstocklaw07.TurnGrows", spec := "turnGrows", unfollowed := true, recurses := true, apart := false }
def TurnGrowsSaid : Prop := turnGrowsRow.holds Try.pinned (OpenSpec.ofChange turnGrowsSpec)

/-- ITS FALSE NEIGHBOUR: 'it returns false'. Refute it at one input. -/
def turnGrowsWrong : ChangeSpec := { name := "turnGrows", fn := fun _ => fun
  | [d1, d2, d3, d4, d5] => { results := [.lit (.bool false)], args := [d1, d2, d3, d4, d5] }
  | _ => none }
def TurnGrowsWrongFalsely : Prop := turnGrowsRow.holds Try.pinned (OpenSpec.ofChange turnGrowsWrong)

/-- 'penstocklaw07.TurnParts': WHATEVER THE INPUT: true; the input reads as it did. -/
def turnPartsSpec : ChangeSpec := { name := "turnParts", fn := fun _ => fun
  | [d1, d2, d3, d4] => { results := [.lit (.bool true)], args := [d1, d2, d3, d4] }
  | _ => none }
def turnPartsRow : OpenClaim := { program := "ytcplbhjpefmliaa", sum := "0c891148028e7aa368e2e5062afdc7aab15f540f74a8e17bb98efdbfb315ca7d", func := "penstock/penstocklaw07.TurnParts", spec := "turnParts", unfollowed := true, recurses := true, apart := false }
def TurnPartsSaid : Prop := turnPartsRow.holds Try.pinned (OpenSpec.ofChange turnPartsSpec)

/-- ITS FALSE NEIGHBOUR: 'it returns false'. Refute it at one input. -/
def turnPartsWrong : ChangeSpec := { name := "turnParts", fn := fun _ => fun
  | [d1, d2, d3, d4] => { results := [.lit (.bool false)], args := [d1, d2, d3, d4] }
  | _ => none }
def TurnPartsWrongFalsely : Prop := turnPartsRow.holds Try.pinned (OpenSpec.ofChange turnPartsWrong)

/-- 'penstocklaw06.MatchMakes': WHATEVER THE INPUT: true; the input reads as it did. -/
def matchMakesSpec : ChangeSpec := { name := "matchMakes", fn := fun _ => fun
  | [d] => { results := [.lit (.bool true)], args := [d] }
  | _ => none }
def matchMakesRow : OpenClaim := { program := "ytcplbhjpefmliaa", sum := "0c891148028e7aa368e2e5062afdc7aab15f540f74a8e17bb98efdbfb315ca7d", func := "penstock/penstocklaw06.MatchMakes", spec := "matchMakes", inPlace := ["internal/bytealg.IndexByteString", "internal/bytealg.IndexString"], unfollowed := true, recurses := true, named := ["internal/bytealg.MaxLen"], apart := false }
def MatchMakesSaid : Prop := matchMakesRow.holds Try.pinned (OpenSpec.ofChange matchMakesSpec)

/-- ITS FALSE NEIGHBOUR: 'it returns false'. Refute it at one input. -/
def matchMakesWrong : ChangeSpec := { name := "matchMakes", fn := fun _ => fun
  | [d] => { results := [.lit (.bool false)], args := [d] }
  | _ => none }
def MatchMakesWrongFalsely : Prop := matchMakesRow.holds Try.pinned (OpenSpec.ofChange matchMakesWrong)

/-- 'penstocklaw06.MatchMeans': WHATEVER THE INPUT: true; the input reads as it did. -/
def matchMeansSpec : ChangeSpec := { name := "matchMeans", fn := fun _ => fun
  | [d1, d2, d3] => { results := [.lit (.bool true)], args := [d1, d2, d3] }
  | _ => none }
def matchMeansRow : OpenClaim := { program := "ytcplbhjpefmliaa", sum := "0c891148028e7aa368e2e5062afdc7aab15f540f74a8e17bb98efdbfb315ca7d", func := "penstock/penstocklaw06.MatchMeans", spec := "matchMeans", inPlace := ["internal/bytealg.IndexByteString", "internal/bytealg.IndexString"], unfollowed := true, recurses := true, named := ["internal/bytealg.MaxLen"], apart := false }
def MatchMeansSaid : Prop := matchMeansRow.holds Try.pinned (OpenSpec.ofChange matchMeansSpec)

/-- ITS FALSE NEIGHBOUR: 'it returns false'. Refute it at one input. -/
def matchMeansWrong : ChangeSpec := { name := "matchMeans", fn := fun _ => fun
  | [d1, d2, d3] => { results := [.lit (.bool false)], args := [d1, d2, d3] }
  | _ => none }
def MatchMeansWrongFalsely : Prop := matchMeansRow.holds Try.pinned (OpenSpec.ofChange matchMeansWrong)

/-- 'penstocklaw06.MatchHolds': WHATEVER THE INPUT: true; the input reads as it did. -/
def matchHoldsSpec : ChangeSpec := { name := "matchHolds", fn := fun _ => fun
  | [d1, d2, d3] => { results := [.lit (.bool true)], args := [d1, d2, d3] }
  | _ => none }
def matchHoldsRow : OpenClaim := { program := "ytcplbhjpefmliaa", sum := "0c891148028e7aa368e2e5062afdc7aab15f540f74a8e17bb98efdbfb315ca7d", func := "penstock/penstocklaw06.MatchHolds", spec := "matchHolds", inPlace := ["internal/bytealg.IndexByteString", "internal/bytealg.IndexString"], unfollowed := true, recurses := true, named := ["internal/bytealg.MaxLen"], apart := false }
def MatchHoldsSaid : Prop := matchHoldsRow.holds Try.pinned (OpenSpec.ofChange matchHoldsSpec)

/-- ITS FALSE NEIGHBOUR: 'it returns false'. Refute it at one input. -/
def matchHoldsWrong : ChangeSpec := { name := "matchHolds", fn := fun _ => fun
  | [d1, d2, d3] => { results := [.lit (.bool false)], args := [d1, d2, d3] }
  | _ => none }
def MatchHoldsWrongFalsely : Prop := matchHoldsRow.holds Try.pinned (OpenSpec.ofChange matchHoldsWrong)

/-- 'penstocklaw06.MatchRefuses': WHATEVER THE INPUT: true; the input reads as it did. -/
def matchRefusesSpec : ChangeSpec := { name := "matchRefuses", fn := fun _ => fun
  | [d1, d2, d3, d4, d5] => { results := [.lit (.bool true)], args := [d1, d2, d3, d4, d5] }
  | _ => none }
def matchRefusesRow : OpenClaim := { program := "ytcplbhjpefmliaa", sum := "0c891148028e7aa368e2e5062afdc7aab15f540f74a8e17bb98efdbfb315ca7d", func := "penstock/penstocklaw06.MatchRefuses", spec := "matchRefuses", inPlace := ["internal/bytealg.IndexByteString", "internal/bytealg.IndexString"], unfollowed := true, recurses := true, named := ["internal/bytealg.MaxLen"], apart := false }
def MatchRefusesSaid : Prop := matchRefusesRow.holds Try.pinned (OpenSpec.ofChange matchRefusesSpec)

/-- ITS FALSE NEIGHBOUR: 'it returns false'. Refute it at one input. -/
def matchRefusesWrong : ChangeSpec := { name := "matchRefuses", fn := fun _ => fun
  | [d1, d2, d3, d4, d5] => { results := [.lit (.bool false)], args := [d1, d2, d3, d4, d5] }
  | _ => none }
def MatchRefusesWrongFalsely : Prop := matchRefusesRow.holds Try.pinned (OpenSpec.ofChange matchRefusesWrong)

/-- 'penstocklaw06.MatchChunks': WHATEVER THE INPUT: true; the input reads as it did. -/
def matchChunksSpec : ChangeSpec := { name := "matchChunks", fn := fun _ => fun
  | [d1, d2, d3, d4] => { results := [.lit (.bool true)], args := [d1, d2, d3, d4] }
  | _ => none }
def matchChunksRow : OpenClaim := { program := "ytcplbhjpefmliaa", sum := "0c891148028e7aa368e2e5062afdc7aab15f540f74a8e17bb98efdbfb315ca7d", func := "penstock/penstocklaw06.MatchChunks", spec := "matchChunks", inPlace := ["internal/bytealg.IndexByteString", "internal/bytealg.IndexString"], unfollowed := true, recurses := true, named := ["internal/bytealg.MaxLen"], apart := false }
def MatchChunksSaid : Prop := matchChunksRow.holds Try.pinned (OpenSpec.ofChange matchChunksSpec)

/-- ITS FALSE NEIGHBOUR: 'it returns false'. Refute it at one input. -/
def matchChunksWrong : ChangeSpec := { name := "matchChunks", fn := fun _ => fun
  | [d1, d2, d3, d4] => { results := [.lit (.bool false)], args := [d1, d2, d3, d4] }
  | _ => none }
def MatchChunksWrongFalsely : Prop := matchChunksRow.holds Try.pinned (OpenSpec.ofChange matchChunksWrong)

/-- 'penstocklaw06.MatchGrows': WHATEVER THE INPUT: true; the input reads as it did. -/
def matchGrowsSpec : ChangeSpec := { name := "matchGrows", fn := fun _ => fun
  | [d1, d2, d3, d4, d5] => { results := [.lit (.bool true)], args := [d1, d2, d3, d4, d5] }
  | _ => none }
def matchGrowsRow : OpenClaim := { program := "ytcplbhjpefmliaa", sum := "0c891148028e7aa368e2e5062afdc7aab15f540f74a8e17bb98efdbfb315ca7d", func := "penstock/penstocklaw06.MatchGrows", spec := "matchGrows", inPlace := ["internal/bytealg.IndexByteString", "internal/bytealg.IndexString"], unfollowed := true, recurses := true, named := ["internal/bytealg.MaxLen"], apart := false }
def MatchGrowsSaid : Prop := matchGrowsRow.holds Try.pinned (OpenSpec.ofChange matchGrowsSpec)

/-- ITS FALSE NEIGHBOUR: 'it returns false'. Refute it at one input. -/
def matchGrowsWrong : ChangeSpec := { name := "matchGrows", fn := fun _ => fun
  | [d1, d2, d3, d4, d5] => { results := [.lit (.bool false)], args := [d1, d2, d3, d4, d5] }
  | _ => none }
def MatchGrowsWrongFalsely : Prop := matchGrowsRow.holds Try.pinned (OpenSpec.ofChange matchGrowsWrong)

/-- 'penstocklaw06.MatchParts': WHATEVER THE INPUT: true; the input reads as it did. -/
def matchPartsSpec : ChangeSpec := { name := "matchParts", fn := fun _ => fun
  | [d1, d2, d3] => { results := [.lit (.bool true)], args := [d1, d2, d3] }
  | _ => none }
def matchPartsRow : OpenClaim := { program := "ytcplbhjpefmliaa", sum := "0c891148028e7aa368e2e5062afdc7aab15f540f74a8e17bb98efdbfb315ca7d", func := "penstock/penstocklaw06.MatchParts", spec := "matchParts", inPlace := ["internal/bytealg.IndexByteString", "internal/bytealg.IndexString"], unfollowed := true, recurses := true, named := ["internal/bytealg.MaxLen"], apart := false }
def MatchPartsSaid : Prop := matchPartsRow.holds Try.pinned (OpenSpec.ofChange matchPartsSpec)

/-- ITS FALSE NEIGHBOUR: 'it returns false'. Refute it at one input. -/
def matchPartsWrong : ChangeSpec := { name := "matchParts", fn := fun _ => fun
  | [d1, d2, d3] => { results := [.lit (.bool false)], args := [d1, d2, d3] }
  | _ => none }
def MatchPartsWrongFalsely : Prop := matchPartsRow.holds Try.pinned (OpenSpec.ofChange matchPartsWrong)

/- THE SECOND FORM. 'bulk': how many values and letters a reading holds, each counted each time it is reached (what is shared counts as often as it is met; a slice's spare places count too). A statement '..UptoSaid' is the law's where the arguments, and the package variables that the reading takes, are together of bulk at most 1048576: NARROWER than '..Said'. Prove '..Said' where nothing that the law and all that it calls make is longer than what came in: it says more and counts as full. Else prove '..UptoSaid'. A law counts once. -/
mutual
def uptoBulk {H : Type} : DataW H → Nat
  | .lit (.string bytes) => bytes.length + 1
  | .lit _ => 1
  | .nil => 1
  | .ptr d => uptoBulk d + 1
  | .slice elems spare => uptoBulkAll elems + uptoBulkAll spare + 1
  | .agg parts => uptoBulkAll parts + 1
  | .iface _ d => uptoBulk d + 1
  | .map entries => uptoBulkEntries entries + 1
  | .held _ => 1
def uptoBulkAll {H : Type} : List (DataW H) → Nat
  | [] => 0
  | d :: r => uptoBulk d + uptoBulkAll r
def uptoBulkEntries {H : Type} : List (Lit × DataW H) → Nat
  | [] => 0
  | x :: r => uptoBulkEntry x + uptoBulkEntries r
def uptoBulkEntry {H : Type} : Lit × DataW H → Nat
  | (.string bytes, d) => bytes.length + uptoBulk d + 1
  | (_, d) => uptoBulk d + 1
 end
def uptoSmall : (H : Type) → List (DataW H) → Bool := fun _ ds => decide (uptoBulkAll ds ≤ 1048576)
def OpenSpec.upto (s : _root_.Go.ChangeSpec) : _root_.Go.OpenSpec := { _root_.Go.OpenSpec.ofChange s with cond := some uptoSmall }

/-- 'penstocklaw05.TailMakes', WHERE WHAT IT READS IS OF BULK AT MOST 1048576: true; the input reads as it did. -/
def tailMakesUptoRow : OpenClaim := { program := "ytcplbhjpefmliaa", sum := "0c891148028e7aa368e2e5062afdc7aab15f540f74a8e17bb98efdbfb315ca7d", func := "penstock/penstocklaw05.TailMakes", spec := "tailMakes", unfollowed := true, recurses := true, apart := false, narrowed := true }
def TailMakesUptoSaid : Prop := tailMakesUptoRow.holds Try.pinned (OpenSpec.upto tailMakesSpec)

/-- 'penstocklaw05.TailMeans', WHERE WHAT IT READS IS OF BULK AT MOST 1048576: true; the input reads as it did. -/
def tailMeansUptoRow : OpenClaim := { program := "ytcplbhjpefmliaa", sum := "0c891148028e7aa368e2e5062afdc7aab15f540f74a8e17bb98efdbfb315ca7d", func := "penstock/penstocklaw05.TailMeans", spec := "tailMeans", unfollowed := true, recurses := true, apart := false, narrowed := true }
def TailMeansUptoSaid : Prop := tailMeansUptoRow.holds Try.pinned (OpenSpec.upto tailMeansSpec)

/-- 'penstocklaw05.TailHolds', WHERE WHAT IT READS IS OF BULK AT MOST 1048576: true; the input reads as it did. -/
def tailHoldsUptoRow : OpenClaim := { program := "ytcplbhjpefmliaa", sum := "0c891148028e7aa368e2e5062afdc7aab15f540f74a8e17bb98efdbfb315ca7d", func := "penstock/penstocklaw05.TailHolds", spec := "tailHolds", unfollowed := true, recurses := true, apart := false, narrowed := true }
def TailHoldsUptoSaid : Prop := tailHoldsUptoRow.holds Try.pinned (OpenSpec.upto tailHoldsSpec)

/-- 'penstocklaw05.TailRefuses', WHERE WHAT IT READS IS OF BULK AT MOST 1048576: true; the input reads as it did. -/
def tailRefusesUptoRow : OpenClaim := { program := "ytcplbhjpefmliaa", sum := "0c891148028e7aa368e2e5062afdc7aab15f540f74a8e17bb98efdbfb315ca7d", func := "penstock/penstocklaw05.TailRefuses", spec := "tailRefuses", unfollowed := true, recurses := true, apart := false, narrowed := true }
def TailRefusesUptoSaid : Prop := tailRefusesUptoRow.holds Try.pinned (OpenSpec.upto tailRefusesSpec)

/-- 'penstocklaw05.TailChunks', WHERE WHAT IT READS IS OF BULK AT MOST 1048576: true; the input reads as it did. -/
def tailChunksUptoRow : OpenClaim := { program := "ytcplbhjpefmliaa", sum := "0c891148028e7aa368e2e5062afdc7aab15f540f74a8e17bb98efdbfb315ca7d", func := "penstock/penstocklaw05.TailChunks", spec := "tailChunks", unfollowed := true, recurses := true, apart := false, narrowed := true }
def TailChunksUptoSaid : Prop := tailChunksUptoRow.holds Try.pinned (OpenSpec.upto tailChunksSpec)

/-- 'penstocklaw05.TailGrows', WHERE WHAT IT READS IS OF BULK AT MOST 1048576: true; the input reads as it did. -/
def tailGrowsUptoRow : OpenClaim := { program := "ytcplbhjpefmliaa", sum := "0c891148028e7aa368e2e5062afdc7aab15f540f74a8e17bb98efdbfb315ca7d", func := "penstock/penstocklaw05.TailGrows", spec := "tailGrows", unfollowed := true, recurses := true, apart := false, narrowed := true }
def TailGrowsUptoSaid : Prop := tailGrowsUptoRow.holds Try.pinned (OpenSpec.upto tailGrowsSpec)

/-- 'penstocklaw05.TailTakes', WHERE WHAT IT READS IS OF BULK AT MOST 1048576: true; the input reads as it did. -/
def tailTakesUptoRow : OpenClaim := { program := "ytcplbhjpefmliaa", sum := "0c891148028e7aa368e2e5062afdc7aab15f540f74a8e17bb98efdbfb315ca7d", func := "penstock/penstocklaw05.TailTakes", spec := "tailTakes", unfollowed := true, recurses := true, apart := false, narrowed := true }
def TailTakesUptoSaid : Prop := tailTakesUptoRow.holds Try.pinned (OpenSpec.upto tailTakesSpec)

/-- 'penstocklaw07.TurnMakes', WHERE WHAT IT READS IS OF BULK AT MOST 1048576: true; the input reads as it did. -/
def turnMakesUptoRow : OpenClaim := { program := "ytcplbhjpefmliaa", sum := "0c891148028e7aa368e2e5062afdc7aab15f540f74a8e17bb98efdbfb315ca7d", func := "penstock/penstocklaw07.TurnMakes", spec := "turnMakes", unfollowed := true, recurses := true, apart := false, narrowed := true }
def TurnMakesUptoSaid : Prop := turnMakesUptoRow.holds Try.pinned (OpenSpec.upto turnMakesSpec)

/-- 'penstocklaw07.TurnMeans', WHERE WHAT IT READS IS OF BULK AT MOST 1048576: true; the input reads as it did. -/
def turnMeansUptoRow : OpenClaim := { program := "ytcplbhjpefmliaa", sum := "0c891148028e7aa368e2e5062afdc7aab15f540f74a8e17bb98efdbfb315ca7d", func := "penstock/penstocklaw07.TurnMeans", spec := "turnMeans", unfollowed := true, recurses := true, apart := false, narrowed := true }
def TurnMeansUptoSaid : Prop := turnMeansUptoRow.holds Try.pinned (OpenSpec.upto turnMeansSpec)

/-- 'penstocklaw07.TurnHolds', WHERE WHAT IT READS IS OF BULK AT MOST 1048576: true; the input reads as it did. -/
def turnHoldsUptoRow : OpenClaim := { program := "ytcplbhjpefmliaa", sum := "0c891148028e7aa368e2e5062afdc7aab15f540f74a8e17bb98efdbfb315ca7d", func := "penstock/penstocklaw07.TurnHolds", spec := "turnHolds", unfollowed := true, recurses := true, apart := false, narrowed := true }
def TurnHoldsUptoSaid : Prop := turnHoldsUptoRow.holds Try.pinned (OpenSpec.upto turnHoldsSpec)

/-- 'penstocklaw07.TurnRefuses', WHERE WHAT IT READS IS OF BULK AT MOST 1048576: true; the input reads as it did. -/
def turnRefusesUptoRow : OpenClaim := { program := "ytcplbhjpefmliaa", sum := "0c891148028e7aa368e2e5062afdc7aab15f540f74a8e17bb98efdbfb315ca7d", func := "penstock/penstocklaw07.TurnRefuses", spec := "turnRefuses", unfollowed := true, recurses := true, apart := false, narrowed := true }
def TurnRefusesUptoSaid : Prop := turnRefusesUptoRow.holds Try.pinned (OpenSpec.upto turnRefusesSpec)

/-- 'penstocklaw07.TurnChunks', WHERE WHAT IT READS IS OF BULK AT MOST 1048576: true; the input reads as it did. -/
def turnChunksUptoRow : OpenClaim := { program := "ytcplbhjpefmliaa", sum := "0c891148028e7aa368e2e5062afdc7aab15f540f74a8e17bb98efdbfb315ca7d", func := "penstock/penstocklaw07.TurnChunks", spec := "turnChunks", unfollowed := true, recurses := true, apart := false, narrowed := true }
def TurnChunksUptoSaid : Prop := turnChunksUptoRow.holds Try.pinned (OpenSpec.upto turnChunksSpec)

/-- 'penstocklaw07.TurnGrows', WHERE WHAT IT READS IS OF BULK AT MOST 1048576: true; the input reads as it did. -/
def turnGrowsUptoRow : OpenClaim := { program := "ytcplbhjpefmliaa", sum := "0c891148028e7aa368e2e5062afdc7aab15f540f74a8e17bb98efdbfb315ca7d", func := "penstock/penstocklaw07.TurnGrows", spec := "turnGrows", unfollowed := true, recurses := true, apart := false, narrowed := true }
def TurnGrowsUptoSaid : Prop := turnGrowsUptoRow.holds Try.pinned (OpenSpec.upto turnGrowsSpec)

/-- 'penstocklaw07.TurnParts', WHERE WHAT IT READS IS OF BULK AT MOST 1048576: true; the input reads as it did. -/
def turnPartsUptoRow : OpenClaim := { program := "ytcplbhjpefmliaa", sum := "0c891148028e7aa368e2e5062afdc7aab15f540f74a8e17bb98efdbfb315ca7d", func := "penstock/penstocklaw07.TurnParts", spec := "turnParts", unfollowed := true, recurses := true, apart := false, narrowed := true }
def TurnPartsUptoSaid : Prop := turnPartsUptoRow.holds Try.pinned (OpenSpec.upto turnPartsSpec)

/-- 'penstocklaw06.MatchMakes', WHERE WHAT IT READS IS OF BULK AT MOST 1048576: true; the input reads as it did. -/
def matchMakesUptoRow : OpenClaim := { program := "ytcplbhjpefmliaa", sum := "0c891148028e7aa368e2e5062afdc7aab15f540f74a8e17bb98efdbfb315ca7d", func := "penstock/penstocklaw06.MatchMakes", spec := "matchMakes", inPlace := ["internal/bytealg.IndexByteString", "internal/bytealg.IndexString"], unfollowed := true, recurses := true, named := ["internal/bytealg.MaxLen"], apart := false, narrowed := true }
def MatchMakesUptoSaid : Prop := matchMakesUptoRow.holds Try.pinned (OpenSpec.upto matchMakesSpec)

/-- 'penstocklaw06.MatchMeans', WHERE WHAT IT READS IS OF BULK AT MOST 1048576: true; the input reads as it did. -/
def matchMeansUptoRow : OpenClaim := { program := "ytcplbhjpefmliaa", sum := "0c891148028e7aa368e2e5062afdc7aab15f540f74a8e17bb98efdbfb315ca7d", func := "penstock/penstocklaw06.MatchMeans", spec := "matchMeans", inPlace := ["internal/bytealg.IndexByteString", "internal/bytealg.IndexString"], unfollowed := true, recurses := true, named := ["internal/bytealg.MaxLen"], apart := false, narrowed := true }
def MatchMeansUptoSaid : Prop := matchMeansUptoRow.holds Try.pinned (OpenSpec.upto matchMeansSpec)

/-- 'penstocklaw06.MatchHolds', WHERE WHAT IT READS IS OF BULK AT MOST 1048576: true; the input reads as it did. -/
def matchHoldsUptoRow : OpenClaim := { program := "ytcplbhjpefmliaa", sum := "0c891148028e7aa368e2e5062afdc7aab15f540f74a8e17bb98efdbfb315ca7d", func := "penstock/penstocklaw06.MatchHolds", spec := "matchHolds", inPlace := ["internal/bytealg.IndexByteString", "internal/bytealg.IndexString"], unfollowed := true, recurses := true, named := ["internal/bytealg.MaxLen"], apart := false, narrowed := true }
def MatchHoldsUptoSaid : Prop := matchHoldsUptoRow.holds Try.pinned (OpenSpec.upto matchHoldsSpec)

/-- 'penstocklaw06.MatchRefuses', WHERE WHAT IT READS IS OF BULK AT MOST 1048576: true; the input reads as it did. -/
def matchRefusesUptoRow : OpenClaim := { program := "ytcplbhjpefmliaa", sum := "0c891148028e7aa368e2e5062afdc7aab15f540f74a8e17bb98efdbfb315ca7d", func := "penstock/penstocklaw06.MatchRefuses", spec := "matchRefuses", inPlace := ["internal/bytealg.IndexByteString", "internal/bytealg.IndexString"], unfollowed := true, recurses := true, named := ["internal/bytealg.MaxLen"], apart := false, narrowed := true }
def MatchRefusesUptoSaid : Prop := matchRefusesUptoRow.holds Try.pinned (OpenSpec.upto matchRefusesSpec)

/-- 'penstocklaw06.MatchChunks', WHERE WHAT IT READS IS OF BULK AT MOST 1048576: true; the input reads as it did. -/
def matchChunksUptoRow : OpenClaim := { program := "ytcplbhjpefmliaa", sum := "0c891148028e7aa368e2e5062afdc7aab15f540f74a8e17bb98efdbfb315ca7d", func := "penstock/penstocklaw06.MatchChunks", spec := "matchChunks", inPlace := ["internal/bytealg.IndexByteString", "internal/bytealg.IndexString"], unfollowed := true, recurses := true, named := ["internal/bytealg.MaxLen"], apart := false, narrowed := true }
def MatchChunksUptoSaid : Prop := matchChunksUptoRow.holds Try.pinned (OpenSpec.upto matchChunksSpec)

/-- 'penstocklaw06.MatchGrows', WHERE WHAT IT READS IS OF BULK AT MOST 1048576: true; the input reads as it did. -/
def matchGrowsUptoRow : OpenClaim := { program := "ytcplbhjpefmliaa", sum := "0c891148028e7aa368e2e5062afdc7aab15f540f74a8e17bb98efdbfb315ca7d", func := "penstock/penstocklaw06.MatchGrows", spec := "matchGrows", inPlace := ["internal/bytealg.IndexByteString", "internal/bytealg.IndexString"], unfollowed := true, recurses := true, named := ["internal/bytealg.MaxLen"], apart := false, narrowed := true }
def MatchGrowsUptoSaid : Prop := matchGrowsUptoRow.holds Try.pinned (OpenSpec.upto matchGrowsSpec)

/-- 'penstocklaw06.MatchParts', WHERE WHAT IT READS IS OF BULK AT MOST 1048576: true; the input reads as it did. -/
def matchPartsUptoRow : OpenClaim := { program := "ytcplbhjpefmliaa", sum := "0c891148028e7aa368e2e5062afdc7aab15f540f74a8e17bb98efdbfb315ca7d", func := "penstock/penstocklaw06.MatchParts", spec := "matchParts", inPlace := ["internal/bytealg.IndexByteString", "internal/bytealg.IndexString"], unfollowed := true, recurses := true, named := ["internal/bytealg.MaxLen"], apart := false, narrowed := true }
def MatchPartsUptoSaid : Prop := matchPartsUptoRow.holds Try.pinned (OpenSpec.upto matchPartsSpec)

end Rows
end Go.Proofs.Ytcplbhjpefmliaa
