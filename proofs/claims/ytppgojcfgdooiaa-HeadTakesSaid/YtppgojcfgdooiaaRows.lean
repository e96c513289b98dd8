/-
  No cell of these rows narrows 'for every input' (looked for: loops, veiled, ifaces, maps, wideKeys, modest, calm, conditions, laid).
  DERIVED. THE GIVEN ROWS OF THIS SEAT. 7 by the template 'for every input the law returns true; each argument reads behind the call as it read before'; 0 by the template 'total and deterministic' (their statements: YtppgojcfgdooiaaTotals.lean).
  GIVEN WITH THE SEED: the statements are not yours to turn. If you find one false, say at which input.
  Laid BY PROGRAM, IN A SANDBOX (cutbox-rows.mjs): the forced cells as the released guide's own fill.sh prints them over the translation 575c53379f7b3644… (all of the seat's roots in one cut). By AI agents, Wed Nov 11 2026. No macro, syntax, notation, axiom, sorry.
-/
import Derived.Test.YtppgojcfgdooiaaChecked
import GoSem.Claim
import GoSem.ClaimJoined
import GoSem.ClaimMapViews
import Derived.JoinedTies
import Derived.KernelRfl
namespace Go.Proofs.Ytppgojcfgdooiaa
/- THE CELL 'sum', in the pinned program and in every row, IS THE sha256 OF THE DUMP (.gsa) THAT YtppgojcfgdooiaaProg.lean LOADS. Nothing in Lean hashes anything: it is a label: what it is worth is what the hold of that sum in a sandbox is worth. -/
noncomputable def Try.pinned : Pinned := { name := "ytppgojcfgdooiaa", sum := "575c53379f7b3644501c3cd845021e2e6654c08de695182c08c17ad59affb6f8", checked := Try.checked }
namespace Rows
def none {H : Type} : Left H := { results := [], args := [] }

/-- 'penstocklaw04.HeadMakes': WHATEVER THE INPUT: true; the input reads as it did. -/
def headMakesSpec : ChangeSpec := { name := "headMakes", fn := fun _ => fun
  | [d] => { results := [.lit (.bool true)], args := [d] }
  | _ => none }
def headMakesRow : OpenClaim := { program := "ytppgojcfgdooiaa", sum := "575c53379f7b3644501c3cd845021e2e6654c08de695182c08c17ad59affb6f8", func := "penstock/penstocklaw04.HeadMakes", spec := "headMakes", unfollowed := true, recurses := true, apart := false }
def HeadMakesSaid : Prop := headMakesRow.holds Try.pinned (OpenSpec.ofChange headMakesSpec)

/-- ITS FALSE NEIGHBOUR: 'it returns false'. Refute it at one input. -/
def headMakesWrong : ChangeSpec := { name := "headMakes", fn := fun _ => fun
  | [d] => { results := [.lit (.bool false)], args := [d] }
  | _ => none }
def HeadMakesWrongFalsely : Prop := headMakesRow.holds Try.pinned (OpenSpec.ofChange headMakesWrong)

/-- 'penstocklaw04.HeadMeans': WHATEVER THE INPUT: true; the input reads as it did. -/
def headMeansSpec : ChangeSpec := { name := "headMeans", fn := fun _ => fun
  | [d1, d2, d3] => { results := [.lit (.bool true)], args := [d1, d2, d3] }
  | _ => none }
def headMeansRow : OpenClaim := { program := "ytppgojcfgdooiaa", sum := "575c53379f7b3644501c3cd845021e2e6654c08de695182c08c17ad59affb6f8", func := "penstock/penstocklaw04.HeadMeans", spec := "headMeans", unfollowed := true, recurses := true, apart := false }
def HeadMeansSaid : Prop := headMeansRow.holds Try.pinned (OpenSpec.ofChange headMeansSpec)

/-- ITS FALSE NEIGHBOUR: 'it returns false'. Refute it at one input. -/
def headMeansWrong : ChangeSpec := { name := "headMeans", fn := fun _ => fun
  | [d1, d2, d3] => { results := [.lit (.bool false)], args := [d1, d2, d3] }
  | _ => none }
def HeadMeansWrongFalsely : Prop := headMeansRow.holds Try.pinned (OpenSpec.ofChange headMeansWrong)

/-- 'penstocklaw04.HeadHolds': WHATEVER THE INPUT: true; the input reads as it did. -/
def headHoldsSpec : ChangeSpec := { name := "headHolds", fn := fun _ => fun
  | [d1, d2, d3] => { results := [.lit (.bool true)], args := [d1, d2, d3] }
  | _ => none }
def headHoldsRow : OpenClaim := { program := "ytppgojcfgdooiaa", sum := "575c53379f7b3644501c3cd845021e2e6654c08de695182c08c17ad59affb6f8", func := "penstock/penstocklaw04.HeadHolds", spec := "headHolds", unfollowed := true, recurses := true, apart := false }
def HeadHoldsSaid : Prop := headHoldsRow.holds Try.pinned (OpenSpec.ofChange headHoldsSpec)

/-- ITS FALSE NEIGHBOUR: 'it returns false'. Refute it at one input. -/
def headHoldsWrong : ChangeSpec := { name := "headHolds", fn := fun _ => fun
  | [d1, d2, d3] => { results := [.lit (.bool false)], args := [d1, d2, d3] }
  | _ => none }
def HeadHoldsWrongFalsely : Prop := headHoldsRow.holds Try.pinned (OpenSpec.ofChange headHoldsWrong)

/-- 'penstocklaw04.HeadRefuses': WHATEVER THE INPUT: true; the input reads as it did. -/
def headRefusesSpec : ChangeSpec := { name := "headRefuses", fn := fun _ => fun
  | [d1, d2, d3, d4, d5] => { results := [.lit (.bool true)], args := [d1, d2, d3, d4, d5] }
  | _ => none }
def headRefusesRow : OpenClaim := { program := "ytppgojcfgdooiaa", sum := "575c53379f7b3644501c3cd845021e2e6654c08de695182c08c17ad59affb6f8", func := "penstock/penstocklaw04.HeadRefuses", spec := "headRefuses", unfollowed := true, recurses := true, apart := false }
def HeadRefusesSaid : Prop := headRefusesRow.holds Try.pinned (OpenSpec.ofChange headRefusesSpec)

/-- ITS FALSE NEIGHBOUR: 'it returns false'. Refute it at one input. -/
def headRefusesWrong : ChangeSpec := { name := "headRefuses", fn := fun _ => fun
  | [d1, d2, d3, d4, d5] => { results := [.lit (.bool false)], args := [d1, d2, d3, d4, d5] }
  | _ => none }
def HeadRefusesWrongFalsely : Prop := headRefusesRow.holds Try.pinned (OpenSpec.ofChange headRefusesWrong)

/-- 'penstocklaw04.HeadChunks': WHATEVER THE INPUT: true; the input reads as it did. -/
def headChunksSpec : ChangeSpec := { name := "headChunks", fn := fun _ => fun
  | [d1, d2, d3, d4] => { results := [.lit (.bool true)], args := [d1, d2, d3, d4] }
  | _ => none }
def headChunksRow : OpenClaim := { program := "ytppgojcfgdooiaa", sum := "575c53379f7b3644501c3cd845021e2e6654c08de695182c08c17ad59affb6f8", func := "penstock/penstocklaw04.HeadChunks", spec := "headChunks", unfollowed := true, recurses := true, apart := false }
def HeadChunksSaid : Prop := headChunksRow.holds Try.pinned (OpenSpec.ofChange headChunksSpec)

/-- ITS FALSE NEIGHBOUR: 'it returns false'. Refute it at one input. -/
def headChunksWrong : ChangeSpec := { name := "headChunks", fn := fun _ => fun
  | [d1, d2, d3, d4] => { results := [.lit (.bool false)], args := [d1, d2, d3, d4] }
  | _ => none }
def HeadChunksWrongFalsely : Prop := headChunksRow.holds Try.pinned (OpenSpec.ofChange headChunksWrong)

/-- 'penstocklaw04.HeadGrows': WHATEVER THE INPUT: true; the input reads as it did. -/
def headGrowsSpec : ChangeSpec := { name := "headGrows", fn := fun _ => fun
  | [d1, d2, d3, d4, d5] => { results := [.lit (.bool true)], args := [d1, d2, d3, d4, d5] }
  | _ => none }
def headGrowsRow : OpenClaim := { program := "ytppgojcfgdooiaa", sum := "575c53379f7b3644501c3cd845021e2e6654c08de695182c08c17ad59affb6f8", func := "penstock/penstocklaw04.HeadGrows", spec := "headGrows", unfollowed := true, recurses := true, apart := false }
def HeadGrowsSaid : Prop := headGrowsRow.holds Try.pinned (OpenSpec.ofChange headGrowsSpec)

/-- ITS FALSE NEIGHBOUR: 'it returns false'. Refute it at one input. -/
def headGrowsWrong : ChangeSpec := { name := "headGrows", fn := fun _ => fun
  | [d1, d2, d3, d4, d5] => { results := [.lit (.bool false)], args := [d1, d2, d3, d4, d5] }
  | _ => none }
def HeadGrowsWrongFalsely : Prop := headGrowsRow.holds Try.pinned (OpenSpec.ofChange headGrowsWrong)

/-- 'penstocklaw04.HeadTakes': WHATEVER THE INPUT: true; the input reads as it did. -/
def headTakesSpec : ChangeSpec := { name := "headTakes", fn := fun _ => fun
  | [d1, d2, d3] => { results := [.lit (.bool true)], args := [d1, d2, d3] }
  | _ => none }
def headTakesRow : OpenClaim := { program := "ytppgojcfgdooiaa", sum := "575c53379f7b3644501c3cd845021e2e6654c08de695182c08c17ad59affb6f8", func := "penstock/penstocklaw04.HeadTakes", spec := "headTakes", unfollowed := true, recurses := true, apart := false }
def HeadTakesSaid : Prop := headTakesRow.holds Try.pinned (OpenSpec.ofChange headTakesSpec)

/-- ITS FALSE NEIGHBOUR: 'it returns false'. Refute it at one input. -/
def headTakesWrong : ChangeSpec := { name := "headTakes", fn := fun _ => fun
  | [d1, d2, d3] => { results := [.lit (.bool false)], args := [d1, d2, d3] }
  | _ => none }
def HeadTakesWrongFalsely : Prop := headTakesRow.holds Try.pinned (OpenSpec.ofChange headTakesWrong)

/- THE SECOND FORM. 'bulk': how many values and letters a reading holds, each counted each time it is reached (what is shared counts as often as it is met; a slice's spare places count too). A statement '..UptoSaid' is the law's where the arguments, and the package variables that the reading takes, are together of bulk at most 1048576: NARROWER than '..Said'. Prove '..Said' where nothing that the law and all that it calls make is longer than what came in: it says more and counts as full. Else prove '..UptoSaid'. A law counts once. -/
mutual
def uptoBulk {H : Type} : DataW H → Nat
  | .lit (.string bytes) => bytes.length + 1
  | .lit _ => 1
  | .nil => 1
  | .ptr d => uptoBulk d + 1
  | .slice elems spare => uptoBulkAll elems + uptoBulkAll spare + 1
  | .agg parts => uptoBulkAll parts + 1
  | .iface _ d => uptoBulk d + 1
  | .map entries => uptoBulkEntries entries + 1
  | .held _ => 1
def uptoBulkAll {H : Type} : List (DataW H) → Nat
  | [] => 0
  | d :: r => uptoBulk d + uptoBulkAll r
def uptoBulkEntries {H : Type} : List (Lit × DataW H) → Nat
  | [] => 0
  | x :: r => uptoBulkEntry x + uptoBulkEntries r
def uptoBulkEntry {H : Type} : Lit × DataW H → Nat
  | (.string bytes, d) => bytes.length + uptoBulk d + 1
  | (_, d) => uptoBulk d + 1
 end
def uptoSmall : (H : Type) → List (DataW H) → Bool := fun _ ds => decide (uptoBulkAll ds ≤ 1048576)
def OpenSpec.upto (s : _root_.Go.ChangeSpec) : _root_.Go.OpenSpec := { _root_.Go.OpenSpec.ofChange s with cond := some uptoSmall }

/-- 'penstocklaw04.HeadMakes', WHERE WHAT IT READS IS OF BULK AT MOST 1048576: true; the input reads as it did. -/
def headMakesUptoRow : OpenClaim := { program := "ytppgojcfgdooiaa", sum := "575c53379f7b3644501c3cd845021e2e6654c08de695182c08c17ad59affb6f8", func := "penstock/penstocklaw04.HeadMakes", spec := "headMakes", unfollowed := true, recurses := true, apart := false, narrowed := true }
def HeadMakesUptoSaid : Prop := headMakesUptoRow.holds Try.pinned (OpenSpec.upto headMakesSpec)

/-- 'penstocklaw04.HeadMeans', WHERE WHAT IT READS IS OF BULK AT MOST 1048576: true; the input reads as it did. -/
def headMeansUptoRow : OpenClaim := { program := "ytppgojcfgdooiaa", sum := "575c53379f7b3644501c3cd845021e2e6654c08de695182c08c17ad59affb6f8", func := "penstock/penstocklaw04.HeadMeans", spec := "headMeans", unfollowed := true, recurses := true, apart := false, narrowed := true }
def HeadMeansUptoSaid : Prop := headMeansUptoRow.holds Try.pinned (OpenSpec.upto headMeansSpec)

/-- 'penstocklaw04.HeadHolds', WHERE WHAT IT READS IS OF BULK AT MOST 1048576: true; the input reads as it did. -/
def headHoldsUptoRow : OpenClaim := { program := "ytppgojcfgdooiaa", sum := "575c53379f7b3644501c3cd845021e2e6654c08de695182c08c17ad59affb6f8", func := "penstock/penstocklaw04.HeadHolds", spec := "headHolds", unfollowed := true, recurses := true, apart := false, narrowed := true }
def HeadHoldsUptoSaid : Prop := headHoldsUptoRow.holds Try.pinned (OpenSpec.upto headHoldsSpec)

/-- 'penstocklaw04.HeadRefuses', WHERE WHAT IT READS IS OF BULK AT MOST 1048576: true; the input reads as it did. -/
def headRefusesUptoRow : OpenClaim := { program := "ytppgojcfgdooiaa", sum := "575c53379f7b3644501c3cd845021e2e6654c08de695182c08c17ad59affb6f8", func := "penstock/penstocklaw04.HeadRefuses", spec := "headRefuses", unfollowed := true, recurses := true, apart := false, narrowed := true }
def HeadRefusesUptoSaid : Prop := headRefusesUptoRow.holds Try.pinned (OpenSpec.upto headRefusesSpec)

/-- 'penstocklaw04.HeadChunks', WHERE WHAT IT READS IS OF BULK AT MOST 1048576: true; the input reads as it did. -/
def headChunksUptoRow : OpenClaim := { program := "ytppgojcfgdooiaa", sum := "575c53379f7b3644501c3cd845021e2e6654c08de695182c08c17ad59affb6f8", func := "penstock/penstocklaw04.HeadChunks", spec := "headChunks", unfollowed := true, recurses := true, apart := false, narrowed := true }
def HeadChunksUptoSaid : Prop := headChunksUptoRow.holds Try.pinned (OpenSpec.upto headChunksSpec)

/-- 'penstocklaw04.HeadGrows', WHERE WHAT IT READS IS OF BULK AT MOST 1048576: true; the input reads as it did. -/
def headGrowsUptoRow : OpenClaim := { program := "ytppgojcfgdooiaa", sum := "575c53379f7b3644501c3cd845021e2e6654c08de695182c08c17ad59affb6f8", func := "penstock/penstocklaw04.HeadGrows", spec := "headGrows", unfollowed := true, recurses := true, apart := false, narrowed := true }
def HeadGrowsUptoSaid : Prop := headGrowsUptoRow.holds Try.pinned (OpenSpec.upto headGrowsSpec)

/-- 'penstocklaw04.HeadTakes', WHERE WHAT IT READS IS OF BULK AT MOST 1048576: true; the input reads as it did. -/
def headTakesUptoRow : OpenClaim := { program := "ytppgojcfgdooiaa", sum := "575c53379f7b3644501c3cd845021e2e6654c08de695182c08c17ad59affb6f8", func := "penstock/penstocklaw04.HeadTakes", spec := "headTakes", unfollowed := true, recurses := true, apart := false, narrowed := true }
def HeadTakesUptoSaid : Prop := headTakesUptoRow.holds Try.pinned (OpenSpec.upto headTakesSpec)

end Rows
end Go.Proofs.Ytppgojcfgdooiaa
