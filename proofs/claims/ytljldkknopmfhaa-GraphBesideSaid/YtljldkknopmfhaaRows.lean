/-
  No cell of these rows narrows 'for every input' (looked for: loops, veiled, ifaces, maps, wideKeys, modest, calm, conditions, laid).
  DERIVED. THE GIVEN ROWS OF THIS SEAT. 13 by the template 'for every input the law returns true; each argument reads behind the call as it read before'; 0 by the template 'total and deterministic' (their statements: YtljldkknopmfhaaTotals.lean).
  GIVEN WITH THE SEED: the statements are not yours to turn. If you find one false, say at which input.
  Laid BY PROGRAM, IN A SANDBOX (cutbox-rows.mjs): the forced cells as the released guide's own fill.sh prints them over the translation e2562ae35c0c8206… (all of the seat's roots in one cut). By AI agents, Wed Nov 11 2026. No macro, syntax, notation, axiom, sorry.
-/
import Derived.Test.YtljldkknopmfhaaChecked
import GoSem.Claim
import GoSem.ClaimJoined
import GoSem.ClaimMapViews
import Derived.JoinedTies
import Derived.KernelRfl
namespace Go.Proofs.Ytljldkknopmfhaa
/- THE CELL 'sum', in the pinned program and in every row, IS THE sha256 OF THE DUMP (.gsa) THAT YtljldkknopmfhaaProg.lean LOADS. Nothing in Lean hashes anything: it is a label: what it is worth is what the hold of that sum in a sandbox is worth. -/
noncomputable def Try.pinned : Pinned := { name := "ytljldkknopmfhaa", sum := "e2562ae35c0c8206538d4dc08fd5bc2440d242b58dca08c3784cd331402a95ae", checked := Try.checked }
namespace Rows
def none {H : Type} : Left H := { results := [], args := [] }

/-- 'penstocklaw17.FilesKeeps': WHATEVER THE INPUT: true; the input reads as it did. -/
def filesKeepsSpec : ChangeSpec := { name := "filesKeeps", fn := fun _ => fun
  | [d1, d2] => { results := [.lit (.bool true)], args := [d1, d2] }
  | _ => none }
def filesKeepsRow : OpenClaim := { program := "ytljldkknopmfhaa", sum := "e2562ae35c0c8206538d4dc08fd5bc2440d242b58dca08c3784cd331402a95ae", func := "penstock/penstocklaw17.FilesKeeps", spec := "filesKeeps", unfollowed := true, recurses := true, apart := false }
def FilesKeepsSaid : Prop := filesKeepsRow.holds Try.pinned (OpenSpec.ofChange filesKeepsSpec)

/-- ITS FALSE NEIGHBOUR: 'it returns false'. Refute it at one input. -/
def filesKeepsWrong : ChangeSpec := { name := "filesKeeps", fn := fun _ => fun
  | [d1, d2] => { results := [.lit (.bool false)], args := [d1, d2] }
  | _ => none }
def FilesKeepsWrongFalsely : Prop := filesKeepsRow.holds Try.pinned (OpenSpec.ofChange filesKeepsWrong)

/-- 'penstocklaw03.ParamsCheck': WHATEVER THE INPUT: true; the input reads as it did. -/
def paramsCheckSpec : ChangeSpec := { name := "paramsCheck", fn := fun _ => fun
  | [d] => { results := [.lit (.bool true)], args := [d] }
  | _ => none }
def paramsCheckRow : OpenClaim := { program := "ytljldkknopmfhaa", sum := "e2562ae35c0c8206538d4dc08fd5bc2440d242b58dca08c3784cd331402a95ae", func := "penstock/penstocklaw03.ParamsCheck", spec := "paramsCheck", recurses := true, apart := false }
def ParamsCheckSaid : Prop := paramsCheckRow.holds Try.pinned (OpenSpec.ofChange paramsCheckSpec)

/-- ITS FALSE NEIGHBOUR: 'it returns false'. Refute it at one input. -/
def paramsCheckWrong : ChangeSpec := { name := "paramsCheck", fn := fun _ => fun
  | [d] => { results := [.lit (.bool false)], args := [d] }
  | _ => none }
def ParamsCheckWrongFalsely : Prop := paramsCheckRow.holds Try.pinned (OpenSpec.ofChange paramsCheckWrong)

/-- 'penstocklaw03.ParamsTells': WHATEVER THE INPUT: true; the input reads as it did. -/
def paramsTellsSpec : ChangeSpec := { name := "paramsTells", fn := fun _ => fun
  | [d] => { results := [.lit (.bool true)], args := [d] }
  | _ => none }
def paramsTellsRow : OpenClaim := { program := "ytljldkknopmfhaa", sum := "e2562ae35c0c8206538d4dc08fd5bc2440d242b58dca08c3784cd331402a95ae", func := "penstock/penstocklaw03.ParamsTells", spec := "paramsTells", recurses := true, apart := false }
def ParamsTellsSaid : Prop := paramsTellsRow.holds Try.pinned (OpenSpec.ofChange paramsTellsSpec)

/-- ITS FALSE NEIGHBOUR: 'it returns false'. Refute it at one input. -/
def paramsTellsWrong : ChangeSpec := { name := "paramsTells", fn := fun _ => fun
  | [d] => { results := [.lit (.bool false)], args := [d] }
  | _ => none }
def ParamsTellsWrongFalsely : Prop := paramsTellsRow.holds Try.pinned (OpenSpec.ofChange paramsTellsWrong)

/-- 'penstocklaw03.ParamsBounds': WHATEVER THE INPUT: true; the input reads as it did. -/
def paramsBoundsSpec : ChangeSpec := { name := "paramsBounds", fn := fun _ => fun
  | [d1, d2] => { results := [.lit (.bool true)], args := [d1, d2] }
  | _ => none }
def paramsBoundsRow : OpenClaim := { program := "ytljldkknopmfhaa", sum := "e2562ae35c0c8206538d4dc08fd5bc2440d242b58dca08c3784cd331402a95ae", func := "penstock/penstocklaw03.ParamsBounds", spec := "paramsBounds", recurses := true, apart := false }
def ParamsBoundsSaid : Prop := paramsBoundsRow.holds Try.pinned (OpenSpec.ofChange paramsBoundsSpec)

/-- ITS FALSE NEIGHBOUR: 'it returns false'. Refute it at one input. -/
def paramsBoundsWrong : ChangeSpec := { name := "paramsBounds", fn := fun _ => fun
  | [d1, d2] => { results := [.lit (.bool false)], args := [d1, d2] }
  | _ => none }
def ParamsBoundsWrongFalsely : Prop := paramsBoundsRow.holds Try.pinned (OpenSpec.ofChange paramsBoundsWrong)

/-- 'penstocklaw03.ParamsSame': WHATEVER THE INPUT: true; the input reads as it did. -/
def paramsSameSpec : ChangeSpec := { name := "paramsSame", fn := fun _ => fun
  | [d1, d2] => { results := [.lit (.bool true)], args := [d1, d2] }
  | _ => none }
def paramsSameRow : OpenClaim := { program := "ytljldkknopmfhaa", sum := "e2562ae35c0c8206538d4dc08fd5bc2440d242b58dca08c3784cd331402a95ae", func := "penstock/penstocklaw03.ParamsSame", spec := "paramsSame", recurses := true, apart := false }
def ParamsSameSaid : Prop := paramsSameRow.holds Try.pinned (OpenSpec.ofChange paramsSameSpec)

/-- ITS FALSE NEIGHBOUR: 'it returns false'. Refute it at one input. -/
def paramsSameWrong : ChangeSpec := { name := "paramsSame", fn := fun _ => fun
  | [d1, d2] => { results := [.lit (.bool false)], args := [d1, d2] }
  | _ => none }
def ParamsSameWrongFalsely : Prop := paramsSameRow.holds Try.pinned (OpenSpec.ofChange paramsSameWrong)

/-- 'penstocklaw17.FilesPlays': WHATEVER THE INPUT: true; the input reads as it did. -/
def filesPlaysSpec : ChangeSpec := { name := "filesPlays", fn := fun _ => fun
  | [d1, d2] => { results := [.lit (.bool true)], args := [d1, d2] }
  | _ => none }
def filesPlaysRow : OpenClaim := { program := "ytljldkknopmfhaa", sum := "e2562ae35c0c8206538d4dc08fd5bc2440d242b58dca08c3784cd331402a95ae", func := "penstock/penstocklaw17.FilesPlays", spec := "filesPlays", unfollowed := true, recurses := true, apart := false }
def FilesPlaysSaid : Prop := filesPlaysRow.holds Try.pinned (OpenSpec.ofChange filesPlaysSpec)

/-- ITS FALSE NEIGHBOUR: 'it returns false'. Refute it at one input. -/
def filesPlaysWrong : ChangeSpec := { name := "filesPlays", fn := fun _ => fun
  | [d1, d2] => { results := [.lit (.bool false)], args := [d1, d2] }
  | _ => none }
def FilesPlaysWrongFalsely : Prop := filesPlaysRow.holds Try.pinned (OpenSpec.ofChange filesPlaysWrong)

/-- 'penstocklaw17.FilesNobody': WHATEVER THE INPUT: true; the input reads as it did. -/
def filesNobodySpec : ChangeSpec := { name := "filesNobody", fn := fun _ => fun
  | [] => { results := [.lit (.bool true)], args := [] }
  | _ => none }
def filesNobodyRow : OpenClaim := { program := "ytljldkknopmfhaa", sum := "e2562ae35c0c8206538d4dc08fd5bc2440d242b58dca08c3784cd331402a95ae", func := "penstock/penstocklaw17.FilesNobody", spec := "filesNobody", unfollowed := true, recurses := true, apart := false }
def FilesNobodySaid : Prop := filesNobodyRow.holds Try.pinned (OpenSpec.ofChange filesNobodySpec)

/-- ITS FALSE NEIGHBOUR: 'it returns false'. Refute it at one input. -/
def filesNobodyWrong : ChangeSpec := { name := "filesNobody", fn := fun _ => fun
  | [] => { results := [.lit (.bool false)], args := [] }
  | _ => none }
def FilesNobodyWrongFalsely : Prop := filesNobodyRow.holds Try.pinned (OpenSpec.ofChange filesNobodyWrong)

/-- 'penstocklaw20.GraphCheck': WHATEVER THE INPUT: true; the input reads as it did. -/
def graphCheckSpec : ChangeSpec := { name := "graphCheck", fn := fun _ => fun
  | [d] => { results := [.lit (.bool true)], args := [d] }
  | _ => none }
def graphCheckRow : OpenClaim := { program := "ytljldkknopmfhaa", sum := "e2562ae35c0c8206538d4dc08fd5bc2440d242b58dca08c3784cd331402a95ae", func := "penstock/penstocklaw20.GraphCheck", spec := "graphCheck", unfollowed := true, recurses := true, apart := false }
def GraphCheckSaid : Prop := graphCheckRow.holds Try.pinned (OpenSpec.ofChange graphCheckSpec)

/-- ITS FALSE NEIGHBOUR: 'it returns false'. Refute it at one input. -/
def graphCheckWrong : ChangeSpec := { name := "graphCheck", fn := fun _ => fun
  | [d] => { results := [.lit (.bool false)], args := [d] }
  | _ => none }
def GraphCheckWrongFalsely : Prop := graphCheckRow.holds Try.pinned (OpenSpec.ofChange graphCheckWrong)

/-- 'penstocklaw20.GraphOrders': WHATEVER THE INPUT: true; the input reads as it did. -/
def graphOrdersSpec : ChangeSpec := { name := "graphOrders", fn := fun _ => fun
  | [d] => { results := [.lit (.bool true)], args := [d] }
  | _ => none }
def graphOrdersRow : OpenClaim := { program := "ytljldkknopmfhaa", sum := "e2562ae35c0c8206538d4dc08fd5bc2440d242b58dca08c3784cd331402a95ae", func := "penstock/penstocklaw20.GraphOrders", spec := "graphOrders", unfollowed := true, recurses := true, apart := false }
def GraphOrdersSaid : Prop := graphOrdersRow.holds Try.pinned (OpenSpec.ofChange graphOrdersSpec)

/-- ITS FALSE NEIGHBOUR: 'it returns false'. Refute it at one input. -/
def graphOrdersWrong : ChangeSpec := { name := "graphOrders", fn := fun _ => fun
  | [d] => { results := [.lit (.bool false)], args := [d] }
  | _ => none }
def GraphOrdersWrongFalsely : Prop := graphOrdersRow.holds Try.pinned (OpenSpec.ofChange graphOrdersWrong)

/-- 'penstocklaw20.GraphForward': WHATEVER THE INPUT: true; the input reads as it did. -/
def graphForwardSpec : ChangeSpec := { name := "graphForward", fn := fun _ => fun
  | [d] => { results := [.lit (.bool true)], args := [d] }
  | _ => none }
def graphForwardRow : OpenClaim := { program := "ytljldkknopmfhaa", sum := "e2562ae35c0c8206538d4dc08fd5bc2440d242b58dca08c3784cd331402a95ae", func := "penstock/penstocklaw20.GraphForward", spec := "graphForward", unfollowed := true, recurses := true, apart := false }
def GraphForwardSaid : Prop := graphForwardRow.holds Try.pinned (OpenSpec.ofChange graphForwardSpec)

/-- ITS FALSE NEIGHBOUR: 'it returns false'. Refute it at one input. -/
def graphForwardWrong : ChangeSpec := { name := "graphForward", fn := fun _ => fun
  | [d] => { results := [.lit (.bool false)], args := [d] }
  | _ => none }
def GraphForwardWrongFalsely : Prop := graphForwardRow.holds Try.pinned (OpenSpec.ofChange graphForwardWrong)

/-- 'penstocklaw20.GraphJoined': WHATEVER THE INPUT: true; the input reads as it did. -/
def graphJoinedSpec : ChangeSpec := { name := "graphJoined", fn := fun _ => fun
  | [d] => { results := [.lit (.bool true)], args := [d] }
  | _ => none }
def graphJoinedRow : OpenClaim := { program := "ytljldkknopmfhaa", sum := "e2562ae35c0c8206538d4dc08fd5bc2440d242b58dca08c3784cd331402a95ae", func := "penstock/penstocklaw20.GraphJoined", spec := "graphJoined", unfollowed := true, recurses := true, apart := false }
def GraphJoinedSaid : Prop := graphJoinedRow.holds Try.pinned (OpenSpec.ofChange graphJoinedSpec)

/-- ITS FALSE NEIGHBOUR: 'it returns false'. Refute it at one input. -/
def graphJoinedWrong : ChangeSpec := { name := "graphJoined", fn := fun _ => fun
  | [d] => { results := [.lit (.bool false)], args := [d] }
  | _ => none }
def GraphJoinedWrongFalsely : Prop := graphJoinedRow.holds Try.pinned (OpenSpec.ofChange graphJoinedWrong)

/-- 'penstocklaw20.GraphBeside': WHATEVER THE INPUT: true; the input reads as it did. -/
def graphBesideSpec : ChangeSpec := { name := "graphBeside", fn := fun _ => fun
  | [d1, d2] => { results := [.lit (.bool true)], args := [d1, d2] }
  | _ => none }
def graphBesideRow : OpenClaim := { program := "ytljldkknopmfhaa", sum := "e2562ae35c0c8206538d4dc08fd5bc2440d242b58dca08c3784cd331402a95ae", func := "penstock/penstocklaw20.GraphBeside", spec := "graphBeside", unfollowed := true, recurses := true, apart := false }
def GraphBesideSaid : Prop := graphBesideRow.holds Try.pinned (OpenSpec.ofChange graphBesideSpec)

/-- ITS FALSE NEIGHBOUR: 'it returns false'. Refute it at one input. -/
def graphBesideWrong : ChangeSpec := { name := "graphBeside", fn := fun _ => fun
  | [d1, d2] => { results := [.lit (.bool false)], args := [d1, d2] }
  | _ => none }
def GraphBesideWrongFalsely : Prop := graphBesideRow.holds Try.pinned (OpenSpec.ofChange graphBesideWrong)

/-- 'penstocklaw20.GraphPorts': WHATEVER THE INPUT: true; the input reads as it did. -/
def graphPortsSpec : ChangeSpec := { name := "graphPorts", fn := fun _ => fun
  | [d1, d2] => { results := [.lit (.bool true)], args := [d1, d2] }
  | _ => none }
def graphPortsRow : OpenClaim := { program := "ytljldkknopmfhaa", sum := "e2562ae35c0c8206538d4dc08fd5bc2440d242b58dca08c3784cd331402a95ae", func := "penstock/penstocklaw20.GraphPorts", spec := "graphPorts", unfollowed := true, recurses := true, apart := false }
def GraphPortsSaid : Prop := graphPortsRow.holds Try.pinned (OpenSpec.ofChange graphPortsSpec)

/-- ITS FALSE NEIGHBOUR: 'it returns false'. Refute it at one input. -/
def graphPortsWrong : ChangeSpec := { name := "graphPorts", fn := fun _ => fun
  | [d1, d2] => { results := [.lit (.bool false)], args := [d1, d2] }
  | _ => none }
def GraphPortsWrongFalsely : Prop := graphPortsRow.holds Try.pinned (OpenSpec.ofChange graphPortsWrong)

/- THE SECOND FORM. 'bulk': how many values and letters a reading holds, each counted each time it is reached (what is shared counts as often as it is met; a slice's spare places count too). A statement '..UptoSaid' is the law's where the arguments, and the package variables that the reading takes, are together of bulk at most 1048576: NARROWER than '..Said'. Prove '..Said' where nothing that the law and all that it calls make is longer than what came in: it says more and counts as full. Else prove '..UptoSaid'. A law counts once. -/
mutual
def uptoBulk {H : Type} : DataW H → Nat
  | .lit (.string bytes) => bytes.length + 1
  | .lit _ => 1
  | .nil => 1
  | .ptr d => uptoBulk d + 1
  | .slice elems spare => uptoBulkAll elems + uptoBulkAll spare + 1
  | .agg parts => uptoBulkAll parts + 1
  | .iface _ d => uptoBulk d + 1
  | .map entries => uptoBulkEntries entries + 1
  | .held _ => 1
def uptoBulkAll {H : Type} : List (DataW H) → Nat
  | [] => 0
  | d :: r => uptoBulk d + uptoBulkAll r
def uptoBulkEntries {H : Type} : List (Lit × DataW H) → Nat
  | [] => 0
  | x :: r => uptoBulkEntry x + uptoBulkEntries r
def uptoBulkEntry {H : Type} : Lit × DataW H → Nat
  | (.string bytes, d) => bytes.length + uptoBulk d + 1
  | (_, d) => uptoBulk d + 1
 end
def uptoSmall : (H : Type) → List (DataW H) → Bool := fun _ ds => decide (uptoBulkAll ds ≤ 1048576)
def OpenSpec.upto (s : _root_.Go.ChangeSpec) : _root_.Go.OpenSpec := { _root_.Go.OpenSpec.ofChange s with cond := some uptoSmall }

/-- 'penstocklaw17.FilesKeeps', WHERE WHAT IT READS IS OF BULK AT MOST 1048576: true; the input reads as it did. -/
def filesKeepsUptoRow : OpenClaim := { program := "ytljldkknopmfhaa", sum := "e2562ae35c0c8206538d4dc08fd5bc2440d242b58dca08c3784cd331402a95ae", func := "penstock/penstocklaw17.FilesKeeps", spec := "filesKeeps", unfollowed := true, recurses := true, apart := false, narrowed := true }
def FilesKeepsUptoSaid : Prop := filesKeepsUptoRow.holds Try.pinned (OpenSpec.upto filesKeepsSpec)

/-- 'penstocklaw03.ParamsCheck', WHERE WHAT IT READS IS OF BULK AT MOST 1048576: true; the input reads as it did. -/
def paramsCheckUptoRow : OpenClaim := { program := "ytljldkknopmfhaa", sum := "e2562ae35c0c8206538d4dc08fd5bc2440d242b58dca08c3784cd331402a95ae", func := "penstock/penstocklaw03.ParamsCheck", spec := "paramsCheck", recurses := true, apart := false, narrowed := true }
def ParamsCheckUptoSaid : Prop := paramsCheckUptoRow.holds Try.pinned (OpenSpec.upto paramsCheckSpec)

/-- 'penstocklaw03.ParamsTells', WHERE WHAT IT READS IS OF BULK AT MOST 1048576: true; the input reads as it did. -/
def paramsTellsUptoRow : OpenClaim := { program := "ytljldkknopmfhaa", sum := "e2562ae35c0c8206538d4dc08fd5bc2440d242b58dca08c3784cd331402a95ae", func := "penstock/penstocklaw03.ParamsTells", spec := "paramsTells", recurses := true, apart := false, narrowed := true }
def ParamsTellsUptoSaid : Prop := paramsTellsUptoRow.holds Try.pinned (OpenSpec.upto paramsTellsSpec)

/-- 'penstocklaw03.ParamsBounds', WHERE WHAT IT READS IS OF BULK AT MOST 1048576: true; the input reads as it did. -/
def paramsBoundsUptoRow : OpenClaim := { program := "ytljldkknopmfhaa", sum := "e2562ae35c0c8206538d4dc08fd5bc2440d242b58dca08c3784cd331402a95ae", func := "penstock/penstocklaw03.ParamsBounds", spec := "paramsBounds", recurses := true, apart := false, narrowed := true }
def ParamsBoundsUptoSaid : Prop := paramsBoundsUptoRow.holds Try.pinned (OpenSpec.upto paramsBoundsSpec)

/-- 'penstocklaw03.ParamsSame', WHERE WHAT IT READS IS OF BULK AT MOST 1048576: true; the input reads as it did. -/
def paramsSameUptoRow : OpenClaim := { program := "ytljldkknopmfhaa", sum := "e2562ae35c0c8206538d4dc08fd5bc2440d242b58dca08c3784cd331402a95ae", func := "penstock/penstocklaw03.ParamsSame", spec := "paramsSame", recurses := true, apart := false, narrowed := true }
def ParamsSameUptoSaid : Prop := paramsSameUptoRow.holds Try.pinned (OpenSpec.upto paramsSameSpec)

/-- 'penstocklaw17.FilesPlays', WHERE WHAT IT READS IS OF BULK AT MOST 1048576: true; the input reads as it did. -/
def filesPlaysUptoRow : OpenClaim := { program := "ytljldkknopmfhaa", sum := "e2562ae35c0c8206538d4dc08fd5bc2440d242b58dca08c3784cd331402a95ae", func := "penstock/penstocklaw17.FilesPlays", spec := "filesPlays", unfollowed := true, recurses := true, apart := false, narrowed := true }
def FilesPlaysUptoSaid : Prop := filesPlaysUptoRow.holds Try.pinned (OpenSpec.upto filesPlaysSpec)

/-- 'penstocklaw17.FilesNobody', WHERE WHAT IT READS IS OF BULK AT MOST 1048576: true; the input reads as it did. -/
def filesNobodyUptoRow : OpenClaim := { program := "ytljldkknopmfhaa", sum := "e2562ae35c0c8206538d4dc08fd5bc2440d242b58dca08c3784cd331402a95ae", func := "penstock/penstocklaw17.FilesNobody", spec := "filesNobody", unfollowed := true, recurses := true, apart := false, narrowed := true }
def FilesNobodyUptoSaid : Prop := filesNobodyUptoRow.holds Try.pinned (OpenSpec.upto filesNobodySpec)

/-- 'penstocklaw20.GraphCheck', WHERE WHAT IT READS IS OF BULK AT MOST 1048576: true; the input reads as it did. -/
def graphCheckUptoRow : OpenClaim := { program := "ytljldkknopmfhaa", sum := "e2562ae35c0c8206538d4dc08fd5bc2440d242b58dca08c3784cd331402a95ae", func := "penstock/penstocklaw20.GraphCheck", spec := "graphCheck", unfollowed := true, recurses := true, apart := false, narrowed := true }
def GraphCheckUptoSaid : Prop := graphCheckUptoRow.holds Try.pinned (OpenSpec.upto graphCheckSpec)

/-- 'penstocklaw20.GraphOrders', WHERE WHAT IT READS IS OF BULK AT MOST 1048576: true; the input reads as it did. -/
def graphOrdersUptoRow : OpenClaim := { program := "ytljldkknopmfhaa", sum := "e2562ae35c0c8206538d4dc08fd5bc2440d242b58dca08c3784cd331402a95ae", func := "penstock/penstocklaw20.GraphOrders", spec := "graphOrders", unfollowed := true, recurses := true, apart := false, narrowed := true }
def GraphOrdersUptoSaid : Prop := graphOrdersUptoRow.holds Try.pinned (OpenSpec.upto graphOrdersSpec)

/-- 'penstocklaw20.GraphForward', WHERE WHAT IT READS IS OF BULK AT MOST 1048576: true; the input reads as it did. -/
def graphForwardUptoRow : OpenClaim := { program := "ytljldkknopmfhaa", sum := "e2562ae35c0c8206538d4dc08fd5bc2440d242b58dca08c3784cd331402a95ae", func := "penstock/penstocklaw20.GraphForward", spec := "graphForward", unfollowed := true, recurses := true, apart := false, narrowed := true }
def GraphForwardUptoSaid : Prop := graphForwardUptoRow.holds Try.pinned (OpenSpec.upto graphForwardSpec)

/-- 'penstocklaw20.GraphJoined', WHERE WHAT IT READS IS OF BULK AT MOST 1048576: true; the input reads as it did. -/
def graphJoinedUptoRow : OpenClaim := { program := "ytljldkknopmfhaa", sum := "e2562ae35c0c8206538d4dc08fd5bc2440d242b58dca08c3784cd331402a95ae", func := "penstock/penstocklaw20.GraphJoined", spec := "graphJoined", unfollowed := true, recurses := true, apart := false, narrowed := true }
def GraphJoinedUptoSaid : Prop := graphJoinedUptoRow.holds Try.pinned (OpenSpec.upto graphJoinedSpec)

/-- 'penstocklaw20.GraphBeside', WHERE WHAT IT READS IS OF BULK AT MOST 1048576: true; the input reads as it did. -/
def graphBesideUptoRow : OpenClaim := { program := "ytljldkknopmfhaa", sum := "e2562ae35c0c8206538d4dc08fd5bc2440d242b58dca08c3784cd331402a95ae", func := "penstock/penstocklaw20.GraphBeside", spec := "graphBeside", unfollowed := true, recurses := true, apart := false, narrowed := true }
def GraphBesideUptoSaid : Prop := graphBesideUptoRow.holds Try.pinned (OpenSpec.upto graphBesideSpec)

/-- 'penstocklaw20.GraphPorts', WHERE WHAT IT READS IS OF BULK AT MOST 1048576: true; the input reads as it did. -/
def graphPortsUptoRow : OpenClaim := { program := "ytljldkknopmfhaa", sum := "e2562ae35c0c8206538d4dc08fd5bc2440d242b58dca08c3784cd331402a95ae", func := "penstock/penstocklaw20.GraphPorts", spec := "graphPorts", unfollowed := true, recurses := true, apart := false, narrowed := true }
def GraphPortsUptoSaid : Prop := graphPortsUptoRow.holds Try.pinned (OpenSpec.upto graphPortsSpec)

end Rows
end Go.Proofs.Ytljldkknopmfhaa
