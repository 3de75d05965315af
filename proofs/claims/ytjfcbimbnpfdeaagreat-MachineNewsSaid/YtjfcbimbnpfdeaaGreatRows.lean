/-
  No cell of these rows narrows 'for every input' (looked for: loops, veiled, ifaces, maps, wideKeys, modest, calm, conditions, laid).
  DERIVED. THE GIVEN ROWS OF THIS SEAT. 9 by the template 'for every input the law returns true; each argument reads behind the call as it read before'; 0 by the template 'total and deterministic' (their statements: YtjfcbimbnpfdeaaGreatTotals.lean).
  GIVEN WITH THE SEED: the statements are not yours to turn. If you find one false, say at which input.
  Laid BY PROGRAM, IN A SANDBOX (cutbox-rows.mjs): the forced cells as the released guide's own fill.sh prints them over the translation 08b79a999b3829b8… (all of the seat's roots in one cut). By AI agents, Wed Nov 11 2026. No macro, syntax, notation, axiom, sorry.
-/
import Derived.Test.YtjfcbimbnpfdeaaGreatChecked
import GoSem.Claim
import GoSem.ClaimJoined
import GoSem.ClaimMapViews
import Derived.JoinedTies
import Derived.KernelRfl
namespace Go.Proofs.YtjfcbimbnpfdeaaGreat
/- THE CELL 'sum', in the pinned program and in every row, IS THE sha256 OF THE DUMP (.gsa) THAT YtjfcbimbnpfdeaaGreatProg.lean LOADS. Nothing in Lean hashes anything: it is a label: what it is worth is what the hold of that sum in a sandbox is worth. -/
noncomputable def Tryz.pinned : Pinned := { name := "ytjfcbimbnpfdeaagreat", sum := "08b79a999b3829b8972a46cdccf75e210cbd19dcfdc9580b0e91f8c96d76cb59", checked := Tryz.checked }
namespace Rows
def none {H : Type} : Left H := { results := [], args := [] }

/-- 'kindlinglaw06.MachineStops': WHATEVER THE INPUT: true; the input reads as it did. -/
def machineStopsSpec : ChangeSpec := { name := "machineStops", fn := fun _ => fun
  | [d1, d2] => { results := [.lit (.bool true)], args := [d1, d2] }
  | _ => none }
def machineStopsRow : OpenClaim := { program := "ytjfcbimbnpfdeaagreat", sum := "08b79a999b3829b8972a46cdccf75e210cbd19dcfdc9580b0e91f8c96d76cb59", func := "kindling/kindlinglaw06.MachineStops", spec := "machineStops", unfollowed := true, recurses := true, apart := false }
def MachineStopsSaid : Prop := machineStopsRow.holds Tryz.pinned (OpenSpec.ofChange machineStopsSpec)

/-- ITS FALSE NEIGHBOUR: 'it returns false'. Refute it at one input. -/
def machineStopsWrong : ChangeSpec := { name := "machineStops", fn := fun _ => fun
  | [d1, d2] => { results := [.lit (.bool false)], args := [d1, d2] }
  | _ => none }
def MachineStopsWrongFalsely : Prop := machineStopsRow.holds Tryz.pinned (OpenSpec.ofChange machineStopsWrong)

/-- 'kindlinglaw06.MachineMore': WHATEVER THE INPUT: true; the input reads as it did. -/
def machineMoreSpec : ChangeSpec := { name := "machineMore", fn := fun _ => fun
  | [d1, d2, d3] => { results := [.lit (.bool true)], args := [d1, d2, d3] }
  | _ => none }
def machineMoreRow : OpenClaim := { program := "ytjfcbimbnpfdeaagreat", sum := "08b79a999b3829b8972a46cdccf75e210cbd19dcfdc9580b0e91f8c96d76cb59", func := "kindling/kindlinglaw06.MachineMore", spec := "machineMore", unfollowed := true, recurses := true, apart := false }
def MachineMoreSaid : Prop := machineMoreRow.holds Tryz.pinned (OpenSpec.ofChange machineMoreSpec)

/-- ITS FALSE NEIGHBOUR: 'it returns false'. Refute it at one input. -/
def machineMoreWrong : ChangeSpec := { name := "machineMore", fn := fun _ => fun
  | [d1, d2, d3] => { results := [.lit (.bool false)], args := [d1, d2, d3] }
  | _ => none }
def MachineMoreWrongFalsely : Prop := machineMoreRow.holds Tryz.pinned (OpenSpec.ofChange machineMoreWrong)

/-- 'kindlinglaw06.MachineNews': WHATEVER THE INPUT: true; the input reads as it did. -/
def machineNewsSpec : ChangeSpec := { name := "machineNews", fn := fun _ => fun
  | [d1, d2] => { results := [.lit (.bool true)], args := [d1, d2] }
  | _ => none }
def machineNewsRow : OpenClaim := { program := "ytjfcbimbnpfdeaagreat", sum := "08b79a999b3829b8972a46cdccf75e210cbd19dcfdc9580b0e91f8c96d76cb59", func := "kindling/kindlinglaw06.MachineNews", spec := "machineNews", unfollowed := true, recurses := true, apart := false }
def MachineNewsSaid : Prop := machineNewsRow.holds Tryz.pinned (OpenSpec.ofChange machineNewsSpec)

/-- ITS FALSE NEIGHBOUR: 'it returns false'. Refute it at one input. -/
def machineNewsWrong : ChangeSpec := { name := "machineNews", fn := fun _ => fun
  | [d1, d2] => { results := [.lit (.bool false)], args := [d1, d2] }
  | _ => none }
def MachineNewsWrongFalsely : Prop := machineNewsRow.holds Tryz.pinned (OpenSpec.ofChange machineNewsWrong)

/-- 'kindlinglaw06.MachineLoads': WHATEVER THE INPUT: true; the input reads as it did. -/
def machineLoadsSpec : ChangeSpec := { name := "machineLoads", fn := fun _ => fun
  | [d1, d2, d3] => { results := [.lit (.bool true)], args := [d1, d2, d3] }
  | _ => none }
def machineLoadsRow : OpenClaim := { program := "ytjfcbimbnpfdeaagreat", sum := "08b79a999b3829b8972a46cdccf75e210cbd19dcfdc9580b0e91f8c96d76cb59", func := "kindling/kindlinglaw06.MachineLoads", spec := "machineLoads", unfollowed := true, recurses := true, apart := false }
def MachineLoadsSaid : Prop := machineLoadsRow.holds Tryz.pinned (OpenSpec.ofChange machineLoadsSpec)

/-- ITS FALSE NEIGHBOUR: 'it returns false'. Refute it at one input. -/
def machineLoadsWrong : ChangeSpec := { name := "machineLoads", fn := fun _ => fun
  | [d1, d2, d3] => { results := [.lit (.bool false)], args := [d1, d2, d3] }
  | _ => none }
def MachineLoadsWrongFalsely : Prop := machineLoadsRow.holds Tryz.pinned (OpenSpec.ofChange machineLoadsWrong)

/-- 'kindlinglaw06.MachineRuns': WHATEVER THE INPUT: true; the input reads as it did. -/
def machineRunsSpec : ChangeSpec := { name := "machineRuns", fn := fun _ => fun
  | [d1, d2] => { results := [.lit (.bool true)], args := [d1, d2] }
  | _ => none }
def machineRunsRow : OpenClaim := { program := "ytjfcbimbnpfdeaagreat", sum := "08b79a999b3829b8972a46cdccf75e210cbd19dcfdc9580b0e91f8c96d76cb59", func := "kindling/kindlinglaw06.MachineRuns", spec := "machineRuns", unfollowed := true, recurses := true, apart := false }
def MachineRunsSaid : Prop := machineRunsRow.holds Tryz.pinned (OpenSpec.ofChange machineRunsSpec)

/-- ITS FALSE NEIGHBOUR: 'it returns false'. Refute it at one input. -/
def machineRunsWrong : ChangeSpec := { name := "machineRuns", fn := fun _ => fun
  | [d1, d2] => { results := [.lit (.bool false)], args := [d1, d2] }
  | _ => none }
def MachineRunsWrongFalsely : Prop := machineRunsRow.holds Tryz.pinned (OpenSpec.ofChange machineRunsWrong)

/-- 'kindlinglaw06.MachineAgain': WHATEVER THE INPUT: true; the input reads as it did. -/
def machineAgainSpec : ChangeSpec := { name := "machineAgain", fn := fun _ => fun
  | [d1, d2, d3] => { results := [.lit (.bool true)], args := [d1, d2, d3] }
  | _ => none }
def machineAgainRow : OpenClaim := { program := "ytjfcbimbnpfdeaagreat", sum := "08b79a999b3829b8972a46cdccf75e210cbd19dcfdc9580b0e91f8c96d76cb59", func := "kindling/kindlinglaw06.MachineAgain", spec := "machineAgain", unfollowed := true, recurses := true, apart := false }
def MachineAgainSaid : Prop := machineAgainRow.holds Tryz.pinned (OpenSpec.ofChange machineAgainSpec)

/-- ITS FALSE NEIGHBOUR: 'it returns false'. Refute it at one input. -/
def machineAgainWrong : ChangeSpec := { name := "machineAgain", fn := fun _ => fun
  | [d1, d2, d3] => { results := [.lit (.bool false)], args := [d1, d2, d3] }
  | _ => none }
def MachineAgainWrongFalsely : Prop := machineAgainRow.holds Tryz.pinned (OpenSpec.ofChange machineAgainWrong)

/-- 'kindlinglaw06.MachineMoves': WHATEVER THE INPUT: true; the input reads as it did. -/
def machineMovesSpec : ChangeSpec := { name := "machineMoves", fn := fun _ => fun
  | [d1, d2, d3] => { results := [.lit (.bool true)], args := [d1, d2, d3] }
  | _ => none }
def machineMovesRow : OpenClaim := { program := "ytjfcbimbnpfdeaagreat", sum := "08b79a999b3829b8972a46cdccf75e210cbd19dcfdc9580b0e91f8c96d76cb59", func := "kindling/kindlinglaw06.MachineMoves", spec := "machineMoves", unfollowed := true, recurses := true, apart := false }
def MachineMovesSaid : Prop := machineMovesRow.holds Tryz.pinned (OpenSpec.ofChange machineMovesSpec)

/-- ITS FALSE NEIGHBOUR: 'it returns false'. Refute it at one input. -/
def machineMovesWrong : ChangeSpec := { name := "machineMoves", fn := fun _ => fun
  | [d1, d2, d3] => { results := [.lit (.bool false)], args := [d1, d2, d3] }
  | _ => none }
def MachineMovesWrongFalsely : Prop := machineMovesRow.holds Tryz.pinned (OpenSpec.ofChange machineMovesWrong)

/-- 'kindlinglaw06.MachineClears': WHATEVER THE INPUT: true; the input reads as it did. -/
def machineClearsSpec : ChangeSpec := { name := "machineClears", fn := fun _ => fun
  | [d1, d2, d3] => { results := [.lit (.bool true)], args := [d1, d2, d3] }
  | _ => none }
def machineClearsRow : OpenClaim := { program := "ytjfcbimbnpfdeaagreat", sum := "08b79a999b3829b8972a46cdccf75e210cbd19dcfdc9580b0e91f8c96d76cb59", func := "kindling/kindlinglaw06.MachineClears", spec := "machineClears", unfollowed := true, recurses := true, apart := false }
def MachineClearsSaid : Prop := machineClearsRow.holds Tryz.pinned (OpenSpec.ofChange machineClearsSpec)

/-- ITS FALSE NEIGHBOUR: 'it returns false'. Refute it at one input. -/
def machineClearsWrong : ChangeSpec := { name := "machineClears", fn := fun _ => fun
  | [d1, d2, d3] => { results := [.lit (.bool false)], args := [d1, d2, d3] }
  | _ => none }
def MachineClearsWrongFalsely : Prop := machineClearsRow.holds Tryz.pinned (OpenSpec.ofChange machineClearsWrong)

/-- 'kindlinglaw06.MachineCopies': WHATEVER THE INPUT: true; the input reads as it did. -/
def machineCopiesSpec : ChangeSpec := { name := "machineCopies", fn := fun _ => fun
  | [d1, d2] => { results := [.lit (.bool true)], args := [d1, d2] }
  | _ => none }
def machineCopiesRow : OpenClaim := { program := "ytjfcbimbnpfdeaagreat", sum := "08b79a999b3829b8972a46cdccf75e210cbd19dcfdc9580b0e91f8c96d76cb59", func := "kindling/kindlinglaw06.MachineCopies", spec := "machineCopies", unfollowed := true, recurses := true, apart := false }
def MachineCopiesSaid : Prop := machineCopiesRow.holds Tryz.pinned (OpenSpec.ofChange machineCopiesSpec)

/-- ITS FALSE NEIGHBOUR: 'it returns false'. Refute it at one input. -/
def machineCopiesWrong : ChangeSpec := { name := "machineCopies", fn := fun _ => fun
  | [d1, d2] => { results := [.lit (.bool false)], args := [d1, d2] }
  | _ => none }
def MachineCopiesWrongFalsely : Prop := machineCopiesRow.holds Tryz.pinned (OpenSpec.ofChange machineCopiesWrong)

/- THE SECOND FORM. 'bulk': how many values and letters a reading holds, each counted each time it is reached (what is shared counts as often as it is met; a slice's spare places count too). A statement '..UptoSaid' is the law's where the arguments, and the package variables that the reading takes, are together of bulk at most 1048576: NARROWER than '..Said'. Prove '..Said' where nothing that the law and all that it calls make is longer than what came in: it says more and counts as full. Else prove '..UptoSaid'. A law counts once. -/
mutual
def uptoBulk {H : Type} : DataW H → Nat
  | .lit (.string bytes) => bytes.length + 1
  | .lit _ => 1
  | .nil => 1
  | .ptr d => uptoBulk d + 1
  | .slice elems spare => uptoBulkAll elems + uptoBulkAll spare + 1
  | .agg parts => uptoBulkAll parts + 1
  | .iface _ d => uptoBulk d + 1
  | .map entries => uptoBulkEntries entries + 1
  | .held _ => 1
def uptoBulkAll {H : Type} : List (DataW H) → Nat
  | [] => 0
  | d :: r => uptoBulk d + uptoBulkAll r
def uptoBulkEntries {H : Type} : List (Lit × DataW H) → Nat
  | [] => 0
  | x :: r => uptoBulkEntry x + uptoBulkEntries r
def uptoBulkEntry {H : Type} : Lit × DataW H → Nat
  | (.string bytes, d) => bytes.length + uptoBulk d + 1
  | (_, d) => uptoBulk d + 1
 end
def uptoSmall : (H : Type) → List (DataW H) → Bool := fun _ ds => decide (uptoBulkAll ds ≤ 1048576)
def OpenSpec.upto (s : _root_.Go.ChangeSpec) : _root_.Go.OpenSpec := { _root_.Go.OpenSpec.ofChange s with cond := some uptoSmall }

/-- 'kindlinglaw06.MachineStops', WHERE WHAT IT READS IS OF BULK AT MOST 1048576: true; the input reads as it did. -/
def machineStopsUptoRow : OpenClaim := { program := "ytjfcbimbnpfdeaagreat", sum := "08b79a999b3829b8972a46cdccf75e210cbd19dcfdc9580b0e91f8c96d76cb59", func := "kindling/kindlinglaw06.MachineStops", spec := "machineStops", unfollowed := true, recurses := true, apart := false, narrowed := true }
def MachineStopsUptoSaid : Prop := machineStopsUptoRow.holds Tryz.pinned (OpenSpec.upto machineStopsSpec)

/-- 'kindlinglaw06.MachineMore', WHERE WHAT IT READS IS OF BULK AT MOST 1048576: true; the input reads as it did. -/
def machineMoreUptoRow : OpenClaim := { program := "ytjfcbimbnpfdeaagreat", sum := "08b79a999b3829b8972a46cdccf75e210cbd19dcfdc9580b0e91f8c96d76cb59", func := "kindling/kindlinglaw06.MachineMore", spec := "machineMore", unfollowed := true, recurses := true, apart := false, narrowed := true }
def MachineMoreUptoSaid : Prop := machineMoreUptoRow.holds Tryz.pinned (OpenSpec.upto machineMoreSpec)

/-- 'kindlinglaw06.MachineNews', WHERE WHAT IT READS IS OF BULK AT MOST 1048576: true; the input reads as it did. -/
def machineNewsUptoRow : OpenClaim := { program := "ytjfcbimbnpfdeaagreat", sum := "08b79a999b3829b8972a46cdccf75e210cbd19dcfdc9580b0e91f8c96d76cb59", func := "kindling/kindlinglaw06.MachineNews", spec := "machineNews", unfollowed := true, recurses := true, apart := false, narrowed := true }
def MachineNewsUptoSaid : Prop := machineNewsUptoRow.holds Tryz.pinned (OpenSpec.upto machineNewsSpec)

/-- 'kindlinglaw06.MachineLoads', WHERE WHAT IT READS IS OF BULK AT MOST 1048576: true; the input reads as it did. -/
def machineLoadsUptoRow : OpenClaim := { program := "ytjfcbimbnpfdeaagreat", sum := "08b79a999b3829b8972a46cdccf75e210cbd19dcfdc9580b0e91f8c96d76cb59", func := "kindling/kindlinglaw06.MachineLoads", spec := "machineLoads", unfollowed := true, recurses := true, apart := false, narrowed := true }
def MachineLoadsUptoSaid : Prop := machineLoadsUptoRow.holds Tryz.pinned (OpenSpec.upto machineLoadsSpec)

/-- 'kindlinglaw06.MachineRuns', WHERE WHAT IT READS IS OF BULK AT MOST 1048576: true; the input reads as it did. -/
def machineRunsUptoRow : OpenClaim := { program := "ytjfcbimbnpfdeaagreat", sum := "08b79a999b3829b8972a46cdccf75e210cbd19dcfdc9580b0e91f8c96d76cb59", func := "kindling/kindlinglaw06.MachineRuns", spec := "machineRuns", unfollowed := true, recurses := true, apart := false, narrowed := true }
def MachineRunsUptoSaid : Prop := machineRunsUptoRow.holds Tryz.pinned (OpenSpec.upto machineRunsSpec)

/-- 'kindlinglaw06.MachineAgain', WHERE WHAT IT READS IS OF BULK AT MOST 1048576: true; the input reads as it did. -/
def machineAgainUptoRow : OpenClaim := { program := "ytjfcbimbnpfdeaagreat", sum := "08b79a999b3829b8972a46cdccf75e210cbd19dcfdc9580b0e91f8c96d76cb59", func := "kindling/kindlinglaw06.MachineAgain", spec := "machineAgain", unfollowed := true, recurses := true, apart := false, narrowed := true }
def MachineAgainUptoSaid : Prop := machineAgainUptoRow.holds Tryz.pinned (OpenSpec.upto machineAgainSpec)

/-- 'kindlinglaw06.MachineMoves', WHERE WHAT IT READS IS OF BULK AT MOST 1048576: true; the input reads as it did. -/
def machineMovesUptoRow : OpenClaim := { program := "ytjfcbimbnpfdeaagreat", sum := "08b79a999b3829b8972a46cdccf75e210cbd19dcfdc9580b0e91f8c96d76cb59", func := "kindling/kindlinglaw06.MachineMoves", spec := "machineMoves", unfollowed := true, recurses := true, apart := false, narrowed := true }
def MachineMovesUptoSaid : Prop := machineMovesUptoRow.holds Tryz.pinned (OpenSpec.upto machineMovesSpec)

/-- 'kindlinglaw06.MachineClears', WHERE WHAT IT READS IS OF BULK AT MOST 1048576: true; the input reads as it did. -/
def machineClearsUptoRow : OpenClaim := { program := "ytjfcbimbnpfdeaagreat", sum := "08b79a999b3829b8972a46cdccf75e210cbd19dcfdc9580b0e91f8c96d76cb59", func := "kindling/kindlinglaw06.MachineClears", spec := "machineClears", unfollowed := true, recurses := true, apart := false, narrowed := true }
def MachineClearsUptoSaid : Prop := machineClearsUptoRow.holds Tryz.pinned (OpenSpec.upto machineClearsSpec)

/-- 'kindlinglaw06.MachineCopies', WHERE WHAT IT READS IS OF BULK AT MOST 1048576: true; the input reads as it did. -/
def machineCopiesUptoRow : OpenClaim := { program := "ytjfcbimbnpfdeaagreat", sum := "08b79a999b3829b8972a46cdccf75e210cbd19dcfdc9580b0e91f8c96d76cb59", func := "kindling/kindlinglaw06.MachineCopies", spec := "machineCopies", unfollowed := true, recurses := true, apart := false, narrowed := true }
def MachineCopiesUptoSaid : Prop := machineCopiesUptoRow.holds Tryz.pinned (OpenSpec.upto machineCopiesSpec)

end Rows
end Go.Proofs.YtjfcbimbnpfdeaaGreat
