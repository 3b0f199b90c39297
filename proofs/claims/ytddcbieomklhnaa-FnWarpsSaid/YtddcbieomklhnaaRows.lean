/-
  No cell of these rows narrows 'for every input' (looked for: loops, veiled, ifaces, maps, wideKeys, modest, calm, conditions, laid).
  DERIVED. THE GIVEN ROWS OF THIS SEAT. 12 by the template 'for every input the law returns true; each argument reads behind the call as it read before'; 0 by the template 'total and deterministic' (their statements: YtddcbieomklhnaaTotals.lean).
  GIVEN WITH THE SEED: the statements are not yours to turn. If you find one false, say at which input.
  Laid BY PROGRAM, IN A SANDBOX (cutbox-rows.mjs): the forced cells as the released guide's own fill.sh prints them over the translation bea795d230bab58d… (all of the seat's roots in one cut). By AI agents, Wed Nov 11 2026. No macro, syntax, notation, axiom, sorry.
-/
import Derived.Test.YtddcbieomklhnaaChecked
import GoSem.Claim
import GoSem.ClaimJoined
import GoSem.ClaimMapViews
import Derived.JoinedTies
import Derived.KernelRfl
namespace Go.Proofs.Ytddcbieomklhnaa
/- THE CELL 'sum', in the pinned program and in every row, IS THE sha256 OF THE DUMP (.gsa) THAT YtddcbieomklhnaaProg.lean LOADS. Nothing in Lean hashes anything: it is a label: what it is worth is what the hold of that sum in a sandbox is worth. -/
noncomputable def Try.pinned : Pinned := { name := "ytddcbieomklhnaa", sum := "bea795d230bab58db1d15d0dbabaa88245bd3323d4a618fa77c86b8b0748cfe3", checked := Try.checked }
namespace Rows
def none {H : Type} : Left H := { results := [], args := [] }

/-- 'laws.FnExactSameMesh': WHATEVER THE INPUT: true; the input reads as it did. -/
def fnExactSameMeshSpec : ChangeSpec := { name := "fnExactSameMesh", fn := fun _ => fun
  | [d1, d2] => { results := [.lit (.bool true)], args := [d1, d2] }
  | _ => none }
def fnExactSameMeshRow : OpenClaim := { program := "ytddcbieomklhnaa", sum := "bea795d230bab58db1d15d0dbabaa88245bd3323d4a618fa77c86b8b0748cfe3", func := "loop.example/g00955/laws.FnExactSameMesh", spec := "fnExactSameMesh", apart := false }
def FnExactSameMeshSaid : Prop := fnExactSameMeshRow.holds Try.pinned (OpenSpec.ofChange fnExactSameMeshSpec)

/-- ITS FALSE NEIGHBOUR: 'it returns false'. Refute it at one input. -/
def fnExactSameMeshWrong : ChangeSpec := { name := "fnExactSameMesh", fn := fun _ => fun
  | [d1, d2] => { results := [.lit (.bool false)], args := [d1, d2] }
  | _ => none }
def FnExactSameMeshWrongFalsely : Prop := fnExactSameMeshRow.holds Try.pinned (OpenSpec.ofChange fnExactSameMeshWrong)

/-- 'laws.FnExactValidMesh': WHATEVER THE INPUT: true; the input reads as it did. -/
def fnExactValidMeshSpec : ChangeSpec := { name := "fnExactValidMesh", fn := fun _ => fun
  | [d] => { results := [.lit (.bool true)], args := [d] }
  | _ => none }
def fnExactValidMeshRow : OpenClaim := { program := "ytddcbieomklhnaa", sum := "bea795d230bab58db1d15d0dbabaa88245bd3323d4a618fa77c86b8b0748cfe3", func := "loop.example/g00955/laws.FnExactValidMesh", spec := "fnExactValidMesh", apart := false }
def FnExactValidMeshSaid : Prop := fnExactValidMeshRow.holds Try.pinned (OpenSpec.ofChange fnExactValidMeshSpec)

/-- ITS FALSE NEIGHBOUR: 'it returns false'. Refute it at one input. -/
def fnExactValidMeshWrong : ChangeSpec := { name := "fnExactValidMesh", fn := fun _ => fun
  | [d] => { results := [.lit (.bool false)], args := [d] }
  | _ => none }
def FnExactValidMeshWrongFalsely : Prop := fnExactValidMeshRow.holds Try.pinned (OpenSpec.ofChange fnExactValidMeshWrong)

/-- 'laws.FnExactPlainMesh': WHATEVER THE INPUT: true; the input reads as it did. -/
def fnExactPlainMeshSpec : ChangeSpec := { name := "fnExactPlainMesh", fn := fun _ => fun
  | [d1, d2] => { results := [.lit (.bool true)], args := [d1, d2] }
  | _ => none }
def fnExactPlainMeshRow : OpenClaim := { program := "ytddcbieomklhnaa", sum := "bea795d230bab58db1d15d0dbabaa88245bd3323d4a618fa77c86b8b0748cfe3", func := "loop.example/g00955/laws.FnExactPlainMesh", spec := "fnExactPlainMesh", apart := false }
def FnExactPlainMeshSaid : Prop := fnExactPlainMeshRow.holds Try.pinned (OpenSpec.ofChange fnExactPlainMeshSpec)

/-- ITS FALSE NEIGHBOUR: 'it returns false'. Refute it at one input. -/
def fnExactPlainMeshWrong : ChangeSpec := { name := "fnExactPlainMesh", fn := fun _ => fun
  | [d1, d2] => { results := [.lit (.bool false)], args := [d1, d2] }
  | _ => none }
def FnExactPlainMeshWrongFalsely : Prop := fnExactPlainMeshRow.holds Try.pinned (OpenSpec.ofChange fnExactPlainMeshWrong)

/-- 'laws.FnExactWarpPoint': WHATEVER THE INPUT: true; the input reads as it did. -/
def fnExactWarpPointSpec : ChangeSpec := { name := "fnExactWarpPoint", fn := fun _ => fun
  | [d1, d2, d3] => { results := [.lit (.bool true)], args := [d1, d2, d3] }
  | _ => none }
def fnExactWarpPointRow : OpenClaim := { program := "ytddcbieomklhnaa", sum := "bea795d230bab58db1d15d0dbabaa88245bd3323d4a618fa77c86b8b0748cfe3", func := "loop.example/g00955/laws.FnExactWarpPoint", spec := "fnExactWarpPoint", apart := false }
def FnExactWarpPointSaid : Prop := fnExactWarpPointRow.holds Try.pinned (OpenSpec.ofChange fnExactWarpPointSpec)

/-- ITS FALSE NEIGHBOUR: 'it returns false'. Refute it at one input. -/
def fnExactWarpPointWrong : ChangeSpec := { name := "fnExactWarpPoint", fn := fun _ => fun
  | [d1, d2, d3] => { results := [.lit (.bool false)], args := [d1, d2, d3] }
  | _ => none }
def FnExactWarpPointWrongFalsely : Prop := fnExactWarpPointRow.holds Try.pinned (OpenSpec.ofChange fnExactWarpPointWrong)

/-- 'laws.FnExactFoldedCells': WHATEVER THE INPUT: true; the input reads as it did. -/
def fnExactFoldedCellsSpec : ChangeSpec := { name := "fnExactFoldedCells", fn := fun _ => fun
  | [d] => { results := [.lit (.bool true)], args := [d] }
  | _ => none }
def fnExactFoldedCellsRow : OpenClaim := { program := "ytddcbieomklhnaa", sum := "bea795d230bab58db1d15d0dbabaa88245bd3323d4a618fa77c86b8b0748cfe3", func := "loop.example/g00955/laws.FnExactFoldedCells", spec := "fnExactFoldedCells", apart := false }
def FnExactFoldedCellsSaid : Prop := fnExactFoldedCellsRow.holds Try.pinned (OpenSpec.ofChange fnExactFoldedCellsSpec)

/-- ITS FALSE NEIGHBOUR: 'it returns false'. Refute it at one input. -/
def fnExactFoldedCellsWrong : ChangeSpec := { name := "fnExactFoldedCells", fn := fun _ => fun
  | [d] => { results := [.lit (.bool false)], args := [d] }
  | _ => none }
def FnExactFoldedCellsWrongFalsely : Prop := fnExactFoldedCellsRow.holds Try.pinned (OpenSpec.ofChange fnExactFoldedCellsWrong)

/-- 'laws.FnExactRefineMesh': WHATEVER THE INPUT: true; the input reads as it did. -/
def fnExactRefineMeshSpec : ChangeSpec := { name := "fnExactRefineMesh", fn := fun _ => fun
  | [d] => { results := [.lit (.bool true)], args := [d] }
  | _ => none }
def fnExactRefineMeshRow : OpenClaim := { program := "ytddcbieomklhnaa", sum := "bea795d230bab58db1d15d0dbabaa88245bd3323d4a618fa77c86b8b0748cfe3", func := "loop.example/g00955/laws.FnExactRefineMesh", spec := "fnExactRefineMesh", apart := false }
def FnExactRefineMeshSaid : Prop := fnExactRefineMeshRow.holds Try.pinned (OpenSpec.ofChange fnExactRefineMeshSpec)

/-- ITS FALSE NEIGHBOUR: 'it returns false'. Refute it at one input. -/
def fnExactRefineMeshWrong : ChangeSpec := { name := "fnExactRefineMesh", fn := fun _ => fun
  | [d] => { results := [.lit (.bool false)], args := [d] }
  | _ => none }
def FnExactRefineMeshWrongFalsely : Prop := fnExactRefineMeshRow.holds Try.pinned (OpenSpec.ofChange fnExactRefineMeshWrong)

/-- 'laws.FnExactBlendMeshes': WHATEVER THE INPUT: true; the input reads as it did. -/
def fnExactBlendMeshesSpec : ChangeSpec := { name := "fnExactBlendMeshes", fn := fun _ => fun
  | [d1, d2, d3] => { results := [.lit (.bool true)], args := [d1, d2, d3] }
  | _ => none }
def fnExactBlendMeshesRow : OpenClaim := { program := "ytddcbieomklhnaa", sum := "bea795d230bab58db1d15d0dbabaa88245bd3323d4a618fa77c86b8b0748cfe3", func := "loop.example/g00955/laws.FnExactBlendMeshes", spec := "fnExactBlendMeshes", apart := false }
def FnExactBlendMeshesSaid : Prop := fnExactBlendMeshesRow.holds Try.pinned (OpenSpec.ofChange fnExactBlendMeshesSpec)

/-- ITS FALSE NEIGHBOUR: 'it returns false'. Refute it at one input. -/
def fnExactBlendMeshesWrong : ChangeSpec := { name := "fnExactBlendMeshes", fn := fun _ => fun
  | [d1, d2, d3] => { results := [.lit (.bool false)], args := [d1, d2, d3] }
  | _ => none }
def FnExactBlendMeshesWrongFalsely : Prop := fnExactBlendMeshesRow.holds Try.pinned (OpenSpec.ofChange fnExactBlendMeshesWrong)

/-- 'laws.FnExactMoveMeshPoint': WHATEVER THE INPUT: true; the input reads as it did. -/
def fnExactMoveMeshPointSpec : ChangeSpec := { name := "fnExactMoveMeshPoint", fn := fun _ => fun
  | [d1, d2, d3, d4] => { results := [.lit (.bool true)], args := [d1, d2, d3, d4] }
  | _ => none }
def fnExactMoveMeshPointRow : OpenClaim := { program := "ytddcbieomklhnaa", sum := "bea795d230bab58db1d15d0dbabaa88245bd3323d4a618fa77c86b8b0748cfe3", func := "loop.example/g00955/laws.FnExactMoveMeshPoint", spec := "fnExactMoveMeshPoint", apart := false }
def FnExactMoveMeshPointSaid : Prop := fnExactMoveMeshPointRow.holds Try.pinned (OpenSpec.ofChange fnExactMoveMeshPointSpec)

/-- ITS FALSE NEIGHBOUR: 'it returns false'. Refute it at one input. -/
def fnExactMoveMeshPointWrong : ChangeSpec := { name := "fnExactMoveMeshPoint", fn := fun _ => fun
  | [d1, d2, d3, d4] => { results := [.lit (.bool false)], args := [d1, d2, d3, d4] }
  | _ => none }
def FnExactMoveMeshPointWrongFalsely : Prop := fnExactMoveMeshPointRow.holds Try.pinned (OpenSpec.ofChange fnExactMoveMeshPointWrong)

/-- 'laws.FnExactMirrorMesh': WHATEVER THE INPUT: true; the input reads as it did. -/
def fnExactMirrorMeshSpec : ChangeSpec := { name := "fnExactMirrorMesh", fn := fun _ => fun
  | [d] => { results := [.lit (.bool true)], args := [d] }
  | _ => none }
def fnExactMirrorMeshRow : OpenClaim := { program := "ytddcbieomklhnaa", sum := "bea795d230bab58db1d15d0dbabaa88245bd3323d4a618fa77c86b8b0748cfe3", func := "loop.example/g00955/laws.FnExactMirrorMesh", spec := "fnExactMirrorMesh", apart := false }
def FnExactMirrorMeshSaid : Prop := fnExactMirrorMeshRow.holds Try.pinned (OpenSpec.ofChange fnExactMirrorMeshSpec)

/-- ITS FALSE NEIGHBOUR: 'it returns false'. Refute it at one input. -/
def fnExactMirrorMeshWrong : ChangeSpec := { name := "fnExactMirrorMesh", fn := fun _ => fun
  | [d] => { results := [.lit (.bool false)], args := [d] }
  | _ => none }
def FnExactMirrorMeshWrongFalsely : Prop := fnExactMirrorMeshRow.holds Try.pinned (OpenSpec.ofChange fnExactMirrorMeshWrong)

/-- 'laws.FnExactGreatestMove': WHATEVER THE INPUT: true; the input reads as it did. -/
def fnExactGreatestMoveSpec : ChangeSpec := { name := "fnExactGreatestMove", fn := fun _ => fun
  | [d1, d2] => { results := [.lit (.bool true)], args := [d1, d2] }
  | _ => none }
def fnExactGreatestMoveRow : OpenClaim := { program := "ytddcbieomklhnaa", sum := "bea795d230bab58db1d15d0dbabaa88245bd3323d4a618fa77c86b8b0748cfe3", func := "loop.example/g00955/laws.FnExactGreatestMove", spec := "fnExactGreatestMove", inPlace := ["math.sqrt"], apart := false }
def FnExactGreatestMoveSaid : Prop := fnExactGreatestMoveRow.holds Try.pinned (OpenSpec.ofChange fnExactGreatestMoveSpec)

/-- ITS FALSE NEIGHBOUR: 'it returns false'. Refute it at one input. -/
def fnExactGreatestMoveWrong : ChangeSpec := { name := "fnExactGreatestMove", fn := fun _ => fun
  | [d1, d2] => { results := [.lit (.bool false)], args := [d1, d2] }
  | _ => none }
def FnExactGreatestMoveWrongFalsely : Prop := fnExactGreatestMoveRow.holds Try.pinned (OpenSpec.ofChange fnExactGreatestMoveWrong)

/-- 'laws.FnExactUnwarpPoint': WHATEVER THE INPUT: true; the input reads as it did. -/
def fnExactUnwarpPointSpec : ChangeSpec := { name := "fnExactUnwarpPoint", fn := fun _ => fun
  | [d1, d2] => { results := [.lit (.bool true)], args := [d1, d2] }
  | _ => none }
def fnExactUnwarpPointRow : OpenClaim := { program := "ytddcbieomklhnaa", sum := "bea795d230bab58db1d15d0dbabaa88245bd3323d4a618fa77c86b8b0748cfe3", func := "loop.example/g00955/laws.FnExactUnwarpPoint", spec := "fnExactUnwarpPoint", inPlace := ["math.sqrt"], unfollowed := true, recurses := true, apart := false }
def FnExactUnwarpPointSaid : Prop := fnExactUnwarpPointRow.holds Try.pinned (OpenSpec.ofChange fnExactUnwarpPointSpec)

/-- ITS FALSE NEIGHBOUR: 'it returns false'. Refute it at one input. -/
def fnExactUnwarpPointWrong : ChangeSpec := { name := "fnExactUnwarpPoint", fn := fun _ => fun
  | [d1, d2] => { results := [.lit (.bool false)], args := [d1, d2] }
  | _ => none }
def FnExactUnwarpPointWrongFalsely : Prop := fnExactUnwarpPointRow.holds Try.pinned (OpenSpec.ofChange fnExactUnwarpPointWrong)

/-- 'laws.FnWarps': WHATEVER THE INPUT: true; the input reads as it did. -/
def fnWarpsSpec : ChangeSpec := { name := "fnWarps", fn := fun _ => fun
  | [d1, d2] => { results := [.lit (.bool true)], args := [d1, d2] }
  | _ => none }
def fnWarpsRow : OpenClaim := { program := "ytddcbieomklhnaa", sum := "bea795d230bab58db1d15d0dbabaa88245bd3323d4a618fa77c86b8b0748cfe3", func := "loop.example/g00955/laws.FnWarps", spec := "fnWarps", inPlace := ["math.sqrt"], unfollowed := true, recurses := true, apart := false }
def FnWarpsSaid : Prop := fnWarpsRow.holds Try.pinned (OpenSpec.ofChange fnWarpsSpec)

/-- ITS FALSE NEIGHBOUR: 'it returns false'. Refute it at one input. -/
def fnWarpsWrong : ChangeSpec := { name := "fnWarps", fn := fun _ => fun
  | [d1, d2] => { results := [.lit (.bool false)], args := [d1, d2] }
  | _ => none }
def FnWarpsWrongFalsely : Prop := fnWarpsRow.holds Try.pinned (OpenSpec.ofChange fnWarpsWrong)

/- THE SECOND FORM. 'bulk': how many values and letters a reading holds, each counted each time it is reached (what is shared counts as often as it is met; a slice's spare places count too). A statement '..UptoSaid' is the law's where the arguments, and the package variables that the reading takes, are together of bulk at most 1048576: NARROWER than '..Said'. Prove '..Said' where nothing that the law and all that it calls make is longer than what came in: it says more and counts as full. Else prove '..UptoSaid'. A law counts once. -/
mutual
def uptoBulk {H : Type} : DataW H → Nat
  | .lit (.string bytes) => bytes.length + 1
  | .lit _ => 1
  | .nil => 1
  | .ptr d => uptoBulk d + 1
  | .slice elems spare => uptoBulkAll elems + uptoBulkAll spare + 1
  | .agg parts => uptoBulkAll parts + 1
  | .iface _ d => uptoBulk d + 1
  | .map entries => uptoBulkEntries entries + 1
  | .held _ => 1
def uptoBulkAll {H : Type} : List (DataW H) → Nat
  | [] => 0
  | d :: r => uptoBulk d + uptoBulkAll r
def uptoBulkEntries {H : Type} : List (Lit × DataW H) → Nat
  | [] => 0
  | x :: r => uptoBulkEntry x + uptoBulkEntries r
def uptoBulkEntry {H : Type} : Lit × DataW H → Nat
  | (.string bytes, d) => bytes.length + uptoBulk d + 1
  | (_, d) => uptoBulk d + 1
 end
def uptoSmall : (H : Type) → List (DataW H) → Bool := fun _ ds => decide (uptoBulkAll ds ≤ 1048576)
def OpenSpec.upto (s : _root_.Go.ChangeSpec) : _root_.Go.OpenSpec := { _root_.Go.OpenSpec.ofChange s with cond := some uptoSmall }

/-- 'laws.FnExactSameMesh', WHERE WHAT IT READS IS OF BULK AT MOST 1048576: true; the input reads as it did. -/
def fnExactSameMeshUptoRow : OpenClaim := { program := "ytddcbieomklhnaa", sum := "bea795d230bab58db1d15d0dbabaa88245bd3323d4a618fa77c86b8b0748cfe3", func := "loop.example/g00955/laws.FnExactSameMesh", spec := "fnExactSameMesh", apart := false, narrowed := true }
def FnExactSameMeshUptoSaid : Prop := fnExactSameMeshUptoRow.holds Try.pinned (OpenSpec.upto fnExactSameMeshSpec)

/-- 'laws.FnExactValidMesh', WHERE WHAT IT READS IS OF BULK AT MOST 1048576: true; the input reads as it did. -/
def fnExactValidMeshUptoRow : OpenClaim := { program := "ytddcbieomklhnaa", sum := "bea795d230bab58db1d15d0dbabaa88245bd3323d4a618fa77c86b8b0748cfe3", func := "loop.example/g00955/laws.FnExactValidMesh", spec := "fnExactValidMesh", apart := false, narrowed := true }
def FnExactValidMeshUptoSaid : Prop := fnExactValidMeshUptoRow.holds Try.pinned (OpenSpec.upto fnExactValidMeshSpec)

/-- 'laws.FnExactPlainMesh', WHERE WHAT IT READS IS OF BULK AT MOST 1048576: true; the input reads as it did. -/
def fnExactPlainMeshUptoRow : OpenClaim := { program := "ytddcbieomklhnaa", sum := "bea795d230bab58db1d15d0dbabaa88245bd3323d4a618fa77c86b8b0748cfe3", func := "loop.example/g00955/laws.FnExactPlainMesh", spec := "fnExactPlainMesh", apart := false, narrowed := true }
def FnExactPlainMeshUptoSaid : Prop := fnExactPlainMeshUptoRow.holds Try.pinned (OpenSpec.upto fnExactPlainMeshSpec)

/-- 'laws.FnExactWarpPoint', WHERE WHAT IT READS IS OF BULK AT MOST 1048576: true; the input reads as it did. -/
def fnExactWarpPointUptoRow : OpenClaim := { program := "ytddcbieomklhnaa", sum := "bea795d230bab58db1d15d0dbabaa88245bd3323d4a618fa77c86b8b0748cfe3", func := "loop.example/g00955/laws.FnExactWarpPoint", spec := "fnExactWarpPoint", apart := false, narrowed := true }
def FnExactWarpPointUptoSaid : Prop := fnExactWarpPointUptoRow.holds Try.pinned (OpenSpec.upto fnExactWarpPointSpec)

/-- 'laws.FnExactFoldedCells', WHERE WHAT IT READS IS OF BULK AT MOST 1048576: true; the input reads as it did. -/
def fnExactFoldedCellsUptoRow : OpenClaim := { program := "ytddcbieomklhnaa", sum := "bea795d230bab58db1d15d0dbabaa88245bd3323d4a618fa77c86b8b0748cfe3", func := "loop.example/g00955/laws.FnExactFoldedCells", spec := "fnExactFoldedCells", apart := false, narrowed := true }
def FnExactFoldedCellsUptoSaid : Prop := fnExactFoldedCellsUptoRow.holds Try.pinned (OpenSpec.upto fnExactFoldedCellsSpec)

/-- 'laws.FnExactRefineMesh', WHERE WHAT IT READS IS OF BULK AT MOST 1048576: true; the input reads as it did. -/
def fnExactRefineMeshUptoRow : OpenClaim := { program := "ytddcbieomklhnaa", sum := "bea795d230bab58db1d15d0dbabaa88245bd3323d4a618fa77c86b8b0748cfe3", func := "loop.example/g00955/laws.FnExactRefineMesh", spec := "fnExactRefineMesh", apart := false, narrowed := true }
def FnExactRefineMeshUptoSaid : Prop := fnExactRefineMeshUptoRow.holds Try.pinned (OpenSpec.upto fnExactRefineMeshSpec)

/-- 'laws.FnExactBlendMeshes', WHERE WHAT IT READS IS OF BULK AT MOST 1048576: true; the input reads as it did. -/
def fnExactBlendMeshesUptoRow : OpenClaim := { program := "ytddcbieomklhnaa", sum := "bea795d230bab58db1d15d0dbabaa88245bd3323d4a618fa77c86b8b0748cfe3", func := "loop.example/g00955/laws.FnExactBlendMeshes", spec := "fnExactBlendMeshes", apart := false, narrowed := true }
def FnExactBlendMeshesUptoSaid : Prop := fnExactBlendMeshesUptoRow.holds Try.pinned (OpenSpec.upto fnExactBlendMeshesSpec)

/-- 'laws.FnExactMoveMeshPoint', WHERE WHAT IT READS IS OF BULK AT MOST 1048576: true; the input reads as it did. -/
def fnExactMoveMeshPointUptoRow : OpenClaim := { program := "ytddcbieomklhnaa", sum := "bea795d230bab58db1d15d0dbabaa88245bd3323d4a618fa77c86b8b0748cfe3", func := "loop.example/g00955/laws.FnExactMoveMeshPoint", spec := "fnExactMoveMeshPoint", apart := false, narrowed := true }
def FnExactMoveMeshPointUptoSaid : Prop := fnExactMoveMeshPointUptoRow.holds Try.pinned (OpenSpec.upto fnExactMoveMeshPointSpec)

/-- 'laws.FnExactMirrorMesh', WHERE WHAT IT READS IS OF BULK AT MOST 1048576: true; the input reads as it did. -/
def fnExactMirrorMeshUptoRow : OpenClaim := { program := "ytddcbieomklhnaa", sum := "bea795d230bab58db1d15d0dbabaa88245bd3323d4a618fa77c86b8b0748cfe3", func := "loop.example/g00955/laws.FnExactMirrorMesh", spec := "fnExactMirrorMesh", apart := false, narrowed := true }
def FnExactMirrorMeshUptoSaid : Prop := fnExactMirrorMeshUptoRow.holds Try.pinned (OpenSpec.upto fnExactMirrorMeshSpec)

/-- 'laws.FnExactGreatestMove', WHERE WHAT IT READS IS OF BULK AT MOST 1048576: true; the input reads as it did. -/
def fnExactGreatestMoveUptoRow : OpenClaim := { program := "ytddcbieomklhnaa", sum := "bea795d230bab58db1d15d0dbabaa88245bd3323d4a618fa77c86b8b0748cfe3", func := "loop.example/g00955/laws.FnExactGreatestMove", spec := "fnExactGreatestMove", inPlace := ["math.sqrt"], apart := false, narrowed := true }
def FnExactGreatestMoveUptoSaid : Prop := fnExactGreatestMoveUptoRow.holds Try.pinned (OpenSpec.upto fnExactGreatestMoveSpec)

/-- 'laws.FnExactUnwarpPoint', WHERE WHAT IT READS IS OF BULK AT MOST 1048576: true; the input reads as it did. -/
def fnExactUnwarpPointUptoRow : OpenClaim := { program := "ytddcbieomklhnaa", sum := "bea795d230bab58db1d15d0dbabaa88245bd3323d4a618fa77c86b8b0748cfe3", func := "loop.example/g00955/laws.FnExactUnwarpPoint", spec := "fnExactUnwarpPoint", inPlace := ["math.sqrt"], unfollowed := true, recurses := true, apart := false, narrowed := true }
def FnExactUnwarpPointUptoSaid : Prop := fnExactUnwarpPointUptoRow.holds Try.pinned (OpenSpec.upto fnExactUnwarpPointSpec)

/-- 'laws.FnWarps', WHERE WHAT IT READS IS OF BULK AT MOST 1048576: true; the input reads as it did. -/
def fnWarpsUptoRow : OpenClaim := { program := "ytddcbieomklhnaa", sum := "bea795d230bab58db1d15d0dbabaa88245bd3323d4a618fa77c86b8b0748cfe3", func := "loop.example/g00955/laws.FnWarps", spec := "fnWarps", inPlace := ["math.sqrt"], unfollowed := true, recurses := true, apart := false, narrowed := true }
def FnWarpsUptoSaid : Prop := fnWarpsUptoRow.holds Try.pinned (OpenSpec.upto fnWarpsSpec)

end Rows
end Go.Proofs.Ytddcbieomklhnaa
