/-
  NARROWER THAN 'FOR EVERY INPUT', by the rows' own cells (each row's printed sentence says how): FnExactRawWeight: laid · FnExactWeightsAt: laid · FnExactBrightnessAt: laid · FnExactBlackAt: laid · FnExactUniformBlack: laid · FnExactCoverageShare: laid · FnExactOverlapShare: laid · FnExactDarkSpots: laid · FnExactBrightnessRange: laid · FnExactFewestProjectors: laid · FnWeights: laid · FnCoverage: laid.
  DERIVED. THE GIVEN ROWS OF THIS SEAT. 12 by the template 'for every input the law returns true; each argument reads behind the call as it read before'; 0 by the template 'total and deterministic' (their statements: YtkjnpnijplnoaaaDoorTotals.lean).
  GIVEN WITH THE SEED: the statements are not yours to turn. If you find one false, say at which input.
  Laid BY PROGRAM, IN A SANDBOX (cutbox-rows.mjs): the forced cells as the released guide's own fill.sh prints them over the translation 3396eadadb4047af… (all of the seat's roots in one cut). By AI agents, Wed Nov 11 2026. No macro, syntax, notation, axiom, sorry.
-/
import Derived.Test.YtkjnpnijplnoaaaDoorChecked
import GoSem.Claim
import GoSem.ClaimJoined
import GoSem.ClaimMapViews
import Derived.JoinedTies
import Derived.KernelRfl
namespace Go.Proofs.YtkjnpnijplnoaaaDoor
/- THE CELL 'sum', in the pinned program and in every row, IS THE sha256 OF THE DUMP (.gsa) THAT YtkjnpnijplnoaaaDoorProg.lean LOADS. Nothing in Lean hashes anything: it is a label: what it is worth is what the hold of that sum in a sandbox is worth. -/
noncomputable def Tryd.pinned : Pinned := { name := "ytkjnpnijplnoaaadoor", sum := "3396eadadb4047afa40e1d98e775a1803bedb483c7ce0c55c93774ccce73fbfa", checked := Tryd.checked }
namespace Rows
def none {H : Type} : Left H := { results := [], args := [] }

/- WHAT THE LISTED PACKAGE-LEVEL VARIABLES READ AS WHEN THE CALL BEGINS. Each datum BY PROGRAM (the guide's laid-datum.mjs) off the statement by which the dump's own 'gosem.cut.vars' lays the variable. In a bare row this is a premise. The card (YtkjnpnijplnoaaaDoorCards.lean) ties it to the program's text. -/
def laid_loop_example_g00955_impl_sines {H : Type} : DataW H := .agg [.lit (.int .i64 0), .lit (.int .i64 17452), .lit (.int .i64 34899), .lit (.int .i64 52336), .lit (.int .i64 69756), .lit (.int .i64 87156), .lit (.int .i64 104528), .lit (.int .i64 121869), .lit (.int .i64 139173), .lit (.int .i64 156434), .lit (.int .i64 173648), .lit (.int .i64 190809), .lit (.int .i64 207912), .lit (.int .i64 224951), .lit (.int .i64 241922), .lit (.int .i64 258819), .lit (.int .i64 275637), .lit (.int .i64 292372), .lit (.int .i64 309017), .lit (.int .i64 325568), .lit (.int .i64 342020), .lit (.int .i64 358368), .lit (.int .i64 374607), .lit (.int .i64 390731), .lit (.int .i64 406737), .lit (.int .i64 422618), .lit (.int .i64 438371), .lit (.int .i64 453990), .lit (.int .i64 469472), .lit (.int .i64 484810), .lit (.int .i64 500000), .lit (.int .i64 515038), .lit (.int .i64 529919), .lit (.int .i64 544639), .lit (.int .i64 559193), .lit (.int .i64 573576), .lit (.int .i64 587785), .lit (.int .i64 601815), .lit (.int .i64 615661), .lit (.int .i64 629320), .lit (.int .i64 642788), .lit (.int .i64 656059), .lit (.int .i64 669131), .lit (.int .i64 681998), .lit (.int .i64 694658), .lit (.int .i64 707107), .lit (.int .i64 719340), .lit (.int .i64 731354), .lit (.int .i64 743145), .lit (.int .i64 754710), .lit (.int .i64 766044), .lit (.int .i64 777146), .lit (.int .i64 788011), .lit (.int .i64 798636), .lit (.int .i64 809017), .lit (.int .i64 819152), .lit (.int .i64 829038), .lit (.int .i64 838671), .lit (.int .i64 848048), .lit (.int .i64 857167), .lit (.int .i64 866025), .lit (.int .i64 874620), .lit (.int .i64 882948), .lit (.int .i64 891007), .lit (.int .i64 898794), .lit (.int .i64 906308), .lit (.int .i64 913545), .lit (.int .i64 920505), .lit (.int .i64 927184), .lit (.int .i64 933580), .lit (.int .i64 939693), .lit (.int .i64 945519), .lit (.int .i64 951057), .lit (.int .i64 956305), .lit (.int .i64 961262), .lit (.int .i64 965926), .lit (.int .i64 970296), .lit (.int .i64 974370), .lit (.int .i64 978148), .lit (.int .i64 981627), .lit (.int .i64 984808), .lit (.int .i64 987688), .lit (.int .i64 990268), .lit (.int .i64 992546), .lit (.int .i64 994522), .lit (.int .i64 996195), .lit (.int .i64 997564), .lit (.int .i64 998630), .lit (.int .i64 999391), .lit (.int .i64 999848), .lit (.int .i64 1000000)]

/-- 'laws.FnExactRawWeight': WHATEVER THE INPUT: true; the input reads as it did. -/
def fnExactRawWeightSpec : ChangeSpec := { name := "fnExactRawWeight", vars := ["loop.example/g00955/impl.sines"], fn := fun _ => fun
  | [d1, d2, d3, g1] => { results := [.lit (.bool true)], args := [d1, d2, d3], vars := [g1] }
  | _ => none }
def fnExactRawWeightRow : OpenClaim := { program := "ytkjnpnijplnoaaadoor", sum := "3396eadadb4047afa40e1d98e775a1803bedb483c7ce0c55c93774ccce73fbfa", func := "loop.example/g00955/laws.FnExactRawWeight", spec := "fnExactRawWeight", inPlace := ["math.sqrt"], recurses := true, named := ["loop.example/g00955/impl.sines"], apart := false, laid := [("loop.example/g00955/impl.sines", laid_loop_example_g00955_impl_sines)] }
def FnExactRawWeightSaid : Prop := fnExactRawWeightRow.holds Tryd.pinned (OpenSpec.ofChange fnExactRawWeightSpec)

/-- ITS FALSE NEIGHBOUR: 'it returns false'. Refute it at one input. -/
def fnExactRawWeightWrong : ChangeSpec := { name := "fnExactRawWeight", vars := ["loop.example/g00955/impl.sines"], fn := fun _ => fun
  | [d1, d2, d3, g1] => { results := [.lit (.bool false)], args := [d1, d2, d3], vars := [g1] }
  | _ => none }
def FnExactRawWeightWrongFalsely : Prop := fnExactRawWeightRow.holds Tryd.pinned (OpenSpec.ofChange fnExactRawWeightWrong)

/-- 'laws.FnExactWeightsAt': WHATEVER THE INPUT: true; the input reads as it did. -/
def fnExactWeightsAtSpec : ChangeSpec := { name := "fnExactWeightsAt", vars := ["loop.example/g00955/impl.sines"], fn := fun _ => fun
  | [d1, d2, d3, g1] => { results := [.lit (.bool true)], args := [d1, d2, d3], vars := [g1] }
  | _ => none }
def fnExactWeightsAtRow : OpenClaim := { program := "ytkjnpnijplnoaaadoor", sum := "3396eadadb4047afa40e1d98e775a1803bedb483c7ce0c55c93774ccce73fbfa", func := "loop.example/g00955/laws.FnExactWeightsAt", spec := "fnExactWeightsAt", inPlace := ["math.sqrt"], recurses := true, named := ["loop.example/g00955/impl.sines"], apart := false, laid := [("loop.example/g00955/impl.sines", laid_loop_example_g00955_impl_sines)] }
def FnExactWeightsAtSaid : Prop := fnExactWeightsAtRow.holds Tryd.pinned (OpenSpec.ofChange fnExactWeightsAtSpec)

/-- ITS FALSE NEIGHBOUR: 'it returns false'. Refute it at one input. -/
def fnExactWeightsAtWrong : ChangeSpec := { name := "fnExactWeightsAt", vars := ["loop.example/g00955/impl.sines"], fn := fun _ => fun
  | [d1, d2, d3, g1] => { results := [.lit (.bool false)], args := [d1, d2, d3], vars := [g1] }
  | _ => none }
def FnExactWeightsAtWrongFalsely : Prop := fnExactWeightsAtRow.holds Tryd.pinned (OpenSpec.ofChange fnExactWeightsAtWrong)

/-- 'laws.FnExactBrightnessAt': WHATEVER THE INPUT: true; the input reads as it did. -/
def fnExactBrightnessAtSpec : ChangeSpec := { name := "fnExactBrightnessAt", vars := ["loop.example/g00955/impl.sines"], fn := fun _ => fun
  | [d1, d2, d3, g1] => { results := [.lit (.bool true)], args := [d1, d2, d3], vars := [g1] }
  | _ => none }
def fnExactBrightnessAtRow : OpenClaim := { program := "ytkjnpnijplnoaaadoor", sum := "3396eadadb4047afa40e1d98e775a1803bedb483c7ce0c55c93774ccce73fbfa", func := "loop.example/g00955/laws.FnExactBrightnessAt", spec := "fnExactBrightnessAt", inPlace := ["math.sqrt"], recurses := true, named := ["loop.example/g00955/impl.sines"], apart := false, laid := [("loop.example/g00955/impl.sines", laid_loop_example_g00955_impl_sines)] }
def FnExactBrightnessAtSaid : Prop := fnExactBrightnessAtRow.holds Tryd.pinned (OpenSpec.ofChange fnExactBrightnessAtSpec)

/-- ITS FALSE NEIGHBOUR: 'it returns false'. Refute it at one input. -/
def fnExactBrightnessAtWrong : ChangeSpec := { name := "fnExactBrightnessAt", vars := ["loop.example/g00955/impl.sines"], fn := fun _ => fun
  | [d1, d2, d3, g1] => { results := [.lit (.bool false)], args := [d1, d2, d3], vars := [g1] }
  | _ => none }
def FnExactBrightnessAtWrongFalsely : Prop := fnExactBrightnessAtRow.holds Tryd.pinned (OpenSpec.ofChange fnExactBrightnessAtWrong)

/-- 'laws.FnExactBlackAt': WHATEVER THE INPUT: true; the input reads as it did. -/
def fnExactBlackAtSpec : ChangeSpec := { name := "fnExactBlackAt", vars := ["loop.example/g00955/impl.sines"], fn := fun _ => fun
  | [d1, d2, d3, d4, g1] => { results := [.lit (.bool true)], args := [d1, d2, d3, d4], vars := [g1] }
  | _ => none }
def fnExactBlackAtRow : OpenClaim := { program := "ytkjnpnijplnoaaadoor", sum := "3396eadadb4047afa40e1d98e775a1803bedb483c7ce0c55c93774ccce73fbfa", func := "loop.example/g00955/laws.FnExactBlackAt", spec := "fnExactBlackAt", inPlace := ["math.sqrt"], unfollowed := true, recurses := true, named := ["loop.example/g00955/impl.sines"], apart := false, laid := [("loop.example/g00955/impl.sines", laid_loop_example_g00955_impl_sines)] }
def FnExactBlackAtSaid : Prop := fnExactBlackAtRow.holds Tryd.pinned (OpenSpec.ofChange fnExactBlackAtSpec)

/-- ITS FALSE NEIGHBOUR: 'it returns false'. Refute it at one input. -/
def fnExactBlackAtWrong : ChangeSpec := { name := "fnExactBlackAt", vars := ["loop.example/g00955/impl.sines"], fn := fun _ => fun
  | [d1, d2, d3, d4, g1] => { results := [.lit (.bool false)], args := [d1, d2, d3, d4], vars := [g1] }
  | _ => none }
def FnExactBlackAtWrongFalsely : Prop := fnExactBlackAtRow.holds Tryd.pinned (OpenSpec.ofChange fnExactBlackAtWrong)

/-- 'laws.FnExactUniformBlack': WHATEVER THE INPUT: true; the input reads as it did. -/
def fnExactUniformBlackSpec : ChangeSpec := { name := "fnExactUniformBlack", vars := ["loop.example/g00955/impl.sines"], fn := fun _ => fun
  | [d1, d2, d3, g1] => { results := [.lit (.bool true)], args := [d1, d2, d3], vars := [g1] }
  | _ => none }
def fnExactUniformBlackRow : OpenClaim := { program := "ytkjnpnijplnoaaadoor", sum := "3396eadadb4047afa40e1d98e775a1803bedb483c7ce0c55c93774ccce73fbfa", func := "loop.example/g00955/laws.FnExactUniformBlack", spec := "fnExactUniformBlack", inPlace := ["math.sqrt"], unfollowed := true, recurses := true, named := ["loop.example/g00955/impl.sines"], apart := false, laid := [("loop.example/g00955/impl.sines", laid_loop_example_g00955_impl_sines)] }
def FnExactUniformBlackSaid : Prop := fnExactUniformBlackRow.holds Tryd.pinned (OpenSpec.ofChange fnExactUniformBlackSpec)

/-- ITS FALSE NEIGHBOUR: 'it returns false'. Refute it at one input. -/
def fnExactUniformBlackWrong : ChangeSpec := { name := "fnExactUniformBlack", vars := ["loop.example/g00955/impl.sines"], fn := fun _ => fun
  | [d1, d2, d3, g1] => { results := [.lit (.bool false)], args := [d1, d2, d3], vars := [g1] }
  | _ => none }
def FnExactUniformBlackWrongFalsely : Prop := fnExactUniformBlackRow.holds Tryd.pinned (OpenSpec.ofChange fnExactUniformBlackWrong)

/-- 'laws.FnExactCoverageShare': WHATEVER THE INPUT: true; the input reads as it did. -/
def fnExactCoverageShareSpec : ChangeSpec := { name := "fnExactCoverageShare", vars := ["loop.example/g00955/impl.sines"], fn := fun _ => fun
  | [d1, d2, g1] => { results := [.lit (.bool true)], args := [d1, d2], vars := [g1] }
  | _ => none }
def fnExactCoverageShareRow : OpenClaim := { program := "ytkjnpnijplnoaaadoor", sum := "3396eadadb4047afa40e1d98e775a1803bedb483c7ce0c55c93774ccce73fbfa", func := "loop.example/g00955/laws.FnExactCoverageShare", spec := "fnExactCoverageShare", inPlace := ["math.sqrt"], recurses := true, named := ["loop.example/g00955/impl.sines"], apart := false, laid := [("loop.example/g00955/impl.sines", laid_loop_example_g00955_impl_sines)] }
def FnExactCoverageShareSaid : Prop := fnExactCoverageShareRow.holds Tryd.pinned (OpenSpec.ofChange fnExactCoverageShareSpec)

/-- ITS FALSE NEIGHBOUR: 'it returns false'. Refute it at one input. -/
def fnExactCoverageShareWrong : ChangeSpec := { name := "fnExactCoverageShare", vars := ["loop.example/g00955/impl.sines"], fn := fun _ => fun
  | [d1, d2, g1] => { results := [.lit (.bool false)], args := [d1, d2], vars := [g1] }
  | _ => none }
def FnExactCoverageShareWrongFalsely : Prop := fnExactCoverageShareRow.holds Tryd.pinned (OpenSpec.ofChange fnExactCoverageShareWrong)

/-- 'laws.FnExactOverlapShare': WHATEVER THE INPUT: true; the input reads as it did. -/
def fnExactOverlapShareSpec : ChangeSpec := { name := "fnExactOverlapShare", vars := ["loop.example/g00955/impl.sines"], fn := fun _ => fun
  | [d1, d2, g1] => { results := [.lit (.bool true)], args := [d1, d2], vars := [g1] }
  | _ => none }
def fnExactOverlapShareRow : OpenClaim := { program := "ytkjnpnijplnoaaadoor", sum := "3396eadadb4047afa40e1d98e775a1803bedb483c7ce0c55c93774ccce73fbfa", func := "loop.example/g00955/laws.FnExactOverlapShare", spec := "fnExactOverlapShare", inPlace := ["math.sqrt"], recurses := true, named := ["loop.example/g00955/impl.sines"], apart := false, laid := [("loop.example/g00955/impl.sines", laid_loop_example_g00955_impl_sines)] }
def FnExactOverlapShareSaid : Prop := fnExactOverlapShareRow.holds Tryd.pinned (OpenSpec.ofChange fnExactOverlapShareSpec)

/-- ITS FALSE NEIGHBOUR: 'it returns false'. Refute it at one input. -/
def fnExactOverlapShareWrong : ChangeSpec := { name := "fnExactOverlapShare", vars := ["loop.example/g00955/impl.sines"], fn := fun _ => fun
  | [d1, d2, g1] => { results := [.lit (.bool false)], args := [d1, d2], vars := [g1] }
  | _ => none }
def FnExactOverlapShareWrongFalsely : Prop := fnExactOverlapShareRow.holds Tryd.pinned (OpenSpec.ofChange fnExactOverlapShareWrong)

/-- 'laws.FnExactDarkSpots': WHATEVER THE INPUT: true; the input reads as it did. -/
def fnExactDarkSpotsSpec : ChangeSpec := { name := "fnExactDarkSpots", vars := ["loop.example/g00955/impl.sines"], fn := fun _ => fun
  | [d1, d2, g1] => { results := [.lit (.bool true)], args := [d1, d2], vars := [g1] }
  | _ => none }
def fnExactDarkSpotsRow : OpenClaim := { program := "ytkjnpnijplnoaaadoor", sum := "3396eadadb4047afa40e1d98e775a1803bedb483c7ce0c55c93774ccce73fbfa", func := "loop.example/g00955/laws.FnExactDarkSpots", spec := "fnExactDarkSpots", inPlace := ["math.sqrt"], recurses := true, named := ["loop.example/g00955/impl.sines"], apart := false, laid := [("loop.example/g00955/impl.sines", laid_loop_example_g00955_impl_sines)] }
def FnExactDarkSpotsSaid : Prop := fnExactDarkSpotsRow.holds Tryd.pinned (OpenSpec.ofChange fnExactDarkSpotsSpec)

/-- ITS FALSE NEIGHBOUR: 'it returns false'. Refute it at one input. -/
def fnExactDarkSpotsWrong : ChangeSpec := { name := "fnExactDarkSpots", vars := ["loop.example/g00955/impl.sines"], fn := fun _ => fun
  | [d1, d2, g1] => { results := [.lit (.bool false)], args := [d1, d2], vars := [g1] }
  | _ => none }
def FnExactDarkSpotsWrongFalsely : Prop := fnExactDarkSpotsRow.holds Tryd.pinned (OpenSpec.ofChange fnExactDarkSpotsWrong)

/-- 'laws.FnExactBrightnessRange': WHATEVER THE INPUT: true; the input reads as it did. -/
def fnExactBrightnessRangeSpec : ChangeSpec := { name := "fnExactBrightnessRange", vars := ["loop.example/g00955/impl.sines"], fn := fun _ => fun
  | [d1, d2, g1] => { results := [.lit (.bool true)], args := [d1, d2], vars := [g1] }
  | _ => none }
def fnExactBrightnessRangeRow : OpenClaim := { program := "ytkjnpnijplnoaaadoor", sum := "3396eadadb4047afa40e1d98e775a1803bedb483c7ce0c55c93774ccce73fbfa", func := "loop.example/g00955/laws.FnExactBrightnessRange", spec := "fnExactBrightnessRange", inPlace := ["math.sqrt"], recurses := true, named := ["loop.example/g00955/impl.sines"], apart := false, laid := [("loop.example/g00955/impl.sines", laid_loop_example_g00955_impl_sines)] }
def FnExactBrightnessRangeSaid : Prop := fnExactBrightnessRangeRow.holds Tryd.pinned (OpenSpec.ofChange fnExactBrightnessRangeSpec)

/-- ITS FALSE NEIGHBOUR: 'it returns false'. Refute it at one input. -/
def fnExactBrightnessRangeWrong : ChangeSpec := { name := "fnExactBrightnessRange", vars := ["loop.example/g00955/impl.sines"], fn := fun _ => fun
  | [d1, d2, g1] => { results := [.lit (.bool false)], args := [d1, d2], vars := [g1] }
  | _ => none }
def FnExactBrightnessRangeWrongFalsely : Prop := fnExactBrightnessRangeRow.holds Tryd.pinned (OpenSpec.ofChange fnExactBrightnessRangeWrong)

/-- 'laws.FnExactFewestProjectors': WHATEVER THE INPUT: true; the input reads as it did. -/
def fnExactFewestProjectorsSpec : ChangeSpec := { name := "fnExactFewestProjectors", vars := ["loop.example/g00955/impl.sines"], fn := fun _ => fun
  | [d1, d2, d3, g1] => { results := [.lit (.bool true)], args := [d1, d2, d3], vars := [g1] }
  | _ => none }
def fnExactFewestProjectorsRow : OpenClaim := { program := "ytkjnpnijplnoaaadoor", sum := "3396eadadb4047afa40e1d98e775a1803bedb483c7ce0c55c93774ccce73fbfa", func := "loop.example/g00955/laws.FnExactFewestProjectors", spec := "fnExactFewestProjectors", inPlace := ["math.sqrt"], recurses := true, named := ["loop.example/g00955/impl.sines"], apart := false, laid := [("loop.example/g00955/impl.sines", laid_loop_example_g00955_impl_sines)] }
def FnExactFewestProjectorsSaid : Prop := fnExactFewestProjectorsRow.holds Tryd.pinned (OpenSpec.ofChange fnExactFewestProjectorsSpec)

/-- ITS FALSE NEIGHBOUR: 'it returns false'. Refute it at one input. -/
def fnExactFewestProjectorsWrong : ChangeSpec := { name := "fnExactFewestProjectors", vars := ["loop.example/g00955/impl.sines"], fn := fun _ => fun
  | [d1, d2, d3, g1] => { results := [.lit (.bool false)], args := [d1, d2, d3], vars := [g1] }
  | _ => none }
def FnExactFewestProjectorsWrongFalsely : Prop := fnExactFewestProjectorsRow.holds Tryd.pinned (OpenSpec.ofChange fnExactFewestProjectorsWrong)

/-- 'laws.FnWeights': WHATEVER THE INPUT: true; the input reads as it did. -/
def fnWeightsSpec : ChangeSpec := { name := "fnWeights", vars := ["loop.example/g00955/impl.sines"], fn := fun _ => fun
  | [d, g1] => { results := [.lit (.bool true)], args := [d], vars := [g1] }
  | _ => none }
def fnWeightsRow : OpenClaim := { program := "ytkjnpnijplnoaaadoor", sum := "3396eadadb4047afa40e1d98e775a1803bedb483c7ce0c55c93774ccce73fbfa", func := "loop.example/g00955/laws.FnWeights", spec := "fnWeights", inPlace := ["math.sqrt"], recurses := true, named := ["loop.example/g00955/impl.sines"], apart := false, laid := [("loop.example/g00955/impl.sines", laid_loop_example_g00955_impl_sines)] }
def FnWeightsSaid : Prop := fnWeightsRow.holds Tryd.pinned (OpenSpec.ofChange fnWeightsSpec)

/-- ITS FALSE NEIGHBOUR: 'it returns false'. Refute it at one input. -/
def fnWeightsWrong : ChangeSpec := { name := "fnWeights", vars := ["loop.example/g00955/impl.sines"], fn := fun _ => fun
  | [d, g1] => { results := [.lit (.bool false)], args := [d], vars := [g1] }
  | _ => none }
def FnWeightsWrongFalsely : Prop := fnWeightsRow.holds Tryd.pinned (OpenSpec.ofChange fnWeightsWrong)

/-- 'laws.FnCoverage': WHATEVER THE INPUT: true; the input reads as it did. -/
def fnCoverageSpec : ChangeSpec := { name := "fnCoverage", vars := ["loop.example/g00955/impl.sines"], fn := fun _ => fun
  | [d1, d2, g1] => { results := [.lit (.bool true)], args := [d1, d2], vars := [g1] }
  | _ => none }
def fnCoverageRow : OpenClaim := { program := "ytkjnpnijplnoaaadoor", sum := "3396eadadb4047afa40e1d98e775a1803bedb483c7ce0c55c93774ccce73fbfa", func := "loop.example/g00955/laws.FnCoverage", spec := "fnCoverage", inPlace := ["math.sqrt"], recurses := true, named := ["loop.example/g00955/impl.sines"], apart := false, laid := [("loop.example/g00955/impl.sines", laid_loop_example_g00955_impl_sines)] }
def FnCoverageSaid : Prop := fnCoverageRow.holds Tryd.pinned (OpenSpec.ofChange fnCoverageSpec)

/-- ITS FALSE NEIGHBOUR: 'it returns false'. Refute it at one input. -/
def fnCoverageWrong : ChangeSpec := { name := "fnCoverage", vars := ["loop.example/g00955/impl.sines"], fn := fun _ => fun
  | [d1, d2, g1] => { results := [.lit (.bool false)], args := [d1, d2], vars := [g1] }
  | _ => none }
def FnCoverageWrongFalsely : Prop := fnCoverageRow.holds Tryd.pinned (OpenSpec.ofChange fnCoverageWrong)

/- THE SECOND FORM. 'bulk': how many values and letters a reading holds, each counted each time it is reached (what is shared counts as often as it is met; a slice's spare places count too). A statement '..UptoSaid' is the law's where the arguments, and the package variables that the reading takes, are together of bulk at most 1048576: NARROWER than '..Said'. Prove '..Said' where nothing that the law and all that it calls make is longer than what came in: it says more and counts as full. Else prove '..UptoSaid'. A law counts once. -/
mutual
def uptoBulk {H : Type} : DataW H → Nat
  | .lit (.string bytes) => bytes.length + 1
  | .lit _ => 1
  | .nil => 1
  | .ptr d => uptoBulk d + 1
  | .slice elems spare => uptoBulkAll elems + uptoBulkAll spare + 1
  | .agg parts => uptoBulkAll parts + 1
  | .iface _ d => uptoBulk d + 1
  | .map entries => uptoBulkEntries entries + 1
  | .held _ => 1
def uptoBulkAll {H : Type} : List (DataW H) → Nat
  | [] => 0
  | d :: r => uptoBulk d + uptoBulkAll r
def uptoBulkEntries {H : Type} : List (Lit × DataW H) → Nat
  | [] => 0
  | x :: r => uptoBulkEntry x + uptoBulkEntries r
def uptoBulkEntry {H : Type} : Lit × DataW H → Nat
  | (.string bytes, d) => bytes.length + uptoBulk d + 1
  | (_, d) => uptoBulk d + 1
 end
def uptoSmall : (H : Type) → List (DataW H) → Bool := fun _ ds => decide (uptoBulkAll ds ≤ 1048576)
def OpenSpec.upto (s : _root_.Go.ChangeSpec) : _root_.Go.OpenSpec := { _root_.Go.OpenSpec.ofChange s with cond := some uptoSmall }

/-- 'laws.FnExactRawWeight', WHERE WHAT IT READS IS OF BULK AT MOST 1048576: true; the input reads as it did. -/
def fnExactRawWeightUptoRow : OpenClaim := { program := "ytkjnpnijplnoaaadoor", sum := "3396eadadb4047afa40e1d98e775a1803bedb483c7ce0c55c93774ccce73fbfa", func := "loop.example/g00955/laws.FnExactRawWeight", spec := "fnExactRawWeight", inPlace := ["math.sqrt"], recurses := true, named := ["loop.example/g00955/impl.sines"], apart := false, laid := [("loop.example/g00955/impl.sines", laid_loop_example_g00955_impl_sines)], narrowed := true }
def FnExactRawWeightUptoSaid : Prop := fnExactRawWeightUptoRow.holds Tryd.pinned (OpenSpec.upto fnExactRawWeightSpec)

/-- 'laws.FnExactWeightsAt', WHERE WHAT IT READS IS OF BULK AT MOST 1048576: true; the input reads as it did. -/
def fnExactWeightsAtUptoRow : OpenClaim := { program := "ytkjnpnijplnoaaadoor", sum := "3396eadadb4047afa40e1d98e775a1803bedb483c7ce0c55c93774ccce73fbfa", func := "loop.example/g00955/laws.FnExactWeightsAt", spec := "fnExactWeightsAt", inPlace := ["math.sqrt"], recurses := true, named := ["loop.example/g00955/impl.sines"], apart := false, laid := [("loop.example/g00955/impl.sines", laid_loop_example_g00955_impl_sines)], narrowed := true }
def FnExactWeightsAtUptoSaid : Prop := fnExactWeightsAtUptoRow.holds Tryd.pinned (OpenSpec.upto fnExactWeightsAtSpec)

/-- 'laws.FnExactBrightnessAt', WHERE WHAT IT READS IS OF BULK AT MOST 1048576: true; the input reads as it did. -/
def fnExactBrightnessAtUptoRow : OpenClaim := { program := "ytkjnpnijplnoaaadoor", sum := "3396eadadb4047afa40e1d98e775a1803bedb483c7ce0c55c93774ccce73fbfa", func := "loop.example/g00955/laws.FnExactBrightnessAt", spec := "fnExactBrightnessAt", inPlace := ["math.sqrt"], recurses := true, named := ["loop.example/g00955/impl.sines"], apart := false, laid := [("loop.example/g00955/impl.sines", laid_loop_example_g00955_impl_sines)], narrowed := true }
def FnExactBrightnessAtUptoSaid : Prop := fnExactBrightnessAtUptoRow.holds Tryd.pinned (OpenSpec.upto fnExactBrightnessAtSpec)

/-- 'laws.FnExactBlackAt', WHERE WHAT IT READS IS OF BULK AT MOST 1048576: true; the input reads as it did. -/
def fnExactBlackAtUptoRow : OpenClaim := { program := "ytkjnpnijplnoaaadoor", sum := "3396eadadb4047afa40e1d98e775a1803bedb483c7ce0c55c93774ccce73fbfa", func := "loop.example/g00955/laws.FnExactBlackAt", spec := "fnExactBlackAt", inPlace := ["math.sqrt"], unfollowed := true, recurses := true, named := ["loop.example/g00955/impl.sines"], apart := false, laid := [("loop.example/g00955/impl.sines", laid_loop_example_g00955_impl_sines)], narrowed := true }
def FnExactBlackAtUptoSaid : Prop := fnExactBlackAtUptoRow.holds Tryd.pinned (OpenSpec.upto fnExactBlackAtSpec)

/-- 'laws.FnExactUniformBlack', WHERE WHAT IT READS IS OF BULK AT MOST 1048576: true; the input reads as it did. -/
def fnExactUniformBlackUptoRow : OpenClaim := { program := "ytkjnpnijplnoaaadoor", sum := "3396eadadb4047afa40e1d98e775a1803bedb483c7ce0c55c93774ccce73fbfa", func := "loop.example/g00955/laws.FnExactUniformBlack", spec := "fnExactUniformBlack", inPlace := ["math.sqrt"], unfollowed := true, recurses := true, named := ["loop.example/g00955/impl.sines"], apart := false, laid := [("loop.example/g00955/impl.sines", laid_loop_example_g00955_impl_sines)], narrowed := true }
def FnExactUniformBlackUptoSaid : Prop := fnExactUniformBlackUptoRow.holds Tryd.pinned (OpenSpec.upto fnExactUniformBlackSpec)

/-- 'laws.FnExactCoverageShare', WHERE WHAT IT READS IS OF BULK AT MOST 1048576: true; the input reads as it did. -/
def fnExactCoverageShareUptoRow : OpenClaim := { program := "ytkjnpnijplnoaaadoor", sum := "3396eadadb4047afa40e1d98e775a1803bedb483c7ce0c55c93774ccce73fbfa", func := "loop.example/g00955/laws.FnExactCoverageShare", spec := "fnExactCoverageShare", inPlace := ["math.sqrt"], recurses := true, named := ["loop.example/g00955/impl.sines"], apart := false, laid := [("loop.example/g00955/impl.sines", laid_loop_example_g00955_impl_sines)], narrowed := true }
def FnExactCoverageShareUptoSaid : Prop := fnExactCoverageShareUptoRow.holds Tryd.pinned (OpenSpec.upto fnExactCoverageShareSpec)

/-- 'laws.FnExactOverlapShare', WHERE WHAT IT READS IS OF BULK AT MOST 1048576: true; the input reads as it did. -/
def fnExactOverlapShareUptoRow : OpenClaim := { program := "ytkjnpnijplnoaaadoor", sum := "3396eadadb4047afa40e1d98e775a1803bedb483c7ce0c55c93774ccce73fbfa", func := "loop.example/g00955/laws.FnExactOverlapShare", spec := "fnExactOverlapShare", inPlace := ["math.sqrt"], recurses := true, named := ["loop.example/g00955/impl.sines"], apart := false, laid := [("loop.example/g00955/impl.sines", laid_loop_example_g00955_impl_sines)], narrowed := true }
def FnExactOverlapShareUptoSaid : Prop := fnExactOverlapShareUptoRow.holds Tryd.pinned (OpenSpec.upto fnExactOverlapShareSpec)

/-- 'laws.FnExactDarkSpots', WHERE WHAT IT READS IS OF BULK AT MOST 1048576: true; the input reads as it did. -/
def fnExactDarkSpotsUptoRow : OpenClaim := { program := "ytkjnpnijplnoaaadoor", sum := "3396eadadb4047afa40e1d98e775a1803bedb483c7ce0c55c93774ccce73fbfa", func := "loop.example/g00955/laws.FnExactDarkSpots", spec := "fnExactDarkSpots", inPlace := ["math.sqrt"], recurses := true, named := ["loop.example/g00955/impl.sines"], apart := false, laid := [("loop.example/g00955/impl.sines", laid_loop_example_g00955_impl_sines)], narrowed := true }
def FnExactDarkSpotsUptoSaid : Prop := fnExactDarkSpotsUptoRow.holds Tryd.pinned (OpenSpec.upto fnExactDarkSpotsSpec)

/-- 'laws.FnExactBrightnessRange', WHERE WHAT IT READS IS OF BULK AT MOST 1048576: true; the input reads as it did. -/
def fnExactBrightnessRangeUptoRow : OpenClaim := { program := "ytkjnpnijplnoaaadoor", sum := "3396eadadb4047afa40e1d98e775a1803bedb483c7ce0c55c93774ccce73fbfa", func := "loop.example/g00955/laws.FnExactBrightnessRange", spec := "fnExactBrightnessRange", inPlace := ["math.sqrt"], recurses := true, named := ["loop.example/g00955/impl.sines"], apart := false, laid := [("loop.example/g00955/impl.sines", laid_loop_example_g00955_impl_sines)], narrowed := true }
def FnExactBrightnessRangeUptoSaid : Prop := fnExactBrightnessRangeUptoRow.holds Tryd.pinned (OpenSpec.upto fnExactBrightnessRangeSpec)

/-- 'laws.FnExactFewestProjectors', WHERE WHAT IT READS IS OF BULK AT MOST 1048576: true; the input reads as it did. -/
def fnExactFewestProjectorsUptoRow : OpenClaim := { program := "ytkjnpnijplnoaaadoor", sum := "3396eadadb4047afa40e1d98e775a1803bedb483c7ce0c55c93774ccce73fbfa", func := "loop.example/g00955/laws.FnExactFewestProjectors", spec := "fnExactFewestProjectors", inPlace := ["math.sqrt"], recurses := true, named := ["loop.example/g00955/impl.sines"], apart := false, laid := [("loop.example/g00955/impl.sines", laid_loop_example_g00955_impl_sines)], narrowed := true }
def FnExactFewestProjectorsUptoSaid : Prop := fnExactFewestProjectorsUptoRow.holds Tryd.pinned (OpenSpec.upto fnExactFewestProjectorsSpec)

/-- 'laws.FnWeights', WHERE WHAT IT READS IS OF BULK AT MOST 1048576: true; the input reads as it did. -/
def fnWeightsUptoRow : OpenClaim := { program := "ytkjnpnijplnoaaadoor", sum := "3396eadadb4047afa40e1d98e775a1803bedb483c7ce0c55c93774ccce73fbfa", func := "loop.example/g00955/laws.FnWeights", spec := "fnWeights", inPlace := ["math.sqrt"], recurses := true, named := ["loop.example/g00955/impl.sines"], apart := false, laid := [("loop.example/g00955/impl.sines", laid_loop_example_g00955_impl_sines)], narrowed := true }
def FnWeightsUptoSaid : Prop := fnWeightsUptoRow.holds Tryd.pinned (OpenSpec.upto fnWeightsSpec)

/-- 'laws.FnCoverage', WHERE WHAT IT READS IS OF BULK AT MOST 1048576: true; the input reads as it did. -/
def fnCoverageUptoRow : OpenClaim := { program := "ytkjnpnijplnoaaadoor", sum := "3396eadadb4047afa40e1d98e775a1803bedb483c7ce0c55c93774ccce73fbfa", func := "loop.example/g00955/laws.FnCoverage", spec := "fnCoverage", inPlace := ["math.sqrt"], recurses := true, named := ["loop.example/g00955/impl.sines"], apart := false, laid := [("loop.example/g00955/impl.sines", laid_loop_example_g00955_impl_sines)], narrowed := true }
def FnCoverageUptoSaid : Prop := fnCoverageUptoRow.holds Tryd.pinned (OpenSpec.upto fnCoverageSpec)

end Rows
end Go.Proofs.YtkjnpnijplnoaaaDoor
