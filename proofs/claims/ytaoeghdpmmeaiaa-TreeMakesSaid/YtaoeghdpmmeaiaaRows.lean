/-
  No cell of these rows narrows 'for every input' (looked for: loops, veiled, ifaces, maps, wideKeys, modest, calm, conditions, laid).
  DERIVED. THE GIVEN ROWS OF THIS SEAT. 8 by the template 'for every input the law returns true; each argument reads behind the call as it read before'; 0 by the template 'total and deterministic' (their statements: YtaoeghdpmmeaiaaTotals.lean).
  GIVEN WITH THE SEED: the statements are not yours to turn. If you find one false, say at which input.
  Laid BY PROGRAM, IN A SANDBOX (cutbox-rows.mjs): the forced cells as the released guide's own fill.sh prints them over the translation e4dc567392341a3d… (all of the seat's roots in one cut). By AI agents, Wed Nov 11 2026. No macro, syntax, notation, axiom, sorry.
-/
import Derived.Test.YtaoeghdpmmeaiaaChecked
import GoSem.Claim
import GoSem.ClaimJoined
import GoSem.ClaimMapViews
import Derived.JoinedTies
import Derived.KernelRfl
namespace Go.Proofs.Ytaoeghdpmmeaiaa
/- THE CELL 'sum', in the pinned program and in every row, IS THE sha256 OF THE DUMP (.gsa) THAT YtaoeghdpmmeaiaaProg.lean LOADS. Nothing in Lean hashes anything: it is a label: what it is worth is what the hold of that sum in a sandbox is worth. -/
noncomputable def Try.pinned : Pinned := { name := "ytaoeghdpmmeaiaa", sum := "e4dc567392341a3dfdd28139178e06ba14c45bb51e6aec18f73620698d621273", checked := Try.checked }
namespace Rows
def none {H : Type} : Left H := { results := [], args := [] }

/-- 'wherrylaw03.TreeExact': WHATEVER THE INPUT: true; the input reads as it did. -/
def treeExactSpec : ChangeSpec := { name := "treeExact", fn := fun _ => fun
  | [d1, d2, d3] => { results := [.lit (.bool true)], args := [d1, d2, d3] }
  | _ => none }
def treeExactRow : OpenClaim := { program := "ytaoeghdpmmeaiaa", sum := "e4dc567392341a3dfdd28139178e06ba14c45bb51e6aec18f73620698d621273", func := "wherry/wherrylaw03.TreeExact", spec := "treeExact", unfollowed := true, recurses := true, apart := false }
def TreeExactSaid : Prop := treeExactRow.holds Try.pinned (OpenSpec.ofChange treeExactSpec)

/-- ITS FALSE NEIGHBOUR: 'it returns false'. Refute it at one input. -/
def treeExactWrong : ChangeSpec := { name := "treeExact", fn := fun _ => fun
  | [d1, d2, d3] => { results := [.lit (.bool false)], args := [d1, d2, d3] }
  | _ => none }
def TreeExactWrongFalsely : Prop := treeExactRow.holds Try.pinned (OpenSpec.ofChange treeExactWrong)

/-- 'wherrylaw03.TreeEven': WHATEVER THE INPUT: true; the input reads as it did. -/
def treeEvenSpec : ChangeSpec := { name := "treeEven", fn := fun _ => fun
  | [d1, d2] => { results := [.lit (.bool true)], args := [d1, d2] }
  | _ => none }
def treeEvenRow : OpenClaim := { program := "ytaoeghdpmmeaiaa", sum := "e4dc567392341a3dfdd28139178e06ba14c45bb51e6aec18f73620698d621273", func := "wherry/wherrylaw03.TreeEven", spec := "treeEven", unfollowed := true, recurses := true, apart := false }
def TreeEvenSaid : Prop := treeEvenRow.holds Try.pinned (OpenSpec.ofChange treeEvenSpec)

/-- ITS FALSE NEIGHBOUR: 'it returns false'. Refute it at one input. -/
def treeEvenWrong : ChangeSpec := { name := "treeEven", fn := fun _ => fun
  | [d1, d2] => { results := [.lit (.bool false)], args := [d1, d2] }
  | _ => none }
def TreeEvenWrongFalsely : Prop := treeEvenRow.holds Try.pinned (OpenSpec.ofChange treeEvenWrong)

/-- 'wherrylaw03.TreeScales': WHATEVER THE INPUT: true; the input reads as it did. -/
def treeScalesSpec : ChangeSpec := { name := "treeScales", fn := fun _ => fun
  | [d1, d2] => { results := [.lit (.bool true)], args := [d1, d2] }
  | _ => none }
def treeScalesRow : OpenClaim := { program := "ytaoeghdpmmeaiaa", sum := "e4dc567392341a3dfdd28139178e06ba14c45bb51e6aec18f73620698d621273", func := "wherry/wherrylaw03.TreeScales", spec := "treeScales", unfollowed := true, recurses := true, apart := false }
def TreeScalesSaid : Prop := treeScalesRow.holds Try.pinned (OpenSpec.ofChange treeScalesSpec)

/-- ITS FALSE NEIGHBOUR: 'it returns false'. Refute it at one input. -/
def treeScalesWrong : ChangeSpec := { name := "treeScales", fn := fun _ => fun
  | [d1, d2] => { results := [.lit (.bool false)], args := [d1, d2] }
  | _ => none }
def TreeScalesWrongFalsely : Prop := treeScalesRow.holds Try.pinned (OpenSpec.ofChange treeScalesWrong)

/-- 'wherrylaw03.TreeNoughts': WHATEVER THE INPUT: true; the input reads as it did. -/
def treeNoughtsSpec : ChangeSpec := { name := "treeNoughts", fn := fun _ => fun
  | [d1, d2] => { results := [.lit (.bool true)], args := [d1, d2] }
  | _ => none }
def treeNoughtsRow : OpenClaim := { program := "ytaoeghdpmmeaiaa", sum := "e4dc567392341a3dfdd28139178e06ba14c45bb51e6aec18f73620698d621273", func := "wherry/wherrylaw03.TreeNoughts", spec := "treeNoughts", unfollowed := true, recurses := true, apart := false }
def TreeNoughtsSaid : Prop := treeNoughtsRow.holds Try.pinned (OpenSpec.ofChange treeNoughtsSpec)

/-- ITS FALSE NEIGHBOUR: 'it returns false'. Refute it at one input. -/
def treeNoughtsWrong : ChangeSpec := { name := "treeNoughts", fn := fun _ => fun
  | [d1, d2] => { results := [.lit (.bool false)], args := [d1, d2] }
  | _ => none }
def TreeNoughtsWrongFalsely : Prop := treeNoughtsRow.holds Try.pinned (OpenSpec.ofChange treeNoughtsWrong)

/-- 'wherrylaw03.TreeCosts': WHATEVER THE INPUT: true; the input reads as it did. -/
def treeCostsSpec : ChangeSpec := { name := "treeCosts", fn := fun _ => fun
  | [d1, d2, d3, d4] => { results := [.lit (.bool true)], args := [d1, d2, d3, d4] }
  | _ => none }
def treeCostsRow : OpenClaim := { program := "ytaoeghdpmmeaiaa", sum := "e4dc567392341a3dfdd28139178e06ba14c45bb51e6aec18f73620698d621273", func := "wherry/wherrylaw03.TreeCosts", spec := "treeCosts", unfollowed := true, recurses := true, apart := false }
def TreeCostsSaid : Prop := treeCostsRow.holds Try.pinned (OpenSpec.ofChange treeCostsSpec)

/-- ITS FALSE NEIGHBOUR: 'it returns false'. Refute it at one input. -/
def treeCostsWrong : ChangeSpec := { name := "treeCosts", fn := fun _ => fun
  | [d1, d2, d3, d4] => { results := [.lit (.bool false)], args := [d1, d2, d3, d4] }
  | _ => none }
def TreeCostsWrongFalsely : Prop := treeCostsRow.holds Try.pinned (OpenSpec.ofChange treeCostsWrong)

/-- 'wherrylaw03.TreeMakes': WHATEVER THE INPUT: true; the input reads as it did. -/
def treeMakesSpec : ChangeSpec := { name := "treeMakes", fn := fun _ => fun
  | [d1, d2, d3, d4] => { results := [.lit (.bool true)], args := [d1, d2, d3, d4] }
  | _ => none }
def treeMakesRow : OpenClaim := { program := "ytaoeghdpmmeaiaa", sum := "e4dc567392341a3dfdd28139178e06ba14c45bb51e6aec18f73620698d621273", func := "wherry/wherrylaw03.TreeMakes", spec := "treeMakes", unfollowed := true, recurses := true, apart := false }
def TreeMakesSaid : Prop := treeMakesRow.holds Try.pinned (OpenSpec.ofChange treeMakesSpec)

/-- ITS FALSE NEIGHBOUR: 'it returns false'. Refute it at one input. -/
def treeMakesWrong : ChangeSpec := { name := "treeMakes", fn := fun _ => fun
  | [d1, d2, d3, d4] => { results := [.lit (.bool false)], args := [d1, d2, d3, d4] }
  | _ => none }
def TreeMakesWrongFalsely : Prop := treeMakesRow.holds Try.pinned (OpenSpec.ofChange treeMakesWrong)

/-- 'wherrylaw03.TreeLeast': WHATEVER THE INPUT: true; the input reads as it did. -/
def treeLeastSpec : ChangeSpec := { name := "treeLeast", fn := fun _ => fun
  | [d1, d2, d3, d4] => { results := [.lit (.bool true)], args := [d1, d2, d3, d4] }
  | _ => none }
def treeLeastRow : OpenClaim := { program := "ytaoeghdpmmeaiaa", sum := "e4dc567392341a3dfdd28139178e06ba14c45bb51e6aec18f73620698d621273", func := "wherry/wherrylaw03.TreeLeast", spec := "treeLeast", unfollowed := true, recurses := true, apart := false }
def TreeLeastSaid : Prop := treeLeastRow.holds Try.pinned (OpenSpec.ofChange treeLeastSpec)

/-- ITS FALSE NEIGHBOUR: 'it returns false'. Refute it at one input. -/
def treeLeastWrong : ChangeSpec := { name := "treeLeast", fn := fun _ => fun
  | [d1, d2, d3, d4] => { results := [.lit (.bool false)], args := [d1, d2, d3, d4] }
  | _ => none }
def TreeLeastWrongFalsely : Prop := treeLeastRow.holds Try.pinned (OpenSpec.ofChange treeLeastWrong)

/-- 'wherrylaw03.TreeDeep': WHATEVER THE INPUT: true; the input reads as it did. -/
def treeDeepSpec : ChangeSpec := { name := "treeDeep", fn := fun _ => fun
  | [d1, d2] => { results := [.lit (.bool true)], args := [d1, d2] }
  | _ => none }
def treeDeepRow : OpenClaim := { program := "ytaoeghdpmmeaiaa", sum := "e4dc567392341a3dfdd28139178e06ba14c45bb51e6aec18f73620698d621273", func := "wherry/wherrylaw03.TreeDeep", spec := "treeDeep", unfollowed := true, recurses := true, apart := false }
def TreeDeepSaid : Prop := treeDeepRow.holds Try.pinned (OpenSpec.ofChange treeDeepSpec)

/-- ITS FALSE NEIGHBOUR: 'it returns false'. Refute it at one input. -/
def treeDeepWrong : ChangeSpec := { name := "treeDeep", fn := fun _ => fun
  | [d1, d2] => { results := [.lit (.bool false)], args := [d1, d2] }
  | _ => none }
def TreeDeepWrongFalsely : Prop := treeDeepRow.holds Try.pinned (OpenSpec.ofChange treeDeepWrong)

/- THE SECOND FORM. 'bulk': how many values and letters a reading holds, each counted each time it is reached (what is shared counts as often as it is met; a slice's spare places count too). A statement '..UptoSaid' is the law's where the arguments, and the package variables that the reading takes, are together of bulk at most 1048576: NARROWER than '..Said'. Prove '..Said' where nothing that the law and all that it calls make is longer than what came in: it says more and counts as full. Else prove '..UptoSaid'. A law counts once. -/
mutual
def uptoBulk {H : Type} : DataW H → Nat
  | .lit (.string bytes) => bytes.length + 1
  | .lit _ => 1
  | .nil => 1
  | .ptr d => uptoBulk d + 1
  | .slice elems spare => uptoBulkAll elems + uptoBulkAll spare + 1
  | .agg parts => uptoBulkAll parts + 1
  | .iface _ d => uptoBulk d + 1
  | .map entries => uptoBulkEntries entries + 1
  | .held _ => 1
def uptoBulkAll {H : Type} : List (DataW H) → Nat
  | [] => 0
  | d :: r => uptoBulk d + uptoBulkAll r
def uptoBulkEntries {H : Type} : List (Lit × DataW H) → Nat
  | [] => 0
  | x :: r => uptoBulkEntry x + uptoBulkEntries r
def uptoBulkEntry {H : Type} : Lit × DataW H → Nat
  | (.string bytes, d) => bytes.length + uptoBulk d + 1
  | (_, d) => uptoBulk d + 1
 end
def uptoSmall : (H : Type) → List (DataW H) → Bool := fun _ ds => decide (uptoBulkAll ds ≤ 1048576)
def OpenSpec.upto (s : _root_.Go.ChangeSpec) : _root_.Go.OpenSpec := { _root_.Go.OpenSpec.ofChange s with cond := some uptoSmall }

/-- 'wherrylaw03.TreeExact', WHERE WHAT IT READS IS OF BULK AT MOST 1048576: true; the input reads as it did. -/
def treeExactUptoRow : OpenClaim := { program := "ytaoeghdpmmeaiaa", sum := "e4dc567392341a3dfdd28139178e06ba14c45bb51e6aec18f73620698d621273", func := "wherry/wherrylaw03.TreeExact", spec := "treeExact", unfollowed := true, recurses := true, apart := false, narrowed := true }
def TreeExactUptoSaid : Prop := treeExactUptoRow.holds Try.pinned (OpenSpec.upto treeExactSpec)

/-- 'wherrylaw03.TreeEven', WHERE WHAT IT READS IS OF BULK AT MOST 1048576: true; the input reads as it did. -/
def treeEvenUptoRow : OpenClaim := { program := "ytaoeghdpmmeaiaa", sum := "e4dc567392341a3dfdd28139178e06ba14c45bb51e6aec18f73620698d621273", func := "wherry/wherrylaw03.TreeEven", spec := "treeEven", unfollowed := true, recurses := true, apart := false, narrowed := true }
def TreeEvenUptoSaid : Prop := treeEvenUptoRow.holds Try.pinned (OpenSpec.upto treeEvenSpec)

/-- 'wherrylaw03.TreeScales', WHERE WHAT IT READS IS OF BULK AT MOST 1048576: true; the input reads as it did. -/
def treeScalesUptoRow : OpenClaim := { program := "ytaoeghdpmmeaiaa", sum := "e4dc567392341a3dfdd28139178e06ba14c45bb51e6aec18f73620698d621273", func := "wherry/wherrylaw03.TreeScales", spec := "treeScales", unfollowed := true, recurses := true, apart := false, narrowed := true }
def TreeScalesUptoSaid : Prop := treeScalesUptoRow.holds Try.pinned (OpenSpec.upto treeScalesSpec)

/-- 'wherrylaw03.TreeNoughts', WHERE WHAT IT READS IS OF BULK AT MOST 1048576: true; the input reads as it did. -/
def treeNoughtsUptoRow : OpenClaim := { program := "ytaoeghdpmmeaiaa", sum := "e4dc567392341a3dfdd28139178e06ba14c45bb51e6aec18f73620698d621273", func := "wherry/wherrylaw03.TreeNoughts", spec := "treeNoughts", unfollowed := true, recurses := true, apart := false, narrowed := true }
def TreeNoughtsUptoSaid : Prop := treeNoughtsUptoRow.holds Try.pinned (OpenSpec.upto treeNoughtsSpec)

/-- 'wherrylaw03.TreeCosts', WHERE WHAT IT READS IS OF BULK AT MOST 1048576: true; the input reads as it did. -/
def treeCostsUptoRow : OpenClaim := { program := "ytaoeghdpmmeaiaa", sum := "e4dc567392341a3dfdd28139178e06ba14c45bb51e6aec18f73620698d621273", func := "wherry/wherrylaw03.TreeCosts", spec := "treeCosts", unfollowed := true, recurses := true, apart := false, narrowed := true }
def TreeCostsUptoSaid : Prop := treeCostsUptoRow.holds Try.pinned (OpenSpec.upto treeCostsSpec)

/-- 'wherrylaw03.TreeMakes', WHERE WHAT IT READS IS OF BULK AT MOST 1048576: true; the input reads as it did. -/
def treeMakesUptoRow : OpenClaim := { program := "ytaoeghdpmmeaiaa", sum := "e4dc567392341a3dfdd28139178e06ba14c45bb51e6aec18f73620698d621273", func := "wherry/wherrylaw03.TreeMakes", spec := "treeMakes", unfollowed := true, recurses := true, apart := false, narrowed := true }
def TreeMakesUptoSaid : Prop := treeMakesUptoRow.holds Try.pinned (OpenSpec.upto treeMakesSpec)

/-- 'wherrylaw03.TreeLeast', WHERE WHAT IT READS IS OF BULK AT MOST 1048576: true; the input reads as it did. -/
def treeLeastUptoRow : OpenClaim := { program := "ytaoeghdpmmeaiaa", sum := "e4dc567392341a3dfdd28139178e06ba14c45bb51e6aec18f73620698d621273", func := "wherry/wherrylaw03.TreeLeast", spec := "treeLeast", unfollowed := true, recurses := true, apart := false, narrowed := true }
def TreeLeastUptoSaid : Prop := treeLeastUptoRow.holds Try.pinned (OpenSpec.upto treeLeastSpec)

/-- 'wherrylaw03.TreeDeep', WHERE WHAT IT READS IS OF BULK AT MOST 1048576: true; the input reads as it did. -/
def treeDeepUptoRow : OpenClaim := { program := "ytaoeghdpmmeaiaa", sum := "e4dc567392341a3dfdd28139178e06ba14c45bb51e6aec18f73620698d621273", func := "wherry/wherrylaw03.TreeDeep", spec := "treeDeep", unfollowed := true, recurses := true, apart := false, narrowed := true }
def TreeDeepUptoSaid : Prop := treeDeepUptoRow.holds Try.pinned (OpenSpec.upto treeDeepSpec)

end Rows
end Go.Proofs.Ytaoeghdpmmeaiaa
