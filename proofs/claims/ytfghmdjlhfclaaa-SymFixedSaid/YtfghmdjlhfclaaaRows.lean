/-
  No cell of these rows narrows 'for every input' (looked for: loops, veiled, ifaces, maps, wideKeys, modest, calm, conditions, laid).
  DERIVED. THE GIVEN ROWS OF THIS SEAT. 6 by the template 'for every input the law returns true; each argument reads behind the call as it read before'; 0 by the template 'total and deterministic' (their statements: YtfghmdjlhfclaaaTotals.lean).
  GIVEN WITH THE SEED: the statements are not yours to turn. If you find one false, say at which input.
  Laid BY PROGRAM, IN A SANDBOX (cutbox-rows.mjs): the forced cells as the released guide's own fill.sh prints them over the translation 343dfc47534f191c… (all of the seat's roots in one cut). By AI agents, Wed Nov 11 2026. No macro, syntax, notation, axiom, sorry.
-/
import Derived.Test.YtfghmdjlhfclaaaChecked
import GoSem.Claim
import GoSem.ClaimJoined
import GoSem.ClaimMapViews
import Derived.JoinedTies
import Derived.KernelRfl
namespace Go.Proofs.Ytfghmdjlhfclaaa
/- THE CELL 'sum', in the pinned program and in every row, IS THE sha256 OF THE DUMP (.gsa) THAT YtfghmdjlhfclaaaProg.lean LOADS. Nothing in Lean hashes anything: it is a label: what it is worth is what the hold of that sum in a sandbox is worth. -/
noncomputable def Try.pinned : Pinned := { name := "ytfghmdjlhfclaaa", sum := "343dfc47534f191c255b8551f71b516f2c0dbebb4e434578e18cc392736441e6", checked := Try.checked }
namespace Rows
def none {H : Type} : Left H := { results := [], args := [] }

/-- 'wherrylaw05.SymOnce': WHATEVER THE INPUT: true; the input reads as it did. -/
def symOnceSpec : ChangeSpec := { name := "symOnce", fn := fun _ => fun
  | [d1, d2] => { results := [.lit (.bool true)], args := [d1, d2] }
  | _ => none }
def symOnceRow : OpenClaim := { program := "ytfghmdjlhfclaaa", sum := "343dfc47534f191c255b8551f71b516f2c0dbebb4e434578e18cc392736441e6", func := "wherry/wherrylaw05.SymOnce", spec := "symOnce", apart := false }
def SymOnceSaid : Prop := symOnceRow.holds Try.pinned (OpenSpec.ofChange symOnceSpec)

/-- ITS FALSE NEIGHBOUR: 'it returns false'. Refute it at one input. -/
def symOnceWrong : ChangeSpec := { name := "symOnce", fn := fun _ => fun
  | [d1, d2] => { results := [.lit (.bool false)], args := [d1, d2] }
  | _ => none }
def SymOnceWrongFalsely : Prop := symOnceRow.holds Try.pinned (OpenSpec.ofChange symOnceWrong)

/-- 'wherrylaw05.SymTables': WHATEVER THE INPUT: true; the input reads as it did. -/
def symTablesSpec : ChangeSpec := { name := "symTables", fn := fun _ => fun
  | [d] => { results := [.lit (.bool true)], args := [d] }
  | _ => none }
def symTablesRow : OpenClaim := { program := "ytfghmdjlhfclaaa", sum := "343dfc47534f191c255b8551f71b516f2c0dbebb4e434578e18cc392736441e6", func := "wherry/wherrylaw05.SymTables", spec := "symTables", apart := false }
def SymTablesSaid : Prop := symTablesRow.holds Try.pinned (OpenSpec.ofChange symTablesSpec)

/-- ITS FALSE NEIGHBOUR: 'it returns false'. Refute it at one input. -/
def symTablesWrong : ChangeSpec := { name := "symTables", fn := fun _ => fun
  | [d] => { results := [.lit (.bool false)], args := [d] }
  | _ => none }
def SymTablesWrongFalsely : Prop := symTablesRow.holds Try.pinned (OpenSpec.ofChange symTablesWrong)

/-- 'wherrylaw05.SymSpans': WHATEVER THE INPUT: true; the input reads as it did. -/
def symSpansSpec : ChangeSpec := { name := "symSpans", fn := fun _ => fun
  | [d] => { results := [.lit (.bool true)], args := [d] }
  | _ => none }
def symSpansRow : OpenClaim := { program := "ytfghmdjlhfclaaa", sum := "343dfc47534f191c255b8551f71b516f2c0dbebb4e434578e18cc392736441e6", func := "wherry/wherrylaw05.SymSpans", spec := "symSpans", apart := false }
def SymSpansSaid : Prop := symSpansRow.holds Try.pinned (OpenSpec.ofChange symSpansSpec)

/-- ITS FALSE NEIGHBOUR: 'it returns false'. Refute it at one input. -/
def symSpansWrong : ChangeSpec := { name := "symSpans", fn := fun _ => fun
  | [d] => { results := [.lit (.bool false)], args := [d] }
  | _ => none }
def SymSpansWrongFalsely : Prop := symSpansRow.holds Try.pinned (OpenSpec.ofChange symSpansWrong)

/-- 'wherrylaw05.SymWeights': WHATEVER THE INPUT: true; the input reads as it did. -/
def symWeightsSpec : ChangeSpec := { name := "symWeights", fn := fun _ => fun
  | [d] => { results := [.lit (.bool true)], args := [d] }
  | _ => none }
def symWeightsRow : OpenClaim := { program := "ytfghmdjlhfclaaa", sum := "343dfc47534f191c255b8551f71b516f2c0dbebb4e434578e18cc392736441e6", func := "wherry/wherrylaw05.SymWeights", spec := "symWeights", apart := false }
def SymWeightsSaid : Prop := symWeightsRow.holds Try.pinned (OpenSpec.ofChange symWeightsSpec)

/-- ITS FALSE NEIGHBOUR: 'it returns false'. Refute it at one input. -/
def symWeightsWrong : ChangeSpec := { name := "symWeights", fn := fun _ => fun
  | [d] => { results := [.lit (.bool false)], args := [d] }
  | _ => none }
def SymWeightsWrongFalsely : Prop := symWeightsRow.holds Try.pinned (OpenSpec.ofChange symWeightsWrong)

/-- 'wherrylaw05.SymFixed': WHATEVER THE INPUT: true; the input reads as it did. -/
def symFixedSpec : ChangeSpec := { name := "symFixed", fn := fun _ => fun
  | [d] => { results := [.lit (.bool true)], args := [d] }
  | _ => none }
def symFixedRow : OpenClaim := { program := "ytfghmdjlhfclaaa", sum := "343dfc47534f191c255b8551f71b516f2c0dbebb4e434578e18cc392736441e6", func := "wherry/wherrylaw05.SymFixed", spec := "symFixed", apart := false }
def SymFixedSaid : Prop := symFixedRow.holds Try.pinned (OpenSpec.ofChange symFixedSpec)

/-- ITS FALSE NEIGHBOUR: 'it returns false'. Refute it at one input. -/
def symFixedWrong : ChangeSpec := { name := "symFixed", fn := fun _ => fun
  | [d] => { results := [.lit (.bool false)], args := [d] }
  | _ => none }
def SymFixedWrongFalsely : Prop := symFixedRow.holds Try.pinned (OpenSpec.ofChange symFixedWrong)

/-- 'wherrylaw05.SymExact': WHATEVER THE INPUT: true; the input reads as it did. -/
def symExactSpec : ChangeSpec := { name := "symExact", fn := fun _ => fun
  | [d1, d2] => { results := [.lit (.bool true)], args := [d1, d2] }
  | _ => none }
def symExactRow : OpenClaim := { program := "ytfghmdjlhfclaaa", sum := "343dfc47534f191c255b8551f71b516f2c0dbebb4e434578e18cc392736441e6", func := "wherry/wherrylaw05.SymExact", spec := "symExact", apart := false }
def SymExactSaid : Prop := symExactRow.holds Try.pinned (OpenSpec.ofChange symExactSpec)

/-- ITS FALSE NEIGHBOUR: 'it returns false'. Refute it at one input. -/
def symExactWrong : ChangeSpec := { name := "symExact", fn := fun _ => fun
  | [d1, d2] => { results := [.lit (.bool false)], args := [d1, d2] }
  | _ => none }
def SymExactWrongFalsely : Prop := symExactRow.holds Try.pinned (OpenSpec.ofChange symExactWrong)

/- THE SECOND FORM. 'bulk': how many values and letters a reading holds, each counted each time it is reached (what is shared counts as often as it is met; a slice's spare places count too). A statement '..UptoSaid' is the law's where the arguments, and the package variables that the reading takes, are together of bulk at most 1048576: NARROWER than '..Said'. Prove '..Said' where nothing that the law and all that it calls make is longer than what came in: it says more and counts as full. Else prove '..UptoSaid'. A law counts once. -/
mutual
def uptoBulk {H : Type} : DataW H → Nat
  | .lit (.string bytes) => bytes.length + 1
  | .lit _ => 1
  | .nil => 1
  | .ptr d => uptoBulk d + 1
  | .slice elems spare => uptoBulkAll elems + uptoBulkAll spare + 1
  | .agg parts => uptoBulkAll parts + 1
  | .iface _ d => uptoBulk d + 1
  | .map entries => uptoBulkEntries entries + 1
  | .held _ => 1
def uptoBulkAll {H : Type} : List (DataW H) → Nat
  | [] => 0
  | d :: r => uptoBulk d + uptoBulkAll r
def uptoBulkEntries {H : Type} : List (Lit × DataW H) → Nat
  | [] => 0
  | x :: r => uptoBulkEntry x + uptoBulkEntries r
def uptoBulkEntry {H : Type} : Lit × DataW H → Nat
  | (.string bytes, d) => bytes.length + uptoBulk d + 1
  | (_, d) => uptoBulk d + 1
 end
def uptoSmall : (H : Type) → List (DataW H) → Bool := fun _ ds => decide (uptoBulkAll ds ≤ 1048576)
def OpenSpec.upto (s : _root_.Go.ChangeSpec) : _root_.Go.OpenSpec := { _root_.Go.OpenSpec.ofChange s with cond := some uptoSmall }

/-- 'wherrylaw05.SymOnce', WHERE WHAT IT READS IS OF BULK AT MOST 1048576: true; the input reads as it did. -/
def symOnceUptoRow : OpenClaim := { program := "ytfghmdjlhfclaaa", sum := "343dfc47534f191c255b8551f71b516f2c0dbebb4e434578e18cc392736441e6", func := "wherry/wherrylaw05.SymOnce", spec := "symOnce", apart := false, narrowed := true }
def SymOnceUptoSaid : Prop := symOnceUptoRow.holds Try.pinned (OpenSpec.upto symOnceSpec)

/-- 'wherrylaw05.SymTables', WHERE WHAT IT READS IS OF BULK AT MOST 1048576: true; the input reads as it did. -/
def symTablesUptoRow : OpenClaim := { program := "ytfghmdjlhfclaaa", sum := "343dfc47534f191c255b8551f71b516f2c0dbebb4e434578e18cc392736441e6", func := "wherry/wherrylaw05.SymTables", spec := "symTables", apart := false, narrowed := true }
def SymTablesUptoSaid : Prop := symTablesUptoRow.holds Try.pinned (OpenSpec.upto symTablesSpec)

/-- 'wherrylaw05.SymSpans', WHERE WHAT IT READS IS OF BULK AT MOST 1048576: true; the input reads as it did. -/
def symSpansUptoRow : OpenClaim := { program := "ytfghmdjlhfclaaa", sum := "343dfc47534f191c255b8551f71b516f2c0dbebb4e434578e18cc392736441e6", func := "wherry/wherrylaw05.SymSpans", spec := "symSpans", apart := false, narrowed := true }
def SymSpansUptoSaid : Prop := symSpansUptoRow.holds Try.pinned (OpenSpec.upto symSpansSpec)

/-- 'wherrylaw05.SymWeights', WHERE WHAT IT READS IS OF BULK AT MOST 1048576: true; the input reads as it did. -/
def symWeightsUptoRow : OpenClaim := { program := "ytfghmdjlhfclaaa", sum := "343dfc47534f191c255b8551f71b516f2c0dbebb4e434578e18cc392736441e6", func := "wherry/wherrylaw05.SymWeights", spec := "symWeights", apart := false, narrowed := true }
def SymWeightsUptoSaid : Prop := symWeightsUptoRow.holds Try.pinned (OpenSpec.upto symWeightsSpec)

/-- 'wherrylaw05.SymFixed', WHERE WHAT IT READS IS OF BULK AT MOST 1048576: true; the input reads as it did. -/
def symFixedUptoRow : OpenClaim := { program := "ytfghmdjlhfclaaa", sum := "343dfc47534f191c255b8551f71b516f2c0dbebb4e434578e18cc392736441e6", func := "wherry/wherrylaw05.SymFixed", spec := "symFixed", apart := false, narrowed := true }
def SymFixedUptoSaid : Prop := symFixedUptoRow.holds Try.pinned (OpenSpec.upto symFixedSpec)

/-- 'wherrylaw05.SymExact', WHERE WHAT IT READS IS OF BULK AT MOST 1048576: true; the input reads as it did. -/
def symExactUptoRow : OpenClaim := { program := "ytfghmdjlhfclaaa", sum := "343dfc47534f191c255b8551f71b516f2c0dbebb4e434578e18cc392736441e6", func := "wherry/wherrylaw05.SymExact", spec := "symExact", apart := false, narrowed := true }
def SymExactUptoSaid : Prop := symExactUptoRow.holds Try.pinned (OpenSpec.upto symExactSpec)

end Rows
end Go.Proofs.Ytfghmdjlhfclaaa
