/-
  No cell of these rows narrows 'for every input' (looked for: loops, veiled, ifaces, maps, wideKeys, modest, calm, conditions, laid).
  DERIVED. THE GIVEN ROWS OF THIS SEAT. 6 by the template 'for every input the law returns true; each argument reads behind the call as it read before'; 0 by the template 'total and deterministic' (their statements: YtnfagiofoicgoaaTotals.lean).
  GIVEN WITH THE SEED: the statements are not yours to turn. If you find one false, say at which input.
  Laid BY PROGRAM, IN A SANDBOX (cutbox-rows.mjs): the forced cells as the released guide's own fill.sh prints them over the translation af8319f40f8c8a3c… (all of the seat's roots in one cut). By AI agents, Wed Nov 11 2026. No macro, syntax, notation, axiom, sorry.
-/
import Derived.Test.YtnfagiofoicgoaaChecked
import GoSem.Claim
import GoSem.ClaimJoined
import GoSem.ClaimMapViews
import Derived.JoinedTies
import Derived.KernelRfl
namespace Go.Proofs.Ytnfagiofoicgoaa
/- THE CELL 'sum', in the pinned program and in every row, IS THE sha256 OF THE DUMP (.gsa) THAT YtnfagiofoicgoaaProg.lean LOADS. Nothing in Lean hashes anything: it is a label: what it is worth is what the hold of that sum in a sandbox is worth. -/
noncomputable def Try.pinned : Pinned := { name := "ytnfagiofoicgoaa", sum := "af8319f40f8c8a3ceeb8f8ba6a329385b13fbe7ae19ec0de73a87ecf00258c5d", checked := Try.checked }
namespace Rows
def none {H : Type} : Left H := { results := [], args := [] }

/-- 'wherrylaw01.BitsBack': WHATEVER THE INPUT: true; the input reads as it did. -/
def bitsBackSpec : ChangeSpec := { name := "bitsBack", fn := fun _ => fun
  | [d1, d2] => { results := [.lit (.bool true)], args := [d1, d2] }
  | _ => none }
def bitsBackRow : OpenClaim := { program := "ytnfagiofoicgoaa", sum := "af8319f40f8c8a3ceeb8f8ba6a329385b13fbe7ae19ec0de73a87ecf00258c5d", func := "wherry/wherrylaw01.BitsBack", spec := "bitsBack", apart := false }
def BitsBackSaid : Prop := bitsBackRow.holds Try.pinned (OpenSpec.ofChange bitsBackSpec)

/-- ITS FALSE NEIGHBOUR: 'it returns false'. Refute it at one input. -/
def bitsBackWrong : ChangeSpec := { name := "bitsBack", fn := fun _ => fun
  | [d1, d2] => { results := [.lit (.bool false)], args := [d1, d2] }
  | _ => none }
def BitsBackWrongFalsely : Prop := bitsBackRow.holds Try.pinned (OpenSpec.ofChange bitsBackWrong)

/-- 'wherrylaw01.BitsParts': WHATEVER THE INPUT: true; the input reads as it did. -/
def bitsPartsSpec : ChangeSpec := { name := "bitsParts", fn := fun _ => fun
  | [d1, d2, d3, d4] => { results := [.lit (.bool true)], args := [d1, d2, d3, d4] }
  | _ => none }
def bitsPartsRow : OpenClaim := { program := "ytnfagiofoicgoaa", sum := "af8319f40f8c8a3ceeb8f8ba6a329385b13fbe7ae19ec0de73a87ecf00258c5d", func := "wherry/wherrylaw01.BitsParts", spec := "bitsParts", apart := false }
def BitsPartsSaid : Prop := bitsPartsRow.holds Try.pinned (OpenSpec.ofChange bitsPartsSpec)

/-- ITS FALSE NEIGHBOUR: 'it returns false'. Refute it at one input. -/
def bitsPartsWrong : ChangeSpec := { name := "bitsParts", fn := fun _ => fun
  | [d1, d2, d3, d4] => { results := [.lit (.bool false)], args := [d1, d2, d3, d4] }
  | _ => none }
def BitsPartsWrongFalsely : Prop := bitsPartsRow.holds Try.pinned (OpenSpec.ofChange bitsPartsWrong)

/-- 'wherrylaw01.BitsFilled': WHATEVER THE INPUT: true; the input reads as it did. -/
def bitsFilledSpec : ChangeSpec := { name := "bitsFilled", fn := fun _ => fun
  | [d1, d2] => { results := [.lit (.bool true)], args := [d1, d2] }
  | _ => none }
def bitsFilledRow : OpenClaim := { program := "ytnfagiofoicgoaa", sum := "af8319f40f8c8a3ceeb8f8ba6a329385b13fbe7ae19ec0de73a87ecf00258c5d", func := "wherry/wherrylaw01.BitsFilled", spec := "bitsFilled", apart := false }
def BitsFilledSaid : Prop := bitsFilledRow.holds Try.pinned (OpenSpec.ofChange bitsFilledSpec)

/-- ITS FALSE NEIGHBOUR: 'it returns false'. Refute it at one input. -/
def bitsFilledWrong : ChangeSpec := { name := "bitsFilled", fn := fun _ => fun
  | [d1, d2] => { results := [.lit (.bool false)], args := [d1, d2] }
  | _ => none }
def BitsFilledWrongFalsely : Prop := bitsFilledRow.holds Try.pinned (OpenSpec.ofChange bitsFilledWrong)

/-- 'wherrylaw01.BitsWrong': WHATEVER THE INPUT: true; the input reads as it did. -/
def bitsWrongSpec : ChangeSpec := { name := "bitsWrong", fn := fun _ => fun
  | [d1, d2, d3] => { results := [.lit (.bool true)], args := [d1, d2, d3] }
  | _ => none }
def bitsWrongRow : OpenClaim := { program := "ytnfagiofoicgoaa", sum := "af8319f40f8c8a3ceeb8f8ba6a329385b13fbe7ae19ec0de73a87ecf00258c5d", func := "wherry/wherrylaw01.BitsWrong", spec := "bitsWrong", apart := false }
def BitsWrongSaid : Prop := bitsWrongRow.holds Try.pinned (OpenSpec.ofChange bitsWrongSpec)

/-- ITS FALSE NEIGHBOUR: 'it returns false'. Refute it at one input. -/
def bitsWrongWrong : ChangeSpec := { name := "bitsWrong", fn := fun _ => fun
  | [d1, d2, d3] => { results := [.lit (.bool false)], args := [d1, d2, d3] }
  | _ => none }
def BitsWrongWrongFalsely : Prop := bitsWrongRow.holds Try.pinned (OpenSpec.ofChange bitsWrongWrong)

/-- 'wherrylaw01.BitsTurned': WHATEVER THE INPUT: true; the input reads as it did. -/
def bitsTurnedSpec : ChangeSpec := { name := "bitsTurned", fn := fun _ => fun
  | [d1, d2] => { results := [.lit (.bool true)], args := [d1, d2] }
  | _ => none }
def bitsTurnedRow : OpenClaim := { program := "ytnfagiofoicgoaa", sum := "af8319f40f8c8a3ceeb8f8ba6a329385b13fbe7ae19ec0de73a87ecf00258c5d", func := "wherry/wherrylaw01.BitsTurned", spec := "bitsTurned", apart := false }
def BitsTurnedSaid : Prop := bitsTurnedRow.holds Try.pinned (OpenSpec.ofChange bitsTurnedSpec)

/-- ITS FALSE NEIGHBOUR: 'it returns false'. Refute it at one input. -/
def bitsTurnedWrong : ChangeSpec := { name := "bitsTurned", fn := fun _ => fun
  | [d1, d2] => { results := [.lit (.bool false)], args := [d1, d2] }
  | _ => none }
def BitsTurnedWrongFalsely : Prop := bitsTurnedRow.holds Try.pinned (OpenSpec.ofChange bitsTurnedWrong)

/-- 'wherrylaw01.BitsExact': WHATEVER THE INPUT: true; the input reads as it did. -/
def bitsExactSpec : ChangeSpec := { name := "bitsExact", fn := fun _ => fun
  | [d1, d2, d3, d4, d5] => { results := [.lit (.bool true)], args := [d1, d2, d3, d4, d5] }
  | _ => none }
def bitsExactRow : OpenClaim := { program := "ytnfagiofoicgoaa", sum := "af8319f40f8c8a3ceeb8f8ba6a329385b13fbe7ae19ec0de73a87ecf00258c5d", func := "wherry/wherrylaw01.BitsExact", spec := "bitsExact", apart := false }
def BitsExactSaid : Prop := bitsExactRow.holds Try.pinned (OpenSpec.ofChange bitsExactSpec)

/-- ITS FALSE NEIGHBOUR: 'it returns false'. Refute it at one input. -/
def bitsExactWrong : ChangeSpec := { name := "bitsExact", fn := fun _ => fun
  | [d1, d2, d3, d4, d5] => { results := [.lit (.bool false)], args := [d1, d2, d3, d4, d5] }
  | _ => none }
def BitsExactWrongFalsely : Prop := bitsExactRow.holds Try.pinned (OpenSpec.ofChange bitsExactWrong)

/- THE SECOND FORM. 'bulk': how many values and letters a reading holds, each counted each time it is reached (what is shared counts as often as it is met; a slice's spare places count too). A statement '..UptoSaid' is the law's where the arguments, and the package variables that the reading takes, are together of bulk at most 1048576: NARROWER than '..Said'. Prove '..Said' where nothing that the law and all that it calls make is longer than what came in: it says more and counts as full. Else prove '..UptoSaid'. A law counts once. -/
mutual
def uptoBulk {H : Type} : DataW H → Nat
  | .lit (.string bytes) => bytes.length + 1
  | .lit _ => 1
  | .nil => 1
  | .ptr d => uptoBulk d + 1
  | .slice elems spare => uptoBulkAll elems + uptoBulkAll spare + 1
  | .agg parts => uptoBulkAll parts + 1
  | .iface _ d => uptoBulk d + 1
  | .map entries => uptoBulkEntries entries + 1
  | .held _ => 1
def uptoBulkAll {H : Type} : List (DataW H) → Nat
  | [] => 0
  | d :: r => uptoBulk d + uptoBulkAll r
def uptoBulkEntries {H : Type} : List (Lit × DataW H) → Nat
  | [] => 0
  | x :: r => uptoBulkEntry x + uptoBulkEntries r
def uptoBulkEntry {H : Type} : Lit × DataW H → Nat
  | (.string bytes, d) => bytes.length + uptoBulk d + 1
  | (_, d) => uptoBulk d + 1
 end
def uptoSmall : (H : Type) → List (DataW H) → Bool := fun _ ds => decide (uptoBulkAll ds ≤ 1048576)
def OpenSpec.upto (s : _root_.Go.ChangeSpec) : _root_.Go.OpenSpec := { _root_.Go.OpenSpec.ofChange s with cond := some uptoSmall }

/-- 'wherrylaw01.BitsBack', WHERE WHAT IT READS IS OF BULK AT MOST 1048576: true; the input reads as it did. -/
def bitsBackUptoRow : OpenClaim := { program := "ytnfagiofoicgoaa", sum := "af8319f40f8c8a3ceeb8f8ba6a329385b13fbe7ae19ec0de73a87ecf00258c5d", func := "wherry/wherrylaw01.BitsBack", spec := "bitsBack", apart := false, narrowed := true }
def BitsBackUptoSaid : Prop := bitsBackUptoRow.holds Try.pinned (OpenSpec.upto bitsBackSpec)

/-- 'wherrylaw01.BitsParts', WHERE WHAT IT READS IS OF BULK AT MOST 1048576: true; the input reads as it did. -/
def bitsPartsUptoRow : OpenClaim := { program := "ytnfagiofoicgoaa", sum := "af8319f40f8c8a3ceeb8f8ba6a329385b13fbe7ae19ec0de73a87ecf00258c5d", func := "wherry/wherrylaw01.BitsParts", spec := "bitsParts", apart := false, narrowed := true }
def BitsPartsUptoSaid : Prop := bitsPartsUptoRow.holds Try.pinned (OpenSpec.upto bitsPartsSpec)

/-- 'wherrylaw01.BitsFilled', WHERE WHAT IT READS IS OF BULK AT MOST 1048576: true; the input reads as it did. -/
def bitsFilledUptoRow : OpenClaim := { program := "ytnfagiofoicgoaa", sum := "af8319f40f8c8a3ceeb8f8ba6a329385b13fbe7ae19ec0de73a87ecf00258c5d", func := "wherry/wherrylaw01.BitsFilled", spec := "bitsFilled", apart := false, narrowed := true }
def BitsFilledUptoSaid : Prop := bitsFilledUptoRow.holds Try.pinned (OpenSpec.upto bitsFilledSpec)

/-- 'wherrylaw01.BitsWrong', WHERE WHAT IT READS IS OF BULK AT MOST 1048576: true; the input reads as it did. -/
def bitsWrongUptoRow : OpenClaim := { program := "ytnfagiofoicgoaa", sum := "af8319f40f8c8a3ceeb8f8ba6a329385b13fbe7ae19ec0de73a87ecf00258c5d", func := "wherry/wherrylaw01.BitsWrong", spec := "bitsWrong", apart := false, narrowed := true }
def BitsWrongUptoSaid : Prop := bitsWrongUptoRow.holds Try.pinned (OpenSpec.upto bitsWrongSpec)

/-- 'wherrylaw01.BitsTurned', WHERE WHAT IT READS IS OF BULK AT MOST 1048576: true; the input reads as it did. -/
def bitsTurnedUptoRow : OpenClaim := { program := "ytnfagiofoicgoaa", sum := "af8319f40f8c8a3ceeb8f8ba6a329385b13fbe7ae19ec0de73a87ecf00258c5d", func := "wherry/wherrylaw01.BitsTurned", spec := "bitsTurned", apart := false, narrowed := true }
def BitsTurnedUptoSaid : Prop := bitsTurnedUptoRow.holds Try.pinned (OpenSpec.upto bitsTurnedSpec)

/-- 'wherrylaw01.BitsExact', WHERE WHAT IT READS IS OF BULK AT MOST 1048576: true; the input reads as it did. -/
def bitsExactUptoRow : OpenClaim := { program := "ytnfagiofoicgoaa", sum := "af8319f40f8c8a3ceeb8f8ba6a329385b13fbe7ae19ec0de73a87ecf00258c5d", func := "wherry/wherrylaw01.BitsExact", spec := "bitsExact", apart := false, narrowed := true }
def BitsExactUptoSaid : Prop := bitsExactUptoRow.holds Try.pinned (OpenSpec.upto bitsExactSpec)

end Rows
end Go.Proofs.Ytnfagiofoicgoaa
