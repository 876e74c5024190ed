/-
  No cell of these rows narrows 'for every input' (looked for: loops, veiled, ifaces, maps, wideKeys, modest, calm, conditions, laid).
  DERIVED. THE GIVEN ROWS OF THIS SEAT. 6 by the template 'for every input the law returns true; each argument reads behind the call as it read before'; 0 by the template 'total and deterministic' (their statements: YtcmpeffaikjemaaTotals.lean).
  GIVEN WITH THE SEED: the statements are not yours to turn. If you find one false, say at which input.
  Laid BY PROGRAM, IN A SANDBOX (cutbox-rows.mjs): the forced cells as the released guide's own fill.sh prints them over the translation 355a8e00645c9b58… (all of the seat's roots in one cut). By AI agents, Wed Nov 11 2026. No macro, syntax, notation, axiom, sorry.
-/
import Derived.Test.YtcmpeffaikjemaaChecked
import GoSem.Claim
import GoSem.ClaimJoined
import GoSem.ClaimMapViews
import Derived.JoinedTies
import Derived.KernelRfl
namespace Go.Proofs.Ytcmpeffaikjemaa
/- THE CELL 'sum', in the pinned program and in every row, IS THE sha256 OF THE DUMP (.gsa) THAT YtcmpeffaikjemaaProg.lean LOADS. Nothing in Lean hashes anything: it is a label: what it is worth is what the hold of that sum in a sandbox is worth. -/
noncomputable def Try.pinned : Pinned := { name := "ytcmpeffaikjemaa", sum := "355a8e00645c9b5834b0614a7109e68ec980f94766bb89599deeeb778afa2501", checked := Try.checked }
namespace Rows
def none {H : Type} : Left H := { results := [], args := [] }

/-- 'wherrylaw02.CanonExact': WHATEVER THE INPUT: true; the input reads as it did. -/
def canonExactSpec : ChangeSpec := { name := "canonExact", fn := fun _ => fun
  | [d1, d2, d3] => { results := [.lit (.bool true)], args := [d1, d2, d3] }
  | _ => none }
def canonExactRow : OpenClaim := { program := "ytcmpeffaikjemaa", sum := "355a8e00645c9b5834b0614a7109e68ec980f94766bb89599deeeb778afa2501", func := "wherry/wherrylaw02.CanonExact", spec := "canonExact", apart := false }
def CanonExactSaid : Prop := canonExactRow.holds Try.pinned (OpenSpec.ofChange canonExactSpec)

/-- ITS FALSE NEIGHBOUR: 'it returns false'. Refute it at one input. -/
def canonExactWrong : ChangeSpec := { name := "canonExact", fn := fun _ => fun
  | [d1, d2, d3] => { results := [.lit (.bool false)], args := [d1, d2, d3] }
  | _ => none }
def CanonExactWrongFalsely : Prop := canonExactRow.holds Try.pinned (OpenSpec.ofChange canonExactWrong)

/-- 'wherrylaw02.CanonApart': WHATEVER THE INPUT: true; the input reads as it did. -/
def canonApartSpec : ChangeSpec := { name := "canonApart", fn := fun _ => fun
  | [d1, d2, d3] => { results := [.lit (.bool true)], args := [d1, d2, d3] }
  | _ => none }
def canonApartRow : OpenClaim := { program := "ytcmpeffaikjemaa", sum := "355a8e00645c9b5834b0614a7109e68ec980f94766bb89599deeeb778afa2501", func := "wherry/wherrylaw02.CanonApart", spec := "canonApart", apart := false }
def CanonApartSaid : Prop := canonApartRow.holds Try.pinned (OpenSpec.ofChange canonApartSpec)

/-- ITS FALSE NEIGHBOUR: 'it returns false'. Refute it at one input. -/
def canonApartWrong : ChangeSpec := { name := "canonApart", fn := fun _ => fun
  | [d1, d2, d3] => { results := [.lit (.bool false)], args := [d1, d2, d3] }
  | _ => none }
def CanonApartWrongFalsely : Prop := canonApartRow.holds Try.pinned (OpenSpec.ofChange canonApartWrong)

/-- 'wherrylaw02.CanonWhole': WHATEVER THE INPUT: true; the input reads as it did. -/
def canonWholeSpec : ChangeSpec := { name := "canonWhole", fn := fun _ => fun
  | [d1, d2, d3] => { results := [.lit (.bool true)], args := [d1, d2, d3] }
  | _ => none }
def canonWholeRow : OpenClaim := { program := "ytcmpeffaikjemaa", sum := "355a8e00645c9b5834b0614a7109e68ec980f94766bb89599deeeb778afa2501", func := "wherry/wherrylaw02.CanonWhole", spec := "canonWhole", apart := false }
def CanonWholeSaid : Prop := canonWholeRow.holds Try.pinned (OpenSpec.ofChange canonWholeSpec)

/-- ITS FALSE NEIGHBOUR: 'it returns false'. Refute it at one input. -/
def canonWholeWrong : ChangeSpec := { name := "canonWhole", fn := fun _ => fun
  | [d1, d2, d3] => { results := [.lit (.bool false)], args := [d1, d2, d3] }
  | _ => none }
def CanonWholeWrongFalsely : Prop := canonWholeRow.holds Try.pinned (OpenSpec.ofChange canonWholeWrong)

/-- 'wherrylaw02.CanonRises': WHATEVER THE INPUT: true; the input reads as it did. -/
def canonRisesSpec : ChangeSpec := { name := "canonRises", fn := fun _ => fun
  | [d1, d2, d3] => { results := [.lit (.bool true)], args := [d1, d2, d3] }
  | _ => none }
def canonRisesRow : OpenClaim := { program := "ytcmpeffaikjemaa", sum := "355a8e00645c9b5834b0614a7109e68ec980f94766bb89599deeeb778afa2501", func := "wherry/wherrylaw02.CanonRises", spec := "canonRises", apart := false }
def CanonRisesSaid : Prop := canonRisesRow.holds Try.pinned (OpenSpec.ofChange canonRisesSpec)

/-- ITS FALSE NEIGHBOUR: 'it returns false'. Refute it at one input. -/
def canonRisesWrong : ChangeSpec := { name := "canonRises", fn := fun _ => fun
  | [d1, d2, d3] => { results := [.lit (.bool false)], args := [d1, d2, d3] }
  | _ => none }
def CanonRisesWrongFalsely : Prop := canonRisesRow.holds Try.pinned (OpenSpec.ofChange canonRisesWrong)

/-- 'wherrylaw02.CanonNoughts': WHATEVER THE INPUT: true; the input reads as it did. -/
def canonNoughtsSpec : ChangeSpec := { name := "canonNoughts", fn := fun _ => fun
  | [d1, d2] => { results := [.lit (.bool true)], args := [d1, d2] }
  | _ => none }
def canonNoughtsRow : OpenClaim := { program := "ytcmpeffaikjemaa", sum := "355a8e00645c9b5834b0614a7109e68ec980f94766bb89599deeeb778afa2501", func := "wherry/wherrylaw02.CanonNoughts", spec := "canonNoughts", apart := false }
def CanonNoughtsSaid : Prop := canonNoughtsRow.holds Try.pinned (OpenSpec.ofChange canonNoughtsSpec)

/-- ITS FALSE NEIGHBOUR: 'it returns false'. Refute it at one input. -/
def canonNoughtsWrong : ChangeSpec := { name := "canonNoughts", fn := fun _ => fun
  | [d1, d2] => { results := [.lit (.bool false)], args := [d1, d2] }
  | _ => none }
def CanonNoughtsWrongFalsely : Prop := canonNoughtsRow.holds Try.pinned (OpenSpec.ofChange canonNoughtsWrong)

/-- 'wherrylaw02.CanonBack': WHATEVER THE INPUT: true; the input reads as it did. -/
def canonBackSpec : ChangeSpec := { name := "canonBack", fn := fun _ => fun
  | [d1, d2] => { results := [.lit (.bool true)], args := [d1, d2] }
  | _ => none }
def canonBackRow : OpenClaim := { program := "ytcmpeffaikjemaa", sum := "355a8e00645c9b5834b0614a7109e68ec980f94766bb89599deeeb778afa2501", func := "wherry/wherrylaw02.CanonBack", spec := "canonBack", apart := false }
def CanonBackSaid : Prop := canonBackRow.holds Try.pinned (OpenSpec.ofChange canonBackSpec)

/-- ITS FALSE NEIGHBOUR: 'it returns false'. Refute it at one input. -/
def canonBackWrong : ChangeSpec := { name := "canonBack", fn := fun _ => fun
  | [d1, d2] => { results := [.lit (.bool false)], args := [d1, d2] }
  | _ => none }
def CanonBackWrongFalsely : Prop := canonBackRow.holds Try.pinned (OpenSpec.ofChange canonBackWrong)

/- THE SECOND FORM. 'bulk': how many values and letters a reading holds, each counted each time it is reached (what is shared counts as often as it is met; a slice's spare places count too). A statement '..UptoSaid' is the law's where the arguments, and the package variables that the reading takes, are together of bulk at most 1048576: NARROWER than '..Said'. Prove '..Said' where nothing that the law and all that it calls make is longer than what came in: it says more and counts as full. Else prove '..UptoSaid'. A law counts once. -/
mutual
def uptoBulk {H : Type} : DataW H → Nat
  | .lit (.string bytes) => bytes.length + 1
  | .lit _ => 1
  | .nil => 1
  | .ptr d => uptoBulk d + 1
  | .slice elems spare => uptoBulkAll elems + uptoBulkAll spare + 1
  | .agg parts => uptoBulkAll parts + 1
  | .iface _ d => uptoBulk d + 1
  | .map entries => uptoBulkEntries entries + 1
  | .held _ => 1
def uptoBulkAll {H : Type} : List (DataW H) → Nat
  | [] => 0
  | d :: r => uptoBulk d + uptoBulkAll r
def uptoBulkEntries {H : Type} : List (Lit × DataW H) → Nat
  | [] => 0
  | x :: r => uptoBulkEntry x + uptoBulkEntries r
def uptoBulkEntry {H : Type} : Lit × DataW H → Nat
  | (.string bytes, d) => bytes.length + uptoBulk d + 1
  | (_, d) => uptoBulk d + 1
 end
def uptoSmall : (H : Type) → List (DataW H) → Bool := fun _ ds => decide (uptoBulkAll ds ≤ 1048576)
def OpenSpec.upto (s : _root_.Go.ChangeSpec) : _root_.Go.OpenSpec := { _root_.Go.OpenSpec.ofChange s with cond := some uptoSmall }

/-- 'wherrylaw02.CanonExact', WHERE WHAT IT READS IS OF BULK AT MOST 1048576: true; the input reads as it did. -/
def canonExactUptoRow : OpenClaim := { program := "ytcmpeffaikjemaa", sum := "355a8e00645c9b5834b0614a7109e68ec980f94766bb89599deeeb778afa2501", func := "wherry/wherrylaw02.CanonExact", spec := "canonExact", apart := false, narrowed := true }
def CanonExactUptoSaid : Prop := canonExactUptoRow.holds Try.pinned (OpenSpec.upto canonExactSpec)

/-- 'wherrylaw02.CanonApart', WHERE WHAT IT READS IS OF BULK AT MOST 1048576: true; the input reads as it did. -/
def canonApartUptoRow : OpenClaim := { program := "ytcmpeffaikjemaa", sum := "355a8e00645c9b5834b0614a7109e68ec980f94766bb89599deeeb778afa2501", func := "wherry/wherrylaw02.CanonApart", spec := "canonApart", apart := false, narrowed := true }
def CanonApartUptoSaid : Prop := canonApartUptoRow.holds Try.pinned (OpenSpec.upto canonApartSpec)

/-- 'wherrylaw02.CanonWhole', WHERE WHAT IT READS IS OF BULK AT MOST 1048576: true; the input reads as it did. -/
def canonWholeUptoRow : OpenClaim := { program := "ytcmpeffaikjemaa", sum := "355a8e00645c9b5834b0614a7109e68ec980f94766bb89599deeeb778afa2501", func := "wherry/wherrylaw02.CanonWhole", spec := "canonWhole", apart := false, narrowed := true }
def CanonWholeUptoSaid : Prop := canonWholeUptoRow.holds Try.pinned (OpenSpec.upto canonWholeSpec)

/-- 'wherrylaw02.CanonRises', WHERE WHAT IT READS IS OF BULK AT MOST 1048576: true; the input reads as it did. -/
def canonRisesUptoRow : OpenClaim := { program := "ytcmpeffaikjemaa", sum := "355a8e00645c9b5834b0614a7109e68ec980f94766bb89599deeeb778afa2501", func := "wherry/wherrylaw02.CanonRises", spec := "canonRises", apart := false, narrowed := true }
def CanonRisesUptoSaid : Prop := canonRisesUptoRow.holds Try.pinned (OpenSpec.upto canonRisesSpec)

/-- 'wherrylaw02.CanonNoughts', WHERE WHAT IT READS IS OF BULK AT MOST 1048576: true; the input reads as it did. -/
def canonNoughtsUptoRow : OpenClaim := { program := "ytcmpeffaikjemaa", sum := "355a8e00645c9b5834b0614a7109e68ec980f94766bb89599deeeb778afa2501", func := "wherry/wherrylaw02.CanonNoughts", spec := "canonNoughts", apart := false, narrowed := true }
def CanonNoughtsUptoSaid : Prop := canonNoughtsUptoRow.holds Try.pinned (OpenSpec.upto canonNoughtsSpec)

/-- 'wherrylaw02.CanonBack', WHERE WHAT IT READS IS OF BULK AT MOST 1048576: true; the input reads as it did. -/
def canonBackUptoRow : OpenClaim := { program := "ytcmpeffaikjemaa", sum := "355a8e00645c9b5834b0614a7109e68ec980f94766bb89599deeeb778afa2501", func := "wherry/wherrylaw02.CanonBack", spec := "canonBack", apart := false, narrowed := true }
def CanonBackUptoSaid : Prop := canonBackUptoRow.holds Try.pinned (OpenSpec.upto canonBackSpec)

end Rows
end Go.Proofs.Ytcmpeffaikjemaa
