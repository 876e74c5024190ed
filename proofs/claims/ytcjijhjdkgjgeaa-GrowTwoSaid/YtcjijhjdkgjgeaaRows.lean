/-
  No cell of these rows narrows 'for every input' (looked for: loops, veiled, ifaces, maps, wideKeys, modest, calm, conditions, laid).
  DERIVED. THE GIVEN ROWS OF THIS SEAT. 7 by the template 'for every input the law returns true; each argument reads behind the call as it read before'; 0 by the template 'total and deterministic' (their statements: YtcjijhjdkgjgeaaTotals.lean).
  GIVEN WITH THE SEED: the statements are not yours to turn. If you find one false, say at which input.
  Laid BY PROGRAM, IN A SANDBOX (cutbox-rows.mjs): the forced cells as the released guide's own fill.sh prints them over the translation 48c3971965fd44ef… (all of the seat's roots in one cut). By AI agents, Wed Nov 11 2026. No macro, syntax, notation, axiom, sorry.
-/
import Derived.Test.YtcjijhjdkgjgeaaChecked
import GoSem.Claim
import GoSem.ClaimJoined
import GoSem.ClaimMapViews
import Derived.JoinedTies
import Derived.KernelRfl
namespace Go.Proofs.Ytcjijhjdkgjgeaa
/- THE CELL 'sum', in the pinned program and in every row, IS THE sha256 OF THE DUMP (.gsa) THAT YtcjijhjdkgjgeaaProg.lean LOADS. Nothing in Lean hashes anything: it is a label: what it is worth is what the hold of that sum in a sandbox is worth. -/
noncomputable def Try.pinned : Pinned := { name := "ytcjijhjdkgjgeaa", sum := "48c3971965fd44ef7c9e6e6e78cd17d1e1d48240a0e3a4a2914bb03e7cf9ec85", checked := Try.checked }
namespace Rows
def none {H : Type} : Left H := { results := [], args := [] }

/-- 'wherrylaw07.GrowMore': WHATEVER THE INPUT: true; the input reads as it did. -/
def growMoreSpec : ChangeSpec := { name := "growMore", fn := fun _ => fun
  | [d1, d2, d3] => { results := [.lit (.bool true)], args := [d1, d2, d3] }
  | _ => none }
def growMoreRow : OpenClaim := { program := "ytcjijhjdkgjgeaa", sum := "48c3971965fd44ef7c9e6e6e78cd17d1e1d48240a0e3a4a2914bb03e7cf9ec85", func := "wherry/wherrylaw07.GrowMore", spec := "growMore", plainKeys := false, apart := false }
def GrowMoreSaid : Prop := growMoreRow.holds Try.pinned (OpenSpec.ofChange growMoreSpec)

/-- ITS FALSE NEIGHBOUR: 'it returns false'. Refute it at one input. -/
def growMoreWrong : ChangeSpec := { name := "growMore", fn := fun _ => fun
  | [d1, d2, d3] => { results := [.lit (.bool false)], args := [d1, d2, d3] }
  | _ => none }
def GrowMoreWrongFalsely : Prop := growMoreRow.holds Try.pinned (OpenSpec.ofChange growMoreWrong)

/-- 'wherrylaw07.GrowBad': WHATEVER THE INPUT: true; the input reads as it did. -/
def growBadSpec : ChangeSpec := { name := "growBad", fn := fun _ => fun
  | [d1, d2] => { results := [.lit (.bool true)], args := [d1, d2] }
  | _ => none }
def growBadRow : OpenClaim := { program := "ytcjijhjdkgjgeaa", sum := "48c3971965fd44ef7c9e6e6e78cd17d1e1d48240a0e3a4a2914bb03e7cf9ec85", func := "wherry/wherrylaw07.GrowBad", spec := "growBad", plainKeys := false, apart := false }
def GrowBadSaid : Prop := growBadRow.holds Try.pinned (OpenSpec.ofChange growBadSpec)

/-- ITS FALSE NEIGHBOUR: 'it returns false'. Refute it at one input. -/
def growBadWrong : ChangeSpec := { name := "growBad", fn := fun _ => fun
  | [d1, d2] => { results := [.lit (.bool false)], args := [d1, d2] }
  | _ => none }
def GrowBadWrongFalsely : Prop := growBadRow.holds Try.pinned (OpenSpec.ofChange growBadWrong)

/-- 'wherrylaw07.GrowFar': WHATEVER THE INPUT: true; the input reads as it did. -/
def growFarSpec : ChangeSpec := { name := "growFar", fn := fun _ => fun
  | [d1, d2, d3, d4] => { results := [.lit (.bool true)], args := [d1, d2, d3, d4] }
  | _ => none }
def growFarRow : OpenClaim := { program := "ytcjijhjdkgjgeaa", sum := "48c3971965fd44ef7c9e6e6e78cd17d1e1d48240a0e3a4a2914bb03e7cf9ec85", func := "wherry/wherrylaw07.GrowFar", spec := "growFar", plainKeys := false, apart := false }
def GrowFarSaid : Prop := growFarRow.holds Try.pinned (OpenSpec.ofChange growFarSpec)

/-- ITS FALSE NEIGHBOUR: 'it returns false'. Refute it at one input. -/
def growFarWrong : ChangeSpec := { name := "growFar", fn := fun _ => fun
  | [d1, d2, d3, d4] => { results := [.lit (.bool false)], args := [d1, d2, d3, d4] }
  | _ => none }
def GrowFarWrongFalsely : Prop := growFarRow.holds Try.pinned (OpenSpec.ofChange growFarWrong)

/-- 'wherrylaw07.GrowCut': WHATEVER THE INPUT: true; the input reads as it did. -/
def growCutSpec : ChangeSpec := { name := "growCut", fn := fun _ => fun
  | [d1, d2, d3] => { results := [.lit (.bool true)], args := [d1, d2, d3] }
  | _ => none }
def growCutRow : OpenClaim := { program := "ytcjijhjdkgjgeaa", sum := "48c3971965fd44ef7c9e6e6e78cd17d1e1d48240a0e3a4a2914bb03e7cf9ec85", func := "wherry/wherrylaw07.GrowCut", spec := "growCut", plainKeys := false, apart := false }
def GrowCutSaid : Prop := growCutRow.holds Try.pinned (OpenSpec.ofChange growCutSpec)

/-- ITS FALSE NEIGHBOUR: 'it returns false'. Refute it at one input. -/
def growCutWrong : ChangeSpec := { name := "growCut", fn := fun _ => fun
  | [d1, d2, d3] => { results := [.lit (.bool false)], args := [d1, d2, d3] }
  | _ => none }
def GrowCutWrongFalsely : Prop := growCutRow.holds Try.pinned (OpenSpec.ofChange growCutWrong)

/-- 'wherrylaw07.GrowBack': WHATEVER THE INPUT: true; the input reads as it did. -/
def growBackSpec : ChangeSpec := { name := "growBack", fn := fun _ => fun
  | [d] => { results := [.lit (.bool true)], args := [d] }
  | _ => none }
def growBackRow : OpenClaim := { program := "ytcjijhjdkgjgeaa", sum := "48c3971965fd44ef7c9e6e6e78cd17d1e1d48240a0e3a4a2914bb03e7cf9ec85", func := "wherry/wherrylaw07.GrowBack", spec := "growBack", plainKeys := false, apart := false }
def GrowBackSaid : Prop := growBackRow.holds Try.pinned (OpenSpec.ofChange growBackSpec)

/-- ITS FALSE NEIGHBOUR: 'it returns false'. Refute it at one input. -/
def growBackWrong : ChangeSpec := { name := "growBack", fn := fun _ => fun
  | [d] => { results := [.lit (.bool false)], args := [d] }
  | _ => none }
def GrowBackWrongFalsely : Prop := growBackRow.holds Try.pinned (OpenSpec.ofChange growBackWrong)

/-- 'wherrylaw07.GrowEmpty': WHATEVER THE INPUT: true; the input reads as it did. -/
def growEmptySpec : ChangeSpec := { name := "growEmpty", fn := fun _ => fun
  | [d1, d2] => { results := [.lit (.bool true)], args := [d1, d2] }
  | _ => none }
def growEmptyRow : OpenClaim := { program := "ytcjijhjdkgjgeaa", sum := "48c3971965fd44ef7c9e6e6e78cd17d1e1d48240a0e3a4a2914bb03e7cf9ec85", func := "wherry/wherrylaw07.GrowEmpty", spec := "growEmpty", plainKeys := false, apart := false }
def GrowEmptySaid : Prop := growEmptyRow.holds Try.pinned (OpenSpec.ofChange growEmptySpec)

/-- ITS FALSE NEIGHBOUR: 'it returns false'. Refute it at one input. -/
def growEmptyWrong : ChangeSpec := { name := "growEmpty", fn := fun _ => fun
  | [d1, d2] => { results := [.lit (.bool false)], args := [d1, d2] }
  | _ => none }
def GrowEmptyWrongFalsely : Prop := growEmptyRow.holds Try.pinned (OpenSpec.ofChange growEmptyWrong)

/-- 'wherrylaw07.GrowTwo': WHATEVER THE INPUT: true; the input reads as it did. -/
def growTwoSpec : ChangeSpec := { name := "growTwo", fn := fun _ => fun
  | [d1, d2] => { results := [.lit (.bool true)], args := [d1, d2] }
  | _ => none }
def growTwoRow : OpenClaim := { program := "ytcjijhjdkgjgeaa", sum := "48c3971965fd44ef7c9e6e6e78cd17d1e1d48240a0e3a4a2914bb03e7cf9ec85", func := "wherry/wherrylaw07.GrowTwo", spec := "growTwo", plainKeys := false, apart := false }
def GrowTwoSaid : Prop := growTwoRow.holds Try.pinned (OpenSpec.ofChange growTwoSpec)

/-- ITS FALSE NEIGHBOUR: 'it returns false'. Refute it at one input. -/
def growTwoWrong : ChangeSpec := { name := "growTwo", fn := fun _ => fun
  | [d1, d2] => { results := [.lit (.bool false)], args := [d1, d2] }
  | _ => none }
def GrowTwoWrongFalsely : Prop := growTwoRow.holds Try.pinned (OpenSpec.ofChange growTwoWrong)

/- THE SECOND FORM. 'bulk': how many values and letters a reading holds, each counted each time it is reached (what is shared counts as often as it is met; a slice's spare places count too). A statement '..UptoSaid' is the law's where the arguments, and the package variables that the reading takes, are together of bulk at most 1048576: NARROWER than '..Said'. Prove '..Said' where nothing that the law and all that it calls make is longer than what came in: it says more and counts as full. Else prove '..UptoSaid'. A law counts once. -/
mutual
def uptoBulk {H : Type} : DataW H → Nat
  | .lit (.string bytes) => bytes.length + 1
  | .lit _ => 1
  | .nil => 1
  | .ptr d => uptoBulk d + 1
  | .slice elems spare => uptoBulkAll elems + uptoBulkAll spare + 1
  | .agg parts => uptoBulkAll parts + 1
  | .iface _ d => uptoBulk d + 1
  | .map entries => uptoBulkEntries entries + 1
  | .held _ => 1
def uptoBulkAll {H : Type} : List (DataW H) → Nat
  | [] => 0
  | d :: r => uptoBulk d + uptoBulkAll r
def uptoBulkEntries {H : Type} : List (Lit × DataW H) → Nat
  | [] => 0
  | x :: r => uptoBulkEntry x + uptoBulkEntries r
def uptoBulkEntry {H : Type} : Lit × DataW H → Nat
  | (.string bytes, d) => bytes.length + uptoBulk d + 1
  | (_, d) => uptoBulk d + 1
 end
def uptoSmall : (H : Type) → List (DataW H) → Bool := fun _ ds => decide (uptoBulkAll ds ≤ 1048576)
def OpenSpec.upto (s : _root_.Go.ChangeSpec) : _root_.Go.OpenSpec := { _root_.Go.OpenSpec.ofChange s with cond := some uptoSmall }

/-- 'wherrylaw07.GrowMore', WHERE WHAT IT READS IS OF BULK AT MOST 1048576: true; the input reads as it did. -/
def growMoreUptoRow : OpenClaim := { program := "ytcjijhjdkgjgeaa", sum := "48c3971965fd44ef7c9e6e6e78cd17d1e1d48240a0e3a4a2914bb03e7cf9ec85", func := "wherry/wherrylaw07.GrowMore", spec := "growMore", plainKeys := false, apart := false, narrowed := true }
def GrowMoreUptoSaid : Prop := growMoreUptoRow.holds Try.pinned (OpenSpec.upto growMoreSpec)

/-- 'wherrylaw07.GrowBad', WHERE WHAT IT READS IS OF BULK AT MOST 1048576: true; the input reads as it did. -/
def growBadUptoRow : OpenClaim := { program := "ytcjijhjdkgjgeaa", sum := "48c3971965fd44ef7c9e6e6e78cd17d1e1d48240a0e3a4a2914bb03e7cf9ec85", func := "wherry/wherrylaw07.GrowBad", spec := "growBad", plainKeys := false, apart := false, narrowed := true }
def GrowBadUptoSaid : Prop := growBadUptoRow.holds Try.pinned (OpenSpec.upto growBadSpec)

/-- 'wherrylaw07.GrowFar', WHERE WHAT IT READS IS OF BULK AT MOST 1048576: true; the input reads as it did. -/
def growFarUptoRow : OpenClaim := { program := "ytcjijhjdkgjgeaa", sum := "48c3971965fd44ef7c9e6e6e78cd17d1e1d48240a0e3a4a2914bb03e7cf9ec85", func := "wherry/wherrylaw07.GrowFar", spec := "growFar", plainKeys := false, apart := false, narrowed := true }
def GrowFarUptoSaid : Prop := growFarUptoRow.holds Try.pinned (OpenSpec.upto growFarSpec)

/-- 'wherrylaw07.GrowCut', WHERE WHAT IT READS IS OF BULK AT MOST 1048576: true; the input reads as it did. -/
def growCutUptoRow : OpenClaim := { program := "ytcjijhjdkgjgeaa", sum := "48c3971965fd44ef7c9e6e6e78cd17d1e1d48240a0e3a4a2914bb03e7cf9ec85", func := "wherry/wherrylaw07.GrowCut", spec := "growCut", plainKeys := false, apart := false, narrowed := true }
def GrowCutUptoSaid : Prop := growCutUptoRow.holds Try.pinned (OpenSpec.upto growCutSpec)

/-- 'wherrylaw07.GrowBack', WHERE WHAT IT READS IS OF BULK AT MOST 1048576: true; the input reads as it did. -/
def growBackUptoRow : OpenClaim := { program := "ytcjijhjdkgjgeaa", sum := "48c3971965fd44ef7c9e6e6e78cd17d1e1d48240a0e3a4a2914bb03e7cf9ec85", func := "wherry/wherrylaw07.GrowBack", spec := "growBack", plainKeys := false, apart := false, narrowed := true }
def GrowBackUptoSaid : Prop := growBackUptoRow.holds Try.pinned (OpenSpec.upto growBackSpec)

/-- 'wherrylaw07.GrowEmpty', WHERE WHAT IT READS IS OF BULK AT MOST 1048576: true; the input reads as it did. -/
def growEmptyUptoRow : OpenClaim := { program := "ytcjijhjdkgjgeaa", sum := "48c3971965fd44ef7c9e6e6e78cd17d1e1d48240a0e3a4a2914bb03e7cf9ec85", func := "wherry/wherrylaw07.GrowEmpty", spec := "growEmpty", plainKeys := false, apart := false, narrowed := true }
def GrowEmptyUptoSaid : Prop := growEmptyUptoRow.holds Try.pinned (OpenSpec.upto growEmptySpec)

/-- 'wherrylaw07.GrowTwo', WHERE WHAT IT READS IS OF BULK AT MOST 1048576: true; the input reads as it did. -/
def growTwoUptoRow : OpenClaim := { program := "ytcjijhjdkgjgeaa", sum := "48c3971965fd44ef7c9e6e6e78cd17d1e1d48240a0e3a4a2914bb03e7cf9ec85", func := "wherry/wherrylaw07.GrowTwo", spec := "growTwo", plainKeys := false, apart := false, narrowed := true }
def GrowTwoUptoSaid : Prop := growTwoUptoRow.holds Try.pinned (OpenSpec.upto growTwoSpec)

end Rows
end Go.Proofs.Ytcjijhjdkgjgeaa
