/-
  No cell of these rows narrows 'for every input' (looked for: loops, veiled, ifaces, maps, wideKeys, modest, calm, conditions, laid).
  DERIVED. THE GIVEN ROWS OF THIS SEAT. 9 by the template 'for every input the law returns true; each argument reads behind the call as it read before'; 0 by the template 'total and deterministic' (their statements: YtagdlmlanjjecaaTotals.lean).
  GIVEN WITH THE SEED: the statements are not yours to turn. If you find one false, say at which input.
  Laid BY PROGRAM, IN A SANDBOX (cutbox-rows.mjs): the forced cells as the released guide's own fill.sh prints them over the translation 8aa001ca2e5ace55… (all of the seat's roots in one cut). By AI agents, Wed Nov 11 2026. No macro, syntax, notation, axiom, sorry.
-/
import Derived.Test.YtagdlmlanjjecaaChecked
import GoSem.Claim
import GoSem.ClaimJoined
import GoSem.ClaimMapViews
import Derived.JoinedTies
import Derived.KernelRfl
namespace Go.Proofs.Ytagdlmlanjjecaa
/- THE CELL 'sum', in the pinned program and in every row, IS THE sha256 OF THE DUMP (.gsa) THAT YtagdlmlanjjecaaProg.lean LOADS. Nothing in Lean hashes anything: it is a label: what it is worth is what the hold of that sum in a sandbox is worth. -/
noncomputable def Try.pinned : Pinned := { name := "ytagdlmlanjjecaa", sum := "8aa001ca2e5ace55a076bb0d9cff50fad4eea3b1a1d824f12a998d30b5fd518d", checked := Try.checked }
namespace Rows
def none {H : Type} : Left H := { results := [], args := [] }

/-- 'wherrylaw04.MatchExact': WHATEVER THE INPUT: true; the input reads as it did. -/
def matchExactSpec : ChangeSpec := { name := "matchExact", fn := fun _ => fun
  | [d1, d2, d3] => { results := [.lit (.bool true)], args := [d1, d2, d3] }
  | _ => none }
def matchExactRow : OpenClaim := { program := "ytagdlmlanjjecaa", sum := "8aa001ca2e5ace55a076bb0d9cff50fad4eea3b1a1d824f12a998d30b5fd518d", func := "wherry/wherrylaw04.MatchExact", spec := "matchExact", plainKeys := false, apart := false }
def MatchExactSaid : Prop := matchExactRow.holds Try.pinned (OpenSpec.ofChange matchExactSpec)

/-- ITS FALSE NEIGHBOUR: 'it returns false'. Refute it at one input. -/
def matchExactWrong : ChangeSpec := { name := "matchExact", fn := fun _ => fun
  | [d1, d2, d3] => { results := [.lit (.bool false)], args := [d1, d2, d3] }
  | _ => none }
def MatchExactWrongFalsely : Prop := matchExactRow.holds Try.pinned (OpenSpec.ofChange matchExactWrong)

/-- 'wherrylaw04.MatchBack': WHATEVER THE INPUT: true; the input reads as it did. -/
def matchBackSpec : ChangeSpec := { name := "matchBack", fn := fun _ => fun
  | [d] => { results := [.lit (.bool true)], args := [d] }
  | _ => none }
def matchBackRow : OpenClaim := { program := "ytagdlmlanjjecaa", sum := "8aa001ca2e5ace55a076bb0d9cff50fad4eea3b1a1d824f12a998d30b5fd518d", func := "wherry/wherrylaw04.MatchBack", spec := "matchBack", plainKeys := false, apart := false }
def MatchBackSaid : Prop := matchBackRow.holds Try.pinned (OpenSpec.ofChange matchBackSpec)

/-- ITS FALSE NEIGHBOUR: 'it returns false'. Refute it at one input. -/
def matchBackWrong : ChangeSpec := { name := "matchBack", fn := fun _ => fun
  | [d] => { results := [.lit (.bool false)], args := [d] }
  | _ => none }
def MatchBackWrongFalsely : Prop := matchBackRow.holds Try.pinned (OpenSpec.ofChange matchBackWrong)

/-- 'wherrylaw04.MatchBest': WHATEVER THE INPUT: true; the input reads as it did. -/
def matchBestSpec : ChangeSpec := { name := "matchBest", fn := fun _ => fun
  | [d1, d2, d3] => { results := [.lit (.bool true)], args := [d1, d2, d3] }
  | _ => none }
def matchBestRow : OpenClaim := { program := "ytagdlmlanjjecaa", sum := "8aa001ca2e5ace55a076bb0d9cff50fad4eea3b1a1d824f12a998d30b5fd518d", func := "wherry/wherrylaw04.MatchBest", spec := "matchBest", plainKeys := false, apart := false }
def MatchBestSaid : Prop := matchBestRow.holds Try.pinned (OpenSpec.ofChange matchBestSpec)

/-- ITS FALSE NEIGHBOUR: 'it returns false'. Refute it at one input. -/
def matchBestWrong : ChangeSpec := { name := "matchBest", fn := fun _ => fun
  | [d1, d2, d3] => { results := [.lit (.bool false)], args := [d1, d2, d3] }
  | _ => none }
def MatchBestWrongFalsely : Prop := matchBestRow.holds Try.pinned (OpenSpec.ofChange matchBestWrong)

/-- 'wherrylaw04.MatchLonger': WHATEVER THE INPUT: true; the input reads as it did. -/
def matchLongerSpec : ChangeSpec := { name := "matchLonger", fn := fun _ => fun
  | [d] => { results := [.lit (.bool true)], args := [d] }
  | _ => none }
def matchLongerRow : OpenClaim := { program := "ytagdlmlanjjecaa", sum := "8aa001ca2e5ace55a076bb0d9cff50fad4eea3b1a1d824f12a998d30b5fd518d", func := "wherry/wherrylaw04.MatchLonger", spec := "matchLonger", plainKeys := false, apart := false }
def MatchLongerSaid : Prop := matchLongerRow.holds Try.pinned (OpenSpec.ofChange matchLongerSpec)

/-- ITS FALSE NEIGHBOUR: 'it returns false'. Refute it at one input. -/
def matchLongerWrong : ChangeSpec := { name := "matchLonger", fn := fun _ => fun
  | [d] => { results := [.lit (.bool false)], args := [d] }
  | _ => none }
def MatchLongerWrongFalsely : Prop := matchLongerRow.holds Try.pinned (OpenSpec.ofChange matchLongerWrong)

/-- 'wherrylaw04.MatchBent': WHATEVER THE INPUT: true; the input reads as it did. -/
def matchBentSpec : ChangeSpec := { name := "matchBent", fn := fun _ => fun
  | [d1, d2, d3] => { results := [.lit (.bool true)], args := [d1, d2, d3] }
  | _ => none }
def matchBentRow : OpenClaim := { program := "ytagdlmlanjjecaa", sum := "8aa001ca2e5ace55a076bb0d9cff50fad4eea3b1a1d824f12a998d30b5fd518d", func := "wherry/wherrylaw04.MatchBent", spec := "matchBent", plainKeys := false, apart := false }
def MatchBentSaid : Prop := matchBentRow.holds Try.pinned (OpenSpec.ofChange matchBentSpec)

/-- ITS FALSE NEIGHBOUR: 'it returns false'. Refute it at one input. -/
def matchBentWrong : ChangeSpec := { name := "matchBent", fn := fun _ => fun
  | [d1, d2, d3] => { results := [.lit (.bool false)], args := [d1, d2, d3] }
  | _ => none }
def MatchBentWrongFalsely : Prop := matchBentRow.holds Try.pinned (OpenSpec.ofChange matchBentWrong)

/-- 'wherrylaw04.MatchOne': WHATEVER THE INPUT: true; the input reads as it did. -/
def matchOneSpec : ChangeSpec := { name := "matchOne", fn := fun _ => fun
  | [d1, d2] => { results := [.lit (.bool true)], args := [d1, d2] }
  | _ => none }
def matchOneRow : OpenClaim := { program := "ytagdlmlanjjecaa", sum := "8aa001ca2e5ace55a076bb0d9cff50fad4eea3b1a1d824f12a998d30b5fd518d", func := "wherry/wherrylaw04.MatchOne", spec := "matchOne", plainKeys := false, apart := false }
def MatchOneSaid : Prop := matchOneRow.holds Try.pinned (OpenSpec.ofChange matchOneSpec)

/-- ITS FALSE NEIGHBOUR: 'it returns false'. Refute it at one input. -/
def matchOneWrong : ChangeSpec := { name := "matchOne", fn := fun _ => fun
  | [d1, d2] => { results := [.lit (.bool false)], args := [d1, d2] }
  | _ => none }
def MatchOneWrongFalsely : Prop := matchOneRow.holds Try.pinned (OpenSpec.ofChange matchOneWrong)

/-- 'wherrylaw04.MatchApart': WHATEVER THE INPUT: true; the input reads as it did. -/
def matchApartSpec : ChangeSpec := { name := "matchApart", fn := fun _ => fun
  | [d1, d2] => { results := [.lit (.bool true)], args := [d1, d2] }
  | _ => none }
def matchApartRow : OpenClaim := { program := "ytagdlmlanjjecaa", sum := "8aa001ca2e5ace55a076bb0d9cff50fad4eea3b1a1d824f12a998d30b5fd518d", func := "wherry/wherrylaw04.MatchApart", spec := "matchApart", plainKeys := false, apart := false }
def MatchApartSaid : Prop := matchApartRow.holds Try.pinned (OpenSpec.ofChange matchApartSpec)

/-- ITS FALSE NEIGHBOUR: 'it returns false'. Refute it at one input. -/
def matchApartWrong : ChangeSpec := { name := "matchApart", fn := fun _ => fun
  | [d1, d2] => { results := [.lit (.bool false)], args := [d1, d2] }
  | _ => none }
def MatchApartWrongFalsely : Prop := matchApartRow.holds Try.pinned (OpenSpec.ofChange matchApartWrong)

/-- 'wherrylaw04.MatchFar': WHATEVER THE INPUT: true; the input reads as it did. -/
def matchFarSpec : ChangeSpec := { name := "matchFar", fn := fun _ => fun
  | [d] => { results := [.lit (.bool true)], args := [d] }
  | _ => none }
def matchFarRow : OpenClaim := { program := "ytagdlmlanjjecaa", sum := "8aa001ca2e5ace55a076bb0d9cff50fad4eea3b1a1d824f12a998d30b5fd518d", func := "wherry/wherrylaw04.MatchFar", spec := "matchFar", plainKeys := false, apart := false }
def MatchFarSaid : Prop := matchFarRow.holds Try.pinned (OpenSpec.ofChange matchFarSpec)

/-- ITS FALSE NEIGHBOUR: 'it returns false'. Refute it at one input. -/
def matchFarWrong : ChangeSpec := { name := "matchFar", fn := fun _ => fun
  | [d] => { results := [.lit (.bool false)], args := [d] }
  | _ => none }
def MatchFarWrongFalsely : Prop := matchFarRow.holds Try.pinned (OpenSpec.ofChange matchFarWrong)

/-- 'wherrylaw04.MatchExpands': WHATEVER THE INPUT: true; the input reads as it did. -/
def matchExpandsSpec : ChangeSpec := { name := "matchExpands", fn := fun _ => fun
  | [d1, d2] => { results := [.lit (.bool true)], args := [d1, d2] }
  | _ => none }
def matchExpandsRow : OpenClaim := { program := "ytagdlmlanjjecaa", sum := "8aa001ca2e5ace55a076bb0d9cff50fad4eea3b1a1d824f12a998d30b5fd518d", func := "wherry/wherrylaw04.MatchExpands", spec := "matchExpands", plainKeys := false, apart := false }
def MatchExpandsSaid : Prop := matchExpandsRow.holds Try.pinned (OpenSpec.ofChange matchExpandsSpec)

/-- ITS FALSE NEIGHBOUR: 'it returns false'. Refute it at one input. -/
def matchExpandsWrong : ChangeSpec := { name := "matchExpands", fn := fun _ => fun
  | [d1, d2] => { results := [.lit (.bool false)], args := [d1, d2] }
  | _ => none }
def MatchExpandsWrongFalsely : Prop := matchExpandsRow.holds Try.pinned (OpenSpec.ofChange matchExpandsWrong)

/- THE SECOND FORM. 'bulk': how many values and letters a reading holds, each counted each time it is reached (what is shared counts as often as it is met; a slice's spare places count too). A statement '..UptoSaid' is the law's where the arguments, and the package variables that the reading takes, are together of bulk at most 1048576: NARROWER than '..Said'. Prove '..Said' where nothing that the law and all that it calls make is longer than what came in: it says more and counts as full. Else prove '..UptoSaid'. A law counts once. -/
mutual
def uptoBulk {H : Type} : DataW H → Nat
  | .lit (.string bytes) => bytes.length + 1
  | .lit _ => 1
  | .nil => 1
  | .ptr d => uptoBulk d + 1
  | .slice elems spare => uptoBulkAll elems + uptoBulkAll spare + 1
  | .agg parts => uptoBulkAll parts + 1
  | .iface _ d => uptoBulk d + 1
  | .map entries => uptoBulkEntries entries + 1
  | .held _ => 1
def uptoBulkAll {H : Type} : List (DataW H) → Nat
  | [] => 0
  | d :: r => uptoBulk d + uptoBulkAll r
def uptoBulkEntries {H : Type} : List (Lit × DataW H) → Nat
  | [] => 0
  | x :: r => uptoBulkEntry x + uptoBulkEntries r
def uptoBulkEntry {H : Type} : Lit × DataW H → Nat
  | (.string bytes, d) => bytes.length + uptoBulk d + 1
  | (_, d) => uptoBulk d + 1
 end
def uptoSmall : (H : Type) → List (DataW H) → Bool := fun _ ds => decide (uptoBulkAll ds ≤ 1048576)
def OpenSpec.upto (s : _root_.Go.ChangeSpec) : _root_.Go.OpenSpec := { _root_.Go.OpenSpec.ofChange s with cond := some uptoSmall }

/-- 'wherrylaw04.MatchExact', WHERE WHAT IT READS IS OF BULK AT MOST 1048576: true; the input reads as it did. -/
def matchExactUptoRow : OpenClaim := { program := "ytagdlmlanjjecaa", sum := "8aa001ca2e5ace55a076bb0d9cff50fad4eea3b1a1d824f12a998d30b5fd518d", func := "wherry/wherrylaw04.MatchExact", spec := "matchExact", plainKeys := false, apart := false, narrowed := true }
def MatchExactUptoSaid : Prop := matchExactUptoRow.holds Try.pinned (OpenSpec.upto matchExactSpec)

/-- 'wherrylaw04.MatchBack', WHERE WHAT IT READS IS OF BULK AT MOST 1048576: true; the input reads as it did. -/
def matchBackUptoRow : OpenClaim := { program := "ytagdlmlanjjecaa", sum := "8aa001ca2e5ace55a076bb0d9cff50fad4eea3b1a1d824f12a998d30b5fd518d", func := "wherry/wherrylaw04.MatchBack", spec := "matchBack", plainKeys := false, apart := false, narrowed := true }
def MatchBackUptoSaid : Prop := matchBackUptoRow.holds Try.pinned (OpenSpec.upto matchBackSpec)

/-- 'wherrylaw04.MatchBest', WHERE WHAT IT READS IS OF BULK AT MOST 1048576: true; the input reads as it did. -/
def matchBestUptoRow : OpenClaim := { program := "ytagdlmlanjjecaa", sum := "8aa001ca2e5ace55a076bb0d9cff50fad4eea3b1a1d824f12a998d30b5fd518d", func := "wherry/wherrylaw04.MatchBest", spec := "matchBest", plainKeys := false, apart := false, narrowed := true }
def MatchBestUptoSaid : Prop := matchBestUptoRow.holds Try.pinned (OpenSpec.upto matchBestSpec)

/-- 'wherrylaw04.MatchLonger', WHERE WHAT IT READS IS OF BULK AT MOST 1048576: true; the input reads as it did. -/
def matchLongerUptoRow : OpenClaim := { program := "ytagdlmlanjjecaa", sum := "8aa001ca2e5ace55a076bb0d9cff50fad4eea3b1a1d824f12a998d30b5fd518d", func := "wherry/wherrylaw04.MatchLonger", spec := "matchLonger", plainKeys := false, apart := false, narrowed := true }
def MatchLongerUptoSaid : Prop := matchLongerUptoRow.holds Try.pinned (OpenSpec.upto matchLongerSpec)

/-- 'wherrylaw04.MatchBent', WHERE WHAT IT READS IS OF BULK AT MOST 1048576: true; the input reads as it did. -/
def matchBentUptoRow : OpenClaim := { program := "ytagdlmlanjjecaa", sum := "8aa001ca2e5ace55a076bb0d9cff50fad4eea3b1a1d824f12a998d30b5fd518d", func := "wherry/wherrylaw04.MatchBent", spec := "matchBent", plainKeys := false, apart := false, narrowed := true }
def MatchBentUptoSaid : Prop := matchBentUptoRow.holds Try.pinned (OpenSpec.upto matchBentSpec)

/-- 'wherrylaw04.MatchOne', WHERE WHAT IT READS IS OF BULK AT MOST 1048576: true; the input reads as it did. -/
def matchOneUptoRow : OpenClaim := { program := "ytagdlmlanjjecaa", sum := "8aa001ca2e5ace55a076bb0d9cff50fad4eea3b1a1d824f12a998d30b5fd518d", func := "wherry/wherrylaw04.MatchOne", spec := "matchOne", plainKeys := false, apart := false, narrowed := true }
def MatchOneUptoSaid : Prop := matchOneUptoRow.holds Try.pinned (OpenSpec.upto matchOneSpec)

/-- 'wherrylaw04.MatchApart', WHERE WHAT IT READS IS OF BULK AT MOST 1048576: true; the input reads as it did. -/
def matchApartUptoRow : OpenClaim := { program := "ytagdlmlanjjecaa", sum := "8aa001ca2e5ace55a076bb0d9cff50fad4eea3b1a1d824f12a998d30b5fd518d", func := "wherry/wherrylaw04.MatchApart", spec := "matchApart", plainKeys := false, apart := false, narrowed := true }
def MatchApartUptoSaid : Prop := matchApartUptoRow.holds Try.pinned (OpenSpec.upto matchApartSpec)

/-- 'wherrylaw04.MatchFar', WHERE WHAT IT READS IS OF BULK AT MOST 1048576: true; the input reads as it did. -/
def matchFarUptoRow : OpenClaim := { program := "ytagdlmlanjjecaa", sum := "8aa001ca2e5ace55a076bb0d9cff50fad4eea3b1a1d824f12a998d30b5fd518d", func := "wherry/wherrylaw04.MatchFar", spec := "matchFar", plainKeys := false, apart := false, narrowed := true }
def MatchFarUptoSaid : Prop := matchFarUptoRow.holds Try.pinned (OpenSpec.upto matchFarSpec)

/-- 'wherrylaw04.MatchExpands', WHERE WHAT IT READS IS OF BULK AT MOST 1048576: true; the input reads as it did. -/
def matchExpandsUptoRow : OpenClaim := { program := "ytagdlmlanjjecaa", sum := "8aa001ca2e5ace55a076bb0d9cff50fad4eea3b1a1d824f12a998d30b5fd518d", func := "wherry/wherrylaw04.MatchExpands", spec := "matchExpands", plainKeys := false, apart := false, narrowed := true }
def MatchExpandsUptoSaid : Prop := matchExpandsUptoRow.holds Try.pinned (OpenSpec.upto matchExpandsSpec)

end Rows
end Go.Proofs.Ytagdlmlanjjecaa
