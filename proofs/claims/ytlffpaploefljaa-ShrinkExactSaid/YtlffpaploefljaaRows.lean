/-
  No cell of these rows narrows 'for every input' (looked for: loops, veiled, ifaces, maps, wideKeys, modest, calm, conditions, laid).
  DERIVED. THE GIVEN ROWS OF THIS SEAT. 9 by the template 'for every input the law returns true; each argument reads behind the call as it read before'; 0 by the template 'total and deterministic' (their statements: YtlffpaploefljaaTotals.lean).
  GIVEN WITH THE SEED: the statements are not yours to turn. If you find one false, say at which input.
  Laid BY PROGRAM, IN A SANDBOX (cutbox-rows.mjs): the forced cells as the released guide's own fill.sh prints them over the translation 9feecdc365b7c25b… (all of the seat's roots in one cut). By AI agents, Wed Nov 11 2026. No macro, syntax, notation, axiom, sorry.
-/
import Derived.Test.YtlffpaploefljaaChecked
import GoSem.Claim
import GoSem.ClaimJoined
import GoSem.ClaimMapViews
import Derived.JoinedTies
import Derived.KernelRfl
namespace Go.Proofs.Ytlffpaploefljaa
/- THE CELL 'sum', in the pinned program and in every row, IS THE sha256 OF THE DUMP (.gsa) THAT YtlffpaploefljaaProg.lean LOADS. Nothing in Lean hashes anything: it is a label: what it is worth is what the hold of that sum in a sandbox is worth. -/
noncomputable def Try.pinned : Pinned := { name := "ytlffpaploefljaa", sum := "9feecdc365b7c25ba4e9245ec4074c7d715c6ba8fc466dd8f74ba69f75cd2301", checked := Try.checked }
namespace Rows
def none {H : Type} : Left H := { results := [], args := [] }

/-- 'wherrylaw06.ShrinkLong': WHATEVER THE INPUT: true; the input reads as it did. -/
def shrinkLongSpec : ChangeSpec := { name := "shrinkLong", fn := fun _ => fun
  | [d1, d2] => { results := [.lit (.bool true)], args := [d1, d2] }
  | _ => none }
def shrinkLongRow : OpenClaim := { program := "ytlffpaploefljaa", sum := "9feecdc365b7c25ba4e9245ec4074c7d715c6ba8fc466dd8f74ba69f75cd2301", func := "wherry/wherrylaw06.ShrinkLong", spec := "shrinkLong", unfollowed := true, recurses := true, plainKeys := false, apart := false }
def ShrinkLongSaid : Prop := shrinkLongRow.holds Try.pinned (OpenSpec.ofChange shrinkLongSpec)

/-- ITS FALSE NEIGHBOUR: 'it returns false'. Refute it at one input. -/
def shrinkLongWrong : ChangeSpec := { name := "shrinkLong", fn := fun _ => fun
  | [d1, d2] => { results := [.lit (.bool false)], args := [d1, d2] }
  | _ => none }
def ShrinkLongWrongFalsely : Prop := shrinkLongRow.holds Try.pinned (OpenSpec.ofChange shrinkLongWrong)

/-- 'wherrylaw06.ShrinkRow': WHATEVER THE INPUT: true; the input reads as it did. -/
def shrinkRowSpec : ChangeSpec := { name := "shrinkRow", fn := fun _ => fun
  | [d] => { results := [.lit (.bool true)], args := [d] }
  | _ => none }
def shrinkRowRow : OpenClaim := { program := "ytlffpaploefljaa", sum := "9feecdc365b7c25ba4e9245ec4074c7d715c6ba8fc466dd8f74ba69f75cd2301", func := "wherry/wherrylaw06.ShrinkRow", spec := "shrinkRow", unfollowed := true, recurses := true, plainKeys := false, apart := false }
def ShrinkRowSaid : Prop := shrinkRowRow.holds Try.pinned (OpenSpec.ofChange shrinkRowSpec)

/-- ITS FALSE NEIGHBOUR: 'it returns false'. Refute it at one input. -/
def shrinkRowWrong : ChangeSpec := { name := "shrinkRow", fn := fun _ => fun
  | [d] => { results := [.lit (.bool false)], args := [d] }
  | _ => none }
def ShrinkRowWrongFalsely : Prop := shrinkRowRow.holds Try.pinned (OpenSpec.ofChange shrinkRowWrong)

/-- 'wherrylaw06.ShrinkUnlike': WHATEVER THE INPUT: true; the input reads as it did. -/
def shrinkUnlikeSpec : ChangeSpec := { name := "shrinkUnlike", fn := fun _ => fun
  | [d1, d2] => { results := [.lit (.bool true)], args := [d1, d2] }
  | _ => none }
def shrinkUnlikeRow : OpenClaim := { program := "ytlffpaploefljaa", sum := "9feecdc365b7c25ba4e9245ec4074c7d715c6ba8fc466dd8f74ba69f75cd2301", func := "wherry/wherrylaw06.ShrinkUnlike", spec := "shrinkUnlike", unfollowed := true, recurses := true, plainKeys := false, apart := false }
def ShrinkUnlikeSaid : Prop := shrinkUnlikeRow.holds Try.pinned (OpenSpec.ofChange shrinkUnlikeSpec)

/-- ITS FALSE NEIGHBOUR: 'it returns false'. Refute it at one input. -/
def shrinkUnlikeWrong : ChangeSpec := { name := "shrinkUnlike", fn := fun _ => fun
  | [d1, d2] => { results := [.lit (.bool false)], args := [d1, d2] }
  | _ => none }
def ShrinkUnlikeWrongFalsely : Prop := shrinkUnlikeRow.holds Try.pinned (OpenSpec.ofChange shrinkUnlikeWrong)

/-- 'wherrylaw06.ShrinkGains': WHATEVER THE INPUT: true; the input reads as it did. -/
def shrinkGainsSpec : ChangeSpec := { name := "shrinkGains", fn := fun _ => fun
  | [d] => { results := [.lit (.bool true)], args := [d] }
  | _ => none }
def shrinkGainsRow : OpenClaim := { program := "ytlffpaploefljaa", sum := "9feecdc365b7c25ba4e9245ec4074c7d715c6ba8fc466dd8f74ba69f75cd2301", func := "wherry/wherrylaw06.ShrinkGains", spec := "shrinkGains", unfollowed := true, recurses := true, plainKeys := false, apart := false }
def ShrinkGainsSaid : Prop := shrinkGainsRow.holds Try.pinned (OpenSpec.ofChange shrinkGainsSpec)

/-- ITS FALSE NEIGHBOUR: 'it returns false'. Refute it at one input. -/
def shrinkGainsWrong : ChangeSpec := { name := "shrinkGains", fn := fun _ => fun
  | [d] => { results := [.lit (.bool false)], args := [d] }
  | _ => none }
def ShrinkGainsWrongFalsely : Prop := shrinkGainsRow.holds Try.pinned (OpenSpec.ofChange shrinkGainsWrong)

/-- 'wherrylaw06.ShrinkExact': WHATEVER THE INPUT: true; the input reads as it did. -/
def shrinkExactSpec : ChangeSpec := { name := "shrinkExact", fn := fun _ => fun
  | [d] => { results := [.lit (.bool true)], args := [d] }
  | _ => none }
def shrinkExactRow : OpenClaim := { program := "ytlffpaploefljaa", sum := "9feecdc365b7c25ba4e9245ec4074c7d715c6ba8fc466dd8f74ba69f75cd2301", func := "wherry/wherrylaw06.ShrinkExact", spec := "shrinkExact", unfollowed := true, recurses := true, plainKeys := false, apart := false }
def ShrinkExactSaid : Prop := shrinkExactRow.holds Try.pinned (OpenSpec.ofChange shrinkExactSpec)

/-- ITS FALSE NEIGHBOUR: 'it returns false'. Refute it at one input. -/
def shrinkExactWrong : ChangeSpec := { name := "shrinkExact", fn := fun _ => fun
  | [d] => { results := [.lit (.bool false)], args := [d] }
  | _ => none }
def ShrinkExactWrongFalsely : Prop := shrinkExactRow.holds Try.pinned (OpenSpec.ofChange shrinkExactWrong)

/-- 'wherrylaw06.ShrinkBack': WHATEVER THE INPUT: true; the input reads as it did. -/
def shrinkBackSpec : ChangeSpec := { name := "shrinkBack", fn := fun _ => fun
  | [d] => { results := [.lit (.bool true)], args := [d] }
  | _ => none }
def shrinkBackRow : OpenClaim := { program := "ytlffpaploefljaa", sum := "9feecdc365b7c25ba4e9245ec4074c7d715c6ba8fc466dd8f74ba69f75cd2301", func := "wherry/wherrylaw06.ShrinkBack", spec := "shrinkBack", unfollowed := true, recurses := true, plainKeys := false, apart := false }
def ShrinkBackSaid : Prop := shrinkBackRow.holds Try.pinned (OpenSpec.ofChange shrinkBackSpec)

/-- ITS FALSE NEIGHBOUR: 'it returns false'. Refute it at one input. -/
def shrinkBackWrong : ChangeSpec := { name := "shrinkBack", fn := fun _ => fun
  | [d] => { results := [.lit (.bool false)], args := [d] }
  | _ => none }
def ShrinkBackWrongFalsely : Prop := shrinkBackRow.holds Try.pinned (OpenSpec.ofChange shrinkBackWrong)

/-- 'wherrylaw06.ShrinkLeast': WHATEVER THE INPUT: true; the input reads as it did. -/
def shrinkLeastSpec : ChangeSpec := { name := "shrinkLeast", fn := fun _ => fun
  | [d1, d2, d3] => { results := [.lit (.bool true)], args := [d1, d2, d3] }
  | _ => none }
def shrinkLeastRow : OpenClaim := { program := "ytlffpaploefljaa", sum := "9feecdc365b7c25ba4e9245ec4074c7d715c6ba8fc466dd8f74ba69f75cd2301", func := "wherry/wherrylaw06.ShrinkLeast", spec := "shrinkLeast", unfollowed := true, recurses := true, plainKeys := false, apart := false }
def ShrinkLeastSaid : Prop := shrinkLeastRow.holds Try.pinned (OpenSpec.ofChange shrinkLeastSpec)

/-- ITS FALSE NEIGHBOUR: 'it returns false'. Refute it at one input. -/
def shrinkLeastWrong : ChangeSpec := { name := "shrinkLeast", fn := fun _ => fun
  | [d1, d2, d3] => { results := [.lit (.bool false)], args := [d1, d2, d3] }
  | _ => none }
def ShrinkLeastWrongFalsely : Prop := shrinkLeastRow.holds Try.pinned (OpenSpec.ofChange shrinkLeastWrong)

/-- 'wherrylaw06.ShrinkKinds': WHATEVER THE INPUT: true; the input reads as it did. -/
def shrinkKindsSpec : ChangeSpec := { name := "shrinkKinds", fn := fun _ => fun
  | [d] => { results := [.lit (.bool true)], args := [d] }
  | _ => none }
def shrinkKindsRow : OpenClaim := { program := "ytlffpaploefljaa", sum := "9feecdc365b7c25ba4e9245ec4074c7d715c6ba8fc466dd8f74ba69f75cd2301", func := "wherry/wherrylaw06.ShrinkKinds", spec := "shrinkKinds", unfollowed := true, recurses := true, plainKeys := false, apart := false }
def ShrinkKindsSaid : Prop := shrinkKindsRow.holds Try.pinned (OpenSpec.ofChange shrinkKindsSpec)

/-- ITS FALSE NEIGHBOUR: 'it returns false'. Refute it at one input. -/
def shrinkKindsWrong : ChangeSpec := { name := "shrinkKinds", fn := fun _ => fun
  | [d] => { results := [.lit (.bool false)], args := [d] }
  | _ => none }
def ShrinkKindsWrongFalsely : Prop := shrinkKindsRow.holds Try.pinned (OpenSpec.ofChange shrinkKindsWrong)

/-- 'wherrylaw06.ShrinkBits': WHATEVER THE INPUT: true; the input reads as it did. -/
def shrinkBitsSpec : ChangeSpec := { name := "shrinkBits", fn := fun _ => fun
  | [d] => { results := [.lit (.bool true)], args := [d] }
  | _ => none }
def shrinkBitsRow : OpenClaim := { program := "ytlffpaploefljaa", sum := "9feecdc365b7c25ba4e9245ec4074c7d715c6ba8fc466dd8f74ba69f75cd2301", func := "wherry/wherrylaw06.ShrinkBits", spec := "shrinkBits", unfollowed := true, recurses := true, plainKeys := false, apart := false }
def ShrinkBitsSaid : Prop := shrinkBitsRow.holds Try.pinned (OpenSpec.ofChange shrinkBitsSpec)

/-- ITS FALSE NEIGHBOUR: 'it returns false'. Refute it at one input. -/
def shrinkBitsWrong : ChangeSpec := { name := "shrinkBits", fn := fun _ => fun
  | [d] => { results := [.lit (.bool false)], args := [d] }
  | _ => none }
def ShrinkBitsWrongFalsely : Prop := shrinkBitsRow.holds Try.pinned (OpenSpec.ofChange shrinkBitsWrong)

/- THE SECOND FORM. 'bulk': how many values and letters a reading holds, each counted each time it is reached (what is shared counts as often as it is met; a slice's spare places count too). A statement '..UptoSaid' is the law's where the arguments, and the package variables that the reading takes, are together of bulk at most 1048576: NARROWER than '..Said'. Prove '..Said' where nothing that the law and all that it calls make is longer than what came in: it says more and counts as full. Else prove '..UptoSaid'. A law counts once. -/
mutual
def uptoBulk {H : Type} : DataW H → Nat
  | .lit (.string bytes) => bytes.length + 1
  | .lit _ => 1
  | .nil => 1
  | .ptr d => uptoBulk d + 1
  | .slice elems spare => uptoBulkAll elems + uptoBulkAll spare + 1
  | .agg parts => uptoBulkAll parts + 1
  | .iface _ d => uptoBulk d + 1
  | .map entries => uptoBulkEntries entries + 1
  | .held _ => 1
def uptoBulkAll {H : Type} : List (DataW H) → Nat
  | [] => 0
  | d :: r => uptoBulk d + uptoBulkAll r
def uptoBulkEntries {H : Type} : List (Lit × DataW H) → Nat
  | [] => 0
  | x :: r => uptoBulkEntry x + uptoBulkEntries r
def uptoBulkEntry {H : Type} : Lit × DataW H → Nat
  | (.string bytes, d) => bytes.length + uptoBulk d + 1
  | (_, d) => uptoBulk d + 1
 end
def uptoSmall : (H : Type) → List (DataW H) → Bool := fun _ ds => decide (uptoBulkAll ds ≤ 1048576)
def OpenSpec.upto (s : _root_.Go.ChangeSpec) : _root_.Go.OpenSpec := { _root_.Go.OpenSpec.ofChange s with cond := some uptoSmall }

/-- 'wherrylaw06.ShrinkLong', WHERE WHAT IT READS IS OF BULK AT MOST 1048576: true; the input reads as it did. -/
def shrinkLongUptoRow : OpenClaim := { program := "ytlffpaploefljaa", sum := "9feecdc365b7c25ba4e9245ec4074c7d715c6ba8fc466dd8f74ba69f75cd2301", func := "wherry/wherrylaw06.ShrinkLong", spec := "shrinkLong", unfollowed := true, recurses := true, plainKeys := false, apart := false, narrowed := true }
def ShrinkLongUptoSaid : Prop := shrinkLongUptoRow.holds Try.pinned (OpenSpec.upto shrinkLongSpec)

/-- 'wherrylaw06.ShrinkRow', WHERE WHAT IT READS IS OF BULK AT MOST 1048576: true; the input reads as it did. -/
def shrinkRowUptoRow : OpenClaim := { program := "ytlffpaploefljaa", sum := "9feecdc365b7c25ba4e9245ec4074c7d715c6ba8fc466dd8f74ba69f75cd2301", func := "wherry/wherrylaw06.ShrinkRow", spec := "shrinkRow", unfollowed := true, recurses := true, plainKeys := false, apart := false, narrowed := true }
def ShrinkRowUptoSaid : Prop := shrinkRowUptoRow.holds Try.pinned (OpenSpec.upto shrinkRowSpec)

/-- 'wherrylaw06.ShrinkUnlike', WHERE WHAT IT READS IS OF BULK AT MOST 1048576: true; the input reads as it did. -/
def shrinkUnlikeUptoRow : OpenClaim := { program := "ytlffpaploefljaa", sum := "9feecdc365b7c25ba4e9245ec4074c7d715c6ba8fc466dd8f74ba69f75cd2301", func := "wherry/wherrylaw06.ShrinkUnlike", spec := "shrinkUnlike", unfollowed := true, recurses := true, plainKeys := false, apart := false, narrowed := true }
def ShrinkUnlikeUptoSaid : Prop := shrinkUnlikeUptoRow.holds Try.pinned (OpenSpec.upto shrinkUnlikeSpec)

/-- 'wherrylaw06.ShrinkGains', WHERE WHAT IT READS IS OF BULK AT MOST 1048576: true; the input reads as it did. -/
def shrinkGainsUptoRow : OpenClaim := { program := "ytlffpaploefljaa", sum := "9feecdc365b7c25ba4e9245ec4074c7d715c6ba8fc466dd8f74ba69f75cd2301", func := "wherry/wherrylaw06.ShrinkGains", spec := "shrinkGains", unfollowed := true, recurses := true, plainKeys := false, apart := false, narrowed := true }
def ShrinkGainsUptoSaid : Prop := shrinkGainsUptoRow.holds Try.pinned (OpenSpec.upto shrinkGainsSpec)

/-- 'wherrylaw06.ShrinkExact', WHERE WHAT IT READS IS OF BULK AT MOST 1048576: true; the input reads as it did. -/
def shrinkExactUptoRow : OpenClaim := { program := "ytlffpaploefljaa", sum := "9feecdc365b7c25ba4e9245ec4074c7d715c6ba8fc466dd8f74ba69f75cd2301", func := "wherry/wherrylaw06.ShrinkExact", spec := "shrinkExact", unfollowed := true, recurses := true, plainKeys := false, apart := false, narrowed := true }
def ShrinkExactUptoSaid : Prop := shrinkExactUptoRow.holds Try.pinned (OpenSpec.upto shrinkExactSpec)

/-- 'wherrylaw06.ShrinkBack', WHERE WHAT IT READS IS OF BULK AT MOST 1048576: true; the input reads as it did. -/
def shrinkBackUptoRow : OpenClaim := { program := "ytlffpaploefljaa", sum := "9feecdc365b7c25ba4e9245ec4074c7d715c6ba8fc466dd8f74ba69f75cd2301", func := "wherry/wherrylaw06.ShrinkBack", spec := "shrinkBack", unfollowed := true, recurses := true, plainKeys := false, apart := false, narrowed := true }
def ShrinkBackUptoSaid : Prop := shrinkBackUptoRow.holds Try.pinned (OpenSpec.upto shrinkBackSpec)

/-- 'wherrylaw06.ShrinkLeast', WHERE WHAT IT READS IS OF BULK AT MOST 1048576: true; the input reads as it did. -/
def shrinkLeastUptoRow : OpenClaim := { program := "ytlffpaploefljaa", sum := "9feecdc365b7c25ba4e9245ec4074c7d715c6ba8fc466dd8f74ba69f75cd2301", func := "wherry/wherrylaw06.ShrinkLeast", spec := "shrinkLeast", unfollowed := true, recurses := true, plainKeys := false, apart := false, narrowed := true }
def ShrinkLeastUptoSaid : Prop := shrinkLeastUptoRow.holds Try.pinned (OpenSpec.upto shrinkLeastSpec)

/-- 'wherrylaw06.ShrinkKinds', WHERE WHAT IT READS IS OF BULK AT MOST 1048576: true; the input reads as it did. -/
def shrinkKindsUptoRow : OpenClaim := { program := "ytlffpaploefljaa", sum := "9feecdc365b7c25ba4e9245ec4074c7d715c6ba8fc466dd8f74ba69f75cd2301", func := "wherry/wherrylaw06.ShrinkKinds", spec := "shrinkKinds", unfollowed := true, recurses := true, plainKeys := false, apart := false, narrowed := true }
def ShrinkKindsUptoSaid : Prop := shrinkKindsUptoRow.holds Try.pinned (OpenSpec.upto shrinkKindsSpec)

/-- 'wherrylaw06.ShrinkBits', WHERE WHAT IT READS IS OF BULK AT MOST 1048576: true; the input reads as it did. -/
def shrinkBitsUptoRow : OpenClaim := { program := "ytlffpaploefljaa", sum := "9feecdc365b7c25ba4e9245ec4074c7d715c6ba8fc466dd8f74ba69f75cd2301", func := "wherry/wherrylaw06.ShrinkBits", spec := "shrinkBits", unfollowed := true, recurses := true, plainKeys := false, apart := false, narrowed := true }
def ShrinkBitsUptoSaid : Prop := shrinkBitsUptoRow.holds Try.pinned (OpenSpec.upto shrinkBitsSpec)

end Rows
end Go.Proofs.Ytlffpaploefljaa
