-- Written by a program of this session out of the translation. Lean checks it.
import Derived.Test.YtlffpaploefljaaWrD
import Derived.Test.YtlffpaploefljaaPx0
import Derived.Test.YtlffpaploefljaaPx23
import Derived.Test.YtlffpaploefljaaPx65
namespace Go.Proofs.Ytlffpaploefljaa.P
open Go.RowKit Go.Proofs.YtlffpaploefljaaW.PrintWords Go.Proofs.YtlffpaploefljaaW.PrintLast Go.Proofs.YtlffpaploefljaaW.PrintMore
open List (setIfInBounds_toArray set_cons_zero set_cons_succ)
attribute [local go_sem] max2_int min2_int max_two min_two max_three min_three max_four min_four   -- for this text's walks alone
set_option linter.unusedVariables false
set_option linter.unusedSimpArgs false

/-! ### wherryref01_Block: function 24 (by hand) -/
/-- A text that may be made small: what its blocks are is the package's. -/
def rbOk (l : List Int) : Prop := (∀ x ∈ l, 0 ≤ x ∧ x < 256) ∧ l.length ≤ 4096
instance (l : List Int) : Decidable (rbOk l) := inferInstanceAs (Decidable (_ ∧ _))
def wherryref01_Block.f (l0 : List Int) (a1 : Int) : Option (List Int) := if rbOk l0 then (if a1 = 0 then (shrink_Stored.f l0).map (·.1) else if a1 = 1 then (shrink_Fixed.f l0).map (·.1) else (shrink_Dynamic.f l0).map (·.1)) else none
theorem wherryref01_Block.calls (A0 : Option Addr) (c0 : Nat) (l0 : List Int) (a1 : Int) (r : List Int) (w : World) (hr0 : Kd.C (Kd.int .u8) w A0 l0.length l0) (hc0 : l0.length ≤ c0) (h : wherryref01_Block.f l0 a1 = some r) :
  Calls Try.prog 24 #[.slice A0 l0.length c0, .int .i64 a1] w fun e w' => ∃ v0_ : Value, e = .returned (v0_) ∧ Kd.R (Kd.int .u8) 5 w' w.heap.size (fun _ => True) v0_ r ∧ Below w.heap.size w w' := by
 unfold wherryref01_Block.f at h
 split at h
 rotate_left
 ·cases h
 rename_i hok
 exact Wr.ref_block A0 c0 a1 hok.1 hok.2 h hr0 hc0

/-! ### wherryref01_Shrink: function 25 (by hand) -/
def wherryref01_Shrink.f (l0 : List Int) : Option (List Int) := if rbOk l0 then (shrink_Shrink.f l0).map (·.1) else none
theorem wherryref01_Shrink.calls (A0 : Option Addr) (c0 : Nat) (l0 : List Int) (r : List Int) (w : World) (hr0 : Kd.C (Kd.int .u8) w A0 l0.length l0) (hc0 : l0.length ≤ c0) (h : wherryref01_Shrink.f l0 = some r) :
  Calls Try.prog 25 #[.slice A0 l0.length c0] w fun e w' => ∃ v0_ : Value, e = .returned (v0_) ∧ Kd.R (Kd.int .u8) 5 w' w.heap.size (fun _ => True) v0_ r ∧ Below w.heap.size w w' := by
 unfold wherryref01_Shrink.f at h
 split at h
 rotate_left
 ·cases h
 rename_i hok
 exact Wr.ref_shrink A0 c0 hok.1 hok.2 h hr0 hc0

end Go.Proofs.Ytlffpaploefljaa.P
