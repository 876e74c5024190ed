/- SymFixed holds: the fixed lengths make codes, of 288 symbols, of 32 for Dists; at every int. No condition. -/
import Derived.Test.YtfghmdjlhfclaaaFix0
import Derived.Test.YtfghmdjlhfclaaaPx2
import Derived.Test.YtfghmdjlhfclaaaPx5
import Derived.Test.YtfghmdjlhfclaaaPx6
import Derived.Test.YtfghmdjlhfclaaaPx7
namespace Go.Proofs.Ytfghmdjlhfclaaa.Pure
open Go.RowKit Go.Proofs.Ytfghmdjlhfclaaa.P Go.Proofs.Ytfghmdjlhfclaaa.Glue Go.Proofs.YtfghmdjlhfclaaaW.PrintWords Go.Proofs.YtfghmdjlhfclaaaW.PrintLast Go.Proofs.YtfghmdjlhfclaaaW.PrintMore

def fixL : List Int := List.replicate 144 8 ++ List.replicate 112 9 ++ List.replicate 24 7 ++ List.replicate 8 8
def fixC : List Int := (List.range 144).map (fun i : Nat => (48 + i : Int)) ++ (List.range 112).map (fun i : Nat => (400 + i : Int)) ++ (List.range 24).map (fun i : Nat => (i : Int)) ++ (List.range 8).map (fun i : Nat => (192 + i : Int))
theorem fixed_is : sym_Fixed.f 800 = some (fixL, List.replicate 32 5) := by decide +kernel
theorem fixed_check : canon_Check.f fixL = some 0 := by decide +kernel
theorem fixed_check5 : canon_Check.f (List.replicate 32 5) = some 0 := by decide +kernel
theorem fixed_codes : codesL fixL = fixC := by decide +kernel
theorem fixed_all : ∀ i : Fin 288, wherrylaw05_SymFixed.j1 60 (i.val : Int) fixL fixC false = some true := by decide +kernel
theorem SymFixed : wherrylaw05_SymFixed.Pure := by
  intro a0 _
  obtain ⟨i, hi, ei⟩ := tmod_u64 a0 288 (by decide) (by decide)
  have ei2 : wrap64 (Int.tmod (IntKind.u64.wrap (i : Int)) 288) = (i : Int) := by
    rw [u64_in (by omega) (by omega), show (288 : Int) = ((288 : Nat) : Int) from rfl, tmod_nat, Nat.mod_eq_of_lt (by omega)]
    exact wrap64_in (by omega) (by omega)
  have h1 : wherrylaw05_SymFixed.j1 60 a0 fixL fixC false = some true := by
    have := fixed_all ⟨i, by omega⟩
    simp only [wherrylaw05_SymFixed.j1] at this ⊢
    rw [ei2] at this
    rw [ei]
    exact this
  have hc : canon_Codes.f fixL = some (fixC, 0) := by
    unfold canon_Codes.f
    rw [fixed_check, Option.bind_some, if_pos rfl, fixed_codes]
  have hl : fixC.length = 288 := by decide +kernel
  refine ⟨800, ?_⟩
  unfold wherrylaw05_SymFixed.f
  rw [fixed_is, Option.bind_some]
  dsimp only
  rw [if_pos (by decide +kernel), if_pos (by decide +kernel), fixed_check, Option.bind_some, if_pos rfl, fixed_check5, Option.bind_some, bne_self_eq_false]
  simp only [wherrylaw05_SymFixed.j0]
  rw [if_neg (by decide), hc, Option.bind_some]
  dsimp only
  rw [if_pos rfl, hl, bne_eq_false_iff_eq.2 (by omega)]
  exact at_rounds (g := fun k => wherrylaw05_SymFixed.j1 k a0 fixL fixC false) (fun k => (wherrylaw05_SymFixed.mono_l k).2 _ _ _ _) (show 60 ≤ 799 by decide) h1
end Go.Proofs.Ytfghmdjlhfclaaa.Pure
