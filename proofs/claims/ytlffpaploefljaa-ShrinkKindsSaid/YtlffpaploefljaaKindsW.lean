/- What blocks begin with; used by the claims of this seat. -/
import Derived.Test.YtlffpaploefljaaInjW
import Derived.Test.YtlffpaploefljaaDynF
namespace Go.Proofs.Ytlffpaploefljaa.Glue
open Go.RowKit Go.Proofs.Ytlffpaploefljaa.P Go.Proofs.YtlffpaploefljaaW.PrintWords Go.Proofs.YtlffpaploefljaaW.PrintLast Go.Proofs.YtlffpaploefljaaW.PrintMore
open WP (Row Bytes at_ val wN wX Wrote)
set_option linter.unusedVariables false
set_option linter.unusedSimpArgs false
/-! ### what blocks begin with -/
theorem wX_bytes : ∀ b : List Int, Bytes b → wX (b.map (fun c => (c.toNat, 8))) = val b
  | [], _ => rfl
  | c :: b, h => by
    have h1 := h.cons.1
    have h2 := wX_bytes b h.cons.2
    simp only [List.map_cons, wX, val]
    rw [h2, Nat.mod_eq_of_lt (show c.toNat < 2 ^ 8 by omega)]
/-- A stored block's bytes. -/
theorem plain_list {b : List Int} (hb : Bytes b) (hl : b.length ≤ 4096) (m : Made b) : m.st.1 = [1, ((b.length % 256 : Nat) : Int), ((b.length / 256 : Nat) : Int), ((255 - b.length % 256 : Nat) : Int), ((255 - b.length / 256 : Nat) : Int)] ++ b := by
  have hN := plainI_N b
  refine Wrote.inj m.wst.1 ?_
  refine ⟨?_, ?_, ?_, ?_⟩
  · refine Bytes.append ?_ hb
    intro x hx
    simp only [List.mem_cons, List.not_mem_nil, or_false] at hx
    omega
  · rw [List.length_append, hN]
    simp only [List.length_cons, List.length_nil]
    omega
  · have hx := wX_bytes b hb
    unfold plainI
    simp only [List.cons_append, List.nil_append, wX, val, hx, Int.toNat_natCast]
    rw [Nat.mod_eq_of_lt (show b.length < 2 ^ 16 by omega), Nat.mod_eq_of_lt (show 65535 - b.length < 2 ^ 16 by omega)]
    have e1 : (1 : Int).toNat = 1 := rfl
    rw [e1]
    generalize val b = V
    omega
  · have h := m.wst.1.lt
    exact h
theorem byte_low {x : List Int} (hx : Bytes x) {X k : Nat} {r : List (Nat × Nat)} (hX : val x = X) (hk : k < 4) (h : Stand X 0 ((1, 1) :: (k, 2) :: r)) : (rd x 0).toNat % 8 = 1 + 2 * k := by
  obtain ⟨h1, h2, _⟩ := h
  simp only at h1 h2
  have e := WP.at_add X 0 1 2
  rw [h1, h2] at e
  have e3 : at_ X 0 3 = X % 8 := by
    unfold at_
    rw [Nat.pow_zero, Nat.div_one]
  have hg := WP.val_get hx 0
  rw [Nat.pow_zero, Nat.div_one, hX] at hg
  rw [show (0 : Int) = ((0 : Nat) : Int) from rfl, rd_nat, hg]
  rw [show (1 : Nat) + 2 = 3 from rfl, e3] at e
  omega
theorem and7 : ∀ x : Fin 256, Go.bits .and .u8 (x.val : Int) 7 = ((x.val % 8 : Nat) : Int) := by decide +kernel
end Go.Proofs.Ytlffpaploefljaa.Glue
