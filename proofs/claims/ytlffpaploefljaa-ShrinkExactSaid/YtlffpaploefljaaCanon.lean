/- Plain laws on codes of lengths, over what the walked functions of package canon answer; used by the claims of this seat. -/
import Derived.Test.YtlffpaploefljaaBits
import Derived.Test.YtlffpaploefljaaPx5
namespace Go.Proofs.Ytlffpaploefljaa.Glue
open Go.RowKit Go.Proofs.Ytlffpaploefljaa.P Go.Proofs.YtlffpaploefljaaW.PrintWords Go.Proofs.YtlffpaploefljaaW.PrintLast Go.Proofs.YtlffpaploefljaaW.PrintMore
open WP (Row Bytes at_ val)

/-- How many codes there are of a length. -/
def cnt (l : List Int) (n : Nat) : Nat := (symsTo l l.length n).length
/-- What the codes up to a length fill, counted in codes of that length. -/
def upTo (c : Nat → Nat) : Nat → Nat
  | 0 => 0
  | n + 1 => 2 * upTo c n + c (n + 1)
theorem first_is (c : Nat → Nat) : ∀ n, firstOf c (n + 1) = 2 * upTo c n
  | 0 => rfl
  | n + 1 => by simp only [firstOf, upTo]; rw [first_is c n]
theorem openF_is (l : List Int) (n : Nat) : openF l (n + 1) = 2 * upTo (cnt l) n := first_is _ n
theorem two_split {n : Nat} (h : n + 1 ≤ 15) : 2 ^ (15 - n) = 2 * 2 ^ (15 - (n + 1)) := by rw [show 15 - n = 15 - (n + 1) + 1 from by omega, Nat.pow_succ]; omega
theorem weigh_up (c : Nat → Nat) : ∀ n, n ≤ 15 → weighTo c n = upTo c n * 2 ^ (15 - n)
  | 0, _ => by simp [weighTo, upTo]
  | n + 1, h => by
    simp only [weighTo, upTo]
    rw [weigh_up c n (by omega), two_split h, Nat.add_mul]
    congr 1
    rw [Nat.mul_comm 2 (upTo c n), Nat.mul_assoc]
theorem weigh_mono (c : Nat → Nat) (n : Nat) : ∀ d, weighTo c n ≤ weighTo c (n + d)
  | 0 => Nat.le_refl _
  | d + 1 => Nat.le_trans (weigh_mono c n d) (by rw [← Nat.add_assoc]; simp only [weighTo]; omega)
theorem up_le (c : Nat → Nat) (h : weighTo c 15 ≤ 32768) {n : Nat} (hn : n ≤ 15) : upTo c n ≤ 2 ^ n := by
  have h1 := weigh_mono c n (15 - n)
  rw [show n + (15 - n) = 15 from by omega, weigh_up c n hn] at h1
  have h2 : 2 ^ n * 2 ^ (15 - n) = 32768 := by rw [← Nat.pow_add, show n + (15 - n) = 15 from by omega]
  exact Nat.le_of_mul_le_mul_right (by omega : upTo c n * 2 ^ (15 - n) ≤ 2 ^ n * 2 ^ (15 - n)) (Nat.two_pow_pos _)
theorem weigh_all (c : Nat → Nat) : ∀ n, weighTo c n ≤ allTo c n * 16384
  | 0 => by simp [weighTo, allTo]
  | n + 1 => by
    have ih := weigh_all c n
    have h1 : 2 ^ (15 - (n + 1)) ≤ 2 ^ 14 := Nat.pow_le_pow_right (by decide) (by omega)
    have h2 := Nat.mul_le_mul_left (c (n + 1)) h1
    simp only [weighTo, allTo]
    rw [Nat.add_mul]
    omega
/-- Lengths that make codes. -/
structure Makes (l : List Int) : Prop where
  len : l.length ≤ 300
  bounds : ∀ x ∈ l, 0 ≤ x ∧ x ≤ 15
  weigh : weighTo (cnt l) 15 ≤ 32768
theorem check_iff (l : List Int) : canon_Check.f l = some 0 ↔ rightB l = true ∧ makesB l = true := by
  unfold canon_Check.f
  cases rightB l <;> cases makesB l <;> simp
theorem makes_of {l : List Int} (h : canon_Check.f l = some 0) : Makes l := by
  obtain ⟨h1, h2⟩ := (check_iff l).1 h
  obtain ⟨h3, h4⟩ := (rightB_iff l).1 h1
  refine ⟨h3, h4, ?_⟩
  have hw := weigh_all (cnt l) 15
  unfold makesB at h2
  simp only [Bool.or_eq_true, beq_iff_eq, Bool.and_eq_true] at h2
  have e1 : cW l = weighTo (cnt l) 15 := rfl
  have e2 : cA l = allTo (cnt l) 15 := rfl
  omega
theorem getD_mem {l : List Int} {j : Nat} (hj : j < l.length) : l.getD j 0 ∈ l := by
  rw [List.getD_eq_getElem?_getD, List.getElem?_eq_getElem hj]; exact List.getElem_mem hj
theorem Makes.at {l : List Int} (h : Makes l) {j : Nat} (hj : j < l.length) : ∃ n : Nat, l.getD j 0 = (n : Int) ∧ n ≤ 15 := by
  have := h.bounds _ (getD_mem hj)
  exact ⟨(l.getD j 0).toNat, by omega, by omega⟩
/-- A symbol's code, as a number. -/
def codeN (l : List Int) (j n : Nat) : Nat := 2 * upTo (cnt l) (n - 1) + (symsTo l j n).length
theorem codeOf_is {l : List Int} {j n : Nat} (hn : l.getD j 0 = (n : Int)) (h0 : 0 < n) : codeOf l j = (codeN l j n : Int) := by
  unfold codeOf codeN
  rw [hn, if_neg (by omega), Int.toNat_natCast]
  obtain ⟨m, rfl⟩ : ∃ m, n = m + 1 := ⟨n - 1, by omega⟩
  rw [openF_is]
  simp
theorem codeN_lt {l : List Int} {j n : Nat} (hj : j < l.length) (hn : l.getD j 0 = (n : Int)) (h0 : 0 < n) : codeN l j n + 1 ≤ upTo (cnt l) n := by
  obtain ⟨m, rfl⟩ : ∃ m, n = m + 1 := ⟨n - 1, by omega⟩
  have h := symsTo_rank l hj hn h0
  unfold codeN
  simp only [upTo]
  unfold cnt at *
  simp only [Nat.add_sub_cancel]
  omega
theorem codeN_small {l : List Int} (hm : Makes l) {j n : Nat} (hj : j < l.length) (hn : l.getD j 0 = (n : Int)) (h0 : 0 < n) (h15 : n ≤ 15) : codeN l j n < 2 ^ n := by
  have := codeN_lt hj hn h0
  have := up_le (cnt l) hm.weigh h15
  omega
theorem codesL_length (l : List Int) : (codesL l).length = l.length := by unfold codesL; simp
theorem codesL_get {l : List Int} {j : Nat} (hj : j < l.length) : (codesL l).getD j 0 = codeOf l j := by
  unfold codesL
  rw [List.getD_eq_getElem?_getD, List.getElem?_map, List.getElem?_range hj]
  rfl
section
variable {F : Nat → Int} {S : Nat → List Int} {b : List Int}
end
end Go.Proofs.Ytlffpaploefljaa.Glue
