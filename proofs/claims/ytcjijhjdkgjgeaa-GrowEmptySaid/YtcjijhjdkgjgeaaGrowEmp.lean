/- Empty stored blocks ahead of another block: what is read; used by the claims of this seat. -/
import Derived.Test.YtcjijhjdkgjgeaaGrowRead3
import Derived.Test.YtcjijhjdkgjgeaaPx1
import Derived.Test.YtcjijhjdkgjgeaaPx2
import Derived.Test.YtcjijhjdkgjgeaaPx25
namespace Go.Proofs.Ytcjijhjdkgjgeaa.Glue
open Go.RowKit Go.Proofs.Ytcjijhjdkgjgeaa.P Go.Proofs.YtcjijhjdkgjgeaaW.PrintWords Go.Proofs.YtcjijhjdkgjgeaaW.PrintLast Go.Proofs.YtcjijhjdkgjgeaaW.PrintMore
open WP (Row Bytes at_ val wN wX Wrote)
set_option linter.unusedVariables false
set_option linter.unusedSimpArgs false
/-! ### empty stored blocks -/
def emp1 : List Int := [0, 0, 0, 255, 255]
def emp : Nat → List Int
  | 0 => []
  | n + 1 => emp n ++ emp1
theorem emp_len : ∀ n, (emp n).length = 5 * n
  | 0 => rfl
  | n + 1 => by
    rw [emp, List.length_append, emp_len n]
    simp only [emp1, List.length_cons, List.length_nil]
    omega
theorem emp_front : ∀ n, emp (n + 1) = emp1 ++ emp n
  | 0 => rfl
  | n + 1 => by
    show emp (n + 1) ++ emp1 = emp1 ++ (emp n ++ emp1)
    rw [emp_front n, List.append_assoc]
theorem emp1_bytes : Bytes emp1 := by
  intro x hx
  simp only [emp1, List.mem_cons, List.not_mem_nil, or_false] at hx
  omega
theorem emp_bytes : ∀ n, Bytes (emp n)
  | 0 => Bytes.nil
  | n + 1 => (emp_bytes n).append emp1_bytes
theorem emp1_stand : Stand (val emp1) 0 [(0, 1), (0, 2), (0, 5), (0, 16), (65535, 16)] := ⟨by decide, by decide, by decide, by decide, by decide, trivial⟩
def atE (i : Nat) : RSt := ⟨((8 * (5 * i) : Nat) : Int), [], (i : Int), 0⟩
theorem emp_reads {x : List Int} (hx : Bytes x) (hl : x.length ≤ 4900) {most : Int} (h0 : 0 ≤ most) (hm : most ≤ 4096) : ∀ (d i K : Nat), i + d ≤ 20 → streamL (emp i ++ (emp d ++ x)) most 400 50000 (K + d) 0 (atE i) = streamL (emp (i + d) ++ x) most 400 50000 K 0 (atE (i + d))
  | 0, i, K, hi => rfl
  | d + 1, i, K, hi => by
    have e : emp i ++ (emp (d + 1) ++ x) = emp (i + 1) ++ (emp d ++ x) := by rw [emp_front, emp, List.append_assoc, List.append_assoc]
    have e2 : emp i ++ (emp (d + 1) ++ x) = emp i ++ (emp1 ++ (emp d ++ x)) := by rw [emp_front, List.append_assoc]
    have hb : Bytes (emp i ++ (emp1 ++ (emp d ++ x))) := (emp_bytes i).append (emp1_bytes.append ((emp_bytes d).append hx))
    have hlen : (emp i ++ (emp1 ++ (emp d ++ x))).length = 5 * i + (5 + (5 * d + x.length)) := by
      rw [List.length_append, List.length_append, List.length_append, emp_len, emp_len]
      rfl
    have hst := stand_shift (pre := emp i) (emp d ++ x) (emp_bytes i) _ 0 emp1_stand (by decide)
    rw [Nat.add_zero, emp_len] at hst
    have hr2 := hst.2.2
    simp only at hr2
    have hs := stored_is hb (by omega) (most := most) (t := []) Bytes.nil (by simp) (s := { atE i with pos := ((8 * (5 * i) + 3 : Nat) : Int) }) rfl (p := 8 * (5 * i) + 3) rfl (by omega) (by omega) (by simp [atE]; exact h0) (by omega) (r := []) hr2 (by simp only [List.length_nil]; omega)
    rw [e2, show K + (d + 1) = (K + d) + 1 from by omega, stream_step hb (by omega) (s := atE i) rfl (p := 8 * (5 * i)) rfl hst (by omega) (K + d) (s3 := { atE i with pos := ((8 * (5 * (i + 1)) : Nat) : Int) }) (by
      unfold blockS
      rw [if_pos (by decide), hs]
      simp only [List.length_nil, atE, List.append_nil]
      rw [show 8 * (5 * i) + 3 + 37 + 8 * 0 = 8 * (5 * (i + 1)) from by omega])]
    have e3 : wrap64 ((i : Int) + 1) = ((i + 1 : Nat) : Int) := by rw [wrap64_in (by omega) (by omega)]; omega
    have e4 : ({ ({ atE i with pos := ((8 * (5 * (i + 1)) : Nat) : Int) } : RSt) with bl := wrap64 (({ atE i with pos := ((8 * (5 * (i + 1)) : Nat) : Int) } : RSt).bl + 1) } : RSt) = atE (i + 1) := by
      unfold atE
      simp only
      rw [e3]
    rw [e4, ← e2, e, show i + (d + 1) = (i + 1) + d from by omega]
    exact emp_reads hx hl h0 hm d (i + 1) K (by omega)
/-- Empty blocks ahead of what was made small. -/
theorem run_emp {t : List Int} (ht : Bytes t) (h4 : t.length ≤ 4096) {m : Made t} {x : List Int × Nat} {it : List (Nat × Nat)} (h : Kind m x it) (hl : x.1.length ≤ 4800) {n : Nat} (hn : n ≤ 20) :
    runS (emp n ++ x.1) 4096 = some ⟨((8 * (emp n ++ x.1).length : Nat) : Int), t, ((n + 1 : Nat) : Int), 0⟩ := by
  have hx : Bytes x.1 := h.pen.1.bytes
  have hr := emp_reads hx (by omega) (most := 4096) (by decide) (by decide) n 0 (49978 + 2 + (20 - n)) (by omega)
  rw [Nat.zero_add, show 49978 + 2 + (20 - n) + n = 50000 from by omega] at hr
  have hlen : (emp n ++ x.1).length = 5 * n + x.1.length := by rw [List.length_append, emp_len]
  have := run_end ht h4 h (pre := emp n) (emp_bytes n) (by omega) (most := 4096) (by decide) (by decide) (s := atE n) rfl (by rw [emp_len]; rfl) (by show ((([] : List Int).length : Nat) : Int) + _ ≤ 4096; simp; omega) (49978 + (20 - n)) (by
    rw [show 49978 + (20 - n) + 2 = 49978 + 2 + (20 - n) from by omega]
    exact hr)
  rw [this]
  unfold atE
  simp only [List.nil_append]
  rw [wrap64_in (by omega) (by omega)]
  congr 2
end Go.Proofs.Ytcjijhjdkgjgeaa.Glue
