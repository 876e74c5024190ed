/- ShrinkLong holds: as many bytes as may be are made small, one more is not; at every int and every byte. No condition. -/
import Derived.Test.YtlffpaploefljaaRefRead2
import Derived.Test.YtlffpaploefljaaCanonG
import Derived.Test.YtlffpaploefljaaPx1
import Derived.Test.YtlffpaploefljaaPx45
import Derived.Test.YtlffpaploefljaaPx51
import Derived.Test.YtlffpaploefljaaPx73
namespace Go.Proofs.Ytlffpaploefljaa.Pure
open Go.RowKit Go.Proofs.Ytlffpaploefljaa.P Go.Proofs.Ytlffpaploefljaa.Glue Go.Proofs.YtlffpaploefljaaW.PrintWords Go.Proofs.YtlffpaploefljaaW.PrintLast Go.Proofs.YtlffpaploefljaaW.PrintMore
set_option linter.unusedVariables false
set_option linter.unusedSimpArgs false
theorem wakes06l_is : wherrylaw06_wakes.f = some true := rfl
theorem rep_set (c : Int) : ∀ i d : Nat, (List.replicate i c ++ List.replicate (d + 1) 0).set i c = List.replicate (i + 1) c ++ List.replicate d 0
  | 0, d => by simp [List.replicate_succ]
  | i + 1, d => by
    rw [List.replicate_succ, List.cons_append, List.set_cons_succ, rep_set c i d, List.replicate_succ (n := i + 1), List.cons_append]
theorem long_fill (x0 c : Int) (n : Nat) (hn : n ≤ 5000) : ∀ (d i k : Nat), i + d = n → wherrylaw06_ShrinkLong.l0 (k + d) x0 c (List.replicate i c ++ List.replicate d 0) (i : Int) = wherrylaw06_ShrinkLong.l0 k x0 c (List.replicate n c) (n : Int)
  | 0, i, k, h => by
    obtain rfl : i = n := by omega
    rw [List.replicate_zero, List.append_nil]
    rfl
  | d + 1, i, k, h => by
    have ih := long_fill x0 c n hn d (i + 1) k (by omega)
    have hl : (List.replicate i c ++ List.replicate (d + 1) 0).length = n := by rw [List.length_append, List.length_replicate, List.length_replicate]; omega
    rw [show k + (d + 1) = (k + d) + 1 from rfl, wherrylaw06_ShrinkLong.l0, hl, if_pos (by omega), if_pos (by omega), Int.toNat_natCast, rep_set, wrap64_in (by omega) (by omega), show (i : Int) + 1 = ((i + 1 : Nat) : Int) from by omega]
    exact ih
theorem rep_bytes {c : Int} (h : 0 ≤ c ∧ c < 256) (n : Nat) : WP.Bytes (List.replicate n c) := fun x hx => by
  obtain rfl := List.eq_of_mem_replicate hx
  exact h
theorem ShrinkLong : wherrylaw06_ShrinkLong.Pure := by
  intro a0 a1 _ h3
  have hc : 0 ≤ a1 ∧ a1 < 256 := by
    have := h3
    simp [Lit.wf, IntKind.min, IntKind.max, IntKind.signed, IntKind.bits] at this
    omega
  obtain ⟨i, hi, ei⟩ := place_of a0 3 (by decide) (by decide)
  have e3 : IntKind.u64.wrap ((3 : Nat) : Int) = 3 := by decide
  rw [e3] at ei
  obtain ⟨n, hn⟩ : ∃ n, n = 4095 + i := ⟨_, rfl⟩
  have en : wrap64 (4095 + (i : Int)) = (n : Int) := by rw [wrap64_in (by omega) (by omega)]; omega
  refine ⟨6000 + 1 + n, ?_⟩
  unfold wherrylaw06_ShrinkLong.f
  rw [ei, en, if_pos (by omega), Int.toNat_natCast, if_pos (by omega)]
  have hf := long_fill (i : Int) a1 n (by omega) n 0 (6000 + 1) (by omega)
  rw [List.replicate_zero, List.nil_append, show ((0 : Nat) : Int) = 0 from rfl] at hf
  rw [hf, wherrylaw06_ShrinkLong.l0, List.length_replicate, if_neg (by omega)]
  have hb := rep_bytes hc n
  generalize hx : List.replicate n a1 = x at hb
  have hxl : x.length = n := by rw [← hx, List.length_replicate]
  by_cases h2 : i = 2
  · have hs : shrink_Shrink.f x = some ([], 2) := by
      unfold shrink_Shrink.f match_Tokens.f
      rw [if_pos (List.all_eq_true.2 (bytes_wf hb)), if_pos (by omega), Option.bind_some, if_neg (by decide)]
    have ht : shrink_Stored.f x = some ([], 2) := by
      unfold shrink_Stored.f
      rw [if_pos (by omega)]
    rw [hs, Option.bind_some, ht, Option.bind_some, if_pos (by omega)]
    simp only
    rw [if_pos trivial, if_pos trivial, if_pos (by decide +kernel), wakes06l_is]
    rfl
  · have h4 : x.length ≤ 4096 := by omega
    obtain ⟨m⟩ := made_all x hb h4
    obtain ⟨it, hk⟩ := least_kind m
    have hg := refgrow_is hb h4 hk (by have := least_len h4 m; omega) (most := 4096) (by decide) (by omega)
    have hs := stored_f h4 m
    have hl : m.st.1.length = x.length + 5 := by
      have h1 := m.wst.len
      have h2 := m.wst.2
      rw [plainI_N] at h2
      omega
    rw [shrink_f hb h4 m, Option.bind_some, hs, Option.bind_some, if_neg (by omega)]
    simp only
    rw [hg, Option.bind_some]
    simp only
    rw [if_pos trivial, if_pos trivial, if_pos trivial, if_pos trivial, keepBytes_is x x (by omega) 6000 (by omega), Option.bind_some, decide_eq_true rfl, if_pos rfl, hl, hxl, wrap64_in (by omega) (by omega), if_pos (by omega), wakes06l_is]
    rfl
end Go.Proofs.Ytlffpaploefljaa.Pure
