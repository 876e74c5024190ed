/- TreeEven holds: as many equal weights as a power of 2 have lengths that are all that power's; at every two ints. No condition. -/
import Derived.Test.YtaoeghdpmmeaiaaTreeFuel
import Derived.Test.YtaoeghdpmmeaiaaPx4
import Derived.Test.YtaoeghdpmmeaiaaPx10
import Derived.Test.YtaoeghdpmmeaiaaPx15
namespace Go.Proofs.Ytaoeghdpmmeaiaa.Pure
open Go.RowKit Go.Proofs.Ytaoeghdpmmeaiaa.P Go.Proofs.Ytaoeghdpmmeaiaa.Glue Go.Proofs.YtaoeghdpmmeaiaaW.PrintWords Go.Proofs.YtaoeghdpmmeaiaaW.PrintLast Go.Proofs.YtaoeghdpmmeaiaaW.PrintMore
set_option linter.unusedVariables false
set_option linter.unusedSimpArgs false

theorem pos_same (n : Nat) (w : Int) (h : 0 < w) : pos (List.replicate n w) = n := by
  unfold pos
  rw [List.filter_replicate, if_pos (by simpa using h), List.length_replicate]
/-- As many equal weights as a power of 2: their lengths. -/
theorem even_once (k : Nat) (hk : k ≤ 8) (w : Int) (h1 : 1 ≤ w) (h2 : w ≤ 1000) : onceOf (List.replicate (2 ^ k) w) = List.replicate (2 ^ k) (mx k 1) ∧ weighs (List.replicate (2 ^ k) w) = true := by
  have hb : 2 ^ k ≤ 2 ^ 8 := Nat.pow_le_pow_right (by decide) hk
  have hw : weighs (List.replicate (2 ^ k) w) = true := (weighs_iff _).2 ⟨by rw [List.length_replicate]; omega, fun x hx => by rw [(List.mem_replicate.1 hx).2]; omega⟩
  refine ⟨?_, hw⟩
  have hp := pos_same (2 ^ k) w (by omega)
  have hlen : (onceOf (List.replicate (2 ^ k) w)).length = 2 ^ k := by rw [once_length, List.length_replicate]
  refine List.eq_replicate_iff.2 ⟨hlen, fun v hv => ?_⟩
  obtain ⟨i, hi, rfl⟩ := mem_rd hv
  rw [hlen] at hi
  by_cases h0 : k = 0
  · subst h0
    obtain ⟨j, a1, a2, a3, a4⟩ := once_single _ hp
    have hi0 : i = 0 := by simpa using hi
    have hj0 : j = 0 := by simpa using a1
    subst hi0 hj0
    rw [a4]
    rfl
  · have h2k : 2 ≤ 2 ^ k := by
      have : 2 ^ 1 ≤ 2 ^ k := Nat.pow_le_pow_right (by decide) (by omega)
      omega
    obtain ⟨x, hx, hs⟩ := once_equal (List.replicate (2 ^ k) w) hw (by omega) w (fun i hi _ => by
      rw [List.length_replicate] at hi
      simp [List.getElem?_replicate, hi]) k True (by omega) (fun _ => hp)
    have hm := (hx.total (i := i) (by rw [List.length_replicate]; exact hi)).1 (by simp [List.getElem?_replicate, hi]; omega)
    rw [(hs _ hm).2 trivial]
    unfold mx
    by_cases hk1 : (k : Int) < 1
    · omega
    · rw [if_neg hk1]
theorem even_l1 (k0 : Nat) (n : Nat) (hn : n ≤ 256) : ∀ (d i k : Nat), i + d = n → d + 50 ≤ k → wherrylaw03_TreeEven.l1 k (k0 : Int) (List.replicate n (mx k0 1)) (i : Int) = some true := by
  intro d
  induction d with
  | zero =>
    intro i k hi hk
    obtain ⟨k, rfl⟩ : ∃ m, k = m + 1 := ⟨k - 1, by omega⟩
    simp only [wherrylaw03_TreeEven.l1]
    rw [if_neg (by rw [List.length_replicate]; omega), wakes03_is k (by omega)]
    rfl
  | succ d ih =>
    intro i k hi hk
    obtain ⟨k, rfl⟩ : ∃ m, k = m + 1 := ⟨k - 1, by omega⟩
    simp only [wherrylaw03_TreeEven.l1]
    rw [if_pos (by rw [List.length_replicate]; omega), if_pos (by omega), if_pos (by rw [rd_nat, List.getD_eq_getElem?_getD, List.getElem?_replicate, if_pos (by omega)]; rfl), wrap64_in (by omega) (by omega)]
    exact ih (i + 1) k (by omega) (by omega)
theorem even_l0 (k0 : Nat) (hk0 : k0 ≤ 8) (w : Int) (h1 : 1 ≤ w) (h2 : w ≤ 1000) : ∀ (d i k : Nat), i + d = 2 ^ k0 → d + 400 ≤ k → wherrylaw03_TreeEven.l0 k (k0 : Int) w (List.replicate i w) (i : Int) = some true := by
  have hb : 2 ^ k0 ≤ 2 ^ 8 := Nat.pow_le_pow_right (by decide) hk0
  have hu : IntKind.u64.wrap (k0 : Int) = (k0 : Int) := u64_in (by omega) (by omega)
  have hsh : shl .i64 1 (k0 : Int) = ((2 ^ k0 : Nat) : Int) := shl_one (by omega)
  intro d
  induction d with
  | zero =>
    intro i k hi hk
    obtain ⟨k, rfl⟩ : ∃ m, k = m + 2 := ⟨k - 2, by omega⟩
    have e : i = 2 ^ k0 := by omega
    subst e
    obtain ⟨e1, e2⟩ := even_once k0 hk0 w h1 h2
    have hm : ∀ v ∈ onceOf (List.replicate (2 ^ k0) w), v ≤ 15 := by
      intro v hv
      rw [e1] at hv
      rw [(List.mem_replicate.1 hv).2]
      unfold mx
      split <;> omega
    simp only [wherrylaw03_TreeEven.l0]
    rw [hu, hsh, if_pos (by omega), if_neg (by omega), lens_flat e2 hm, e1]
    simp only [Option.bind_some, List.length_replicate]
    rw [if_pos (by trivial)]
    simp only [wherrylaw03_TreeEven.j1]
    rw [show (((2 ^ k0 : Nat) : Int) != ((2 ^ k0 : Nat) : Int)) = false from by simp, if_neg (by decide)]
    exact even_l1 k0 (2 ^ k0) (by omega) (2 ^ k0) 0 k (by omega) (by omega)
  | succ d ih =>
    intro i k hi hk
    obtain ⟨k, rfl⟩ : ∃ m, k = m + 1 := ⟨k - 1, by omega⟩
    simp only [wherrylaw03_TreeEven.l0]
    rw [hu, hsh, if_pos (by omega), if_pos (by omega), if_pos (by rw [List.length_replicate]; omega), wrap64_in (by omega) (by omega)]
    have := ih (i + 1) k (by omega) (by omega)
    rw [List.replicate_succ'] at this
    exact this
theorem TreeEven : wherrylaw03_TreeEven.Pure := by
  intro a0 a1 _ _
  refine ⟨1000, ?_⟩
  unfold wherrylaw03_TreeEven.f
  obtain ⟨k0, hk, e0⟩ := tmod_u64 a0 9 (by omega) (by omega)
  obtain ⟨n, hn, e⟩ := tmod_u64 a1 1000 (by omega) (by omega)
  rw [e0, e, wrap64_in (a := 1 + (n : Int)) (by omega) (by omega)]
  have hb : 2 ^ k0 ≤ 2 ^ 8 := Nat.pow_le_pow_right (by decide) (by omega)
  exact even_l0 k0 (by omega) (1 + n) (by omega) (by omega) (2 ^ k0) 0 1000 (by omega) (by omega)
end Go.Proofs.Ytaoeghdpmmeaiaa.Pure
