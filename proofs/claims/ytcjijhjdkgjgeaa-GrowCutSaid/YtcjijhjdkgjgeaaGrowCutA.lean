/- Bytes cut short, bytes that are more: the reader's steps; used by the claims of this seat. -/
import Derived.Test.YtcjijhjdkgjgeaaGrowRead3
import Derived.Test.YtcjijhjdkgjgeaaGrowAll
import Derived.Test.YtcjijhjdkgjgeaaPx0
import Derived.Test.YtcjijhjdkgjgeaaPx1
import Derived.Test.YtcjijhjdkgjgeaaPx2
import Derived.Test.YtcjijhjdkgjgeaaPx16
import Derived.Test.YtcjijhjdkgjgeaaPx25
namespace Go.Proofs.Ytcjijhjdkgjgeaa.Glue
open Go.RowKit Go.Proofs.Ytcjijhjdkgjgeaa.P Go.Proofs.YtcjijhjdkgjgeaaW.PrintWords Go.Proofs.YtcjijhjdkgjgeaaW.PrintLast Go.Proofs.YtcjijhjdkgjgeaaW.PrintMore
open WP (Row Bytes at_ val wN wX Wrote)
open Go.Proofs.Ytcjijhjdkgjgeaa.Tok (LenSym DistSym OkT OkL sizeL sizeT sizeL_ge exT)
open RowSteps
set_option linter.unusedVariables false
set_option linter.unusedSimpArgs false
/-! ### bytes cut short: the same is read, or there are too few -/
theorem get_or {b : List Int} (hl : b.length < 2 ^ 40) (p n : Int) : (∃ a k : Nat, p = (a : Int) ∧ n = (k : Int) ∧ k ≤ 24 ∧ a + k ≤ 8 * b.length) ∨ ∃ e : Int, e ≠ 0 ∧ bits_Get.f 40 b p n = some (0, 0, e) := by
  by_cases h1 : n < 0
  · exact .inr ⟨1, by decide, by
      show bits_Get.f (39 + 1) b p n = _
      unfold bits_Get.f
      rw [if_pos h1]
      rfl⟩
  by_cases h2 : n > 24
  · exact .inr ⟨1, by decide, by
      show bits_Get.f (39 + 1) b p n = _
      unfold bits_Get.f
      rw [if_neg h1, if_pos h2]
      rfl⟩
  by_cases h3 : p < 0
  · exact .inr ⟨1, by decide, by
      show bits_Get.f (39 + 1) b p n = _
      unfold bits_Get.f
      rw [if_neg h1, if_neg h2, if_pos h3]
      rfl⟩
  by_cases h4 : p > 8 * (b.length : Int)
  · exact .inr ⟨1, by decide, by
      show bits_Get.f (39 + 1) b p n = _
      unfold bits_Get.f
      rw [if_neg h1, if_neg h2, if_neg h3, wrap64_in (by omega) (by omega), decide_eq_true (by omega)]
      rfl⟩
  obtain ⟨a, rfl⟩ : ∃ a : Nat, p = (a : Int) := ⟨p.toNat, by omega⟩
  obtain ⟨k, rfl⟩ : ∃ k : Nat, n = (k : Int) := ⟨n.toNat, by omega⟩
  by_cases h5 : a + k ≤ 8 * b.length
  · exact .inl ⟨a, k, rfl, rfl, by omega, h5⟩
  · exact .inr ⟨3, by decide, get_short hl a k 40 (by omega) (by omega) (by omega) (by decide)⟩
section
variable {b post : List Int} (hb : Bytes b) (hp : Bytes post) (hl : (b ++ post).length < 2 ^ 40)
include hb hp hl
theorem get_cut (p n : Int) {r : Int × Int × Int} (h : bits_Get.f 40 b p n = some r) : r.2.2 ≠ 0 ∨ bits_Get.f 40 (b ++ post) p n = some r := by
  have hlen : (b ++ post).length = b.length + post.length := List.length_append
  rcases get_or (b := b) (by omega) p n with ⟨a, k, rfl, rfl, hk, ha⟩ | ⟨e, he, h2⟩
  · right
    rw [get_is hb (by omega) a k 40 hk ha (by omega)] at h
    rw [get_is (hb.append hp) hl a k 40 hk (by omega) (by omega), at_front _ _ _ _ ha]
    exact h
  · left
    rw [h2] at h
    injection h with h
    rw [← h]
    exact he
theorem take_cut {s : RSt} {n : Int} {r : Int × RSt} (h : takeS b s n = some r) : r.2.er = 3 ∨ takeS (b ++ post) s n = some r := by
  unfold takeS at h ⊢
  split at h
  · rename_i hc
    rw [if_pos hc]
    exact .inr h
  · rename_i hc
    rw [if_neg hc]
    obtain ⟨x, hx, h⟩ := Option.bind_eq_some_iff.1 h
    rcases get_cut hb hp hl _ _ hx with h2 | h2
    · rw [if_neg h2] at h
      injection h with h
      left
      rw [← h]
    · right
      rw [h2, Option.bind_some]
      exact h
theorem next_cut {F : Nat → Int} {S : Nat → List Int} : ∀ (d n : Nat) (code p : Int) (r : Int × Int × Bool), nextF F S b d n code p = some r → r.2.2 = false ∨ nextF F S (b ++ post) d n code p = some r
  | 0, n, code, p, r, h => by
    unfold nextF at h ⊢
    exact .inr h
  | d + 1, n, code, p, r, h => by
    unfold nextF at h ⊢
    obtain ⟨g, hg, h⟩ := Option.bind_eq_some_iff.1 h
    rcases get_cut hb hp hl _ _ hg with h2 | h2
    · rw [if_neg h2] at h
      injection h with h
      left
      rw [← h]
    · rw [h2, Option.bind_some]
      split at h
      · rename_i hc
        rw [if_pos hc]
        split at h
        · rename_i hd
          rw [if_pos hd]
          exact .inr h
        · rename_i hd
          rw [if_neg hd]
          exact next_cut d _ _ _ r h
      · rename_i hc
        rw [if_neg hc]
        exact .inr h
theorem sym_cut {F : Nat → Int} {S : Nat → List Int} {s : RSt} {r : Int × RSt} (h : symS F S b s = some r) : r.2.er = 3 ∨ symS F S (b ++ post) s = some r := by
  unfold symS at h ⊢
  split at h
  · rename_i hc
    rw [if_pos hc]
    exact .inr h
  · rename_i hc
    rw [if_neg hc]
    obtain ⟨x, hx, h⟩ := Option.bind_eq_some_iff.1 h
    rcases next_cut hb hp hl 15 1 0 _ _ hx with h2 | h2
    · rw [if_neg (by rw [h2]; simp)] at h
      injection h with h
      left
      rw [← h]
    · right
      rw [h2, Option.bind_some]
      exact h
theorem piece_cut {F : Nat → Int} {S : Nat → List Int} {n y : Int} {s r : RSt} (hr : pieceS F S b n s y = some r) : r.er = 3 ∨ pieceS F S (b ++ post) n s y = some r := by
  unfold pieceS at hr ⊢
  obtain ⟨l, h1, hr⟩ := Option.bind_eq_some_iff.1 hr
  rw [h1, Option.bind_some]
  split at hr
  · rename_i hc
    rw [if_pos hc]
    exact Or.inr hr
  · rename_i hc
    rw [if_neg hc]
    obtain ⟨t, ht, hr⟩ := Option.bind_eq_some_iff.1 hr
    unfold pieceD at hr ⊢
    obtain ⟨q, hq, hr⟩ := Option.bind_eq_some_iff.1 hr
    obtain ⟨d, hd, hr⟩ := Option.bind_eq_some_iff.1 hr
    have keep : q.2.er = 3 → r.er = 3 := fun h => by
      have hne : q.2.er ≠ 0 := by rw [h]; decide
      rw [want_keep hne, if_pos hne] at hr
      injection hr with hr
      rw [← hr]
      exact h
    rcases take_cut hb hp hl ht with h3 | h3
    · left
      refine keep ?_
      rw [sym_keep (by rw [h3]; decide)] at hq
      injection hq with hq
      rw [← hq]
      exact h3
    · rw [h3, Option.bind_some]
      rcases sym_cut hb hp hl hq with h4 | h4
      · exact .inl (keep h4)
      · rw [h4, Option.bind_some, hd, Option.bind_some]
        split at hr
        · rename_i hc2
          rw [if_pos hc2]
          exact Or.inr hr
        · rename_i hc2
          rw [if_neg hc2]
          obtain ⟨u, hu, hr⟩ := Option.bind_eq_some_iff.1 hr
          rcases take_cut hb hp hl hu with h5 | h5
          · left
            have hne : u.2.er ≠ 0 := by rw [h5]; decide
            unfold pieceG at hr
            rw [want_keep hne, if_pos hne] at hr
            injection hr with hr
            rw [← hr]
            exact h5
          · rw [h5, Option.bind_some]
            exact .inr hr
theorem coded_cut {F1 : Nat → Int} {S1 : Nat → List Int} {F2 : Nat → Int} {S2 : Nat → List Int} {n : Int} : ∀ (k : Nat) {s r : RSt}, codedL F1 S1 F2 S2 b n k s = some r → r.er = 3 ∨ codedL F1 S1 F2 S2 (b ++ post) n k s = some r
  | 0, s, r, hr => by unfold codedL at hr; cases hr
  | k + 1, s, r, hr => by
    unfold codedL at hr ⊢
    split at hr
    · rename_i hc
      rw [if_pos hc]
      exact Or.inr hr
    · rename_i hc
      rw [if_neg hc]
      obtain ⟨q, hq, hr⟩ := Option.bind_eq_some_iff.1 hr
      rcases sym_cut hb hp hl hq with h2 | h2
      · left
        have hne : q.2.er ≠ 0 := by rw [h2]; decide
        rw [if_pos (.inl hne)] at hr
        injection hr with hr
        rw [← hr]
        exact h2
      · rw [h2, Option.bind_some]
        split at hr
        · rename_i hc2
          rw [if_pos hc2]
          exact Or.inr hr
        · rename_i hc2
          rw [if_neg hc2]
          split at hr
          · rename_i hc3
            rw [if_pos hc3]
            split at hr
            · rename_i hc4
              rw [if_pos hc4]
              exact coded_cut k hr
            · cases hr
          · rename_i hc3
            rw [if_neg hc3]
            obtain ⟨s2, h3, hr⟩ := Option.bind_eq_some_iff.1 hr
            rcases piece_cut hb hp hl h3 with h4 | h4
            · exact Or.inl (by rw [coded_keep k (by rw [h4]; decide) hr]; exact h4)
            · rw [h4, Option.bind_some]
              exact coded_cut k hr
theorem fixed_cut {n : Int} {M : Nat} {s r : RSt} (hr : fixedS b n M s = some r) : r.er = 3 ∨ fixedS (b ++ post) n M s = some r := by
  unfold fixedS at hr ⊢
  obtain ⟨f, hf, hr⟩ := Option.bind_eq_some_iff.1 hr
  rw [hf, Option.bind_some]
  split at hr
  · rename_i hc
    rw [if_pos hc]
    exact coded_cut hb hp hl _ hr
  · cases hr
end
/-! ### how long a block of the fixed lengths is -/
theorem fixL_le : ∀ j : Fin 288, fixL.getD j.val 0 ≤ 9 := by decide +kernel
theorem fixD_le : ∀ j : Fin 32, fixD.getD j.val 0 ≤ 5 := by decide +kernel
theorem codeL_le {j : Nat} (h : Has fixL j) : (codeI fixL j).2 ≤ 9 := by
  have h1 := h.1
  rw [fixL_len] at h1
  have := fixL_le ⟨j, h1⟩
  unfold codeI
  simp only at this ⊢
  omega
theorem codeD_le {j : Nat} (h : Has fixD j) : (codeI fixD j).2 ≤ 5 := by
  have h1 := h.1
  rw [fixD_len] at h1
  have := fixD_le ⟨j, h1⟩
  unfold codeI
  simp only at this ⊢
  omega
theorem tokI_len {t : S70} (h : Fine t) : wN (tokI fixL fixD t) ≤ 11 * sizeT t := by
  have hh := fix_toks h
  unfold TokHas at hh
  unfold tokI sizeT
  by_cases h0 : t.f1 = 0
  · rw [if_pos h0] at hh ⊢
    rw [if_pos h0]
    have := codeL_le hh
    simp only [wN]
    omega
  · rw [if_neg h0] at hh ⊢
    rw [if_neg h0]
    have hp := piece_in h h0
    have l1 := (lenOf_is hp.1 hp.2.1).1.le
    have d1 := (distOf_is hp.2.2.1 (show t.f2 ≤ 32768 by omega)).1.le
    have := codeL_le hh.1
    have := codeD_le hh.2
    simp only [wN]
    omega
theorem toksI_len : ∀ l : List S70, (∀ t ∈ l, Fine t) → wN (l.flatMap (tokI fixL fixD)) ≤ 11 * sizeL l
  | [], _ => by simp [wN]
  | t :: l, h => by
    have h1 := tokI_len (h t List.mem_cons_self)
    have h2 := toksI_len l (fun u hu => h u (List.mem_cons_of_mem _ hu))
    rw [List.flatMap_cons, WP.wN_append]
    simp only [sizeL]
    omega
theorem known_len {t : List Int} (ht : Bytes t) (h4 : t.length ≤ 4096) : wN (knownI (T t)) ≤ 12 + 11 * t.length := by
  obtain ⟨_, _, o3, _, o5⟩ := T_ok t ht h4
  have h1 := toksI_len (T t) o5
  have h2 := codeL_le (fixL_has (j := 256) (by decide))
  unfold knownI bodyI
  rw [WP.wN_append, WP.wN_append]
  simp only [wN]
  omega
/-! ### what was cut short, what is a byte longer -/
theorem cut_short {t : List Int} (ht : Bytes t) (h4 : t.length ≤ 3000) {kn : List Int × Nat} (wkn : PenW kn (knownI (T t))) {c : Nat} (hc : c < kn.1.length) : ∃ r, runS (kn.1.take c) 4096 = some r ∧ r.er = 3 := by
  have hx := wkn.1.bytes
  have hroom := pen_room wkn
  have hN := known_len ht (by omega)
  have e : kn.1.take c ++ kn.1.drop c = kn.1 := List.take_append_drop _ _
  have hb : Bytes (kn.1.take c) := fun y hy => hx y (List.mem_of_mem_take hy)
  have hp : Bytes (kn.1.drop c) := fun y hy => hx y (List.mem_of_mem_drop hy)
  have hlen : (kn.1.take c).length = c := by rw [List.length_take]; omega
  have hl : (kn.1.take c ++ kn.1.drop c).length < 2 ^ 40 := by rw [e]; omega
  obtain ⟨r, hr⟩ := run_tot hb 4096
  refine ⟨r, hr, ?_⟩
  have hst := at_pen wkn (known_lt t ht (by omega))
  have hs2 := hst
  unfold knownI at hs2
  simp only [List.cons_append, List.nil_append] at hs2
  obtain ⟨a1, a2, a3⟩ := hs2
  simp only at a1 a2 a3
  have hNk : wN (knownI (T t)) = 3 + wN (bodyI (T t) fixL fixD) := by
    unfold knownI
    rw [WP.wN_append]
    rfl
  unfold runS at hr
  rw [if_neg (by decide), if_neg (by omega)] at hr
  unfold streamS at hr
  obtain ⟨s1, h1, hr⟩ := Option.bind_eq_some_iff.1 hr
  suffices h : s1.er = 3 by
    rw [if_pos (by rw [h]; decide)] at hr
    injection hr with hr
    rw [← hr]
    exact h
  rw [show (50000 : Nat) = 49999 + 1 from rfl, streamL, if_pos ⟨rfl, rfl⟩] at h1
  obtain ⟨r1, k1, h1⟩ := Option.bind_eq_some_iff.1 h1
  obtain ⟨r2, k2, h1⟩ := Option.bind_eq_some_iff.1 h1
  have keep : r2.2.er = 3 → s1.er = 3 := fun h => by
    rw [if_pos (by rw [h]; decide)] at h1
    injection h1 with h1
    rw [← h1]
    exact h
  rcases take_cut hb hp hl k1 with g1 | g1
  · refine keep ?_
    rw [take_keep (by rw [g1]; decide)] at k2
    injection k2 with k2
    rw [← k2]
    exact g1
  rw [e, show (1 : Int) = ((1 : Nat) : Int) from rfl, take_is hx (by omega) (s := startS) rfl (p := 0) rfl (by omega) (by omega) a1] at g1
  injection g1 with g1
  subst g1
  rcases take_cut hb hp hl k2 with g2 | g2
  · exact keep g2
  simp only at g2
  rw [e, show (2 : Int) = ((2 : Nat) : Int) from rfl, take_is hx (by omega) (s := { startS with pos := ((0 + 1 : Nat) : Int) }) rfl (p := 0 + 1) rfl (by omega) (by omega) a2] at g2
  injection g2 with g2
  subst g2
  rw [if_neg (by simp [startS])] at h1
  obtain ⟨s3, k3, h1⟩ := Option.bind_eq_some_iff.1 h1
  unfold blockS at k3
  simp only at k3
  rw [if_neg (by decide), if_pos (by decide)] at k3
  have k3' := k3
  have at0 : At (kn.1.take c) startS := ⟨by decide, by show (0 : Int) ≤ _; omega⟩
  obtain ⟨v1, q1, ak1, _, ar1, _⟩ := take_tot hb (by omega) startS at0 1 (by omega)
  have f1 := congrArg Prod.snd (Option.some.inj (k1.symm.trans ak1))
  simp only at f1
  rw [← f1] at ar1
  obtain ⟨v2, q2, ak2, _, ar2, _⟩ := take_tot hb (by omega) _ ar1 2 (by omega)
  have f2 := congrArg Prod.snd (Option.some.inj (k2.symm.trans ak2))
  simp only at f2
  rw [← f2] at ar2
  obtain ⟨w, ew, aw, _⟩ := fixed_tot hb (by omega) (n := 4096) (by decide) (M := 50000) (by decide) _ ar2 (.inr rfl)
  have ew2 := k3.symm.trans ew
  injection ew2 with ew2
  rw [← ew2] at aw
  rcases fixed_cut hb hp hl k3 with g3 | g3
  · have := streamL_keep 49999 _ (s := { s3 with bl := wrap64 (s3.bl + 1) }) (by show s3.er ≠ 0; rw [g3]; decide) h1
    rw [this]
    exact g3
  rw [e, fixed_is hx (by omega) ht (by omega) (most := 4096) (by decide) (s := { startS with pos := ((0 + 1 + 2 : Nat) : Int) }) rfl (p := 0 + 1 + 2) rfl (by show ((([] : List Int).length : Nat) : Int) + _ ≤ 4096; simp; omega) a3 (by omega)] at g3
  injection g3 with g3
  rw [← g3] at aw
  have := aw.2
  simp only at this
  omega
theorem cut_more {t : List Int} (ht : Bytes t) (h4 : t.length ≤ 3000) {kn : List Int × Nat} (wkn : PenW kn (knownI (T t))) {c : Int} (hc : 0 ≤ c ∧ c < 256) : ∃ r, runS (kn.1 ++ [c]) 4096 = some r ∧ r.er = 3 := by
  have hx := wkn.1.bytes
  have hroom := pen_room wkn
  have hN := known_len ht (by omega)
  have hcb : Bytes [c] := fun y hy => by rw [List.mem_singleton.1 hy]; exact hc
  have hlen : (kn.1 ++ [c]).length = kn.1.length + 1 := by rw [List.length_append, List.length_singleton]
  have hk := known_read ht (by omega) wkn (pre := []) Bytes.nil hcb (by rw [List.nil_append]; omega) (by simp) (most := 4096) (by decide) (s := startS) rfl rfl (by show ((([] : List Int).length : Nat) : Int) + _ ≤ 4096; simp; omega) 49998
  obtain ⟨z1, z2⟩ := end_zero wkn (pre := []) Bytes.nil [c]
  simp only [List.nil_append, List.length_nil, Nat.mul_zero, Nat.zero_add] at hk z1 z2
  unfold runS
  rw [if_neg (by decide), if_neg (by omega)]
  unfold streamS
  rw [show (50000 : Nat) = 49998 + 2 from rfl, hk, Option.bind_some, if_neg (by simp [startS])]
  rw [pad_is (hx.append hcb) (by omega) (s := { startS with pos := ((wN (knownI (T t)) : Nat) : Int), out := startS.out ++ t, bl := wrap64 (startS.bl + 1) }) rfl (p := wN (knownI (T t))) rfl (by omega) (by omega) (by rw [z1]; exact z2), Option.bind_some, z1]
  refine ⟨_, rfl, ?_⟩
  simp only
  rw [wrap64_in (a := 8 * ((kn.1 ++ [c]).length : Int)) (by omega) (by omega)]
  have : ((wN (knownI (T t)) + (8 * kn.1.length - wN (knownI (T t))) : Nat) : Int) ≠ 8 * ((kn.1 ++ [c]).length : Int) := by omega
  rw [show (((wN (knownI (T t)) + (8 * kn.1.length - wN (knownI (T t))) : Nat) : Int) == 8 * ((kn.1 ++ [c]).length : Int)) = false from by simpa using this]
  unfold wantS
  rw [if_pos ⟨rfl, rfl⟩]
end Go.Proofs.Ytcjijhjdkgjgeaa.Glue
