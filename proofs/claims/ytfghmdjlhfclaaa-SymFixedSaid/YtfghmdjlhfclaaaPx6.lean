-- Written by a program of this session out of the translation. Lean checks it.
import Derived.Test.YtfghmdjlhfclaaaPx0
import Derived.Test.YtfghmdjlhfclaaaPx3
import Derived.Test.YtfghmdjlhfclaaaPx5
namespace Go.Proofs.Ytfghmdjlhfclaaa.P
open Go.RowKit Go.Proofs.YtfghmdjlhfclaaaW.PrintWords Go.Proofs.YtfghmdjlhfclaaaW.PrintLast Go.Proofs.YtfghmdjlhfclaaaW.PrintMore
attribute [local go_sem] max2_int min2_int max_two min_two max_three min_three max_four min_four   -- for this text's walks alone
set_option linter.unusedVariables false
set_option linter.unusedSimpArgs false

-- PART
/-! ### canon_Codes: function 18 (by hand) -/
/-- A symbol's code: the first one of its length, and one more for each symbol ahead of that length. -/
def codeOf (l : List Int) (j : Nat) : Int := if l.getD j 0 ≤ 0 then 0 else (openF l (l.getD j 0).toNat : Int) + (symsTo l j (l.getD j 0).toNat).length
def codesTo (l : List Int) (n i : Nat) : List Int := (List.range l.length).map (fun j => if (l.getD j 0).toNat < n ∨ (l.getD j 0 = (n : Int) ∧ (symsTo l j n).length < i) then codeOf l j else 0)
def codesL (l : List Int) : List Int := (List.range l.length).map (codeOf l)
theorem BookAt.lt {W : World} {base g : Nat} {F : Nat → Int} {S : Nat → List Int} (h : BookAt W base g F S) : g < W.heap.size := by
  obtain ⟨cs, V, h1, _⟩ := h
  exact blk_lt h1
def canon_Codes.f (l0 : List Int) : Option (List Int × Int) := (canon_Check.f l0).bind fun e => if e = 0 then some (codesL l0, 0) else some ([], e)
theorem symsTo_mono (l : List Int) (n : Nat) : ∀ (d j : Nat), (symsTo l j n).length ≤ (symsTo l (j + d) n).length
  | 0, j => Nat.le_refl _
  | d + 1, j => by
    refine Nat.le_trans (symsTo_mono l n d j) ?_
    rw [show j + (d + 1) = (j + d) + 1 from rfl, symsTo_step, List.length_append]
    omega
theorem symsTo_rank (l : List Int) {j L n : Nat} (hj : j < L) (hn : l.getD j 0 = (n : Int)) (h0 : 0 < n) : (symsTo l j n).length < (symsTo l L n).length := by
  have h := symsTo_mono l n (L - (j + 1)) (j + 1)
  rw [show j + 1 + (L - (j + 1)) = L from by omega, symsTo_step, if_pos ⟨hn, h0⟩, List.length_append] at h
  simp at h
  omega
theorem symsTo_uniq (l : List Int) {j j' n : Nat} (hn : l.getD j 0 = (n : Int)) (hn' : l.getD j' 0 = (n : Int)) (h0 : 0 < n) (h : (symsTo l j n).length = (symsTo l j' n).length) : j = j' := by
  rcases Nat.lt_trichotomy j j' with h1 | h1 | h1
  · have := symsTo_rank l h1 hn h0; omega
  · exact h1
  · have := symsTo_rank l h1 hn' h0; omega
theorem symsTo_at (l : List Int) (n i : Nat) : ∀ L, i < (symsTo l L n).length → ∃ j, j < L ∧ (symsTo l L n).getD i 0 = (j : Int) ∧ l.getD j 0 = (n : Int) ∧ 0 < n ∧ (symsTo l j n).length = i
  | 0, h => by simp [symsTo] at h
  | L + 1, h => by
    rw [symsTo_step] at h ⊢
    by_cases hc : l.getD L 0 = (n : Int) ∧ 0 < n
    · rw [if_pos hc] at h ⊢
      rw [List.length_append, List.length_singleton] at h
      by_cases hi : i < (symsTo l L n).length
      · obtain ⟨j, hj, e, h1, h2, h3⟩ := symsTo_at l n i L hi
        refine ⟨j, by omega, ?_, h1, h2, h3⟩
        rw [List.getD_eq_getElem?_getD, List.getElem?_append_left hi, ← List.getD_eq_getElem?_getD]; exact e
      · obtain rfl : i = (symsTo l L n).length := by omega
        exact ⟨L, by omega, by simp, hc.1, hc.2, rfl⟩
    · rw [if_neg hc, List.append_nil] at h ⊢
      obtain ⟨j, hj, e, h1⟩ := symsTo_at l n i L h
      exact ⟨j, by omega, e, h1⟩
theorem codesTo_start (l : List Int) : codesTo l 0 0 = List.replicate l.length 0 := by
  unfold codesTo
  rw [List.map_congr_left (g := fun _ => (0 : Int)) (fun j _ => if_neg (by omega)), List.map_const', List.length_range]
theorem codesTo_next (l : List Int) (n : Nat) (hx : ∀ x ∈ l, 0 ≤ x ∧ x ≤ 15) : codesTo l n (symsTo l l.length n).length = codesTo l (n + 1) 0 := by
  unfold codesTo
  refine List.map_congr_left (fun j hj => ?_)
  have hj := List.mem_range.1 hj
  have hxj : 0 ≤ l.getD j 0 := by
    rw [List.getD_eq_getElem?_getD, List.getElem?_eq_getElem hj]
    exact (hx _ (List.getElem_mem hj)).1
  by_cases h1 : (l.getD j 0).toNat < n
  · rw [if_pos (.inl h1), if_pos (.inl (by omega))]
  · by_cases h2 : l.getD j 0 = (n : Int)
    · by_cases h0 : 0 < n
      · rw [if_pos (.inr ⟨h2, symsTo_rank l hj h2 h0⟩), if_pos (.inl (by omega))]
      · have hz : l.getD j 0 = 0 := by omega
        rw [if_pos (.inl (by omega) : (l.getD j 0).toNat < n + 1 ∨ _)]
        have : codeOf l j = 0 := by unfold codeOf; rw [if_pos (by omega)]
        rw [this, ite_self]
    · rw [if_neg (by omega), if_neg (by omega)]
theorem map_range_set (f : Nat → Int) (L j0 : Nat) (v : Int) : ((List.range L).map f).set j0 v = (List.range L).map (fun j => if j = j0 then v else f j) := by
  apply List.ext_getElem
  · simp
  · intro j h1 h2
    rw [List.getElem_set]
    simp only [List.getElem_map, List.getElem_range]
    by_cases h : j0 = j
    · rw [if_pos h, if_pos h.symm]
    · rw [if_neg h, if_neg (fun e => h e.symm)]
theorem codesTo_step (l : List Int) {n i j0 : Nat} (hj : l.getD j0 0 = (n : Int)) (h0 : 0 < n) (hr : (symsTo l j0 n).length = i) : (codesTo l n i).set j0 ((openF l n : Int) + i) = codesTo l n (i + 1) := by
  unfold codesTo
  rw [map_range_set]
  refine List.map_congr_left (fun j _ => ?_)
  by_cases h : j = j0
  · subst h
    rw [if_pos rfl, if_pos (.inr ⟨hj, by omega⟩)]
    unfold codeOf
    rw [if_neg (by omega), hj, Int.toNat_natCast, hr]
  · rw [if_neg h]
    by_cases h1 : (l.getD j 0).toNat < n
    · rw [if_pos (.inl h1), if_pos (.inl h1)]
    · by_cases h2 : l.getD j 0 = (n : Int)
      · have hne : (symsTo l j n).length ≠ i := fun e => h (symsTo_uniq l h2 hj h0 (e.trans hr.symm))
        by_cases h3 : (symsTo l j n).length < i
        · rw [if_pos (.inr ⟨h2, h3⟩), if_pos (.inr ⟨h2, by omega⟩)]
        · rw [if_neg (by omega), if_neg (by omega)]
      · rw [if_neg (by omega), if_neg (by omega)]
theorem codesTo_end (l : List Int) (hx : ∀ x ∈ l, 0 ≤ x ∧ x ≤ 15) : codesTo l 17 0 = codesL l := by
  unfold codesTo codesL
  refine List.map_congr_left (fun j hj => ?_)
  have hj := List.mem_range.1 hj
  have hxj : l.getD j 0 ≤ 15 := by
    rw [List.getD_eq_getElem?_getD, List.getElem?_eq_getElem hj]
    exact (hx _ (List.getElem_mem hj)).2
  rw [if_pos (.inl (by omega))]
theorem codesTo_length (l : List Int) (n i : Nat) : (codesTo l n i).length = l.length := by unfold codesTo; simp
theorem openF_le (l : List Int) (hl : l.length ≤ 1000000) : ∀ n, n ≤ 16 → openF l n ≤ 65536 * 1000000 := by
  intro n hn
  cases n with
  | zero => simp [openF, firstOf]
  | succ n =>
    have h1 := firstOf_le (fun n => (symsTo l l.length n).length) 1000000 (fun n => Nat.le_trans (symsTo_len _ _ _) hl) n
    have h2 : 2 ^ (n + 1) ≤ 2 ^ 16 := Nat.pow_le_pow_right (by decide) hn
    have h3 := Nat.mul_le_mul_right 1000000 h2
    unfold openF
    omega
set_option maxHeartbeats 8000000 in
set_option maxRecDepth 100000 in
theorem canon_Codes.calls (A0 : Option Addr) (c0 : Nat) (l0 : List Int) (r1 : List Int) (r2 : Int) (w : World) (hr0 : Kd.C (Kd.int .i64) w A0 l0.length l0) (hc0 : l0.length ≤ c0) (h : canon_Codes.f l0 = some (r1, r2)) :
    Calls Try.prog 18 #[.slice A0 l0.length c0] w fun e w' => ∃ v0_ : Value, e = .returned (.tuple #[v0_, .int .i64 r2]) ∧ Kd.R (Kd.int .i64) 3 w' w.heap.size (fun _ => True) v0_ r1 ∧ Below w.heap.size w w' := by
  have HR := Aside0.mk hr0
  have HC := Aside0.mk hc0
  unfold canon_Codes.f at h
  obtain ⟨q, hq, h⟩ := Option.bind_eq_some_iff.1 h
  have HQ := Aside0.mk hq
  have H := Aside0.mk h
  clear hr0 hc0 h hq
  go_enter Try.func18, Try.ntmps18
  go_wp2_with fail
  refine (canon_Check.calls _ _ l0 q w HR.out HC.out HQ.out).mono ?_
  rintro e1 w1 ⟨rfl, hd⟩
  have HD := Aside0.mk hd
  clear hd
  by_cases hq0 : q = 0
  · subst hq0
    have h := H.out
    rw [if_pos rfl] at h
    simp only [Option.some.injEq, Prod.mk.injEq] at h
    obtain ⟨rfl, rfl⟩ := h
    obtain ⟨hx1, hx2⟩ := check_right0 HQ.out
    have HX := Aside0.mk hx2
    clear H hx2
    go_wp2_with fail
    refine (open_book _ _ l0 w1 (Kd.C_below HR.out HD.out) HC.out HX.out (by omega)).mono ?_
    rintro e2 w2 ⟨g, rfl, hb2, hbl⟩
    have HB := Aside0.mk hb2
    have HL := Aside0.mk (below_then HD.out HD.out.size hbl)
    have HSz := Aside0.mk HL.out.size
    have HG := Aside0.mk hb2.lt
    clear hb2 hbl
    go_wp2_with (refine Kd.R_make (Kd.int .i64) (w0 := w2) w2.heap.size 3 rfl rfl 30 (.tmp 18) (.tmp 18) rfl (l0.length : Int) rfl rfl Try.underlying30 (.int .i64 0) 8 info3 rfl (by decide) (by decide) (0 : Int) (ok := fun _ => True) (okp := fun _ => False) rfl (fun _ hk => hk.elim) trivial (by omega) (by omega) (Below.refl _ _) (Nat.le_refl _) ?_; intro v1 w3 ho hb hg hat; (have HO := Aside0.mk ho); (have HB3 := Aside0.mk hb); clear ho hb hg hat)
    rw [Int.toNat_natCast, ← codesTo_start] at HO
    go_loopg [20] 17 (fun kq v20 w' => ∃ n : Nat, v20 = .int .i64 n ∧ n ≤ 17 ∧ Aside0 (kq + n = 17) ∧ Aside0 (Kd.R (Kd.int .i64) 3 w' w2.heap.size (fun _ => True) v1 (codesTo l0 n 0)) ∧ Aside0 (Below w2.heap.size w2 w'))
    case atStart => exact ⟨0, rfl, by omega, ⟨rfl⟩, HO, HB3⟩
    case round =>
      clear HO HB3
      obtain ⟨n, rfl, hn, HN, HO, HB3⟩ := hrel
      obtain ⟨wo, rfl⟩ : ∃ wo : World, wo = wr := ⟨_, rfl⟩
      obtain ⟨ko, rfl⟩ : ∃ ko : Nat, ko = gk := ⟨_, rfl⟩
      by_cases hlt : n < 17
      · obtain ⟨As, cs, hs1, hs2, hs3⟩ := HB.out.syms n hlt
        obtain ⟨hf1, hf2⟩ := HB.out.first n hlt
        have HF := Aside0.mk hf1
        have HS := Aside0.mk (And.intro hs2 hs3)
        have hSl : (symsTo l0 l0.length n).length ≤ 300 := Nat.le_trans (symsTo_len _ _ _) hx1
        obtain ⟨S, hS⟩ : ∃ S, S = symsTo l0 l0.length n := ⟨_, rfl⟩
        rw [← hS] at hs1 HS hSl
        have HSe := Aside0.mk hS
        replace hs1 := pw_cell_below HB3.out hs1
        clear hs2 hs3 hS hf1 hf2
        have hn17 : (n : Int) < 17 := by omega
        go_wp2_with fail
        go_loopg [30] S.length (fun kq v30 w' => ∃ i : Nat, v30 = .int .i64 i ∧ i ≤ S.length ∧ Aside0 (kq + i = S.length) ∧ Aside0 (Kd.R (Kd.int .i64) 3 w' w2.heap.size (fun _ => True) v1 (codesTo l0 n i)) ∧ Aside0 (Below w2.heap.size w2 w'))
        case atStart => exact ⟨0, rfl, by omega, ⟨rfl⟩, HO, HB3⟩
        case round =>
          clear HO hs1
          obtain ⟨i, rfl, hi, HI, HO, HB4⟩ := hrel
          by_cases hlt2 : i < S.length
          · obtain ⟨j0, hj0, hje, hjn, hn0, hjr⟩ := symsTo_at l0 n i l0.length (by rw [← HSe.out]; exact hlt2)
            obtain ⟨ad, rfl, hcell⟩ := Kd.at_int (Kd.C_below HS.out.2 HB4.out) (i : Int) (by omega) (by omega)
            rw [Int.toNat_natCast, show rd S (i : Int) = (j0 : Int) from by unfold rd; rw [Int.toNat_natCast, HSe.out]; exact hje] at hcell
            have hff := pw_cell_below HB4.out HF.out
            have hF := openF_le l0 (by omega) n (by omega)
            have hlen := codesTo_length l0 n i
            obtain ⟨go, co, e1, ho1, ho2, _⟩ := Kd.R_form HO.out (by rw [hlen]; omega)
            rw [hlen] at e1
            subst e1
            obtain ⟨q1, q2⟩ := Kd.R_celln 0 HO.out (j0 : Int) (by omega) (by omega)
            have hP := Kd.R_putn HO.out (j0 : Int) ((openF l0 n : Int) + i)
            rw [Int.toNat_natCast] at q1 q2 hP
            rw [codesTo_step l0 hjn hn0 hjr] at hP
            have HP := Aside0.mk hP
            have HE := Aside0.mk (And.intro hje (And.intro hjn (And.intro hn0 (And.intro hjr (And.intro ho1 ho2)))))
            clear hje hjn hn0 hjr hP hlen ho1 ho2
            go_wp2_with fail
            go_roundg (gk - 1)
            case measure => have := HI.out; omega
            case rel => exact ⟨i + 1, by go_num, by omega, ⟨by have := HI.out; omega⟩, HP, ⟨HB4.out.setCell HE.out.2.2.2.2.1 _⟩⟩
          · have hie : i = S.length := by omega
            subst hie
            have h2 := HO.out
            rw [HSe.out, codesTo_next l0 n HX.out] at h2
            have HO2 := Aside0.mk h2
            clear h2
            go_wp2_with fail
            go_roundg (ko - 1)
            case measure => have := HN.out; omega
            case rel => exact ⟨n + 1, by go_num, by omega, ⟨by have := HN.out; omega⟩, HO2, HB4⟩
      · have hn2 : n = 17 := by omega
        subst hn2
        go_wp2_with fail
        go_ret2
        have h2 := HO.out
        rw [codesTo_end l0 HX.out] at h2
        exact ⟨_, rfl, Kd.R_lower h2 HSz.out, below_then HL.out HSz.out HB3.out⟩
  · have h := H.out
    rw [if_neg hq0] at h
    simp only [Option.some.injEq, Prod.mk.injEq] at h
    obtain ⟨rfl, rfl⟩ := h
    have d0 : (q != 0) = true := bne_iff_ne.2 hq0
    go_wp2_with fail
    go_ret2
    exact ⟨_, rfl, Kd.R_nil _ _ _ _ _, HD.out⟩

-- PART
end Go.Proofs.Ytfghmdjlhfclaaa.P
