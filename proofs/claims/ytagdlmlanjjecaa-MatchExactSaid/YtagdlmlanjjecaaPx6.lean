-- Written by a program of this session out of the translation. Lean checks it.
import Derived.Test.YtagdlmlanjjecaaPx0
import Derived.Test.YtagdlmlanjjecaaPx2
import Derived.Test.YtagdlmlanjjecaaPx4
import Derived.Test.YtagdlmlanjjecaaPx5
namespace Go.Proofs.Ytagdlmlanjjecaa.P
open Go.RowKit Go.Proofs.YtagdlmlanjjecaaW.PrintWords Go.Proofs.YtagdlmlanjjecaaW.PrintLast Go.Proofs.YtagdlmlanjjecaaW.PrintMore
attribute [local go_sem] max2_int min2_int max_two min_two max_three min_three max_four min_four   -- for this text's walks alone
set_option linter.unusedVariables false
set_option linter.unusedSimpArgs false

-- PART
/-! ### match_Tokens: function 14 (by hand) -/
theorem comF_len (l : List Int) (p i : Nat) : ∀ f n, i + n ≤ l.length → i + comF l p i f n ≤ l.length
  | 0, n, h => by simpa [comF] using h
  | f + 1, n, h => by
    simp only [comF]
    split
    · rename_i h1
      exact comF_len l p i f (n + 1) (by omega)
    · exact h
theorem pick_len (l : List Int) (i : Nat) (hi : i ≤ l.length) : ∀ ps a, a.1 ≤ 258 ∧ i + a.1 ≤ l.length → (pick l i ps a).1 ≤ 258 ∧ i + (pick l i ps a).1 ≤ l.length
  | [], a, h => h
  | p :: ps, a, h => by
    simp only [pick]
    split
    · split
      · exact pick_len l i hi ps _ ⟨com_le l _ i, comF_len l _ i 258 0 (by omega)⟩
      · exact pick_len l i hi ps _ h
    · exact h
theorem bestL_len (G : Int → Int → Int → List Int) (l : List Int) (i : Nat) (hi : i ≤ l.length) : (bestL G l i).1 ≤ 258 ∧ i + (bestL G l i).1 ≤ l.length := by
  unfold bestL
  split
  · exact ⟨by simp, by simpa using hi⟩
  · exact pick_len l i hi _ _ ⟨by simp, by simpa using hi⟩
/-- The tokens from a place on. -/
def toks (l : List Int) : Nat → Nat → List S40
  | 0, _ => []
  | f + 1, i => if i < l.length then (if (bestL (noted l i) l i).1 = 0 then ⟨l.getD i 0, 0, 0⟩ :: toks l f (i + 1) else ⟨0, ((bestL (noted l i) l i).1 : Int), ((bestL (noted l i) l i).2 : Int)⟩ :: toks l f (i + (bestL (noted l i) l i).1)) else []
theorem toks_fuel (l : List Int) : ∀ f f' i, l.length ≤ i + f → l.length ≤ i + f' → toks l f i = toks l f' i := by
  intro f
  induction f with
  | zero =>
    intro f' i h h'
    cases f' with
    | zero => rfl
    | succ f' => simp only [toks]; rw [if_neg (by omega)]
  | succ f ih =>
    intro f' i h h'
    cases f' with
    | zero => simp only [toks]; rw [if_neg (by omega)]
    | succ f' =>
      simp only [toks]
      split
      · split
        · rw [ih f' (i + 1) (by omega) (by omega)]
        · rw [ih f' _ (by omega) (by omega)]
      · rfl
def match_Tokens.f (l0 : List Int) : Option (List S40 × Int) :=
  if l0.all (fun x => (Lit.int .u8 x).wf) = true then (if (l0.length : Int) > 4096 then some ([], 2) else some (toks l0 l0.length 0, 0)) else none
theorem out_stay {w w' : World} {base g : Nat} {es : Array MapEntry} {clock : Nat} {v : Value} {xs : List S40} (h : Kd.R k40 40 w base (fun _ => True) v xs) (hg : w.heap[g]? = some (.map es clock)) (hk : KeptT w w' g) : Kd.R k40 40 w' base (fun _ => True) v xs := by
  refine Kd.R_mono (Kd.R_move (Kd.R_bound h) (fun k hk' => ?_)) (fun _ _ => trivial)
  obtain ⟨_, _, hlt, q, hq, cs, hc⟩ := hk'
  have hq40 : q = 40 := by simpa [k40, Kd.iso, Kd.pair, Kd.int, Kd.scalar] using hq
  subst hq40
  exact hk.2 k hlt (by rintro rfl; rw [hg] at hc; cases hc) (fun cs' hc' => by rw [hc] at hc'; injection hc' with hc'; injection hc' with _ hc'; cases hc')
theorem seen_grown {W w' : World} {base g n : Nat} {G : Int → Int → Int → List Int} {v : Value} {xs : List S40} (h : Seen W base g n G) (ho : Kd.R k40 40 W base (fun _ => True) v xs) (hg : W.grownBy w' v.ownBlock) : Seen w' base g n G := by
  obtain ⟨es, clock, hgm, _⟩ := id h
  refine h.stay (fun k hb hlt hk => hg.block k hlt (fun e => ?_))
  obtain ⟨inner, how⟩ := Kd.R_own ho
  obtain ⟨cs, hc⟩ := own_typed how k e.symm
  rcases hk with rfl | ⟨cs', hc'⟩
  · rw [hgm] at hc; cases hc
  · rw [hc] at hc'; injection hc' with hc'; injection hc' with _ hc'; cases hc'
set_option maxHeartbeats 8000000 in
set_option maxRecDepth 100000 in
theorem match_Tokens.calls (A0 : Option Addr) (c0 : Nat) (l0 : List Int) (r1 : List (S40)) (r2 : Int) (w : World) (hr0 : Kd.C (Kd.int .u8) w A0 l0.length l0) (hc0 : l0.length ≤ c0) (h : match_Tokens.f l0 = some (r1, r2)) :
    Calls Try.prog 14 #[.slice A0 l0.length c0] w fun e w' => ∃ v0_ : Value, e = .returned (.tuple #[v0_, .int .i64 r2]) ∧ Kd.R k40 40 w' w.heap.size (fun _ => True) v0_ r1 ∧ Below w.heap.size w w' := by
  unfold match_Tokens.f at h
  by_cases hwf : l0.all (fun x => (Lit.int .u8 x).wf) = true
  · rw [if_pos hwf] at h
    have hw : ∀ x ∈ l0, (Lit.int .u8 x).wf = true := fun x hx => List.all_eq_true.1 hwf x hx
    have HW := Aside0.mk hw
    have HR := Aside0.mk hr0
    have HC := Aside0.mk hc0
    clear hwf hw hr0 hc0
    have hmm := @run_makeMap Try.prog
    have hu40 := Try.underlying40
    by_cases h2 : (l0.length : Int) > 4096
    · rw [if_pos h2] at h
      simp only [Option.some.injEq, Prod.mk.injEq] at h
      obtain ⟨rfl, rfl⟩ := h
      go_enter Try.func14, Try.ntmps14
      go_wp2_with fail
      go_ret2
      exact ⟨_, rfl, Kd.R_nil _ _ _ _ _, Below.refl _ _⟩
    · rw [if_neg h2] at h
      simp only [Option.some.injEq, Prod.mk.injEq] at h
      obtain ⟨rfl, rfl⟩ := h
      have hl : l0.length ≤ 4096 := by omega
      have HS := Aside0.mk (seen_made w w.heap.size (Nat.le_refl _))
      have HB := Aside0.mk (below_alloc (Below.refl w.heap.size w) (.map #[] 0))
      have HO := Aside0.mk (Kd.R_nil k40 40 (w.alloc (.map #[] 0)) w.heap.size (fun _ => True))
      go_enter Try.func14, Try.ntmps14
      go_wp2_with fail
      go_loopg [4, 6] l0.length (fun kq v4 v6 w' => ∃ (i : Nat) (out : List S40), v6 = .int .i64 i ∧ i ≤ l0.length ∧ Aside0 (kq + i = l0.length) ∧ Aside0 (out ++ toks l0 l0.length i = toks l0 l0.length 0) ∧ Aside0 (out.length ≤ i) ∧ Aside0 (Seen w' w.heap.size w.heap.size i (noted l0 i)) ∧ Aside0 (Kd.R k40 40 w' w.heap.size (fun _ => True) v4 out) ∧ Aside0 (Below w.heap.size w w'))
      case atStart => exact ⟨0, [], rfl, Nat.zero_le _, ⟨rfl⟩, ⟨rfl⟩, ⟨Nat.le_refl _⟩, HS, HO, HB⟩
      case round =>
        clear HS HB HO
        obtain ⟨i, out, rfl, hi, HK, HT, HN, HS, HO, HB⟩ := hrel
        obtain ⟨Ao, co, rfl⟩ := Kd.R_slice HO.out
        by_cases hlt : i < l0.length
        · go_wp2_with fail
          refine (seen_best w.heap.size i w.heap.size (noted l0 i) _ _ l0 i wr HS.out (Kd.C_below HR.out HB.out) HC.out HW.out (by omega) (by omega) (by omega) (fun x y z p => noted_lt l0 i x y z p)).mono ?_
          rintro e1 w2 ⟨rfl, hb2⟩
          obtain ⟨n, en⟩ : ∃ n, n = (bestL (noted l0 i) l0 i).1 := ⟨_, rfl⟩
          obtain ⟨d, ed⟩ : ∃ d, d = (bestL (noted l0 i) l0 i).2 := ⟨_, rfl⟩
          have hbl := bestL_len (noted l0 i) l0 i (by omega)
          rw [← en] at hbl
          rw [← en, ← ed]
          have EN := Aside0.mk (And.intro en ed)
          have HS2 := Aside0.mk (HS.out.below hb2)
          have HO2 := Aside0.mk (Kd.R_below HO.out hb2)
          have HB2 := Aside0.mk (HB.out.trans (hb2.mono HB.out.size))
          clear en ed hb2 HS HO HB
          by_cases hn0 : n = 0
          · have hb0 : ((n : Int) == 0) = true := by rw [beq_iff_eq]; omega
            obtain ⟨ad, e0, hx0⟩ := Kd.at_int (Kd.C_below HR.out HB2.out) (i : Int) (by omega) (by omega)
            subst e0
            rw [Int.toNat_natCast] at hx0
            obtain ⟨x, ex⟩ : ∃ x, x = l0.getD i 0 := ⟨_, rfl⟩
            rw [show rd l0 (i : Int) = x from by rw [ex]; unfold rd; rw [Int.toNat_natCast]] at hx0
            have EX := Aside0.mk ex
            clear ex
            have EN0 := Aside0.mk hn0
            have hxa := pw_cell_below (below_alloc (Below.refl w2.heap.size w2) (.cells #[.int .u8 0, .int .i64 (n : Int), .int .i64 (d : Int)] 40 (0, 0))) hx0
            clear hn0
            go_wp2_with (at_builtin; go_must (refine Kd.R_append k40 (w0 := w) w.heap.size rfl (.tmp 35) (.tmp 37) 23 40 (.agg #[.int .u8 0, .int .i64 0, .int .i64 0]) 24 rfl Try.underlying23 info40 rfl (by decide) (by omega) (.slice Ao out.length co) out ⟨x, 0, 0⟩ [.int .u8 x, .int .i64 0, .int .i64 0] (fun _ => True) (fun _ => False) (by first | rfl | (simp; done) | (simp; rfl) | done) (by first | rfl | (simp [alloc_heap_size]; done) | (simp; rfl) | done) (k40_mkM _ _ _ ⟨x, 0, 0⟩) (fun _ hk => hk.elim) (fun _ _ => trivial) (Kd.R_alloc HO2.out _) (below_alloc HB2.out _) (below_size (below_alloc HB2.out _)) (by have := HN.out; omega) ?_; intro v1 w3 ho3 hb3 hg3 hat3; (have HS3 := Aside0.mk (seen_grown (HS2.out.below (below_alloc (Below.refl _ _) _)) (Kd.R_alloc HO2.out _) hg3)); (have HO3 := Aside0.mk ho3); (have HB3 := Aside0.mk hb3); clear ho3 hb3 hg3 hat3 HS2 HO2 HB2))
            go_loopg [6, 40] 1 (fun kq v6 v40 w' => ∃ j : Nat, v6 = .int .i64 ((i + j : Nat) : Int) ∧ v40 = .int .i64 j ∧ j ≤ 1 ∧ Aside0 (kq + j = 1) ∧ Aside0 (Seen w' w.heap.size w.heap.size (i + j) (noted l0 (i + j))) ∧ Aside0 (Kd.R k40 40 w' w.heap.size (fun _ => True) v1 (out ++ [⟨x, 0, 0⟩])) ∧ Aside0 (Below w.heap.size w w'))
            case atStart => exact ⟨0, by go_num, by go_num, by omega, ⟨rfl⟩, HS3, HO3, HB3⟩
            case round =>
              clear HS3 HO3 HB3
              obtain ⟨j, rfl, rfl, hj, HK2, HS, HO, HB⟩ := hrel
              by_cases hlt2 : j < 1
              · go_wp2_with fail
                refine (seen_add w.heap.size (i + j) (noted l0 (i + j)) _ _ l0 (i + j) w _ HB.out HS.out (Kd.C_below HR.out HB.out) HC.out HW.out (by omega) (by omega) (by omega)).mono ?_
                rintro e1 w4 ⟨rfl, hs4, hb4, hk4⟩
                have HS4 := Aside0.mk hs4
                have HB4 := Aside0.mk hb4
                have HO4 : Aside0 (Kd.R k40 40 w4 w.heap.size (fun _ => True) v1 (out ++ [⟨x, 0, 0⟩])) := ⟨by
                  obtain ⟨es, clock, hgm, _⟩ := HS.out
                  exact out_stay HO.out hgm hk4⟩
                clear hs4 hb4 hk4 HS HB HO
                go_wp2_with fail
                go_roundg (1 - (j + 1))
                case measure => have := HK2.out; omega
                case rel => exact ⟨j + 1, by go_num, by go_num, by omega, ⟨by omega⟩, HS4, HO4, HB4⟩
              · obtain rfl : j = 1 := by omega
                go_wp2_with fail
                go_roundg (l0.length - (i + 1))
                case measure => have := HK.out; omega
                case rel =>
                  refine ⟨i + 1, (out ++ [⟨x, 0, 0⟩]), rfl, by omega, ⟨by omega⟩, ⟨?_⟩, ⟨by have := HN.out; simp; omega⟩, HS, HO, HB⟩
                  rw [← HT.out, List.append_assoc]
                  congr 1
                  rw [toks_fuel l0 l0.length (l0.length + 1) i (by omega) (by omega)]
                  simp only [toks]
                  rw [if_pos hlt, if_pos (EN.out.1 ▸ EN0.out), EX.out]; rfl
          · have hb0 : ((n : Int) == 0) = false := by rw [beq_eq_false_iff_ne]; omega
            go_wp2_with (at_builtin; go_must (refine Kd.R_append k40 (w0 := w) w.heap.size rfl (.tmp 35) (.tmp 37) 23 40 (.agg #[.int .u8 0, .int .i64 0, .int .i64 0]) 24 rfl Try.underlying23 info40 rfl (by decide) (by omega) (.slice Ao out.length co) out ⟨0, (n : Int), (d : Int)⟩ [.int .u8 0, .int .i64 (n : Int), .int .i64 (d : Int)] (fun _ => True) (fun _ => False) (by first | rfl | (simp; done) | (simp; rfl) | done) (by first | rfl | (simp [alloc_heap_size]; done) | (simp; rfl) | done) (k40_mkM _ _ _ ⟨0, (n : Int), (d : Int)⟩) (fun _ hk => hk.elim) (fun _ _ => trivial) (Kd.R_alloc HO2.out _) (below_alloc HB2.out _) (below_size (below_alloc HB2.out _)) (by have := HN.out; omega) ?_; intro v1 w3 ho3 hb3 hg3 hat3; (have HS3 := Aside0.mk (seen_grown (HS2.out.below (below_alloc (Below.refl _ _) _)) (Kd.R_alloc HO2.out _) hg3)); (have HO3 := Aside0.mk ho3); (have HB3 := Aside0.mk hb3); clear ho3 hb3 hg3 hat3 HS2 HO2 HB2))
            go_loopg [6, 40] n (fun kq v6 v40 w' => ∃ j : Nat, v6 = .int .i64 ((i + j : Nat) : Int) ∧ v40 = .int .i64 j ∧ j ≤ n ∧ Aside0 (kq + j = n) ∧ Aside0 (Seen w' w.heap.size w.heap.size (i + j) (noted l0 (i + j))) ∧ Aside0 (Kd.R k40 40 w' w.heap.size (fun _ => True) v1 (out ++ [⟨0, (n : Int), (d : Int)⟩])) ∧ Aside0 (Below w.heap.size w w'))
            case atStart => exact ⟨0, by go_num, by go_num, by omega, ⟨rfl⟩, HS3, HO3, HB3⟩
            case round =>
              clear HS3 HO3 HB3
              obtain ⟨j, rfl, rfl, hj, HK2, HS, HO, HB⟩ := hrel
              by_cases hlt2 : j < n
              · go_wp2_with fail
                refine (seen_add w.heap.size (i + j) (noted l0 (i + j)) _ _ l0 (i + j) w _ HB.out HS.out (Kd.C_below HR.out HB.out) HC.out HW.out (by omega) (by omega) (by omega)).mono ?_
                rintro e1 w4 ⟨rfl, hs4, hb4, hk4⟩
                have HS4 := Aside0.mk hs4
                have HB4 := Aside0.mk hb4
                have HO4 : Aside0 (Kd.R k40 40 w4 w.heap.size (fun _ => True) v1 (out ++ [⟨0, (n : Int), (d : Int)⟩])) := ⟨by
                  obtain ⟨es, clock, hgm, _⟩ := HS.out
                  exact out_stay HO.out hgm hk4⟩
                clear hs4 hb4 hk4 HS HB HO
                go_wp2_with fail
                go_roundg (n - (j + 1))
                case measure => have := HK2.out; omega
                case rel => exact ⟨j + 1, by go_num, by go_num, by omega, ⟨by omega⟩, HS4, HO4, HB4⟩
              · obtain rfl : n = j := by omega
                go_wp2_with fail
                go_roundg (l0.length - (i + n))
                case measure => have := HK.out; omega
                case rel =>
                  refine ⟨i + n, (out ++ [⟨0, (n : Int), (d : Int)⟩]), rfl, by omega, ⟨by omega⟩, ⟨?_⟩, ⟨by have := HN.out; simp; omega⟩, HS, HO, HB⟩
                  rw [← HT.out, List.append_assoc]
                  congr 1
                  rw [toks_fuel l0 l0.length (l0.length + 1) i (by omega) (by omega)]
                  simp only [toks]
                  rw [if_pos hlt, if_neg (fun h => hn0 (EN.out.1.trans h)), ← EN.out.1, ← EN.out.2]; rfl
        · go_wp2_with fail
          go_ret2
          have hT := HT.out
          rw [toks_fuel l0 l0.length 0 i (by omega) (by omega)] at hT
          simp only [toks, List.append_nil] at hT
          exact ⟨_, rfl, by rw [← hT]; exact HO.out, HB.out⟩
  · rw [if_neg hwf] at h
    cases h

-- PART
end Go.Proofs.Ytagdlmlanjjecaa.P
