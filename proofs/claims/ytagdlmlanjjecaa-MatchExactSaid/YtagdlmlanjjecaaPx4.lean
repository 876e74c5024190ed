-- Written by a program of this session out of the translation. Lean checks it.
import Derived.Test.YtagdlmlanjjecaaPx0
import Derived.Test.YtagdlmlanjjecaaPx2
import Derived.Test.YtagdlmlanjjecaaPx3
namespace Go.Proofs.Ytagdlmlanjjecaa.P
open Go.RowKit Go.Proofs.YtagdlmlanjjecaaW.PrintWords Go.Proofs.YtagdlmlanjjecaaW.PrintLast Go.Proofs.YtagdlmlanjjecaaW.PrintMore
attribute [local go_sem] max2_int min2_int max_two min_two max_three min_three max_four min_four   -- for this text's walks alone
set_option linter.unusedVariables false
set_option linter.unusedSimpArgs false

-- PART
/-! ### match_seen_best: function 28 (by hand) -/
/-- For how many bytes, at most so many more, two places go alike. -/
def comF (l : List Int) (p i : Nat) : Nat → Nat → Nat
  | 0, n => n
  | f + 1, n => if i + n < l.length ∧ l.getD (p + n) 0 = l.getD (i + n) 0 then comF l p i f (n + 1) else n
def com (l : List Int) (p i : Nat) : Nat := comF l p i 258 0
theorem comF_le (l : List Int) (p i : Nat) : ∀ f n, comF l p i f n ≤ n + f
  | 0, n => by simp [comF]
  | f + 1, n => by
    simp only [comF]
    split
    · have := comF_le l p i f (n + 1); omega
    · omega
theorem com_le (l : List Int) (p i : Nat) : com l p i ≤ 258 := by have := comF_le l p i 258 0; unfold com; omega
theorem common_loop (l : List Int) (p i : Nat) (hp : p ≤ i) (hl : l.length ≤ 1000000) (hi : i ≤ 1000000) : ∀ (f n k : Nat), n + f = 258 → f < k → match_common.l0 k l (p : Int) (i : Int) (n : Int) = some ((comF l p i f n : Nat) : Int) := by
  have wi : ∀ a : Int, 0 ≤ a → a ≤ 3000000 → wrap64 a = a := fun a h0 h1 => by unfold wrap64; omega
  intro f
  induction f with
  | zero =>
    intro n k hn hk
    obtain ⟨k, rfl⟩ : ∃ m, k = m + 1 := ⟨k - 1, by omega⟩
    simp only [match_common.l0, comF]
    rw [if_neg (by omega)]
  | succ f ih =>
    intro n k hn hk
    obtain ⟨k, rfl⟩ : ∃ m, k = m + 1 := ⟨k - 1, by omega⟩
    simp only [match_common.l0, comF]
    rw [if_pos (by omega), wi _ (by omega) (by omega)]
    by_cases h1 : i + n < l.length
    · rw [if_pos (by omega), wi _ (by omega) (by omega), if_pos (by omega), if_pos (by omega), if_pos (by omega), show (p : Int) + (n : Int) = ((p + n : Nat) : Int) from by omega, show (i : Int) + (n : Int) = ((i + n : Nat) : Int) from by omega]
      unfold rd
      rw [Int.toNat_natCast, Int.toNat_natCast, wi _ (by omega) (by omega), show (n : Int) + 1 = ((n + 1 : Nat) : Int) from by omega]
      by_cases h2 : l.getD (p + n) 0 = l.getD (i + n) 0
      · rw [if_pos h2, if_pos ⟨h1, h2⟩]
        exact ih (n + 1) k (by omega) (by omega)
      · rw [if_neg h2, if_neg (fun h => h2 h.2)]
    · rw [if_neg (by omega), if_neg (fun h => h1 h.1)]
theorem common_is (l : List Int) (p i : Nat) (hp : p ≤ i) (hl : l.length ≤ 1000000) (hi : i ≤ 1000000) : match_common.f 300 l (p : Int) (i : Int) = some ((com l p i : Nat) : Int) := common_loop l p i hp hl hi 258 0 300 rfl (by omega)
/-- The longest piece among these places, the nearest first. -/
def pick (l : List Int) (i : Nat) : List Int → Nat × Nat → Nat × Nat
  | [], a => a
  | p :: ps, a => if (i : Int) - p ≤ 2048 then (if com l p.toNat i > a.1 then pick l i ps (com l p.toNat i, i - p.toNat) else pick l i ps a) else a
def bestL (G : Int → Int → Int → List Int) (l : List Int) (i : Nat) : Nat × Nat := if l.length < i + 3 then (0, 0) else pick l i (G (l.getD i 0) (l.getD (i + 1) 0) (l.getD (i + 2) 0)).reverse (0, 0)
set_option maxHeartbeats 8000000 in
set_option maxRecDepth 100000 in
theorem seen_best (g n base : Nat) (G : Int → Int → Int → List Int) (A0 : Option Addr) (c0 : Nat) (l0 : List Int) (i : Nat) (w : World) (hS : Seen w base g n G)
    (hr0 : Kd.C (Kd.int .u8) w A0 l0.length l0) (hc0 : l0.length ≤ c0) (hw : ∀ x ∈ l0, (Lit.int .u8 x).wf = true) (hn : n + 1 ≤ 1000000) (hi : i < l0.length) (hl : l0.length ≤ 1000000)
    (hG : ∀ x y z p, p ∈ G x y z → 0 ≤ p ∧ p < i) :
    Calls Try.prog 28 #[.map (some g), .slice A0 l0.length c0, .int .i64 i] w fun e w' => e = .returned (.tuple #[.int .i64 ((bestL G l0 i).1 : Int), .int .i64 ((bestL G l0 i).2 : Int)]) ∧ Below w.heap.size w w' := by
  have HS := Aside0.mk hS
  have HR := Aside0.mk hr0
  have HW := Aside0.mk hw
  have HG := Aside0.mk hG
  have HC := Aside0.mk hc0
  clear hS hr0 hw hG hc0
  by_cases h3 : l0.length < i + 3
  · go_enter Try.func28, Try.ntmps28
    go_wp2_with fail
    go_ret2
    unfold bestL
    rw [if_pos h3]
    exact ⟨rfl, Below.refl _ _⟩
  · obtain ⟨ad, e0, hx0⟩ := Kd.at_int HR.out (i : Int) (by omega) (by omega)
    obtain ⟨ad1, e1, hx1⟩ := Kd.at_int HR.out ((i : Int) + 1) (by omega) (by omega)
    obtain ⟨ad2, e2, hx2⟩ := Kd.at_int HR.out ((i : Int) + 2) (by omega) (by omega)
    subst e0
    injection e1 with e1
    injection e2 with e2
    subst e1 e2
    obtain ⟨j1, hj1⟩ : ∃ j : Nat, j = i + 1 := ⟨_, rfl⟩
    obtain ⟨j2, hj2⟩ : ∃ j : Nat, j = i + 2 := ⟨_, rfl⟩
    rw [Int.toNat_natCast] at hx0
    rw [show (i : Int) + 1 = (j1 : Int) from by omega, Int.toNat_natCast] at hx1
    rw [show (i : Int) + 2 = (j2 : Int) from by omega, Int.toNat_natCast] at hx2
    obtain ⟨x, ex⟩ : ∃ x, x = rd l0 (i : Int) := ⟨_, rfl⟩
    obtain ⟨y, ey⟩ : ∃ x, x = rd l0 (j1 : Int) := ⟨_, rfl⟩
    obtain ⟨z, ez⟩ : ∃ x, x = rd l0 (j2 : Int) := ⟨_, rfl⟩
    rw [← ex] at hx0
    rw [← ey] at hx1
    rw [← ez] at hx2
    have hwf := HW.out
    have hWF : WF3 x y z := by
      rw [ex, ey, ez]
      unfold rd
      rw [Int.toNat_natCast, Int.toNat_natCast, Int.toNat_natCast]
      refine ⟨hwf _ ?_, hwf _ ?_, hwf _ ?_⟩ <;> (rw [List.getD_eq_getElem?_getD, List.getElem?_eq_getElem (by omega)]; exact List.getElem_mem _)
    have hd1 : Below w.heap.size w w.drew := (Below.refl _ _).drew
    obtain ⟨Ap, cp, hrunL, hcp, hCp⟩ := seen_look HS.out (by unfold maxLen; omega) hWF
    have hrunL0 := hrunL w (Below.refl _ _)
    have hrunL1 := hrunL w.drew hd1
    unfold key3 at hrunL0 hrunL1
    have HX := Aside0.mk (And.intro ex (And.intro ey (And.intro ez (And.intro hj1 (And.intro hj2 (And.intro hCp hcp))))))
    have hu57 := Try.underlying57
    have hP := HG.out x y z
    have hPn : (G x y z).length ≤ 1000000 := by
      obtain ⟨es, clock, hg, hb, hs, hsz, he, ha, hall, hlen⟩ := HS.out
      exact Nat.le_trans (hlen x y z) (by omega)
    generalize hPP : G x y z = P at *
    have HPP := Aside0.mk hPP
    have HP := Aside0.mk hP
    have f1 : IntKind.i64.wrap ((i : Int) + 1) = (j1 : Int) := by rw [IntWalk.i64_in _ (by omega)]; omega
    have f2 : IntKind.i64.wrap ((i : Int) + 2) = (j2 : Int) := by rw [IntWalk.i64_in _ (by omega)]; omega
    have f7 : (j1 : Int) < (l0.length : Int) := by omega
    have f8 : (j2 : Int) < (l0.length : Int) := by omega
    clear ex ey ez hj1 hj2 hwf hWF hd1 hrunL hCp hcp hP hPP
    go_enter Try.func28, Try.ntmps28
    go_wp2_with fail
    go_region_held3 (fun w' => w'.cell? (ad.add i) = some (.int .u8 x) ∧ w'.cell? (ad.add j1) = some (.int .u8 y) ∧ w'.cell? (ad.add j2) = some (.int .u8 z)) (first | exact ⟨hx0, hx1, hx2⟩ | go_keep) (first | fail)
    have hb0 := Aside0.mk ((Below.refl w.heap.size w).drew)
    have hF : Aside0 (pick l0 i (P.take P.length).reverse (0, 0) = bestL G l0 i) := ⟨by
      obtain ⟨ex, ey, ez, ej1, ej2, _⟩ := HX.out
      unfold rd at ex ey ez
      rw [Int.toNat_natCast] at ex ey ez
      unfold bestL
      rw [if_neg h3, List.take_length, ← HPP.out, ex, ey, ez, ej1, ej2]⟩
    clear hrunL0 hrunL1 hx0 hx1 hx2 f1 f2 f7 f8 hu57
    go_wp2_with fail
    go_loopg [6, 7, 9] P.length (fun kq v6 v7 v9 w' => ∃ (n1 d1 m : Nat), v6 = .int .i64 n1 ∧ v7 = .int .i64 d1 ∧ v9 = .int .i64 ((m : Int) - 1) ∧ n1 ≤ 258 ∧ m ≤ P.length ∧ Aside0 (kq = m) ∧ Aside0 (pick l0 i (P.take m).reverse (n1, d1) = bestL G l0 i) ∧ Aside0 (Below w.heap.size w w'))
    case atStart => exact ⟨0, 0, P.length, rfl, rfl, by go_num, by omega, Nat.le_refl _, ⟨rfl⟩, hF, hb0⟩
    case round =>
      clear hb0 hF
      obtain ⟨n1, d1, m, rfl, rfl, rfl, hn1, hm, HK, HF, HB⟩ := hrel
      cases m with
      | zero =>
        go_wp2_with fail
        go_ret2
        have := HF.out
        simp only [List.take_zero, List.reverse_nil, pick] at this
        rw [← this]
        exact ⟨rfl, HB.out⟩
      | succ m =>
        rw [show (((m + 1 : Nat) : Int) - 1) = (m : Int) from by omega]
        obtain ⟨ap, ea, hxp⟩ := Kd.at_int (Kd.C_below HX.out.2.2.2.2.2.1 HB.out) (m : Int) (by omega) (by omega)
        subst ea
        rw [Int.toNat_natCast] at hxp
        obtain ⟨p, ep⟩ : ∃ p, p = rd P (m : Int) := ⟨_, rfl⟩
        rw [← ep] at hxp
        have hpm : p ∈ P := by
          rw [ep]; unfold rd
          rw [Int.toNat_natCast, List.getD_eq_getElem?_getD, List.getElem?_eq_getElem (by omega)]
          exact List.getElem_mem _
        obtain ⟨hp0, hp1⟩ := HP.out p hpm
        obtain ⟨p, rfl⟩ := Int.eq_ofNat_of_zero_le hp0
        have htake : Aside0 ((P.take (m + 1)).reverse = (p : Int) :: (P.take m).reverse) := ⟨by
          rw [List.take_succ_eq_append_getElem (by omega), List.reverse_append, List.reverse_singleton, ep]
          unfold rd
          rw [Int.toNat_natCast, List.getD_eq_getElem?_getD, List.getElem?_eq_getElem (by omega)]
          rfl⟩
        have EP := Aside0.mk ep
        clear ep hpm
        by_cases hd : (i : Int) - (p : Int) ≤ 2048
        · have hcc := com_le l0 p i
          have hcom := Aside0.mk (common_is l0 p i (by omega) hl (by omega))
          obtain ⟨c, ec⟩ : ∃ c, c = com l0 p i := ⟨_, rfl⟩
          rw [← ec] at hcc hcom
          have EC := Aside0.mk ec
          clear ec
          go_wp2_with fail
          refine (match_common.calls 300 _ _ l0 (p : Int) (i : Int) (c : Int) wr (Kd.C_below HR.out HB.out) HC.out hcom.out).mono ?_
          rintro e1 w2 ⟨rfl, hdr⟩
          have HB2 := Aside0.mk (HB.out.trans (hdr.below.mono HB.out.size))
          obtain ⟨ap2, ea2, hxp2⟩ := Kd.at_int (Kd.C_below HX.out.2.2.2.2.2.1 HB2.out) (m : Int) (by omega) (by omega)
          injection ea2 with ea2
          subst ea2
          rw [Int.toNat_natCast] at hxp2
          rw [show rd P (m : Int) = (p : Int) from EP.out.symm] at hxp2
          by_cases hgt : n1 < c
          · go_wp2_with fail
            go_region
            go_wp2_with fail
            go_roundg m
            case measure => have := HK.out; omega
            case rel =>
              refine ⟨c, i - p, m, rfl, ?_, rfl, hcc, by omega, ⟨rfl⟩, ⟨?_⟩, ⟨HB2.out.drew⟩⟩
              · go_num
              · rw [← HF.out, htake.out]
                simp only [pick]
                rw [if_pos hd, Int.toNat_natCast, ← EC.out, if_pos hgt]
          · go_wp2_with fail
            go_roundg m
            case measure => have := HK.out; omega
            case rel =>
              refine ⟨n1, d1, m, rfl, rfl, rfl, hn1, by omega, ⟨rfl⟩, ⟨?_⟩, HB2⟩
              rw [← HF.out, htake.out]
              simp only [pick]
              rw [if_pos hd, Int.toNat_natCast, ← EC.out, if_neg hgt]
        · go_wp2_with fail
          go_ret2
          have := HF.out
          rw [htake.out] at this
          simp only [pick] at this
          rw [if_neg (by omega)] at this
          rw [← this]
          exact ⟨rfl, HB.out⟩

-- PART
end Go.Proofs.Ytagdlmlanjjecaa.P
