-- Written by a program of this session out of the translation. Lean checks it.
import Derived.Test.YtaoeghdpmmeaiaaPx0
import Derived.Test.YtaoeghdpmmeaiaaPx1
import Derived.Test.YtaoeghdpmmeaiaaPx4
import Derived.Test.YtaoeghdpmmeaiaaPx5
import Derived.Test.YtaoeghdpmmeaiaaPx10
import Derived.Test.YtaoeghdpmmeaiaaPx11
namespace Go.Proofs.Ytaoeghdpmmeaiaa.P
open Go.RowKit Go.Proofs.YtaoeghdpmmeaiaaW.PrintWords Go.Proofs.YtaoeghdpmmeaiaaW.PrintLast Go.Proofs.YtaoeghdpmmeaiaaW.PrintMore
attribute [local go_sem] max2_int min2_int max_two min_two max_three min_three max_four min_four   -- for this text's walks alone
set_option linter.unusedVariables false
set_option linter.unusedSimpArgs false

-- PART
/-! ### tree_Lengths: function 12 (by hand) -/
theorem clone_calls (A0 : Option Addr) (c0 : Nat) (l0 : List Int) (w : World) (hr0 : Kd.C (Kd.int .i64) w A0 l0.length l0) (hc0 : l0.length ≤ c0) (h : l0.length < 17592186044416) :
    Calls Try.prog 20 #[.slice A0 l0.length c0] w fun e w' => ∃ v0_ : Value, e = .returned (v0_) ∧ Kd.R (Kd.int .i64) 3 w' w.heap.size (fun _ => True) v0_ l0 ∧ Below w.heap.size w w' :=
  slices_Clone_int_int.calls A0 c0 l0 l0 w hr0 hc0 (by unfold slices_Clone_int_int.f; rw [if_pos h])
theorem max_calls (A0 : Option Addr) (c0 : Nat) (x : Int) (xs : List Int) (w : World) (hr0 : Kd.C (Kd.int .i64) w A0 (x :: xs).length (x :: xs)) (hc0 : (x :: xs).length ≤ c0) :
    Calls Try.prog 22 #[.slice A0 (x :: xs).length c0] w fun e w' => e = .returned (.int .i64 (maxOf x xs)) ∧ Below w.heap.size w w' :=
  slices_Max_int_int.calls A0 c0 (x :: xs) (maxOf x xs) w hr0 hc0 rfl
/-- Each weight above 0 halved, rounded up. -/
def halved (ws : List Int) : List Int := ws.map (fun w => if 0 < w then wrap64 ((wrap64 (w + 1)).tdiv 2) else w)
def topOf : List Int → Int
  | [] => 0
  | x :: xs => maxOf x xs
def lensFrom : Nat → List Int → Int → Option (List Int)
  | 0, _, _ => none
  | k + 1, ws, lim => if (onceOf ws).length = 0 ∨ topOf (onceOf ws) ≤ lim then some (onceOf ws) else lensFrom k (halved ws) lim
def lensOf (l0 : List Int) (a1 : Int) : Option (List Int × Int) :=
  if weighs l0 = false ∨ a1 > 15 ∨ a1 < 5 ∨ (a1 < 9 ∧ pos l0 > 19) then some ([], 1) else (lensFrom 32 l0 a1).map (fun r => (r, 0))
theorem bad_iff (l0 : List Int) (a1 n : Int) (q : Bool) (hn : n = if weighs l0 then ((pos l0 : Nat) : Int) else 0) (hq : q = weighs l0) : (!q || decide (15 < a1) || decide (a1 < 5) || (decide (a1 < 9) && decide (19 < n))) = true ↔ (weighs l0 = false ∨ a1 > 15 ∨ a1 < 5 ∨ (a1 < 9 ∧ pos l0 > 19)) := by
  subst hq
  cases hw : weighs l0 with
  | false => simp
  | true =>
    rw [hw] at hn
    simp only [if_true] at hn
    subst hn
    simp only [Bool.not_true, Bool.false_or, Bool.or_eq_true, Bool.and_eq_true, decide_eq_true_eq, Bool.true_eq_false, false_or]
    omega
/-- The first j are halved. -/
def halfTo (ws : List Int) (j : Nat) : List Int := halved (ws.take j) ++ ws.drop j
theorem halfTo_length (ws : List Int) (j : Nat) : (halfTo ws j).length = ws.length := by
  unfold halfTo halved
  rw [List.length_append, List.length_map, List.length_take, List.length_drop]
  omega
theorem halfTo_at (ws : List Int) (j : Nat) (h : j < ws.length) : rd (halfTo ws j) (j : Int) = ws[j] := by
  unfold rd halfTo halved
  rw [Int.toNat_natCast, List.getD_eq_getElem?_getD, List.getElem?_append_right (by simp; omega), List.length_map, List.length_take, Nat.min_eq_left (by omega), Nat.sub_self, List.getElem?_drop, Nat.add_zero, List.getElem?_eq_getElem h]
  rfl
theorem halfTo_succ (ws : List Int) (j : Nat) (h : j < ws.length) : halfTo ws (j + 1) = (halfTo ws j).set j (if 0 < ws[j] then wrap64 ((wrap64 (ws[j] + 1)).tdiv 2) else ws[j]) := by
  unfold halfTo halved
  rw [List.take_succ_eq_append_getElem h, List.drop_eq_getElem_cons h, List.map_append, List.set_append_right _ _ (by simp; omega), List.length_map, List.length_take, Nat.min_eq_left (by omega), Nat.sub_self, List.set_cons_zero, List.append_assoc]
  rfl
theorem halfTo_all (ws : List Int) : halfTo ws ws.length = halved ws := by
  unfold halfTo
  rw [List.take_length, List.drop_length, List.append_nil]
set_option maxHeartbeats 8000000 in
set_option maxRecDepth 100000 in
theorem lengths_calls (A0 : Option Addr) (c0 : Nat) (l0 : List Int) (a1 : Int) (r1 : List Int) (r2 : Int) (w : World) (hr0 : Kd.C (Kd.int .i64) w A0 l0.length l0) (hc0 : l0.length ≤ c0) (h : lensOf l0 a1 = some (r1, r2)) :
    Calls Try.prog 12 #[.slice A0 l0.length c0, .int .i64 a1] w fun e w' => ∃ v0_ : Value, e = .returned (.tuple #[v0_, .int .i64 r2]) ∧ Kd.R (Kd.int .i64) 3 w' w.heap.size (fun _ => True) v0_ r1 ∧ Below w.heap.size w w' := by
  have HR := Aside0.mk hr0
  have HC := Aside0.mk hc0
  have H := Aside0.mk h
  obtain ⟨n, hn⟩ : ∃ n : Int, n = if weighs l0 then ((pos l0 : Nat) : Int) else 0 := ⟨_, rfl⟩
  obtain ⟨q, hq⟩ : ∃ q, q = weighs l0 := ⟨_, rfl⟩
  have HA := Aside0.mk (show tree_above.f 700 l0 = some (n, q) from by rw [above_is, hn, hq]; cases weighs l0 <;> rfl)
  have HN := Aside0.mk (And.intro hn hq)
  clear hr0 hc0 h hn hq
  go_enter Try.func12, Try.ntmps12
  go_wp2_with fail
  refine (tree_above.calls 700 _ _ l0 n q w HR.out HC.out HA.out).mono ?_
  rintro e w1 ⟨rfl, hd⟩
  have HD := Aside0.mk hd.below
  clear hd
  go_upto_region 2 with fail
  go_cut [7, 33] (fun v7 v33 wc => v7 = .bool q ∧ v33 = .bool (!q || decide (15 < a1) || decide (a1 < 5) || (decide (a1 < 9) && decide (19 < n))) ∧ wc = w1)
  case first =>
    go_wp2_with fail
    all_goals (go_meet; case rel => exact ⟨by first | rfl | simp [*], by first | (simp [*]; done) | (simp [*]; omega), rfl⟩)
  case rest =>
    obtain ⟨rfl, rfl, rfl⟩ := hcut
    by_cases hbad : (!q || decide (15 < a1) || decide (a1 < 5) || (decide (a1 < 9) && decide (19 < n))) = true
    · rw [hbad]
      go_wp2_with fail
      go_ret2
      have h := H.out
      unfold lensOf at h
      rw [if_pos ((bad_iff l0 a1 n q HN.out.1 HN.out.2).1 hbad)] at h
      injection h with h
      injection h with h1 h2
      subst h1; subst h2
      exact ⟨_, rfl, Kd.R_nil _ _ _ _ _, HD.out⟩
    · rw [Bool.not_eq_true] at hbad
      rw [hbad]
      have HF := Aside0.mk (show ∃ r, lensFrom 32 l0 a1 = some r ∧ r1 = r ∧ r2 = 0 ∧ weighs l0 = true from by
        have hc : ¬ (weighs l0 = false ∨ a1 > 15 ∨ a1 < 5 ∨ (a1 < 9 ∧ pos l0 > 19)) := fun hc => by
          rw [(bad_iff l0 a1 n q HN.out.1 HN.out.2).2 hc] at hbad
          cases hbad
        have h := H.out
        unfold lensOf at h
        rw [if_neg hc] at h
        obtain ⟨r, hr, he⟩ := Option.map_eq_some_iff.1 h
        injection he with h1 h2
        refine ⟨r, hr, h1.symm, h2.symm, ?_⟩
        cases hw : weighs l0 with
        | false => exact absurd (.inl hw) hc
        | true => rfl)
      clear hbad
      go_wp2_with fail
      refine (clone_calls A0 c0 l0 _ (Kd.C_below HR.out HD.out) HC.out (by obtain ⟨_, _, _, _, hw⟩ := HF.out; have := ((weighs_iff l0).1 hw).1; omega)).mono ?_
      rintro e w2 ⟨v0, rfl, ho, hb⟩
      have HO := Aside0.mk ho
      have HB := Aside0.mk (show Below w.heap.size w w2 from below_then HD.out HD.out.size hb)
      have HS := Aside0.mk (show w.heap.size ≤ wc.heap.size from HD.out.size)
      clear ho hb
      go_wp2_with fail
      obtain ⟨r, hr, rfl, rfl, hw⟩ := HF.out
      have HW := Aside0.mk ((weighs_iff l0).1 hw).1
      have HO2 := Aside0.mk (Kd.R_lower HO.out HS.out)
      have HR0 := Aside0.mk hr
      clear hr hw HF HO
      go_loopg [] 32 (fun kq w' => ∃ ws, Aside0 (lensFrom kq ws a1 = some r1) ∧ Aside0 (ws.length ≤ 300) ∧ Aside0 (Kd.R (Kd.int .i64) 3 w' w.heap.size (fun _ => True) v0 ws) ∧ Aside0 (Below w.heap.size w w'))
      case atStart => exact ⟨l0, HR0, HW, HO2, HB⟩
      case round =>
        clear HR0 HW HO2 HB
        obtain ⟨ws, HF, HL, HO, HB⟩ := hrel
        obtain ⟨k', hk'⟩ : ∃ k', gk = k' + 1 := by
          have h := HF.out
          cases gk with
          | zero => simp [lensFrom] at h
          | succ k' => exact ⟨k', rfl⟩
        have HGK := Aside0.mk hk'
        have hF := HF.out
        rw [hk'] at hF
        unfold lensFrom at hF
        have HF2 := Aside0.mk hF
        clear hk' hF HF
        obtain ⟨A, c, e⟩ := Kd.R_slice HO.out
        subst e
        go_wp2_with fail
        refine (once_calls A c ws wr (Kd.R_reads' HO.out).2.2 (Kd.R_reads' HO.out).2.1 HL.out).mono ?_
        rintro e w3 ⟨v8, rfl, h8, hb8⟩
        have H8 := Aside0.mk h8
        have HB8 := Aside0.mk hb8
        have HO3 := Aside0.mk (Kd.R_below HO.out hb8)
        have HBw3 := Aside0.mk (show Below w.heap.size w w3 from below_then HB.out HB.out.size hb8)
        obtain ⟨A8, c8, e8⟩ := Kd.R_slice h8
        subst e8
        clear h8 hb8
        obtain ⟨out, hout⟩ : ∃ o, o = onceOf ws := ⟨_, rfl⟩
        rw [← hout] at H8 HF2 ⊢
        have HOut := Aside0.mk hout
        clear hout
        cases out with
        | nil =>
          go_wp2_with fail
          go_ret2
          have h := HF2.out
          rw [if_pos (show ([] : List Int).length = 0 ∨ topOf [] ≤ a1 from Or.inl rfl)] at h
          injection h with h
          subst h
          exact ⟨_, rfl, Kd.R_lower H8.out HB.out.size, HBw3.out⟩
        | cons x xs =>
          have hne : (((x :: xs).length : Int) == 0) = false := by rw [beq_eq_false_iff_ne]; simp; omega
          have hne2 : (((xs.length : Int) + 1) == 0) = false := by rw [beq_eq_false_iff_ne]; omega
          go_wp2_with fail
          refine (max_calls A8 c8 x xs w3 (Kd.R_reads' H8.out).2.2 (Kd.R_reads' H8.out).2.1).mono ?_
          rintro e w4 ⟨rfl, hb4⟩
          have HB4 := Aside0.mk (show Below w.heap.size w w4 from below_then HBw3.out HBw3.out.size hb4)
          have HO4 := Aside0.mk (Kd.R_below HO3.out hb4)
          have H84 := Aside0.mk (Kd.R_below H8.out hb4)
          clear hb4
          obtain ⟨m, hm⟩ : ∃ m, m = maxOf x xs := ⟨_, rfl⟩
          rw [show topOf (x :: xs) = maxOf x xs from rfl, ← hm] at HF2
          rw [← hm]
          clear hm
          by_cases hle : m ≤ a1
          · have hd : decide (m ≤ a1) = true := decide_eq_true hle
            go_wp2_with fail
            go_ret2
            have h := HF2.out
            rw [if_pos (show (x :: xs).length = 0 ∨ m ≤ a1 from Or.inr hle)] at h
            injection h with h
            subst h
            exact ⟨_, rfl, Kd.R_lower H84.out HB.out.size, HB4.out⟩
          · have hd : decide (m ≤ a1) = false := decide_eq_false hle
            have HF3 := Aside0.mk (show lensFrom k' (halved ws) a1 = some r1 from by
              have h := HF2.out
              rw [if_neg (show ¬ ((x :: xs).length = 0 ∨ m ≤ a1) from by simp; omega)] at h
              exact h)
            clear HF2 H84 H8 HO3 HBw3
            obtain ⟨wr0, ewr0⟩ : ∃ y, y = wr := ⟨_, rfl⟩
            subst ewr0
            obtain ⟨gk0, egk0⟩ : ∃ y, y = gk := ⟨_, rfl⟩
            subst egk0
            go_wp2_with fail
            obtain ⟨L, hL⟩ : ∃ L, L = ws.length := ⟨_, rfl⟩
            rw [← hL] at HO4 HL ⊢
            have HLL := Aside0.mk hL
            clear hL
            go_loopg [50] L (fun kq v50 w' => ∃ j : Nat, j ≤ L ∧ v50 = .int .i64 j ∧ Aside0 (kq + j = L) ∧ Aside0 (Kd.R (Kd.int .i64) 3 w' w.heap.size (fun _ => True) (.slice A L c) (halfTo ws j)) ∧ Aside0 (Below w.heap.size w w'))
            case atStart => exact ⟨0, by omega, rfl, ⟨by omega⟩, HO4, HB4⟩
            case round =>
              obtain ⟨j, hj, rfl, HKj, HOj, HBj⟩ := hrel
              have hL3 : L ≤ 300 := HL.out
              by_cases hlt : j < L
              · obtain ⟨g, cap, e, hg1, _, cells, hcs⟩ := Kd.R_form HOj.out (by rw [halfTo_length, ← HLL.out]; omega)
                injection e with e1 e2 e3
                subst e1
                have hjw : j < ws.length := by rw [← HLL.out]; exact hlt
                obtain ⟨hc1, hc2⟩ := Kd.R_celln (0 : Int) HOj.out (j : Int) (by omega) (by omega)
                have hrd : rdOf (0 : Int) (halfTo ws j) (j : Int) = rd (halfTo ws j) (j : Int) := rfl
                rw [hrd, halfTo_at ws j hjw, Int.toNat_natCast] at hc1
                rw [Int.toNat_natCast] at hc2
                have HST := Aside0.mk (halfTo_succ ws j hjw)
                have HXX := Aside0.mk (show (halfTo ws j)[j]? = some ws[j] from by
                  have h := halfTo_at ws j hjw
                  unfold rd at h
                  rw [Int.toNat_natCast, List.getD_eq_getElem?_getD, List.getElem?_eq_getElem (by rw [halfTo_length]; exact hjw)] at h
                  rw [List.getElem?_eq_getElem (by rw [halfTo_length]; exact hjw)]
                  exact congrArg some h)
                generalize ws[j] = x at hc1 HST HXX
                clear hrd e2 e3 hcs
                by_cases hx : 0 < x
                · have hd2 : decide (0 < x) = true := decide_eq_true hx
                  go_wp2_with fail
                  have HO5 := Aside0.mk (Kd.R_putn HOj.out (j : Int) (wrap64 ((wrap64 (x + 1)).tdiv 2)))
                  rw [Int.toNat_natCast] at HO5
                  go_roundg (gk - 1)
                  case measure => have := HKj.out; omega
                  case rel => exact ⟨j + 1, by omega, by go_num, ⟨by have := HKj.out; omega⟩, ⟨by rw [HST.out, if_pos hx]; exact HO5.out⟩, ⟨HBj.out.setCell (p := ⟨g, j, none⟩) hg1 _⟩⟩
                · have hd2 : decide (0 < x) = false := decide_eq_false hx
                  have hse : (halfTo ws j).set j x = halfTo ws j := by
                    apply List.ext_getElem?
                    intro k
                    rw [List.getElem?_set]
                    split
                    · rename_i hk
                      subst hk
                      rw [if_pos (by rw [halfTo_length]; exact hjw)]
                      exact HXX.out.symm
                    · rfl
                  go_wp2_with fail
                  go_roundg (gk - 1)
                  case measure => have := HKj.out; omega
                  case rel => exact ⟨j + 1, by omega, by go_num, ⟨by have := HKj.out; omega⟩, ⟨by rw [HST.out, if_neg (by omega), hse]; exact HOj.out⟩, HBj⟩
              · have hjL : j = L := by omega
                have hh : halfTo ws j = halved ws := by rw [hjL, HLL.out, halfTo_all]
                rw [hh] at HOj
                go_wp2_with fail
                have eL := HLL.out
                subst eL
                go_roundg (gk0 - 1)
                case measure => have := HGK.out; omega
                case rel => exact ⟨halved ws, ⟨by rw [HGK.out]; exact HF3.out⟩, ⟨by unfold halved; rw [List.length_map]; have := HLL.out; have := HL.out; omega⟩, HOj, HBj⟩
def tree_Lengths.f (l0 : List Int) (a1 : Int) : Option (List Int × Int) := lensOf l0 a1
set_option maxHeartbeats 8000000 in
set_option maxRecDepth 100000 in
theorem tree_Lengths.calls (A0 : Option Addr) (c0 : Nat) (l0 : List Int) (a1 : Int) (r1 : List Int) (r2 : Int) (w : World) (hr0 : Kd.C (Kd.int .i64) w A0 l0.length l0) (hc0 : l0.length ≤ c0) (h : tree_Lengths.f l0 a1 = some (r1, r2)) :
    Calls Try.prog 12 #[.slice A0 l0.length c0, .int .i64 a1] w fun e w' => ∃ v0_ : Value, e = .returned (.tuple #[v0_, .int .i64 r2]) ∧ Kd.R (Kd.int .i64) 3 w' w.heap.size (fun _ => True) v0_ r1 ∧ Below w.heap.size w w' := lengths_calls A0 c0 l0 a1 r1 r2 w hr0 hc0 h

-- PART
end Go.Proofs.Ytaoeghdpmmeaiaa.P
