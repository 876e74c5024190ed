-- Written by a program of this session out of the translation. Lean checks it.
import Derived.Test.YtcjijhjdkgjgeaaPx0
import Derived.Test.YtcjijhjdkgjgeaaPx2
import Derived.Test.YtcjijhjdkgjgeaaPx4
import Derived.Test.YtcjijhjdkgjgeaaPx8
import Derived.Test.YtcjijhjdkgjgeaaPx10
namespace Go.Proofs.Ytcjijhjdkgjgeaa.P
open Go.RowKit Go.Proofs.YtcjijhjdkgjgeaaW.PrintWords Go.Proofs.YtcjijhjdkgjgeaaW.PrintLast Go.Proofs.YtcjijhjdkgjgeaaW.PrintMore
attribute [local go_sem] max2_int min2_int max_two min_two max_three min_three max_four min_four   -- for this text's walks alone
set_option linter.unusedVariables false
set_option linter.unusedSimpArgs false

-- PART
/-! ### grow_reader_row: function 66 (by hand) -/
theorem introw_keepT' {W W' : World} {base : Nat} {ok : Nat → Prop} {v : Value} {xs : List Int} (h : Kd.R (Kd.int .i64) 3 W base ok v xs) (hk : KeepT W W') : Kd.R (Kd.int .i64) 3 W' base ok v xs :=
  Kd.R_of_own (own_move (Kd.own_of_R h) fun k hkk => by
    obtain ⟨cells, hc⟩ := own_typed (Kd.own_of_R h) k hkk
    rw [hc]
    exact hk.2 _ _ _ hc (by decide) (by decide)) h.1
theorem Rdr.grown {w0 W W1 : World} {g : Nat} {b : List Int} {most : Int} {s : RSt} (h : Rdr w0 W g b most s) {row : Option Nat} (hw : W.grownBy W1 row) (hr : ∀ p, row = some p → ∃ cs, W.heap[p]? = some (.cells cs 3 (0, 0))) : Rdr w0 W1 g b most s := by
  obtain ⟨A0, c0, v3, h1, h2, h3, h4, h5⟩ := h
  have hne : ∀ (q : Nat) (cs : Array Value) (ty : TypeId), W.heap[q]? = some (.cells cs ty (0, 0)) → ty ≠ 3 → some q ≠ row := by
    intro q cs ty hq ht he
    obtain ⟨cs2, hp⟩ := hr q he.symm
    rw [hq] at hp
    injection hp with hp
    injection hp with _ hp
    exact ht hp
  refine ⟨A0, c0, v3, blk_grown h1 hw (hne g _ _ h1 (by decide)), h2, h3, h4, ?_⟩
  refine Kd.R_of_own (own_move (Kd.own_of_R h5) fun k hk => ?_) (fun _ _ => trivial)
  obtain ⟨cells, hc⟩ := own_typed (Kd.own_of_R h5) k hk
  exact hw.block k (heap_lt hc) (hne k _ _ hc (by decide))
theorem KeepT.grown_fresh {w W W1 : World} (h : KeepT w W) {row : Option Nat} (hw : W.grownBy W1 row) (hr : ∀ p, row = some p → w.heap.size ≤ p) : KeepT w W1 := by
  refine ⟨Nat.le_trans h.1 hw.size, fun k c t hk h5 h9 => ?_⟩
  have h1 := h.2 k c t hk h5 h9
  refine (hw.block k (heap_lt h1) fun he => ?_).trans h1
  have := hr k he.symm
  have := heap_lt hk
  omega
/-- A value so many times, behind a look for room. -/
def rowP (many : Int) (k : List Int → RSt → Option (List Int × RSt)) (out : List Int) (v c : Int) (s : RSt) : Option (List Int × RSt) :=
  if 0 ≤ c ∧ c ≤ 1000000 ∧ out.length ≤ 1000000000 then k (out ++ List.replicate c.toNat v) (wantS s (decide (c ≤ wrap64 (many - out.length))) 3) else none
/-- So many lengths, by the lengths' own. -/
def rowL (F : Nat → Int) (S : Nat → List Int) (b : List Int) (many : Int) : Nat → List Int → RSt → Option (List Int × RSt)
  | 0, _, _ => none
  | n + 1, out, s => if (out.length : Int) < many ∧ s.er = 0 then (symS F S b s).bind fun r =>
      if r.1 = 16 then
        (if (wantS r.2 (decide (0 < out.length)) 3).er ≠ 0 then some ([], wantS r.2 (decide (0 < out.length)) 3)
        else if 0 < out.length ∧ out.length ≤ 1000000000 then (takeS b (wantS r.2 (decide (0 < out.length)) 3) 2).bind fun t => rowP many (rowL F S b many n) out (rd out ((out.length : Int) - 1)) (wrap64 (3 + t.1)) t.2 else none)
      else if r.1 = 17 then (takeS b r.2 3).bind fun t => rowP many (rowL F S b many n) out 0 (wrap64 (3 + t.1)) t.2
      else if r.1 = 18 then (takeS b r.2 7).bind fun t => rowP many (rowL F S b many n) out 0 (wrap64 (11 + t.1)) t.2
      else rowP many (rowL F S b many n) out r.1 1 r.2
    else some (out, s)
set_option maxHeartbeats 8000000 in
set_option maxRecDepth 100000 in
theorem rdr_row (g : Nat) (b : List Int) (most : Int) (s : RSt) (A1 : Option Addr) (c1 : Nat) (own : List Int) (many : Int) (N : Nat) (rr : List Int) (sr : RSt) (w0 w : World) (hR : Rdr w0 w g b most s) (hB : Below w0.heap.size w0 w)
    (hr1 : Kd.C (Kd.int .i64) w A1 own.length own) (hc1 : own.length ≤ c1) (hx : ∀ x ∈ own, 0 ≤ x ∧ x ≤ 15) (hl : own.length ≤ 1000000)
    (h : rowL (fun n => (openF own n : Int)) (symsTo own own.length) b many N [] s = some (rr, sr)) :
    Calls Try.prog 66 #[.pointer (some ⟨g, 0, none⟩), .slice A1 own.length c1, .int .i64 many] w fun r w' => ∃ v, r = .returned v ∧ Kd.R (Kd.int .i64) 3 w' w0.heap.size (fun _ => True) v rr ∧ Rdr w0 w' g b most sr ∧ Below w0.heap.size w0 w' ∧ KeepT w w' := by
  have H := Aside0.mk h
  have HR := Aside0.mk hR
  have HB := Aside0.mk hB
  go_enter Try.func66, Try.ntmps66
  go_wp2_with fail
  refine (open_book A1 c1 own w hr1 hc1 hx hl).mono ?_
  rintro e wK ⟨gbk, rfl, hbook, hb⟩
  generalize (fun n => (openF own n : Int)) = F at H hbook
  generalize symsTo own own.length = S at H hbook
  have HBook := Aside0.mk hbook
  have HRk := Aside0.mk (HR.out.below hb)
  have HBk := Aside0.mk (show Below w0.heap.size w0 wK from below_then HB.out HB.out.size hb)
  have HKk := Aside0.mk (KeepT.of_below hb)
  clear hbook hb HR HB hR hB hr1 hx h
  go_wp2_with fail
  go_loopg [8] N (fun kq v8 w' => ∃ (oi : List Int) (si : RSt), Aside0 (rowL F S b many kq oi si = some (rr, sr)) ∧ Aside0 (Kd.R (Kd.int .i64) 3 w' w0.heap.size (fun k => wK.heap.size ≤ k) v8 oi) ∧ Aside0 (Rdr w0 w' g b most si) ∧ Aside0 (Below w0.heap.size w0 w') ∧ Aside0 (KeepT wK w'))
  case atStart => exact ⟨[], s, H, ⟨Kd.R_nil _ _ _ _ _⟩, HRk, HBk, ⟨KeepT.refl _⟩⟩
  case round =>
    clear H HRk HBk
    obtain ⟨oi, si, HL, HO, HR, HB, HK⟩ := hrel
    obtain ⟨A8, c8, e8⟩ := Kd.R_slice HO.out
    subst e8
    have h := HL.out
    match gk, h with
    | 0, h => unfold rowL at h; cases h
    | n + 1, h =>
      unfold rowL at h
      obtain ⟨A0, c0, A3, c3, hg, hge, hb, hc, ho⟩ := HR.out.cells
      have hcz5 : wr.cell? ⟨g, 5, none⟩ = some (.int .i64 si.er) := (blk_cell hg 5).trans rfl
      clear hg hb ho hc
      by_cases hgo : (oi.length : Int) < many ∧ si.er = 0
      rotate_left
      · rw [if_neg hgo] at h
        injection h with h
        injection h with h1 h2
        subst h1 h2
        by_cases hlen : (oi.length : Int) < many
        · have d0 : decide ((oi.length : Int) < many) = true := decide_eq_true hlen
          have d1 : (si.er == 0) = false := beq_eq_false_iff_ne.2 (fun hh => hgo ⟨hlen, hh⟩)
          go_wp2_with fail
          go_ret
          exact ⟨_, rfl, Kd.R_mono HO.out (fun _ _ => trivial), HR.out, HB.out, HKk.out.trans HK.out⟩
        · have d0 : decide ((oi.length : Int) < many) = false := decide_eq_false hlen
          go_wp2_with fail
          go_ret
          exact ⟨_, rfl, Kd.R_mono HO.out (fun _ _ => trivial), HR.out, HB.out, HKk.out.trans HK.out⟩
      rw [if_pos hgo] at h
      have d0 : decide ((oi.length : Int) < many) = true := decide_eq_true hgo.1
      have d1 : (si.er == 0) = true := beq_iff_eq.2 hgo.2
      obtain ⟨⟨y, s1⟩, hs, h⟩ := Option.bind_eq_some_iff.1 h
      have HS := Aside0.mk hs
      have H1 := Aside0.mk h
      clear hs h HL hgo
      go_wp2_with fail
      refine (rdr_sym g b most si w.heap.size gbk F S y s1 w0 wr HR.out HB.out (HBook.out.keepT HK.out) HS.out).mono ?_
      rintro e w1 ⟨rfl, hR1, hB1, hK1⟩
      have HR1 := Aside0.mk hR1
      have HB1 := Aside0.mk hB1
      have HO1 := Aside0.mk (introw_keepT' HO.out hK1)
      have HK1 := Aside0.mk (HK.out.trans hK1)
      clear hR1 hB1 hK1 HR HB HK HO hcz5 d0 d1
      go_upto_block 2 with fail
      go_cut [9, 10, 11, 29] (fun v9 v10 v11 v29 wc => ∃ (v c : Int) (s4 : RSt), v10 = .int .i64 v ∧ v11 = .int .i64 c ∧ Aside0 (rowP many (rowL F S b many n) oi v c s4 = some (rr, sr)) ∧ Aside0 (Kd.R (Kd.int .i64) 3 wc w0.heap.size (fun k => wK.heap.size ≤ k) (.slice A8 oi.length c8) oi) ∧ Aside0 (Rdr w0 wc g b most s4) ∧ Aside0 (Below w0.heap.size w0 wc) ∧ Aside0 (KeepT wK wc))
      case first =>
        have h := H1.out
        by_cases h16 : y = 16
        · have d3 : (y == 16) = true := beq_iff_eq.2 h16
          rw [if_pos h16] at h
          obtain ⟨s2, hs2⟩ : ∃ s2, wantS s1 (decide (0 < oi.length)) 3 = s2 := ⟨_, rfl⟩
          rw [hs2] at h
          have HS2 := Aside0.mk hs2
          have hdec : decide ((0 : Int) < (oi.length : Int)) = decide (0 < oi.length) := by
            by_cases h0 : 0 < oi.length
            · rw [decide_eq_true h0, decide_eq_true (by omega)]
            · rw [decide_eq_false h0, decide_eq_false (by omega)]
          clear hs2 H1
          have HH := Aside0.mk h
          clear h
          go_wp2_with fail
          have hcall := rdr_want' g b most s1 (decide (0 < oi.length)) 3 s2 w0 w1 HS2.out HR1.out HB1.out
          first
            | refine hcall.mono ?_
            | (rw [← hdec] at hcall; refine hcall.mono ?_)
          rintro e w2 ⟨rfl, hR2, hB2, hK2, _⟩
          have HR2 := Aside0.mk hR2
          have HB2 := Aside0.mk hB2
          have HO2 := Aside0.mk (introw_keepT' HO1.out hK2)
          have HK2 := Aside0.mk (HK1.out.trans hK2)
          clear hR2 hB2 hK2 HR1 HB1 HK1 HO1 hcall hdec
          have h := HH.out
          by_cases h0 : s2.er = 0
          rotate_left
          · have d4 : (s2.er == 0) = false := beq_eq_false_iff_ne.2 h0
            rw [if_pos h0] at h
            injection h with h
            injection h with h1 h2
            subst h1 h2
            go_wp2_with fail
            go_ret
            exact ⟨_, rfl, Kd.R_nil _ _ _ _ _, HR2.out, HB2.out, HKk.out.trans HK2.out⟩
          have d4 : (s2.er == 0) = true := beq_iff_eq.2 h0
          rw [if_neg (by rw [h0]; simp)] at h
          by_cases hlo : 0 < oi.length ∧ oi.length ≤ 1000000000
          rotate_left
          · rw [if_neg hlo] at h; cases h
          rw [if_pos hlo] at h
          obtain ⟨⟨v3, s3⟩, ht, h⟩ := Option.bind_eq_some_iff.1 h
          have HT := Aside0.mk ht
          obtain ⟨k, hk⟩ : ∃ k, oi.length = k + 1 := ⟨oi.length - 1, by omega⟩
          have hke : (oi.length : Int) - 1 = (k : Int) := by omega
          have hk0 : (0 : Int) ≤ (k : Int) := by omega
          have hk1 : (k : Int) < (oi.length : Int) := by omega
          rw [hke] at h
          obtain ⟨ad, e8, hcell⟩ := Kd.at_int (Kd.R_reads' HO2.out).2.2 (k : Int) hk0 hk1
          subst e8
          rw [Int.toNat_natCast] at hcell
          have hw1 : IntKind.i64.wrap ((oi.length : Int) - 1) = (k : Int) := by rw [hke]; exact IntWalk.i64_in (k : Int) (by omega)
          have hw2 : wrap64 ((oi.length : Int) - 1) = (k : Int) := by rw [hke]; unfold wrap64; omega
          have hk2 : ((k : Int)).toNat = k := Int.toNat_natCast k
          obtain ⟨x, hx⟩ : ∃ x, rd oi (k : Int) = x := ⟨_, rfl⟩
          rw [hx] at hcell h
          have HX := Aside0.mk hx
          have HP := Aside0.mk h
          clear ht h HH hke hlo h0 hk hx
          go_upto_region 10 with fail
          refine start_ (n := 11) (S := fun w' => w'.cell? (ad.add k) = some (.int .i64 x)) (ds := []) #[false, false, false, false, false, false, false, false, false, false, false] (by kernel_rfl) rfl rfl (hcell) (fun hHeld => ?_)
          refine pure_ (i := 0) (N := some 38) (v := ?_) (a' := ?_) #[true, false, false, false, false, false, false, false, false, false, false] rfl rfl (by kernel_rfl) (fun _ _ _ h => h) (Or.inl ⟨by rfl, ?_⟩) ?_ ?_
          rotate_left
          · intro w'
            go_simp
            with_reducible rfl
          rotate_left
          · simp only [Act.put, List.setIfInBounds_toArray, List.set_cons_zero, List.set_cons_succ, i64_w, i32_w]
            rfl
          refine pure_ (i := 1) (N := some 39) (v := ?_) (a' := ?_) #[true, true, false, false, false, false, false, false, false, false, false] rfl rfl (by kernel_rfl) (fun _ _ _ h => h) (Or.inl ⟨by rfl, ?_⟩) ?_ ?_
          rotate_left
          · intro w'
            go_simp
            with_reducible rfl
          rotate_left
          · simp only [Act.put, List.setIfInBounds_toArray, List.set_cons_zero, List.set_cons_succ, i64_w, i32_w]
            rfl
          refine pure_ (i := 2) (N := some 40) (v := ?_) (a' := ?_) #[true, true, true, false, false, false, false, false, false, false, false] rfl rfl (by kernel_rfl) (fun _ _ _ h => h) (Or.inl ⟨by rfl, ?_⟩) ?_ ?_
          rotate_left
          · intro w'
            go_simp
            with_reducible rfl
          rotate_left
          · simp only [Act.put, List.setIfInBounds_toArray, List.set_cons_zero, List.set_cons_succ, i64_w, i32_w]
            rfl
          refine pure_ (i := 3) (N := some 41) (v := ?_) (a' := ?_) #[true, true, true, true, false, false, false, false, false, false, false] rfl rfl (by kernel_rfl) (fun _ _ _ h => h) (Or.inl ⟨by rfl, ?_⟩) ?_ ?_
          rotate_left
          · intro w'
            go_simp
            with_reducible rfl
          rotate_left
          · simp only [Act.put, List.setIfInBounds_toArray, List.set_cons_zero, List.set_cons_succ, i64_w, i32_w]
            rfl
          refine pure_ (i := 4) (N := some 42) (v := ?_) (a' := ?_) #[true, true, true, true, true, false, false, false, false, false, false] rfl rfl (by kernel_rfl) (fun _ _ _ h => h) (Or.inl ⟨by rfl, ?_⟩) ?_ ?_
          rotate_left
          · intro w'
            go_simp
            with_reducible rfl
          rotate_left
          · simp only [Act.put, List.setIfInBounds_toArray, List.set_cons_zero, List.set_cons_succ, i64_w, i32_w]
            rfl
          refine pure_ (i := 6) (N := some 44) (v := ?_) (a' := ?_) #[true, true, true, true, true, false, true, false, false, false, false] rfl rfl (by kernel_rfl) (fun _ _ _ h => h) (Or.inl ⟨by rfl, ?_⟩) ?_ ?_
          rotate_left
          · intro w'
            go_simp
            with_reducible rfl
          rotate_left
          · simp only [Act.put, List.setIfInBounds_toArray, List.set_cons_zero, List.set_cons_succ, i64_w, i32_w]
            rfl
          refine take_ (i := 5) (N := some 43) (v := ?_) (a' := ?_) #[true, true, true, true, true, true, true, false, false, false, false] rfl rfl (by kernel_rfl) (fun _ _ _ h => h) (Or.inl ⟨by rfl, ?_⟩) hHeld ?_ ?_
          rotate_left
          · intro w' s0
            go_simp
            with_reducible rfl
          rotate_left
          · simp only [Act.put, List.setIfInBounds_toArray, List.set_cons_zero, List.set_cons_succ, i64_w, i32_w]
            rfl
          refine one_ (i := 7) (N := some 45) #[true, true, true, true, true, true, true, true, false, false, false] rfl rfl (by kernel_rfl) (by decide) (fun K hK => ?_)
          refine goes_ Try.func43 (by kernel_rfl) rfl #[.pointer (some ⟨g, 0, none⟩), .int .i64 2] (by rfl) rfl rfl (by simp only [List.map_toArray, List.map_cons, List.map_nil]; rfl) ?_
          with_reducible refine (rdr_take g b most s2 2 v3 s3 w0 w2.drew (HR2.out.below (Below.refl _ _).drew) HB2.out.drew HT.out).mono ?_
          rintro e w3 ⟨rfl, hR3, hB3, hK3⟩
          refine ⟨_, rfl, ?_⟩
          have hK3 := (KeepT.of_below (Below.refl _ w2).drew).trans hK3
          have HR3 := Aside0.mk hR3
          have HB3 := Aside0.mk hB3
          have HO3 := Aside0.mk (introw_keepT' HO2.out hK3)
          have HK3 := Aside0.mk (HK2.out.trans hK3)
          obtain ⟨ad3, ea3, hcell3⟩ := Kd.at_int (Kd.R_reads' HO3.out).2.2 (k : Int) hk0 hk1
          cases ea3
          rw [Int.toNat_natCast, HX.out] at hcell3
          clear hR3 hB3 hK3
          refine hK.out _ _ (hcell3) (fun hHeld => ?_)
          clear hK K
          refine norm_ (a' := ?_) ?_ ?_
          rotate_left
          · show Act.put _ (some 45) _ = _
            simp only [Act.put, List.setIfInBounds_toArray, List.set_cons_zero, List.set_cons_succ, i64_w, i32_w]
            rfl
          refine pure_ (i := 8) (N := some 46) (v := ?_) (a' := ?_) #[true, true, true, true, true, true, true, true, true, false, false] rfl rfl (by kernel_rfl) (fun _ _ _ h => h) (Or.inl ⟨by rfl, ?_⟩) ?_ ?_
          rotate_left
          · intro w'
            go_simp
            with_reducible rfl
          rotate_left
          · simp only [Act.put, List.setIfInBounds_toArray, List.set_cons_zero, List.set_cons_succ, i64_w, i32_w]
            rfl
          refine pure_ (i := 9) (N := some 10) (v := ?_) (a' := ?_) #[true, true, true, true, true, true, true, true, true, true, false] rfl rfl (by kernel_rfl) (fun _ _ _ h => h) (Or.inl ⟨by rfl, ?_⟩) ?_ ?_
          rotate_left
          · intro w'
            go_simp
            with_reducible rfl
          rotate_left
          · simp only [Act.put, List.setIfInBounds_toArray, List.set_cons_zero, List.set_cons_succ, i64_w, i32_w]
            rfl
          refine pure_ (i := 10) (N := some 11) (v := ?_) (a' := ?_) #[true, true, true, true, true, true, true, true, true, true, true] rfl rfl (by kernel_rfl) (fun _ _ _ h => h) (Or.inl ⟨by rfl, ?_⟩) ?_ ?_
          rotate_left
          · intro w'
            go_simp
            with_reducible rfl
          rotate_left
          · simp only [Act.put, List.setIfInBounds_toArray, List.set_cons_zero, List.set_cons_succ, i64_w, i32_w]
            rfl
          refine done_ (by kernel_rfl) ?_
          clear hw1 hw2 hk0 hk1 hk2 hcell hcell3
          go_wp2_with fail
          go_meet
          case rel => exact ⟨x, _, s3, rfl, rfl, HP, HO3, HR3, HB3, HK3⟩
        rw [if_neg h16] at h
        have d3 : (y == 16) = false := beq_eq_false_iff_ne.2 h16
        by_cases h17 : y = 17
        · have d4 : (y == 17) = true := beq_iff_eq.2 h17
          rw [if_pos h17] at h
          obtain ⟨⟨v3, s3⟩, ht, h⟩ := Option.bind_eq_some_iff.1 h
          have HT := Aside0.mk ht
          have HP := Aside0.mk h
          clear ht h H1
          go_wp2_with fail
          refine (rdr_take g b most s1 3 v3 s3 w0 w1 HR1.out HB1.out HT.out).mono ?_
          rintro e w2 ⟨rfl, hR2, hB2, hK2⟩
          have HR2 := Aside0.mk hR2
          have HB2 := Aside0.mk hB2
          have HO2 := Aside0.mk (introw_keepT' HO1.out hK2)
          have HK2 := Aside0.mk (HK1.out.trans hK2)
          clear hR2 hB2 hK2 HR1 HB1 HK1 HO1
          go_wp2_with fail
          go_meet
          case rel => exact ⟨0, _, s3, rfl, rfl, HP, HO2, HR2, HB2, HK2⟩
        rw [if_neg h17] at h
        have d4 : (y == 17) = false := beq_eq_false_iff_ne.2 h17
        by_cases h18 : y = 18
        · have d5 : (y == 18) = true := beq_iff_eq.2 h18
          rw [if_pos h18] at h
          obtain ⟨⟨v3, s3⟩, ht, h⟩ := Option.bind_eq_some_iff.1 h
          have HT := Aside0.mk ht
          have HP := Aside0.mk h
          clear ht h H1
          go_wp2_with fail
          refine (rdr_take g b most s1 7 v3 s3 w0 w1 HR1.out HB1.out HT.out).mono ?_
          rintro e w2 ⟨rfl, hR2, hB2, hK2⟩
          have HR2 := Aside0.mk hR2
          have HB2 := Aside0.mk hB2
          have HO2 := Aside0.mk (introw_keepT' HO1.out hK2)
          have HK2 := Aside0.mk (HK1.out.trans hK2)
          clear hR2 hB2 hK2 HR1 HB1 HK1 HO1
          go_wp2_with fail
          go_meet
          case rel => exact ⟨0, _, s3, rfl, rfl, HP, HO2, HR2, HB2, HK2⟩
        rw [if_neg h18] at h
        have d5 : (y == 18) = false := beq_eq_false_iff_ne.2 h18
        have HP := Aside0.mk h
        clear h H1
        go_wp2_with fail
        go_meet
        case rel => exact ⟨y, 1, s1, rfl, rfl, HP, HO1, HR1, HB1, HK1⟩
      case rest =>
        clear H1 HR1 HB1 HK1 HO1
        obtain ⟨v, c, s4, rfl, rfl, HP, HO, HR, HB, HK⟩ := hcut
        have h := HP.out
        unfold rowP at h
        by_cases hr : 0 ≤ c ∧ c ≤ 1000000 ∧ oi.length ≤ 1000000000
        rotate_left
        · rw [if_neg hr] at h; cases h
        rw [if_pos hr] at h
        obtain ⟨m, rfl⟩ : ∃ m : Nat, c = (m : Int) := ⟨c.toNat, by omega⟩
        rw [Int.toNat_natCast] at h
        have hm : m ≤ 1000000 := by omega
        have HOL := Aside0.mk hr.2.2
        have HL := Aside0.mk h
        clear h HP hr
        go_wp2_with fail
        refine (rdr_want g b most s4 (decide ((m : Int) ≤ wrap64 (many - oi.length))) 3 w0 wc HR.out HB.out).mono ?_
        rintro e w5 ⟨rfl, hR5, hB5, hK5⟩
        have HR5 := Aside0.mk hR5
        have HB5 := Aside0.mk hB5
        have HO5 := Aside0.mk (introw_keepT' HO.out hK5)
        have HK5 := Aside0.mk (HK.out.trans hK5)
        clear hR5 hB5 hK5 HR HB HK HO
        generalize wantS s4 (decide ((m : Int) ≤ wrap64 (many - oi.length))) 3 = s5 at HL HR5 ⊢
        go_wp2_with fail
        go_loopg [8, 66] m (fun kq v8 v66 w' => ∃ (i : Nat) (oj : List Int), v66 = .int .i64 i ∧ i ≤ m ∧ Aside0 (kq + i = m) ∧ Aside0 (oj = oi ++ List.replicate i v) ∧ Aside0 (Kd.R (Kd.int .i64) 3 w' w0.heap.size (fun k => wK.heap.size ≤ k) v8 oj) ∧ Aside0 (Rdr w0 w' g b most s5) ∧ Aside0 (Below w0.heap.size w0 w') ∧ Aside0 (KeepT wK w'))
        case atStart => exact ⟨0, oi, rfl, Nat.zero_le _, ⟨rfl⟩, ⟨by simp⟩, HO5, HR5, HB5, HK5⟩
        case round =>
          clear HO5 HR5 HB5 HK5
          obtain ⟨i, oj, rfl, hi, HG, HJ, HO, HR, HB, HK⟩ := hrel
          obtain ⟨A9, c9, e9⟩ := Kd.R_slice HO.out
          subst e9
          by_cases hlt : i < m
          · have HJL := Aside0.mk (show oj.length ≤ 1001000000 from by have := HOL.out; rw [HJ.out, List.length_append, List.length_replicate]; omega)
            go_wp2_with ((with_reducible refine gate_builtin (b := .append) (xs := #[.tmp 68, .tmp 70]) rfl ?_); at_builtin; refine Kd.R_append (Kd.int .i64) (w0 := w0) w0.heap.size rfl (.tmp 68) (.tmp 70) 73 3 (.int .i64 0) 8 rfl Try.underlying73 info3 rfl (by decide) (by omega) (.slice A9 oj.length c9) oj v [.int .i64 v] (fun k => wK.heap.size ≤ k) (fun _ => False) rfl rfl rfl (fun _ hk => hk.elim) (fun k hk => Nat.le_trans HK.out.1 hk) HO.out HB.out HB.out.size (by have := HJL.out; omega) ?_; intro v5 w6 ho hb hg hat; (have HN5 := Aside0.mk (And.intro ho (And.intro hb hg))); clear ho hb hg hat)
            obtain ⟨ho, hb, hgr⟩ := HN5.out
            have hty := own_typed (Kd.own_of_R HO.out)
            go_roundg (gk - 1)
            case measure => have := HG.out; omega
            case rel => exact ⟨i + 1, _, by go_num, by omega, ⟨by have := HG.out; omega⟩, ⟨by rw [HJ.out, List.replicate_succ', List.append_assoc]⟩, ⟨ho⟩, ⟨HR.out.grown hgr fun p hp => hty p hp⟩, ⟨hb⟩, ⟨HK.out.grown_fresh hgr fun p hp => HO.out.1 p hp⟩⟩
          · have hi2 : i = m := by omega
            subst hi2
            have hj := HJ.out
            subst hj
            go_wp2_with fail
            go_roundg n
            case measure => omega
            case rel => exact ⟨_, _, HL, ⟨by have hh := HO.out; rw [List.length_append, List.length_replicate] at hh; exact hh⟩, HR, HB, HK⟩

-- PART
end Go.Proofs.Ytcjijhjdkgjgeaa.P
