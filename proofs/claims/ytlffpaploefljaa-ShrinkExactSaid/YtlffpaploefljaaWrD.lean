/- The reference's blocks are the package's; used by the claims of this seat. -/
import Derived.Test.YtlffpaploefljaaWrC
import Derived.Test.YtlffpaploefljaaDynF
import Derived.Test.YtlffpaploefljaaPx0
import Derived.Test.YtlffpaploefljaaPx39
import Derived.Test.YtlffpaploefljaaPx5
import Derived.Test.YtlffpaploefljaaPx23
import Derived.Test.YtlffpaploefljaaPx65
namespace Go.Proofs.Ytlffpaploefljaa.Wr
open Go.RowKit Go.Proofs.Ytlffpaploefljaa.P Go.Proofs.YtlffpaploefljaaW.PrintWords Go.Proofs.YtlffpaploefljaaW.PrintLast Go.Proofs.YtlffpaploefljaaW.PrintMore
open WP (Row Bytes at_ val wN wX Wrote)
open Go.Proofs.Ytlffpaploefljaa.Glue
attribute [local go_sem] max2_int min2_int max_two min_two max_three min_three max_four min_four
set_option linter.unusedVariables false
set_option linter.unusedSimpArgs false
open RowSteps
/-- What a block of lengths of its own is made of, by the reference. -/
structure DynOk (b la lb lits dists own turned : List Int) : Prop where
 fine : ∀ t ∈ T b, Fine t
 wa : weighs (wtsR (T b)).1 = true
 wb : weighs (wtsR (T b)).2 = true
 ea : lensFrom 32 (wtsR (T b)).1 15 = some la
 eb : lensFrom 32 (wtsR (T b)).2 15 = some lb
 la0 : la.length = 286
 lb0 : lb.length = 30
 lits_ : lits = la.take (cutN la 257 286)
 dists_ : dists = lb.take (cutN lb 1 30)
 llen : 257 ≤ lits.length
 dlen : 1 ≤ dists.length
 rng : ∀ x ∈ lits ++ dists, 0 ≤ x ∧ x ≤ 15
 wm : weighs (metF ((steps (lits ++ dists).length (-1) (lits ++ dists)).map (·.1))) = true
 eo : lensFrom 32 (metF ((steps (lits ++ dists).length (-1) (lits ++ dists)).map (·.1))) 7 = some own
 own0 : own.length = 19
 trng : ∀ x ∈ turned, 0 ≤ x ∧ x ≤ 15
 tn : turned = (ord19.map (rd own)).take (cutN (ord19.map (rd own)) 4 19)
 tlen : 4 ≤ turned.length
 mo : Makes own
 ml : Makes la
 md : Makes lb
 stop : Has la 256
 toks : ∀ t ∈ T b, Fine t ∧ TokHas la lb t
 fit : ∀ t ∈ steps (lits ++ dists).length (-1) (lits ++ dists), 0 ≤ t.1 ∧ t.1 ≤ 18 ∧ Has own t.1.toNat ∧ ∃ x n : Nat, t.2.1 = (x : Int) ∧ t.2.2.1 = (n : Int) ∧ x < 2 ^ n ∧ n ≤ 7 ∧ wherryref01_extra.f t.1 = some (n : Int)
 slen : (steps (lits ++ dists).length (-1) (lits ++ dists)).length ≤ 400
/-- What it is written as. -/
def rdynI (b la lb lits dists own turned : List Int) : List (Nat × Nat) :=
 [(5, 3), (lits.length - 257, 5), (dists.length - 1, 5), (turned.length - 4, 4)] ++ turned.map (fun x => (x.toNat, 3)) ++ (steps (lits ++ dists).length (-1) (lits ++ dists)).flatMap (stepI own) ++ bodyI (T b) la lb
theorem readsW_take {w : World} {A : Option Addr} {l : List Int} (h : ReadsW w A l) {n : Nat} (hn : n ≤ l.length) : ReadsW w A (l.take n) := fun W hW => Kd.C_take (h W hW) hn
theorem foldM_len : ∀ (S : List Int) (m : List Int), (S.foldl (fun m q => inc m q.toNat) m).length = m.length
 | [], _ => rfl
 | q :: S, m => (foldM_len S (inc m q.toNat)).trans (inc_len _ _)
theorem metF_len (S : List Int) : (metF S).length = 19 := (foldM_len S _).trans List.length_replicate
theorem metF_take (L : List Int) {i : Nat} (hi : i < L.length) : metF (L.take (i + 1)) = inc (metF (L.take i)) (L.getD i 0).toNat := by
 unfold metF
 rw [List.take_add_one, List.foldl_append, List.getD_eq_getElem?_getD, List.getElem?_eq_getElem hi]
 rfl
set_option maxHeartbeats 8000000 in
set_option maxRecDepth 100000 in
theorem wr_dynamic {w : World} {b la lb lits dists own turned : List Int} (A : Option Addr) (c : Nat) (hb : Bytes b) (hl : b.length ≤ 4096) (ok : DynOk b la lb lits dists own turned) (hr : Kd.C (Kd.int .u8) w A b.length b) (hc : b.length ≤ c) :
  Calls Try.prog 47 #[.slice A b.length c] w fun e w' => ∃ s', e = .returned s' ∧ BitsW w w' s' (rdynI b la lb lits dists own turned) ∧ Below w.heap.size w w' := by
 have hT4 := (T_ok b hb hl).2.2.2.1
 have hLl : lits.length = cutN la 257 286 := by rw [ok.lits_, List.length_take]; have := cutN_le la 257 286; have := ok.la0; omega
 have hDl : dists.length = cutN lb 1 30 := by rw [ok.dists_, List.length_take]; have := cutN_le lb 1 30; have := ok.lb0; omega
 have hL2 : lits.length ≤ 286 := by rw [hLl]; exact cutN_le _ _ _
 have hD2 : dists.length ≤ 30 := by rw [hDl]; exact cutN_le _ _ _
 have HLl := Aside0.mk hLl
 have HDl := Aside0.mk hDl
 have HR := Aside0.mk hr
 have OK := Aside0.mk ok
 have HB := Aside0.mk (Below.refl w.heap.size w)
 have hu := Try.underlying61
 have hla0 := ok.la0
 have hll := ok.llen
 have hdd := ok.dlen
 have hlb0 := ok.lb0
 clear hr hb ok hLl hDl
 go_enter Try.func47, Try.ntmps47
 go_wp2_with (first
  | ((with_reducible refine gate_dst (N := 2) rfl ?_); refine box_event ?hg (N := 2) ?hd (cs := #[.slice none 0 0, .int .i64 0]) (t := 61) ?hr ?_; (case hd => rfl); (case hg => rfl); (case hr => first | (go_simp; done) | (go_simp; rfl)); intro gR hg w1 hbox hb; (have BR := Aside0.mk hbox); (have GR := Aside0.mk (show w.heap.size ≤ gR from by omega)); (have HB1 := Aside0.mk (below_step HB.out hb)); clear HB hb hbox hg))
 refine (wherryref01_tokens.calls 700000 A c b (T b) w1 (Kd.C_below HR.out HB1.out) hc (rtokens_is hl)).mono ?_
 rintro e w2 ⟨vt, rfl, ho, hb⟩
 obtain ⟨At, ct, et⟩ := Kd.R_slice ho
 subst et
 obtain ⟨rt, _, hct⟩ := readsT_own ho
 have RT := Aside0.mk rt
 have HB2 := Aside0.mk (below_then HB1.out HB1.out.size hb)
 have BR2 := Aside0.mk (blk_below BR.out hb)
 clear ho rt hb HB1 BR
 go_wp2_with fail
 refine (wr_weights (w := w2) (ts := T b) At ct OK.out.fine (by omega) (RT.out w2 (KeepV.refl _)) hct).mono ?_
 rintro e w3 ⟨g1, c1, g2, c2, rfl, ht⟩
 have HT := Aside0.mk ht
 have hwl := foldW_len (T b) ((List.replicate 286 0).set 256 1, List.replicate 30 0)
 have hw1 : (wtsR (T b)).1.length = 286 := by unfold wtsR; rw [hwl.1, List.length_set, List.length_replicate]
 have hw2 : (wtsR (T b)).2.length = 30 := by unfold wtsR; rw [hwl.2, List.length_replicate]
 have HB3 := Aside0.mk (below_then HB2.out HB2.out.size HT.out.bel)
 have HV3 := Aside0.mk (KeepW.of_below HT.out.bel).v
 have BR3 := Aside0.mk (blk_below BR2.out HT.out.bel)
 have k1 := (Kd.R_reads' HT.out.l).2
 have k2 := (Kd.R_reads' HT.out.r).2
 have hm1 := wr_Lengths (w := w3) (ws := (wtsR (T b)).1) (la := la) (some ⟨g1, 0, none⟩) c1 15 (.inl rfl) (by rw [hw1]; decide) OK.out.wa OK.out.ea k1.2 k1.1
 rw [hw1] at hm1
 have HM1 := Aside0.mk hm1
 have HK2 := Aside0.mk k2
 have HW2 := Aside0.mk hw2
 clear ht hwl hw1 hw2 k1 k2 hm1 HB2 BR2
 go_wp2_with fail
 refine HM1.out.mono ?_
 rintro e w4 ⟨va, rfl, ho, hb⟩
 obtain ⟨Al, cl, ea⟩ := Kd.R_slice ho
 subst ea
 obtain ⟨rl, _, hcl⟩ := readsW_own ho
 have RL := Aside0.mk rl
 have HB4 := Aside0.mk (below_then HB3.out HB3.out.size hb)
 have HV4 := Aside0.mk (HV3.out.trans (KeepW.of_below hb).v)
 have BR4 := Aside0.mk (blk_below BR3.out hb)
 have hm2 := wr_Lengths (w := w4) (ws := (wtsR (T b)).2) (la := lb) (some ⟨g2, 0, none⟩) c2 15 (.inl rfl) (by rw [HW2.out]; decide) OK.out.wb OK.out.eb (Kd.C_below HK2.out.2 hb) HK2.out.1
 rw [HW2.out] at hm2
 have HM2 := Aside0.mk hm2
 rw [hla0] at hcl ⊢
 clear ho rl hb hm2 HM1 HB3 HV3 BR3 HT HK2 HW2
 go_wp2_with fail
 refine HM2.out.mono ?_
 rintro e w5 ⟨va, rfl, ho, hb⟩
 obtain ⟨Ad, cd, ea⟩ := Kd.R_slice ho
 subst ea
 obtain ⟨rd_, _, hcd⟩ := readsW_own ho
 have RD := Aside0.mk rd_
 have RL5 := Aside0.mk (RL.out.keep (KeepW.of_below hb).v)
 have HB5 := Aside0.mk (below_then HB4.out HB4.out.size hb)
 have HV5 := Aside0.mk (HV4.out.trans (KeepW.of_below hb).v)
 have BR5 := Aside0.mk (blk_below BR4.out hb)
 rw [hlb0] at hcd ⊢
 clear ho rd_ hb HM2 HB4 HV4 BR4 RL
 have hc1 := wr_cut (w := w5) (l := la) Al cl 257 257 rfl (by omega) (RL5.out w5 (KeepV.refl _)) (by omega) (by decide) (by omega)
 rw [hla0, ← HLl.out] at hc1
 have HC1 := Aside0.mk hc1
 clear hc1
 go_wp2_with fail
 refine HC1.out.mono ?_
 rintro e w6 ⟨rfl, hb⟩
 have RL6 := Aside0.mk (RL5.out.keep (KeepW.of_below hb).v)
 have RD6 := Aside0.mk (RD.out.keep (KeepW.of_below hb).v)
 have HB6 := Aside0.mk (below_then HB5.out HB5.out.size hb)
 have HV6 := Aside0.mk (HV5.out.trans (KeepW.of_below hb).v)
 have BR6 := Aside0.mk (blk_below BR5.out hb)
 have hc1 := wr_cut (w := w6) (l := lb) Ad cd 1 1 rfl (by omega) (RD6.out w6 (KeepV.refl _)) (by omega) (by decide) (by omega)
 rw [hlb0, ← HDl.out] at hc1
 have HC2 := Aside0.mk hc1
 clear hc1 hb HC1 RL5 RD HB5 HV5 BR5
 go_wp2_with fail
 refine HC2.out.mono ?_
 rintro e w7 ⟨rfl, hb⟩
 have RL7 := Aside0.mk (RL6.out.keep (KeepW.of_below hb).v)
 have RD7 := Aside0.mk (RD6.out.keep (KeepW.of_below hb).v)
 have HB7 := Aside0.mk (below_then HB6.out HB6.out.size hb)
 have HV7 := Aside0.mk (HV6.out.trans (KeepW.of_below hb).v)
 have BR7 := Aside0.mk (blk_below BR6.out hb)
 have hx1 : ReadsW w7 Al lits := by rw [OK.out.lits_]; exact readsW_take RL7.out (by have := cutN_le la 257 286; omega)
 have hx2 : ReadsW w7 Ad dists := by rw [OK.out.dists_]; exact readsW_take RD7.out (by have := cutN_le lb 1 30; omega)
 have RX := Aside0.mk hx1
 have RY := Aside0.mk hx2
 clear hb HC2 RL6 RD6 HB6 HV6 BR6 hx1 hx2
 go_wp2_with fail
 refine (wherrykeep_TwinInts.calls Al cl lits lits w7 (RX.out w7 (KeepV.refl _)) (by omega) (by unfold wherrykeep_TwinInts.f; rw [if_pos (by simp; omega)]; rfl)).mono ?_
 rintro e w8 ⟨vz, rfl, ho8, hb8⟩
 have HO8 := Aside0.mk ho8
 have HB8 := Aside0.mk hb8
 have RY8 := Aside0.mk (RY.out.keep (KeepW.of_below hb8).v)
 clear ho8 hb8
 go_wp2_with ((with_reducible refine gate_builtin (b := .append) rfl ?_); at_builtin; refine row_append rfl rfl Try.underlying32 info3 rfl rfl HO8.out (RY8.out w8 (KeepV.refl _)) HB8.out (by omega) ?_; rintro v9 w9 ⟨ho9, hb9⟩; (obtain ⟨Az, cz, ez⟩ := Kd.R_slice ho9); (subst ez); (have hcz := (Kd.R_reads' ho9).2.1); (have HZ := Aside0.mk (Kd.R_reads' ho9).2.2); (have HB9 := Aside0.mk hb9); clear ho9 hb9)
 obtain ⟨S, hS⟩ : ∃ S, S = steps (lits ++ dists).length (-1) (lits ++ dists) := ⟨_, rfl⟩
 have hr1 := wr_row (w := w9) (l := lits ++ dists) Az cz (by rw [List.length_append]; omega) OK.out.rng HZ.out hcz
 rw [← hS, List.length_append] at hr1
 have HR1 := Aside0.mk hr1
 have HS := Aside0.mk hS
 clear hr1 hS
 refine HR1.out.mono ?_
 rintro e w10 ⟨v0, v1, rfl, ho0, ho1, hb⟩
 obtain ⟨As, cs, es⟩ := Kd.R_slice ho0
 subst es
 obtain ⟨Am, cm, em⟩ := Kd.R_slice ho1
 subst em
 obtain ⟨rs, _, hcs⟩ := readsW_own ho0
 obtain ⟨rm, _, hcm⟩ := readsW_own ho1
 have hb710 := below_then HB9.out HB9.out.size hb
 have HB10 := Aside0.mk (below_then HB7.out HB7.out.size hb710)
 have HV10 := Aside0.mk (HV7.out.trans (KeepW.of_below hb710).v)
 have BR10 := Aside0.mk (blk_below BR7.out hb710)
 have RL10 := Aside0.mk (RL7.out.keep (KeepW.of_below hb710).v)
 have RD10 := Aside0.mk (RD7.out.keep (KeepW.of_below hb710).v)
 have RS := Aside0.mk rs
 have RM := Aside0.mk rm
 have hSl := OK.out.slen
 rw [← HS.out] at hSl
 have hls : (S.map (·.1)).length = S.length := List.length_map _
 have hlm : (S.map (·.2.1)).length = S.length := List.length_map _
 rw [hls] at hcs ⊢
 rw [hlm] at hcm ⊢
 clear ho0 ho1 rs rm hb hb710 HR1 HZ HB9 HO8 HB8 RY8 HB7 HV7 BR7 RL7 RD7 hls hlm hcz
 go_wp2_with ((with_reducible refine gate_dst (N := 54) rfl ?_); refine row_make 19 rfl (N := 54) rfl rfl rfl rfl Try.underlying32 info3 (by decide) ?_; rintro v11 w11 ⟨ho, hb⟩; (have HO11 := Aside0.mk ho); (have HB11 := Aside0.mk hb); clear ho hb)
 obtain ⟨L, hL⟩ : ∃ L, L = S.map (·.1) := ⟨_, rfl⟩
 have hLS : L.length = S.length := by rw [hL, List.length_map]
 have HLq : Aside0 (∀ j, j < L.length → ∃ q : Nat, L.getD j 0 = (q : Int) ∧ q ≤ 18) := ⟨fun j hj => by
  have hm : L.getD j 0 ∈ L := by rw [List.getD_eq_getElem?_getD, List.getElem?_eq_getElem hj]; exact List.getElem_mem hj
  generalize L.getD j 0 = q at hm
  rw [hL] at hm
  obtain ⟨t, ht, rfl⟩ := List.mem_map.1 hm
  have h1 := OK.out.fit t (by rw [← HS.out]; exact ht)
  exact ⟨t.1.toNat, by omega, by omega⟩⟩
 rw [← hL] at RS
 have HL := Aside0.mk hL
 have HLS := Aside0.mk hLS
 obtain ⟨g4, c4, e4, ge4, _, _⟩ := Kd.R_form HO11.out (by simp)
 simp only [List.length_replicate] at e4
 subst e4
 clear hL hLS
 go_loopg [15] S.length (fun kq v15 w' => ∃ (i : Nat), v15 = .int .i64 i ∧ i ≤ S.length ∧ Aside0 (kq + i = S.length) ∧ Aside0 (Kd.R (Kd.int .i64) 3 w' w10.heap.size (fun _ => True) (.slice (some ⟨g4, 0, none⟩) 19 c4) (metF (L.take i))) ∧ Aside0 (Below w10.heap.size w10 w'))
 case atStart => exact ⟨0, rfl, Nat.zero_le _, ⟨by omega⟩, HO11, HB11⟩
 case round =>
  clear HO11 HB11
  obtain ⟨i, rfl, hi, HG, HM, HBm⟩ := hrel
  by_cases hlt : i < S.length
  ·obtain ⟨q, hq, hq18⟩ := HLq.out i (by rw [HLS.out]; exact hlt)
   obtain ⟨as_, eas, _⟩ := Kd.at_int (RS.out w10 (KeepV.refl _)) (i : Int) (by omega) (by have := HLS.out; omega)
   subst eas
   have k0 := reads_at (RS.out wr (KeepW.of_below HBm.out).v) (by rw [HLS.out]; exact hlt) ((rd_nat L i).trans hq)
   obtain ⟨y1, y2⟩ := Kd.R_celln 0 HM.out (q : Int) (by omega) (by omega)
   rw [Int.toNat_natCast] at y1 y2
   obtain ⟨y, hy⟩ : ∃ y, y = rdOf (0 : Int) (metF (L.take i)) (q : Int) := ⟨_, rfl⟩
   rw [← hy] at y1
   obtain ⟨z, hz⟩ : ∃ z, wrap64 (y + 1) = z := ⟨_, rfl⟩
   have hz2 : IntKind.i64.wrap (y + 1) = z := (i64_w _).trans hz
   have HZ : Aside0 (metF (L.take (i + 1)) = (metF (L.take i)).set q z) := ⟨by rw [metF_take L (by rw [HLS.out]; exact hlt), hq, Int.toNat_natCast, ← hz, hy]; rfl⟩
   have HPT := Aside0.mk (Kd.R_putn HM.out (q : Int) z)
   rw [Int.toNat_natCast] at HPT
   have HBN := Aside0.mk (below_set (j := q) (v := .int .i64 z) HBm.out ge4)
   clear hy hq
   go_wp2_with fail
   go_roundg (gk - 1)
   case measure => have := HG.out; omega
   case rel => exact ⟨i + 1, by go_num, by omega, ⟨by have := HG.out; omega⟩, ⟨by rw [HZ.out]; exact HPT.out⟩, HBN⟩
  obtain rfl : i = S.length := by omega
  have hM := HM.out
  rw [← HLS.out, List.take_length, HL.out, HS.out] at hM
  have hM2 := (Kd.R_reads' hM).2
  have hl7 := wr_Lengths (w := wr) (la := own) (some ⟨g4, 0, none⟩) c4 7 (.inr ⟨rfl, by have := pos_le (metF ((steps (lits ++ dists).length (-1) (lits ++ dists)).map (·.1))); rw [metF_len] at this; exact this⟩) (by rw [metF_len]; decide) OK.out.wm OK.out.eo hM2.2 (by rw [metF_len]; exact hM2.1)
  rw [metF_len] at hl7
  have H7 := Aside0.mk hl7
  clear hM hM2 hl7
  go_wp2_with fail
  refine H7.out.mono ?_
  rintro e w12 ⟨vo, rfl, ho, hb⟩
  obtain ⟨Ao, co, eo⟩ := Kd.R_slice ho
  subst eo
  obtain ⟨ro, _, hco⟩ := readsW_own ho
  have RO := Aside0.mk ro
  have hb1012 := below_then HBm.out HBm.out.size hb
  have own0 := OK.out.own0
  rw [own0] at hco ⊢
  have HB12 := Aside0.mk (below_then HB10.out HB10.out.size hb1012)
  have HV12 := Aside0.mk (HV10.out.trans (KeepW.of_below hb1012).v)
  have BR12 := Aside0.mk (blk_below BR10.out hb1012)
  have RL12 := Aside0.mk (RL10.out.keep (KeepW.of_below hb1012).v)
  have RD12 := Aside0.mk (RD10.out.keep (KeepW.of_below hb1012).v)
  have RS12 := Aside0.mk (RS.out.keep (KeepW.of_below hb1012).v)
  have RM12 := Aside0.mk (RM.out.keep (KeepW.of_below hb1012).v)
  clear ho ro hb hb1012 H7 HM HBm HB10 HV10 BR10 RL10 RD10 RS RM
  go_wp2_with fail
  refine (wherryref01_order.calls ord19 w12 rfl).mono ?_
  rintro e w13 ⟨vq, rfl, ho, hb⟩
  obtain ⟨Aq, cq, eq⟩ := Kd.R_slice ho
  subst eq
  obtain ⟨rq, _, hcq⟩ := readsW_own ho
  have RQ := Aside0.mk rq
  have HB13 := Aside0.mk (below_then HB12.out HB12.out.size hb)
  have HK13 := Aside0.mk (KeepW.of_below hb).v
  have RO13 := Aside0.mk (RO.out.keep HK13.out)
  have BR13 := Aside0.mk (blk_below BR12.out hb)
  clear ho rq hb
  go_wp2_with fail
  obtain ⟨O, hO⟩ : ∃ O, O = ord19.map (rd own) := ⟨_, rfl⟩
  have hO19 : O.length = 19 := by rw [hO, List.length_map]; rfl
  have HOq : Aside0 (∀ j, j < 19 → ∃ q : Nat, ord19.getD j 0 = (q : Int) ∧ q < 19 ∧ O.take (j + 1) = O.take j ++ [rd own (q : Int)]) := ⟨fun j hj => by
   have h1 : ∀ j : Fin 19, 0 ≤ ord19.getD j.val 0 ∧ ord19.getD j.val 0 < 19 := by decide
   have h2 : 0 ≤ ord19.getD j 0 ∧ ord19.getD j 0 < 19 := h1 ⟨j, hj⟩
   refine ⟨(ord19.getD j 0).toNat, by omega, by omega, ?_⟩
   rw [List.take_add_one, List.getElem?_eq_getElem (by omega), Int.toNat_of_nonneg h2.1]
   have e : O[j]'(by omega) = rd own (ord19.getD j 0) := by
    have h3 : O[j]? = (ord19.map (rd own))[j]? := by rw [hO]
    rw [List.getElem?_eq_getElem (by omega), List.getElem?_map, List.getElem?_eq_getElem (show j < ord19.length from hj)] at h3
    rw [List.getD_eq_getElem?_getD, List.getElem?_eq_getElem (show j < ord19.length from hj)]
    exact Option.some.inj h3
   rw [e]
   rfl⟩
  have HOO := Aside0.mk hO
  clear hO
  go_loopg [18, 20] 19 (fun kq v18 v20 w' => ∃ (i : Nat), v20 = .int .i64 i ∧ i ≤ 19 ∧ Aside0 (kq + i = 19) ∧ Aside0 (Kd.R (Kd.int .i64) 3 w' w13.heap.size (fun _ => True) v18 (O.take i)) ∧ Aside0 (Below w13.heap.size w13 w'))
  case atStart => exact ⟨0, rfl, Nat.zero_le _, ⟨by omega⟩, ⟨Kd.R_nil _ _ _ _ _⟩, ⟨Below.refl _ _⟩⟩
  case round =>
   obtain ⟨i, rfl, hi, HG, HV, HBo⟩ := hrel
   by_cases hlt : i < 19
   ·obtain ⟨q, hq, hq19, hqt⟩ := HOq.out i hlt
    obtain ⟨aq, eaq, _⟩ := Kd.at_int (RQ.out w13 (KeepV.refl _)) (i : Int) (by omega) (by show (i : Int) < ((19 : Nat) : Int); omega)
    subst eaq
    have k0 := reads_at (RQ.out wr (KeepW.of_below HBo.out).v) (show i < ord19.length from hlt) ((rd_nat ord19 i).trans hq)
    obtain ⟨ao, eao, _⟩ := Kd.at_int (RO13.out w13 (KeepV.refl _)) (q : Int) (by omega) (by omega)
    subst eao
    have k1 := reads_at (RO13.out wr (KeepW.of_below HBo.out).v) (by omega : q < own.length) rfl
    obtain ⟨x, hx⟩ : ∃ x, x = rd own (q : Int) := ⟨_, rfl⟩
    rw [← hx] at k1 hqt
    have HQT := Aside0.mk hqt
    have hl19 : (O.take i).length ≤ 19 := by rw [List.length_take]; omega
    have HL9 := Aside0.mk hl19
    clear hx hq hqt hl19
    go_wp2_with ((with_reducible refine gate_builtin (b := .append) rfl ?_); at_builtin; refine row_snoc rfl rfl Try.underlying32 info3 rfl rfl HV.out HBo.out (by have := HL9.out; omega) ?_; rintro v5 w5 ⟨ho, hb⟩; (have HV5 := Aside0.mk ho); (have HB5 := Aside0.mk hb); clear ho hb)
    go_roundg (gk - 1)
    case measure => have := HG.out; omega
    case rel => exact ⟨i + 1, by go_num, by omega, ⟨by have := HG.out; omega⟩, ⟨by rw [HQT.out]; exact HV5.out⟩, HB5⟩
   obtain rfl : i = 19 := by omega
   have hv := HV.out
   rw [← hO19, List.take_length] at hv
   obtain ⟨Av, cv, ev⟩ := Kd.R_slice hv
   subst ev
   obtain ⟨rv, _, hcv⟩ := readsW_own hv
   have hct := wr_cut (w := wr) (l := O) Av cv 4 4 rfl (by omega) (rv wr (KeepV.refl _)) hcv (by decide) (by omega)
   have HTN : Aside0 (turned = O.take (cutN O 4 19)) := ⟨by rw [HOO.out]; exact OK.out.tn⟩
   have hnt : cutN O 4 19 ≤ 19 := cutN_le _ _ _
   have htl : turned.length = cutN O 4 19 := by rw [HTN.out, List.length_take]; omega
   have rt2 : ReadsW wr Av turned := by rw [HTN.out]; exact readsW_take rv (by omega)
   rw [hO19] at hct hcv ⊢
   rw [← htl] at hct hnt
   have HCT := Aside0.mk hct
   have RTN := Aside0.mk rt2
   have HB14 := Aside0.mk (below_then HB13.out HB13.out.size HBo.out)
   have HK14 := Aside0.mk (KeepW.of_below HBo.out).v
   have BR14 := Aside0.mk (blk_below BR13.out HBo.out)
   have h4t := OK.out.tlen
   clear hv rv hct htl rt2 HV HB13 HBo BR13
   go_wp2_with fail
   refine HCT.out.mono ?_
   rintro e w15 ⟨rfl, hb⟩
   have HB15 := Aside0.mk (below_then HB14.out HB14.out.size hb)
   have HKx := Aside0.mk (HK13.out.trans (HK14.out.trans (KeepW.of_below hb).v))
   have RTN15 := Aside0.mk (RTN.out.keep (KeepW.of_below hb).v)
   have BR15 := Aside0.mk (blk_below BR14.out hb)
   clear hb HCT HB14 RTN BR14
   go_wp2_with fail
   refine (BitsW.putI (w0 := w) (w := w15) (it := []) (BitsW.nil HB15.out.size) HB15.out 5 3 5 3 rfl rfl (by decide) (by decide) (by decide)).mono ?_
   rintro e w16 ⟨s2, rfl, hs2, hb2, hk2⟩
   obtain ⟨A2, c2', B2, rfl, ho2, hw2⟩ := hs2.cells
   have BR16 := Aside0.mk (hk2.2 _ _ _ BR15.out (by decide))
   have HO16 := Aside0.mk ho2
   have HW16 := Aside0.mk hw2
   have HB16 := Aside0.mk hb2
   have HKy := Aside0.mk (HKx.out.trans hk2.v)
   have RTN16 := Aside0.mk (RTN15.out.keep hk2.v)
   clear hs2 ho2 hw2 hb2 hk2 BR15 HB15 HKx RTN15
   go_wp2_with (first
    | ((with_reducible refine gate_dst (N := 21) rfl ?_); refine box_event ?hg (N := 21) ?hd (cs := #[.slice none 0 0, .int .i64 0]) (t := 61) ?hr ?_; (case hd => rfl); (case hg => rfl); (case hr => first | (go_simp; done) | (go_simp; rfl)); intro g hg w17 hbox hb; (have BK17 := Aside0.mk hbox); (have GE := Aside0.mk (show w.heap.size ≤ g from by rw [hg]; exact below_size HB16.out)); (have NE := Aside0.mk (show g ≠ gR from by have := blk_lt BR16.out; omega)); (have BR17 := Aside0.mk (blk_below BR16.out hb)); (have HO17 := Aside0.mk (Kd.R_below HO16.out hb)); (have HB17 := Aside0.mk (below_step HB16.out hb)); (have HKz := Aside0.mk (HKy.out.trans (KeepW.of_below hb).v)); (have RTN17 := Aside0.mk (RTN16.out.keep (KeepW.of_below hb).v)); (have hcz0 := (blk_cell BK17.out 0).trans rfl); (have hcz1 := (blk_cell BK17.out 1).trans rfl); (have hfz0 := blk_frozen BK17.out 0); (have hfz1 := blk_frozen BK17.out 1); clear HB16 HO16 BR16 HKy RTN16 hb hbox hg))
   have HX : Aside0 (TxAt w w w17 ((w17.setCell ⟨g, 0, none⟩ (.slice A2 (List.length B2) c2')).setCell ⟨g, 1, none⟩ (.int .i64 ((wN [(5, 3)] : Nat) : Int))) g gR [(5, 3)]) := ⟨TxAt.first BK17.out GE.out BR17.out HB17.out (KeepW.of_below HB17.out) (KeepV.refl _) HO17.out HW16.out NE.out GE.out⟩
   have hA : ((w17.setCell ⟨g, 0, none⟩ (.slice A2 (List.length B2) c2')).setCell ⟨g, 1, none⟩ (.int .i64 ((wN [(5, 3)] : Nat) : Int))).cell? ⟨g, 0, none⟩ = some (.slice A2 B2.length c2') := (blk_cell (blk_put (cs := #[.slice A2 (List.length B2) c2', .int .i64 0]) (blk_put BK17.out 0 _ rfl) 1 _ rfl) 0).trans rfl
   have RL17 := Aside0.mk (RL12.out.keep HKz.out)
   have RD17 := Aside0.mk (RD12.out.keep HKz.out)
   have RS17 := Aside0.mk (RS12.out.keep HKz.out)
   have RM17 := Aside0.mk (RM12.out.keep HKz.out)
   have RO17 := Aside0.mk (RO.out.keep HKz.out)
   have RT17 := Aside0.mk (RT.out.keep (HV12.out.trans HKz.out))
   clear HO17 HB17 BR17 BK17 hcz0 hcz1 hfz0 hfz1 HKz RL12 RD12 RS12 RM12 RO RO13 RT HV12
   generalize ((w17.setCell { block := g, off := 0 } (Value.slice A2 (List.length B2) c2')).setCell { block := g, off := 1 } (Value.int IntKind.i64 ((wN [(5, 3)] : Nat) : Int))) = w18 at HX hA ⊢
   obtain ⟨A5, c5, B5, bk, _, ho, hw⟩ := HX.out.bits
   have e5 := Option.some.inj (((blk_cell bk 0).trans rfl : w18.cell? ⟨g, 0, none⟩ = some (.slice A5 B5.length c5)).symm.trans hA)
   rw [← e5]
   have BK := Aside0.mk bk
   have HO := Aside0.mk ho
   have HW := Aside0.mk hw
   clear hA bk ho hw e5
   have HO18 := HO
   have HW18 := HW
   have HBp18 := Aside0.mk HX.out.bel
   refine (BitsW.putI (it := [(5, 3)]) (bitsW_of HO18.out HW18.out) HBp18.out (lits.length - 257) 5 ((lits.length : Int) - 257) 5 (by omega) rfl (by omega) (by decide) (by simp only [wN]; omega)).mono ?_
   rintro e w19 ⟨s6, rfl, hs6, hb6, hk6⟩
   obtain ⟨A6, c6, B6, rfl, ho6, hw6⟩ := hs6.cells
   have HO19 := Aside0.mk ho6
   have HW19 := Aside0.mk hw6
   have HBp19 := Aside0.mk hb6
   have HK19 := Aside0.mk hk6
   clear hs6 hb6 hk6 ho6 hw6
   go_wp2_with fail
   refine (BitsW.putI (it := [(5, 3), (lits.length - 257, 5)]) (bitsW_of HO19.out HW19.out) HBp19.out (dists.length - 1) 5 ((dists.length : Int) - 1) 5 (by omega) rfl (by omega) (by decide) (by simp only [wN]; omega)).mono ?_
   rintro e w20 ⟨s6, rfl, hs6, hb6, hk6⟩
   obtain ⟨A6, c6, B6, rfl, ho6, hw6⟩ := hs6.cells
   have HO20 := Aside0.mk ho6
   have HW20 := Aside0.mk hw6
   have HBp20 := Aside0.mk hb6
   have HK20 := Aside0.mk (HK19.out.trans hk6)
   clear hs6 hb6 hk6 ho6 hw6
   go_wp2_with fail
   refine (BitsW.putI (it := [(5, 3), (lits.length - 257, 5), (dists.length - 1, 5)]) (bitsW_of HO20.out HW20.out) HBp20.out (turned.length - 4) 4 ((turned.length : Int) - 4) 4 (by omega) rfl (by omega) (by decide) (by simp only [wN]; omega)).mono ?_
   rintro e w21 ⟨s6, rfl, hs6, hb6, hk6⟩
   obtain ⟨A6, c6, B6, rfl, ho6, hw6⟩ := hs6.cells
   have HO21 := Aside0.mk ho6
   have HW21 := Aside0.mk hw6
   have HBp21 := Aside0.mk hb6
   have HK21 := Aside0.mk (HK20.out.trans hk6)
   have BK21 := Aside0.mk (HK21.out.2 _ _ _ BK.out (by decide))
   have hcz0 := (blk_cell BK21.out 0).trans rfl
   have hcz1 := (blk_cell BK21.out 1).trans rfl
   have hfz0 := blk_frozen BK21.out 0
   have hfz1 := blk_frozen BK21.out 1
   obtain ⟨J2, hJ2⟩ : ∃ J2, J2 = [(5, 3), (lits.length - 257, 5), (dists.length - 1, 5), (turned.length - 4, 4)] := ⟨_, rfl⟩
   have hw6' : Wrote B6 J2 := by rw [hJ2]; exact hw6
   have HX21 := Aside0.mk (HX.out.store HK21.out hb6 ho6 hw6' NE.out GE.out)
   have HJ2 := Aside0.mk hJ2
   have hJN : wN J2 = 17 := by rw [hJ2]; rfl
   have HJN := Aside0.mk hJN
   rw [show ([(5, 3), (lits.length - 257, 5), (dists.length - 1, 5)] ++ [(turned.length - 4, 4)]) = J2 from hJ2.symm]
   clear hs6 hb6 hk6 ho6 hw6 hw6' HK19 HK20 HK21 HO18 HO19 HO20 HO21 HW18 HW19 HW20 HW21 HBp18 HBp19 HBp20 HBp21 HX BK HO HW hJ2 hJN
   go_wp2_with fail
   have HIT : Aside0 (∀ i, i ≤ turned.length → wN (J2 ++ (turned.take i).map (fun x => (x.toNat, 3))) ≤ 100) := ⟨fun i hi => by
    have h3 : ∀ l : List Int, wN (l.map (fun x => (x.toNat, 3))) = 3 * l.length := fun l => by
     induction l with
     | nil => rfl
     | cons c b ih => simp only [List.map_cons, wN, ih, List.length_cons]; omega
    rw [WP.wN_append, h3, List.length_take, HJN.out]
    omega⟩
   go_loopg [22] turned.length (fun kq v22 w' => ∃ (i : Nat), v22 = .int .i64 i ∧ i ≤ turned.length ∧ Aside0 (kq + i = turned.length) ∧ Aside0 (TxAt w w w17 w' g gR (J2 ++ (turned.take i).map (fun x => (x.toNat, 3)))))
   case atStart => exact ⟨0, rfl, Nat.zero_le _, ⟨by omega⟩, ⟨by rw [List.take_zero, List.map_nil, List.append_nil]; exact HX21.out⟩⟩
   case round =>
    clear HX21 hcz0 hcz1 hfz0 hfz1 BK21
    obtain ⟨i, rfl, hi, HG, HX⟩ := hrel
    have hni := HIT.out i hi
    obtain ⟨J, hJ⟩ : ∃ J, J = J2 ++ (turned.take i).map (fun x => (x.toNat, 3)) := ⟨_, rfl⟩
    rw [← hJ] at HX hni
    have HJ := Aside0.mk hJ
    have HN := Aside0.mk hni
    clear hJ hni
    by_cases hlt : i < turned.length
    ·obtain ⟨A5, c5, B5, bk, _, ho, hw⟩ := HX.out.bits
     have BK := Aside0.mk bk
     have HO := Aside0.mk ho
     have HW := Aside0.mk hw
     have hcz0 : wr.cell? ⟨g, 0, none⟩ = some (.slice A5 B5.length c5) := (blk_cell bk 0).trans rfl
     have hcz1 : wr.cell? ⟨g, 1, none⟩ = some (.int .i64 (wN J : Nat)) := (blk_cell bk 1).trans rfl
     clear bk ho hw
     obtain ⟨x, hx⟩ : ∃ x, x = turned.getD i 0 := ⟨_, rfl⟩
     obtain ⟨xn, hxn, hx8⟩ : ∃ n : Nat, x = (n : Int) ∧ n < 16 := by
      have h1 := OK.out.trng (turned.getD i 0) (by rw [List.getD_eq_getElem?_getD, List.getElem?_eq_getElem hlt]; exact List.getElem_mem hlt)
      rw [hx]
      exact ⟨(turned.getD i 0).toNat, by omega, by omega⟩
     obtain ⟨ad, ead, _⟩ := Kd.at_int (RTN17.out w17 (KeepV.refl _)) (i : Int) (by omega) (by omega)
     subst ead
     have HXR := Aside0.mk ((rd_nat turned i).trans (hx.symm.trans hxn))
     have kb := reads_at (RTN17.out wr HX.out.kv) hlt HXR.out
     have HXN : Aside0 ((turned.take (i + 1)).map (fun x => (x.toNat, 3)) = (turned.take i).map (fun x => (x.toNat, 3)) ++ [(xn, 3)]) := ⟨by
      rw [List.take_add_one, List.map_append, List.getElem?_eq_getElem hlt]
      have e : turned[i] = (xn : Int) := by rw [← hxn, hx, List.getD_eq_getElem?_getD, List.getElem?_eq_getElem hlt]; rfl
      simp [e]⟩
     clear hx hxn
     go_wp2_with fail
     refine start_ (n := 7) (S := fun w' => w'.cell? ⟨g, 0, none⟩ = some (.slice A5 B5.length c5) ∧ w'.cell? ⟨g, 1, none⟩ = some (.int .i64 (wN J : Nat)) ∧ w'.cell? (ad.add i) = some (.int .i64 xn)) (ds := [6]) #[false, false, false, false, false, false, false] (by kernel_rfl) rfl rfl ⟨hcz0, hcz1, kb⟩ (fun hHeld => ?_)
     refine pure_ (i := 1) (N := some 116) (v := ?_) (a' := ?_) #[false, true, false, false, false, false, false] rfl rfl (by kernel_rfl) (fun _ _ _ h => h) (Or.inl ⟨by rfl, ?_⟩) ?_ ?_
     rotate_left
     ·intro w'
      go_simp
      with_reducible rfl
     rotate_left
     ·simp only [Act.put, List.setIfInBounds_toArray, List.set_cons_zero, List.set_cons_succ, i64_w, i32_w]
      rfl
     refine pure_ (i := 2) (N := some 117) (v := ?_) (a' := ?_) #[false, true, true, false, false, false, false] rfl rfl (by kernel_rfl) (fun _ _ _ h => h) (Or.inl ⟨by rfl, ?_⟩) ?_ ?_
     rotate_left
     ·intro w'
      go_simp
      with_reducible rfl
     rotate_left
     ·simp only [Act.put, List.setIfInBounds_toArray, List.set_cons_zero, List.set_cons_succ, i64_w, i32_w]
      rfl
     refine pure_ (i := 3) (N := some 118) (v := ?_) (a' := ?_) #[false, true, true, true, false, false, false] rfl rfl (by kernel_rfl) (fun _ _ _ h => h) (Or.inl ⟨by rfl, ?_⟩) ?_ ?_
     rotate_left
     ·intro w'
      go_simp
      with_reducible rfl
     rotate_left
     ·simp only [Act.put, List.setIfInBounds_toArray, List.set_cons_zero, List.set_cons_succ, i64_w, i32_w]
      rfl
     refine take_ (i := 0) (N := some 115) (v := ?_) (a' := ?_) #[true, true, true, true, false, false, false] rfl rfl (by kernel_rfl) (fun _ _ _ h => h) (Or.inl ⟨by rfl, ?_⟩) hHeld ?_ ?_
     rotate_left
     ·rintro w' ⟨s0, s1, s2⟩
      go_simp
      with_reducible rfl
     rotate_left
     ·simp only [Act.put, List.setIfInBounds_toArray, List.set_cons_zero, List.set_cons_succ, i64_w, i32_w]
      rfl
     refine take_ (i := 4) (N := some 119) (v := ?_) (a' := ?_) #[true, true, true, true, true, false, false] rfl rfl (by kernel_rfl) (fun _ _ _ h => h) (Or.inl ⟨by rfl, ?_⟩) hHeld ?_ ?_
     rotate_left
     ·rintro w' ⟨s0, s1, s2⟩
      go_simp
      with_reducible rfl
     rotate_left
     ·simp only [Act.put, List.setIfInBounds_toArray, List.set_cons_zero, List.set_cons_succ, i64_w, i32_w]
      rfl
     refine one_ (i := 5) (N := some 120) #[true, true, true, true, true, true, false] rfl rfl (by kernel_rfl) (by decide) (fun K hK => ?_)
     refine goes_ Try.func78 (by kernel_rfl) rfl #[.agg #[.slice A5 B5.length c5, .int .i64 (wN J : Nat)], .int .i64 xn, .int .i64 3] (by rfl) rfl rfl (by simp only [List.map_toArray, List.map_cons, List.map_nil]; rfl) ?_
     with_reducible refine (BitsW.putI (it := J) (w0 := w) (w := wr.drew) (bitsW_of (Kd.R_drew HO.out) HW.out) HX.out.bel.drew xn 3 xn 3 rfl rfl (by omega) (by decide) (by have := HN.out; omega)).mono ?_
     rintro e w3 ⟨s3, rfl, hs3, hB3, hK3⟩
     refine ⟨_, rfl, ?_⟩
     obtain ⟨A3, c3, B3, rfl, ho3, hw3⟩ := hs3.cells
     have hk3 := (KeepW.of_below (Below.refl _ wr).drew).trans hK3
     have HO3 := Aside0.mk ho3
     have HW3 := Aside0.mk hw3
     have HB3 := Aside0.mk hB3
     have HK3 := Aside0.mk hk3
     have BK3 := Aside0.mk (hk3.2 _ _ _ BK.out (by decide))
     have hc30 : w3.cell? ⟨g, 0, none⟩ = some (.slice A5 B5.length c5) := (blk_cell BK3.out 0).trans rfl
     have hc31 : w3.cell? ⟨g, 1, none⟩ = some (.int .i64 (wN J : Nat)) := (blk_cell BK3.out 1).trans rfl
     have hf30 := blk_frozen BK3.out 0
     have hf31 := blk_frozen BK3.out 1
     have kb3 := reads_at (RTN17.out w3 (HX.out.kv.trans hk3.v)) hlt HXR.out
     clear hs3 ho3 hw3 hK3 hk3 hB3
     refine hK.out _ _ ⟨hc30, hc31, kb3⟩ (fun hHeld => ?_)
     clear hK K
     refine norm_ (a' := ?_) ?_ ?_
     rotate_left
     ·show Act.put _ (some 120) _ = _
      simp only [Act.put, List.setIfInBounds_toArray, List.set_cons_zero, List.set_cons_succ, i64_w, i32_w]
      rfl
     refine last_ (i := 6) (N := none) #[true, true, true, true, true, true, true] rfl rfl (by kernel_rfl) (by decide) (fun K hK => ?_)
     refine skip_ (w1 := ?_) (by rfl) rfl ?_ ?_
     rotate_left
     ·go_simp
      rfl
     refine hK.out _ _ ?_
     clear hK K
     refine done_ (by kernel_rfl) ?_
     clear hHeld hc30 hc31 hf30 hf31 kb3 kb hcz0 hcz1
     go_wp2_with fail
     go_roundg (gk - 1)
     case measure => have := HG.out; omega
     case rel =>
      refine ⟨i + 1, by go_num, by omega, ⟨by have := HG.out; omega⟩, ⟨?_⟩⟩
      rw [HXN.out, ← List.append_assoc, ← HJ.out]
      exact HX.out.store HK3.out HB3.out HO3.out HW3.out NE.out GE.out
    obtain rfl : i = turned.length := by omega
    go_wp2_with fail
    have hcd := wherryref01_codes.calls 8000 Ao co own (codesL own) wr (RO17.out wr HX.out.kv) (by rw [OK.out.own0]; exact hco) (Go.Proofs.Ytlffpaploefljaa.Glue.refcodes_is OK.out.mo 8000 (by decide))
    rw [OK.out.own0] at hcd
    have HCC := Aside0.mk hcd
    clear hcd
    refine HCC.out.mono ?_
    rintro e w19 ⟨vc, rfl, ho, hb⟩
    obtain ⟨Ac, cc, ec⟩ := Kd.R_slice ho
    subst ec
    obtain ⟨rc, _, hcc⟩ := readsW_own ho
    rw [codesL_length, OK.out.own0] at hcc ⊢
    have RC := Aside0.mk rc
    have hkx := HX.out.kv.trans (KeepW.of_below hb).v
    have RL19 := Aside0.mk (RL17.out.keep hkx)
    have RD19 := Aside0.mk (RD17.out.keep hkx)
    have RS19 := Aside0.mk (RS17.out.keep hkx)
    have RM19 := Aside0.mk (RM17.out.keep hkx)
    have RO19 := Aside0.mk (RO17.out.keep hkx)
    have RT19 := Aside0.mk (RT17.out.keep hkx)
    have hx19 := HX.out.below hb
    have HX19 : Aside0 (TxAt w w w19 w19 g gR J) := ⟨⟨hx19.bits, hx19.res, hx19.bel, hx19.kw, KeepV.refl _⟩⟩
    have HCD : Aside0 (∀ (W : World) (s : Value) (it : List (Nat × Nat)) (j : Nat), Has own j → KeepV w19 W → BitsW w W s it → Below w.heap.size w W → wN it ≤ 800000000 → Calls Try.prog 82 #[s, .slice Ao 19 co, .slice Ac 19 cc, .int .i64 j] W fun e w' => ∃ s', e = .returned s' ∧ BitsW w w' s' (it ++ [codeI own j]) ∧ Below w.heap.size w w' ∧ KeepW W w') := ⟨fun W s it j hj hk hs hB hN => by
     have h := wr_code (w0 := w) (w := W) (s := s) (it := it) OK.out.mo hj Ao Ac co cc (RO19.out.keep hk) (by rw [OK.out.own0]; exact hco) (RC.out.keep hk) (by rw [OK.out.own0]; exact hcc) (j : Int) rfl hs hB hN
     rwa [OK.out.own0] at h⟩
    obtain ⟨J3, hJ3⟩ : ∃ J3, J3 = J := ⟨_, rfl⟩
    rw [← hJ3] at HX19
    have hj3 : J3 = J2 ++ turned.map (fun x => (x.toNat, 3)) := by rw [hJ3, HJ.out, List.take_length]
    have hn3 : wN J3 ≤ 100 := by rw [hJ3]; exact HN.out
    have HJ3 := Aside0.mk hj3
    have HN3 := Aside0.mk hn3
    clear ho rc hb hkx hx19 HX HJ HN hJ3 hj3 hn3 RL17 RD17 RS17 RM17 RO17 RT17 HCC
    obtain ⟨M, hM⟩ : ∃ M, M = S.map (·.2.1) := ⟨_, rfl⟩
    rw [← hM] at RM19
    have HMM := Aside0.mk hM
    have hNs : ∀ i, i ≤ S.length → wN (J3 ++ (S.take i).flatMap (stepI own)) ≤ 100 + 30 * i := by
     intro i
     induction i with
     | zero => intro _; rw [List.take_zero, List.flatMap_nil, List.append_nil]; exact HN3.out
     | succ i ih =>
      intro hi
      have h1 := ih (by omega)
      have hlt : i < S.length := by omega
      obtain ⟨h2, h3, h4, x, n, h5, h6, h7, h8, h9⟩ := OK.out.fit S[i] (by rw [← HS.out]; exact List.getElem_mem hlt)
      have h10 := codeI_le OK.out.mo h4
      rw [List.take_add_one, List.getElem?_eq_getElem hlt, List.flatMap_append, ← List.append_assoc, WP.wN_append]
      simp only [Option.toList_some, List.flatMap_cons, List.flatMap_nil, List.append_nil]
      have h11 : wN (stepI own S[i]) ≤ 30 := by
       unfold stepI
       rw [h6, Int.toNat_natCast]
       simp only [wN]
       omega
      omega
    have HNS := Aside0.mk hNs
    clear hM hNs
    go_wp2_with fail
    go_loopg [24] S.length (fun kq v24 w' => ∃ (i : Nat), v24 = .int .i64 i ∧ i ≤ S.length ∧ Aside0 (kq + i = S.length) ∧ Aside0 (TxAt w w w19 w' g gR (J3 ++ (S.take i).flatMap (stepI own))))
    case atStart => exact ⟨0, rfl, Nat.zero_le _, ⟨by omega⟩, ⟨by rw [List.take_zero, List.flatMap_nil, List.append_nil]; exact HX19.out⟩⟩
    case round =>
     clear HX19
     obtain ⟨i, rfl, hi, HG, HX⟩ := hrel
     have hni := HNS.out i hi
     obtain ⟨J, hJ⟩ : ∃ J, J = J3 ++ (S.take i).flatMap (stepI own) := ⟨_, rfl⟩
     rw [← hJ] at HX hni
     have HJ := Aside0.mk hJ
     have hn9 : wN J ≤ 20000 := by omega
     have HN := Aside0.mk hn9
     clear hJ hni hn9
     obtain ⟨A5, c5, B5, bk, _, ho, hw⟩ := HX.out.bits
     have BK := Aside0.mk bk
     have HO := Aside0.mk ho
     have HW := Aside0.mk hw
     have hcz0 : wr.cell? ⟨g, 0, none⟩ = some (.slice A5 B5.length c5) := (blk_cell bk 0).trans rfl
     have hcz1 : wr.cell? ⟨g, 1, none⟩ = some (.int .i64 (wN J : Nat)) := (blk_cell bk 1).trans rfl
     clear bk ho hw
     by_cases hlt : i < S.length
     ·obtain ⟨h2, h3, h4, x, n, h5, h6, h7, h8, h9⟩ := OK.out.fit S[i] (by rw [← HS.out]; exact List.getElem_mem hlt)
      obtain ⟨q, hq⟩ := Int.eq_ofNat_of_zero_le h2
      rw [hq] at h9
      rw [hq, Int.toNat_natCast] at h4
      have hST : stepI own S[i] = [codeI own q, (x, n)] := by unfold stepI; rw [hq, h5, h6]; simp only [Int.toNat_natCast]
      have hltL : i < L.length := by rw [HLS.out]; exact hlt
      have hltM : i < M.length := by rw [HMM.out, List.length_map]; exact hlt
      have HQ : Aside0 (rd L (i : Int) = (q : Int)) := ⟨by rw [rd_nat, HL.out, List.getD_eq_getElem?_getD, List.getElem?_map, List.getElem?_eq_getElem hlt]; exact hq⟩
      have HXM : Aside0 (rd M (i : Int) = (x : Int)) := ⟨by rw [rd_nat, HMM.out, List.getD_eq_getElem?_getD, List.getElem?_map, List.getElem?_eq_getElem hlt]; exact h5⟩
      have HXN : Aside0 ((S.take (i + 1)).flatMap (stepI own) = (S.take i).flatMap (stepI own) ++ [codeI own q] ++ [(x, n)]) := ⟨by
       rw [List.take_add_one, List.getElem?_eq_getElem hlt, List.flatMap_append]
       simp only [Option.toList_some, List.flatMap_cons, List.flatMap_nil, List.append_nil, hST, List.append_assoc, List.cons_append, List.nil_append]⟩
      have hp7 : 2 ^ n ≤ 2 ^ 7 := Nat.pow_le_pow_right (by decide) h8
      have hx62 : x < 2 ^ 62 := by omega
      have H4 := Aside0.mk h4
      have H9 := Aside0.mk h9
      have hc15 := (codeI_le OK.out.mo h4).2.1
      have HN2 : Aside0 (wN (J ++ [codeI own q]) ≤ 30000) := ⟨by rw [WP.wN_append]; simp only [wN]; have := HN.out; omega⟩
      obtain ⟨ads, eas, _⟩ := Kd.at_int (RS19.out w19 (KeepV.refl _)) (i : Int) (by omega) (by omega)
      subst eas
      obtain ⟨adm, eam, _⟩ := Kd.at_int (RM19.out w19 (KeepV.refl _)) (i : Int) (by omega) (by omega)
      subst eam
      have ks := reads_at (RS19.out wr HX.out.kv) hltL HQ.out
      have km := reads_at (RM19.out wr HX.out.kv) hltM HXM.out
      clear h2 h3 h4 h5 h6 h7 h9 hq hST hp7
      go_wp2_with fail
      refine start_ (n := 19) (S := fun w' => w'.cell? ⟨g, 0, none⟩ = some (.slice A5 B5.length c5) ∧ w'.cell? ⟨g, 1, none⟩ = some (.int .i64 (wN J : Nat)) ∧ w'.cell? (ads.add i) = some (.int .i64 q) ∧ w'.cell? (adm.add i) = some (.int .i64 x)) (ds := [18]) #[false, false, false, false, false, false, false, false, false, false, false, false, false, false, false, false, false, false, false] (by kernel_rfl) rfl rfl ⟨hcz0, hcz1, ks, km⟩ (fun hHeld => ?_)
      refine pure_ (i := 1) (N := some 130) (v := ?_) (a' := ?_) #[false, true, false, false, false, false, false, false, false, false, false, false, false, false, false, false, false, false, false] rfl rfl (by kernel_rfl) (fun _ _ _ h => h) (Or.inl ⟨by rfl, ?_⟩) ?_ ?_
      rotate_left
      ·intro w'
       go_simp
       with_reducible rfl
      rotate_left
      ·simp only [Act.put, List.setIfInBounds_toArray, List.set_cons_zero, List.set_cons_succ, i64_w, i32_w]
       rfl
      refine pure_ (i := 2) (N := some 131) (v := ?_) (a' := ?_) #[false, true, true, false, false, false, false, false, false, false, false, false, false, false, false, false, false, false, false] rfl rfl (by kernel_rfl) (fun _ _ _ h => h) (Or.inl ⟨by rfl, ?_⟩) ?_ ?_
      rotate_left
      ·intro w'
       go_simp
       with_reducible rfl
      rotate_left
      ·simp only [Act.put, List.setIfInBounds_toArray, List.set_cons_zero, List.set_cons_succ, i64_w, i32_w]
       rfl
      refine pure_ (i := 3) (N := some 132) (v := ?_) (a' := ?_) #[false, true, true, true, false, false, false, false, false, false, false, false, false, false, false, false, false, false, false] rfl rfl (by kernel_rfl) (fun _ _ _ h => h) (Or.inl ⟨by rfl, ?_⟩) ?_ ?_
      rotate_left
      ·intro w'
       go_simp
       with_reducible rfl
      rotate_left
      ·simp only [Act.put, List.setIfInBounds_toArray, List.set_cons_zero, List.set_cons_succ, i64_w, i32_w]
       rfl
      refine pure_ (i := 4) (N := some 133) (v := ?_) (a' := ?_) #[false, true, true, true, true, false, false, false, false, false, false, false, false, false, false, false, false, false, false] rfl rfl (by kernel_rfl) (fun _ _ _ h => h) (Or.inl ⟨by rfl, ?_⟩) ?_ ?_
      rotate_left
      ·intro w'
       go_simp
       with_reducible rfl
      rotate_left
      ·simp only [Act.put, List.setIfInBounds_toArray, List.set_cons_zero, List.set_cons_succ, i64_w, i32_w]
       rfl
      refine pure_ (i := 5) (N := some 134) (v := ?_) (a' := ?_) #[false, true, true, true, true, true, false, false, false, false, false, false, false, false, false, false, false, false, false] rfl rfl (by kernel_rfl) (fun _ _ _ h => h) (Or.inl ⟨by rfl, ?_⟩) ?_ ?_
      rotate_left
      ·intro w'
       go_simp
       with_reducible rfl
      rotate_left
      ·simp only [Act.put, List.setIfInBounds_toArray, List.set_cons_zero, List.set_cons_succ, i64_w, i32_w]
       rfl
      refine pure_ (i := 8) (N := some 137) (v := ?_) (a' := ?_) #[false, true, true, true, true, true, false, false, true, false, false, false, false, false, false, false, false, false, false] rfl rfl (by kernel_rfl) (fun _ _ _ h => h) (Or.inl ⟨by rfl, ?_⟩) ?_ ?_
      rotate_left
      ·intro w'
       go_simp
       with_reducible rfl
      rotate_left
      ·simp only [Act.put, List.setIfInBounds_toArray, List.set_cons_zero, List.set_cons_succ, i64_w, i32_w]
       rfl
      refine pure_ (i := 9) (N := some 138) (v := ?_) (a' := ?_) #[false, true, true, true, true, true, false, false, true, true, false, false, false, false, false, false, false, false, false] rfl rfl (by kernel_rfl) (fun _ _ _ h => h) (Or.inl ⟨by rfl, ?_⟩) ?_ ?_
      rotate_left
      ·intro w'
       go_simp
       with_reducible rfl
      rotate_left
      ·simp only [Act.put, List.setIfInBounds_toArray, List.set_cons_zero, List.set_cons_succ, i64_w, i32_w]
       rfl
      refine pure_ (i := 10) (N := some 139) (v := ?_) (a' := ?_) #[false, true, true, true, true, true, false, false, true, true, true, false, false, false, false, false, false, false, false] rfl rfl (by kernel_rfl) (fun _ _ _ h => h) (Or.inl ⟨by rfl, ?_⟩) ?_ ?_
      rotate_left
      ·intro w'
       go_simp
       with_reducible rfl
      rotate_left
      ·simp only [Act.put, List.setIfInBounds_toArray, List.set_cons_zero, List.set_cons_succ, i64_w, i32_w]
       rfl
      refine pure_ (i := 12) (N := some 141) (v := ?_) (a' := ?_) #[false, true, true, true, true, true, false, false, true, true, true, false, true, false, false, false, false, false, false] rfl rfl (by kernel_rfl) (fun _ _ _ h => h) (Or.inl ⟨by rfl, ?_⟩) ?_ ?_
      rotate_left
      ·intro w'
       go_simp
       with_reducible rfl
      rotate_left
      ·simp only [Act.put, List.setIfInBounds_toArray, List.set_cons_zero, List.set_cons_succ, i64_w, i32_w]
       rfl
      refine pure_ (i := 13) (N := some 142) (v := ?_) (a' := ?_) #[false, true, true, true, true, true, false, false, true, true, true, false, true, true, false, false, false, false, false] rfl rfl (by kernel_rfl) (fun _ _ _ h => h) (Or.inl ⟨by rfl, ?_⟩) ?_ ?_
      rotate_left
      ·intro w'
       go_simp
       with_reducible rfl
      rotate_left
      ·simp only [Act.put, List.setIfInBounds_toArray, List.set_cons_zero, List.set_cons_succ, i64_w, i32_w]
       rfl
      refine pure_ (i := 14) (N := some 143) (v := ?_) (a' := ?_) #[false, true, true, true, true, true, false, false, true, true, true, false, true, true, true, false, false, false, false] rfl rfl (by kernel_rfl) (fun _ _ _ h => h) (Or.inl ⟨by rfl, ?_⟩) ?_ ?_
      rotate_left
      ·intro w'
       go_simp
       with_reducible rfl
      rotate_left
      ·simp only [Act.put, List.setIfInBounds_toArray, List.set_cons_zero, List.set_cons_succ, i64_w, i32_w]
       rfl
      refine take_ (i := 0) (N := some 129) (v := ?_) (a' := ?_) #[true, true, true, true, true, true, false, false, true, true, true, false, true, true, true, false, false, false, false] rfl rfl (by kernel_rfl) (fun _ _ _ h => h) (Or.inl ⟨by rfl, ?_⟩) hHeld ?_ ?_
      rotate_left
      ·rintro w' ⟨s0, s1, s2, s3⟩
       go_simp
       with_reducible rfl
      rotate_left
      ·simp only [Act.put, List.setIfInBounds_toArray, List.set_cons_zero, List.set_cons_succ, i64_w, i32_w]
       rfl
      refine take_ (i := 6) (N := some 135) (v := ?_) (a' := ?_) #[true, true, true, true, true, true, true, false, true, true, true, false, true, true, true, false, false, false, false] rfl rfl (by kernel_rfl) (fun _ _ _ h => h) (Or.inl ⟨by rfl, ?_⟩) hHeld ?_ ?_
      rotate_left
      ·rintro w' ⟨s0, s1, s2, s3⟩
       go_simp
       with_reducible rfl
      rotate_left
      ·simp only [Act.put, List.setIfInBounds_toArray, List.set_cons_zero, List.set_cons_succ, i64_w, i32_w]
       rfl
      refine take_ (i := 11) (N := some 140) (v := ?_) (a' := ?_) #[true, true, true, true, true, true, true, false, true, true, true, true, true, true, true, false, false, false, false] rfl rfl (by kernel_rfl) (fun _ _ _ h => h) (Or.inl ⟨by rfl, ?_⟩) hHeld ?_ ?_
      rotate_left
      ·rintro w' ⟨s0, s1, s2, s3⟩
       go_simp
       with_reducible rfl
      rotate_left
      ·simp only [Act.put, List.setIfInBounds_toArray, List.set_cons_zero, List.set_cons_succ, i64_w, i32_w]
       rfl
      refine take_ (i := 15) (N := some 144) (v := ?_) (a' := ?_) #[true, true, true, true, true, true, true, false, true, true, true, true, true, true, true, true, false, false, false] rfl rfl (by kernel_rfl) (fun _ _ _ h => h) (Or.inl ⟨by rfl, ?_⟩) hHeld ?_ ?_
      rotate_left
      ·rintro w' ⟨s0, s1, s2, s3⟩
       go_simp
       with_reducible rfl
      rotate_left
      ·simp only [Act.put, List.setIfInBounds_toArray, List.set_cons_zero, List.set_cons_succ, i64_w, i32_w]
       rfl
      refine one_ (i := 7) (N := some 136) #[true, true, true, true, true, true, true, true, true, true, true, true, true, true, true, true, false, false, false] rfl rfl (by kernel_rfl) (by decide) (fun K hK => ?_)
      refine goes_ Try.func82 (by kernel_rfl) rfl #[.agg #[.slice A5 B5.length c5, .int .i64 (wN J : Nat)], .slice Ao 19 co, .slice Ac 19 cc, .int .i64 q] (by rfl) rfl rfl (by simp only [List.map_toArray, List.map_cons, List.map_nil]; rfl) ?_
      with_reducible refine (HCD.out wr.drew _ J q H4.out (HX.out.kv.trans (KeepW.of_below (Below.refl _ _).drew).v) (bitsW_of (Kd.R_drew HO.out) HW.out) HX.out.bel.drew (by have := HN.out; omega)).mono ?_
      rintro e w3 ⟨s3, rfl, hs3, hB3, hK3⟩
      refine ⟨_, rfl, ?_⟩
      obtain ⟨A3, c3, B3, rfl, ho3, hw3⟩ := hs3.cells
      have hk3 := (KeepW.of_below (Below.refl _ wr).drew).trans hK3
      have HO3 := Aside0.mk ho3
      have HW3 := Aside0.mk hw3
      have HB3 := Aside0.mk hB3
      have HK3 := Aside0.mk hk3
      have BK3 := Aside0.mk (hk3.2 _ _ _ BK.out (by decide))
      have hc30 : w3.cell? ⟨g, 0, none⟩ = some (.slice A5 B5.length c5) := (blk_cell BK3.out 0).trans rfl
      have hc31 : w3.cell? ⟨g, 1, none⟩ = some (.int .i64 (wN J : Nat)) := (blk_cell BK3.out 1).trans rfl
      have KV3 := Aside0.mk (HX.out.kv.trans hk3.v)
      have ks3 := reads_at (RS19.out w3 KV3.out) hltL HQ.out
      have km3 := reads_at (RM19.out w3 KV3.out) hltM HXM.out
      clear hs3 ho3 hw3 hK3 hk3 hB3
      refine hK.out _ _ ⟨hc30, hc31, ks3, km3⟩ (fun hHeld => ?_)
      clear hK K
      refine norm_ (a' := ?_) ?_ ?_
      rotate_left
      ·show Act.put _ (some 136) _ = _
       simp only [Act.put, List.setIfInBounds_toArray, List.set_cons_zero, List.set_cons_succ, i64_w, i32_w]
       rfl
      refine one_ (i := 16) (N := some 145) #[true, true, true, true, true, true, true, true, true, true, true, true, true, true, true, true, true, false, false] rfl rfl (by kernel_rfl) (by decide) (fun K hK => ?_)
      refine goes_ Try.func83 (by kernel_rfl) rfl #[.int .i64 q] (by rfl) rfl rfl (by simp only [List.map_toArray, List.map_cons, List.map_nil]; rfl) ?_
      with_reducible refine (wherryref01_extra.calls q n w3 H9.out).mono ?_
      rintro e w4 ⟨rfl, hd4⟩
      refine ⟨_, rfl, ?_⟩
      have hb4 := hd4.below
      have HO4 := Aside0.mk (Kd.R_below HO3.out hb4)
      have HB4 := Aside0.mk (below_then HB3.out HB3.out.size hb4)
      have HK4 := Aside0.mk (HK3.out.below hb4)
      have BK4 := Aside0.mk (blk_below BK3.out hb4)
      have hc40 : w4.cell? ⟨g, 0, none⟩ = some (.slice A5 B5.length c5) := (blk_cell BK4.out 0).trans rfl
      have hc41 : w4.cell? ⟨g, 1, none⟩ = some (.int .i64 (wN J : Nat)) := (blk_cell BK4.out 1).trans rfl
      have KV4 := Aside0.mk (KV3.out.trans (KeepW.of_below hb4).v)
      have ks4 := reads_at (RS19.out w4 KV4.out) hltL HQ.out
      have km4 := reads_at (RM19.out w4 KV4.out) hltM HXM.out
      clear hb4 hd4
      refine hK.out _ _ ⟨hc40, hc41, ks4, km4⟩ (fun hHeld => ?_)
      clear hK K
      refine norm_ (a' := ?_) ?_ ?_
      rotate_left
      ·show Act.put _ (some 145) _ = _
       simp only [Act.put, List.setIfInBounds_toArray, List.set_cons_zero, List.set_cons_succ, i64_w, i32_w]
       rfl
      refine one_ (i := 17) (N := some 146) #[true, true, true, true, true, true, true, true, true, true, true, true, true, true, true, true, true, true, false] rfl rfl (by kernel_rfl) (by decide) (fun K hK => ?_)
      refine goes_ Try.func78 (by kernel_rfl) rfl #[.agg #[.slice A3 B3.length c3, .int .i64 (wN (J ++ [codeI own q]) : Nat)], .int .i64 x, .int .i64 n] (by rfl) rfl rfl (by simp only [List.map_toArray, List.map_cons, List.map_nil]; rfl) ?_
      with_reducible refine (BitsW.putI (it := J ++ [codeI own q]) (w0 := w) (w := w4) (bitsW_of HO4.out HW3.out) HB4.out x n x n rfl rfl hx62 (by omega) (by have := HN2.out; omega)).mono ?_
      rintro e w6 ⟨s6, rfl, hs6, hB6, hK6⟩
      refine ⟨_, rfl, ?_⟩
      obtain ⟨A6, c6, B6, rfl, ho6, hw6⟩ := hs6.cells
      have HO6 := Aside0.mk ho6
      have HW6 := Aside0.mk hw6
      have HB6 := Aside0.mk hB6
      have HK6 := Aside0.mk (HK4.out.trans hK6)
      have BK6 := Aside0.mk (hK6.2 _ _ _ BK4.out (by decide))
      have hc60 : w6.cell? ⟨g, 0, none⟩ = some (.slice A5 B5.length c5) := (blk_cell BK6.out 0).trans rfl
      have hc61 : w6.cell? ⟨g, 1, none⟩ = some (.int .i64 (wN J : Nat)) := (blk_cell BK6.out 1).trans rfl
      have KV6 := Aside0.mk (KV4.out.trans hK6.v)
      have ks6 := reads_at (RS19.out w6 KV6.out) hltL HQ.out
      have km6 := reads_at (RM19.out w6 KV6.out) hltM HXM.out
      have hf60 := blk_frozen BK6.out 0
      have hf61 := blk_frozen BK6.out 1
      clear hs6 ho6 hw6 hB6 hK6
      refine hK.out _ _ ⟨hc60, hc61, ks6, km6⟩ (fun hHeld => ?_)
      clear hK K
      refine norm_ (a' := ?_) ?_ ?_
      rotate_left
      ·show Act.put _ (some 146) _ = _
       simp only [Act.put, List.setIfInBounds_toArray, List.set_cons_zero, List.set_cons_succ, i64_w, i32_w]
       rfl
      refine last_ (i := 18) (N := none) #[true, true, true, true, true, true, true, true, true, true, true, true, true, true, true, true, true, true, true] rfl rfl (by kernel_rfl) (by decide) (fun K hK => ?_)
      refine skip_ (w1 := ?_) (by rfl) rfl ?_ ?_
      rotate_left
      ·go_simp
       rfl
      refine hK.out _ _ ?_
      clear hK K
      refine done_ (by kernel_rfl) ?_
      clear hHeld hc30 hc31 hc40 hc41 hc60 hc61 hf60 hf61 ks km ks3 km3 ks4 km4 ks6 km6 hcz0 hcz1
      go_wp2_with fail
      go_roundg (gk - 1)
      case measure => have := HG.out; omega
      case rel =>
       refine ⟨i + 1, by go_num, by omega, ⟨by have := HG.out; omega⟩, ⟨?_⟩⟩
       rw [HXN.out, ← List.append_assoc, ← List.append_assoc, ← HJ.out]
       have h := HX.out.store HK6.out HB6.out HO6.out HW6.out NE.out GE.out
       simp only [List.append_assoc, List.cons_append, List.nil_append] at h ⊢
       exact h
     obtain rfl : i = S.length := by omega
     go_wp2_with fail
     have htx := wr_text (w0 := w) (w := wr) (it := J) (ts := T b) OK.out.ml OK.out.md OK.out.stop (by omega) (by omega) OK.out.toks (by omega) At Al Ad ct cl cd (RT19.out.keep HX.out.kv) hct (RL19.out.keep HX.out.kv) (by omega) (RD19.out.keep HX.out.kv) (by omega) (bitsW_of HO.out HW.out) HX.out.bel (by have := HN.out; omega)
     rw [hla0, hlb0] at htx
     refine htx.mono ?_
     rintro e w5 ⟨s5, rfl, hs5, hb5, hk5⟩
     obtain ⟨A6, c6, B6, rfl, ho5, hw5⟩ := hs5.cells
     have BR5 := Aside0.mk (hk5.2 _ _ _ HX.out.res (by decide))
     have hcr0 : w5.cell? ⟨gR, 0, none⟩ = some (.slice none 0 0) := (blk_cell BR5.out 0).trans rfl
     have hcr1 : w5.cell? ⟨gR, 1, none⟩ = some (.int .i64 0) := (blk_cell BR5.out 1).trans rfl
     have hfr0 := blk_frozen BR5.out 0
     have hfr1 := blk_frozen BR5.out 1
     have HO5 := Aside0.mk ho5
     have HB5 := Aside0.mk hb5
     obtain ⟨J5, hJ5⟩ : ∃ J5, J5 = J ++ bodyI (T b) la lb := ⟨_, rfl⟩
     rw [← hJ5] at hw5 ⊢
     have HW5 := Aside0.mk hw5
     have hJ6 : rdynI b la lb lits dists own turned = J5 := by
      rw [hJ5, HJ.out, List.take_length, HJ3.out, HJ2.out, HS.out]
      rfl
     have HJ6 := Aside0.mk hJ6
     clear hs5 ho5 hw5 hb5 hk5 htx hcz0 hcz1 hJ5 hJ6
     go_wp2_with fail
     refine bodyPost_ret (results_cell_row rfl _ _ gR 61 #[.slice A6 B6.length c6, .int .i64 (wN J5 : Nat)] (0, 0) _ rfl (blk_put (cs := #[.slice A6 B6.length c6, .int .i64 0]) (blk_put (cs := #[.slice none 0 0, .int .i64 0]) BR5.out 0 _ rfl) 1 _ rfl) Try.underlying61 rfl (by kernel_rfl)) rfl ?_
     refine ⟨_, rfl, ?_, below_set (below_set HB5.out GR.out) GR.out⟩
     rw [HJ6.out]
     exact bitsW_of (Kd.R_mono (Kd.R_far (p := ⟨gR, 1, none⟩) (Kd.R_far (p := ⟨gR, 0, none⟩) (Kd.R_types HO5.out BR5.out (by decide)) (fun _ hk => hk.2) _) (fun _ hk => hk.2) _) (fun _ _ => trivial)) HW5.out
/-- What a function answers that writes a text's block: bits. -/
def Writes (f : Nat) (b : List Int) (it : List (Nat × Nat)) : Prop := ∀ (W : World) (A : Option Addr) (c : Nat), Kd.C (Kd.int .u8) W A b.length b → b.length ≤ c → Calls Try.prog f #[.slice A b.length c] W fun e w' => ∃ s', e = .returned s' ∧ BitsW W w' s' it ∧ Below W.heap.size W w'
theorem Writes.bits {f : Nat} {b : List Int} {i j : List (Nat × Nat)} (h : Writes f b i) (hN : wN i = wN j) (hX : wX i = wX j) : Writes f b j := fun W A c hr hc => (h W A c hr hc).mono fun e w' ⟨s', e1, h1, h2⟩ => ⟨s', e1, h1.bits hN hX, h2⟩
set_option maxHeartbeats 8000000 in
set_option maxRecDepth 100000 in
theorem wr_block {w : World} {b : List Int} (A : Option Addr) (c : Nat) (k : Int) (i0 i1 i2 : List (Nat × Nat)) (h0 : Writes 45 b i0) (h1 : Writes 46 b i1) (h2 : Writes 47 b i2) (hr : Kd.C (Kd.int .u8) w A b.length b) (hc : b.length ≤ c) :
  Calls Try.prog 24 #[.slice A b.length c, .int .i64 k] w fun e w' => ∃ v B, e = .returned v ∧ Kd.R (Kd.int .u8) 5 w' w.heap.size (fun _ => True) v B ∧ Wrote B (if k = 0 then i0 else if k = 1 then i1 else i2) ∧ Below w.heap.size w w' := by
 have H0 := Aside0.mk (h0 w A c hr hc)
 have H1 := Aside0.mk (h1 w A c hr hc)
 have H2 := Aside0.mk (h2 w A c hr hc)
 have hfd : ∀ (u : Value) (n : Int) (w : World), Sem.run Try.prog (Instr.field 61 (.agg #[u, .int .i64 n]) 0) w = .ok u w := fun _ _ _ => by kernel_rfl
 clear h0 h1 h2 hr
 rcases (by omega : k = 0 ∨ (k ≠ 0 ∧ k = 1) ∨ (k ≠ 0 ∧ k ≠ 1)) with e0 | ⟨e0, e1⟩ | ⟨e0, e1⟩
 case' inl =>
  rw [if_pos e0]
  subst e0
  go_enter Try.func24, Try.ntmps24
  go_wp2_with fail
  refine H0.out.mono ?_
 case' inr.inl =>
  rw [if_neg e0, if_pos e1]
  subst e1
  clear e0
  go_enter Try.func24, Try.ntmps24
  go_wp2_with fail
  refine H1.out.mono ?_
 case' inr.inr =>
  rw [if_neg e0, if_neg e1]
  have d0 : (k == 0) = false := beq_eq_false_iff_ne.2 e0
  have d1 : (k == 1) = false := beq_eq_false_iff_ne.2 e1
  go_enter Try.func24, Try.ntmps24
  go_wp2_with fail
  refine H2.out.mono ?_
 all_goals
  rintro e w1 ⟨s1, rfl, hs, hb⟩
  obtain ⟨u1, B1, rfl, ho, hw⟩ := hs
  have HO := Aside0.mk ho
  have HW := Aside0.mk hw
  have HB := Aside0.mk hb
  clear ho hw hb
  go_wp2_with fail
  go_ret
  exact ⟨_, B1, rfl, HO.out, HW.out, HB.out⟩
/-- Of two, the one of fewer bits. -/
def pickI (a b : List (Nat × Nat)) : List (Nat × Nat) := if wN b < wN a then b else a
theorem BitsAt.lower {w0 w1 W : World} {g : Nat} {it : List (Nat × Nat)} (h : BitsAt w1 W g it) (hb : w0.heap.size ≤ w1.heap.size) : BitsAt w0 W g it := by
 obtain ⟨A, c, B, h1, h2, h3, h4⟩ := h
 exact ⟨A, c, B, h1, Nat.le_trans hb h2, Kd.R_lower h3 hb, h4⟩
theorem BitsW.lower {w0 w1 W : World} {v : Value} {it : List (Nat × Nat)} (h : BitsW w1 W v it) (hb : w0.heap.size ≤ w1.heap.size) : BitsW w0 W v it := by
 obtain ⟨u, B, h1, h2, h3⟩ := h
 exact ⟨u, B, h1, Kd.R_lower h2 hb, h3⟩
/-- What stands in one block stays where another one is written. -/
theorem BitsAt.far {w0 W : World} {g k : Nat} {it : List (Nat × Nat)} {cs : Array Value} (h : BitsAt w0 W g it) (hk : W.heap[k]? = some (.cells cs 61 (0, 0))) (hne : g ≠ k) (i : Nat) (v : Value) : BitsAt w0 (W.setCell ⟨k, i, none⟩ v) g it := by
 obtain ⟨A, c, B, h1, h2, h3, h4⟩ := h
 exact ⟨A, c, B, blk_far (p := ⟨k, i, none⟩) h1 hne v, h2, Kd.R_mono (Kd.R_far (p := ⟨k, i, none⟩) (Kd.R_types h3 hk (by decide)) (fun _ hk => hk.2) v) (fun _ _ => trivial), h4⟩
set_option maxHeartbeats 8000000 in
set_option maxRecDepth 100000 in
theorem wr_shrink {w : World} {b : List Int} (A : Option Addr) (c : Nat) (i0 i1 i2 : List (Nat × Nat)) (h0 : Writes 45 b i0) (h1 : Writes 46 b i1) (h2 : Writes 47 b i2) (hr : Kd.C (Kd.int .u8) w A b.length b) (hc : b.length ≤ c) :
  Calls Try.prog 25 #[.slice A b.length c] w fun e w' => ∃ v B, e = .returned v ∧ Kd.R (Kd.int .u8) 5 w' w.heap.size (fun _ => True) v B ∧ Wrote B (pickI (pickI i0 i1) i2) ∧ Below w.heap.size w w' := by
 have HR := Aside0.mk hr
 have H0 := Aside0.mk h0
 have H1 := Aside0.mk h1
 have H2 := Aside0.mk h2
 have hu := Try.underlying61
 clear h0 h1 h2 hr
 go_enter Try.func25, Try.ntmps25
 go_wp2_with fail
 refine (H0.out w A c HR.out hc).mono ?_
 rintro e w1 ⟨s1, rfl, hs, hb⟩
 obtain ⟨A1, c1, B1, rfl, ho, hw⟩ := hs.cells
 have HO := Aside0.mk ho
 have HW := Aside0.mk hw
 have HB := Aside0.mk hb
 clear hs ho hw hb
 go_wp2_with (first
  | ((with_reducible refine gate_dst (N := 3) rfl ?_); refine box_event ?hg (N := 3) ?hd (cs := #[.slice none 0 0, .int .i64 0]) (t := 61) ?hr ?_; (case hd => rfl); (case hg => rfl); (case hr => first | (go_simp; done) | (go_simp; rfl)); intro g3 hg w2 hbox hb; (have B3 := Aside0.mk hbox); (have G3 := Aside0.mk (show w.heap.size ≤ g3 from by rw [hg]; exact below_size HB.out)); (have HO2 := Aside0.mk (Kd.R_below HO.out hb)); (have HB2 := Aside0.mk (below_step HB.out hb)); (have hcz0 := (blk_cell B3.out 0).trans rfl); (have hcz1 := (blk_cell B3.out 1).trans rfl); (have hfz0 := blk_frozen B3.out 0); (have hfz1 := blk_frozen B3.out 1); clear HB HO hb hbox hg))
 have HX : Aside0 (BitsAt w ((w2.setCell ⟨g3, 0, none⟩ (.slice A1 (List.length B1) c1)).setCell ⟨g3, 1, none⟩ (.int .i64 ((wN i0 : Nat) : Int))) g3 i0) := ⟨BitsAt.store B3.out G3.out HO2.out HW.out⟩
 have HB : Aside0 (Below w.heap.size w ((w2.setCell ⟨g3, 0, none⟩ (.slice A1 (List.length B1) c1)).setCell ⟨g3, 1, none⟩ (.int .i64 ((wN i0 : Nat) : Int)))) := ⟨below_set (below_set HB2.out G3.out) G3.out⟩
 clear B3 HO2 HB2 HW hcz0 hcz1 hfz0 hfz1
 generalize ((w2.setCell { block := g3, off := 0 } (Value.slice A1 (List.length B1) c1)).setCell { block := g3, off := 1 } (Value.int IntKind.i64 ((wN i0 : Nat) : Int))) = w3 at HX HB ⊢
 refine (H1.out w3 A c (Kd.C_below HR.out HB.out) hc).mono ?_
 rintro e w40 ⟨s1, rfl, hs, hb⟩
 obtain ⟨A1, c1, B1, rfl, ho, hw⟩ := hs.cells
 have HO := Aside0.mk (Kd.R_lower ho HB.out.size)
 have HW := Aside0.mk hw
 have HX0 := Aside0.mk (HX.out.below hb)
 have HB0 := Aside0.mk (below_then HB.out HB.out.size hb)
 clear hs ho hw hb HX HB
 go_upto_region 3 with (first
  | ((with_reducible refine gate_dst (N := 4) rfl ?_); refine box_event ?hg (N := 4) ?hd (cs := #[.slice none 0 0, .int .i64 0]) (t := 61) ?hr ?_; (case hd => rfl); (case hg => rfl); (case hr => first | (go_simp; done) | (go_simp; rfl)); intro g4 hg w41 hbox hb; (have BN := Aside0.mk hbox); (have GN := Aside0.mk (show w.heap.size ≤ g4 from by rw [hg]; exact below_size HB0.out)); (have HX1 := Aside0.mk (HX0.out.below hb)); (have NE := Aside0.mk (show g3 ≠ g4 from by obtain ⟨_, _, _, h_, _⟩ := HX0.out; have := blk_lt h_; omega)); (have HO1 := Aside0.mk (Kd.R_below HO.out hb)); (have HB1 := Aside0.mk (below_step HB0.out hb)); (have hcz0 := (blk_cell BN.out 0).trans rfl); (have hcz1 := (blk_cell BN.out 1).trans rfl); (have hfz0 := blk_frozen BN.out 0); (have hfz1 := blk_frozen BN.out 1); clear HX0 HO HB0 hb hbox hg))
 have hx3 := (HX1.out.far BN.out NE.out 0 (.slice A1 B1.length c1)).far (blk_put BN.out 0 _ rfl) NE.out 1 (.int .i64 ((wN i1 : Nat) : Int))
 have hx4 := BitsAt.store (w0 := w) BN.out GN.out HO1.out HW.out
 have hb4 := below_set (j := 1) (v := .int .i64 ((wN i1 : Nat) : Int)) (below_set (j := 0) (v := .slice A1 B1.length c1) HB1.out GN.out) GN.out
 generalize ((w41.setCell ⟨g4, 0, none⟩ (.slice A1 B1.length c1)).setCell ⟨g4, 1, none⟩ (.int .i64 ((wN i1 : Nat) : Int))) = w42 at hx3 hx4 hb4 ⊢
 obtain ⟨A3, c3, B3', k3, ge3, o3, q3⟩ := hx3
 obtain ⟨A4, c4, B4, k4, _, o4, q4⟩ := hx4
 have hc30 : w42.cell? ⟨g3, 0, none⟩ = some (.slice A3 B3'.length c3) := (blk_cell k3 0).trans rfl
 have hc31 : w42.cell? ⟨g3, 1, none⟩ = some (.int .i64 (wN i0 : Nat)) := (blk_cell k3 1).trans rfl
 have hc40 : w42.cell? ⟨g4, 0, none⟩ = some (.slice A4 B4.length c4) := (blk_cell k4 0).trans rfl
 have hc41 : w42.cell? ⟨g4, 1, none⟩ = some (.int .i64 (wN i1 : Nat)) := (blk_cell k4 1).trans rfl
 have hf30 := blk_frozen k3 0
 have hf31 := blk_frozen k3 1
 have K3 := Aside0.mk k3
 have O3 := Aside0.mk o3
 have Q3 := Aside0.mk q3
 have O4 := Aside0.mk o4
 have Q4 := Aside0.mk q4
 have HB4 := Aside0.mk hb4
 clear k3 k4 o3 q3 o4 q4 hb4 HX1 HO1 HB1 BN HW hcz0 hcz1 hfz0 hfz1
 by_cases hlt : wN i1 < wN i0
 case' pos =>
  have dlt : decide (((wN i1 : Nat) : Int) < ((wN i0 : Nat) : Int)) = true := decide_eq_true (by omega)
  have dlt2 : decide (wN i1 < wN i0) = true := decide_eq_true hlt
  have HP : Aside0 (pickI i0 i1 = i1) := ⟨if_pos hlt⟩
  go_wp2_with fail
  have hx := BitsAt.store (w0 := w) K3.out ge3 O4.out Q4.out
  have hb := below_set (j := 1) (v := .int .i64 ((wN i1 : Nat) : Int)) (below_set (j := 0) (v := .slice A4 B4.length c4) HB4.out ge3) ge3
  have HX := Aside0.mk (show BitsAt w _ g3 (pickI i0 i1) from by rw [HP.out]; exact hx)
  have HB := Aside0.mk hb
  clear hx hb hc30 hc31 hc40 hc41 hf30 hf31 dlt dlt2
  generalize (w42.setCell { block := g3, off := 0 } (Value.slice A4 B4.length c4)).setCell { block := g3, off := 1 } (Value.int IntKind.i64 ((wN i1 : Nat) : Int)) = w5 at HX HB ⊢
 case' neg =>
  have dlt : decide (((wN i1 : Nat) : Int) < ((wN i0 : Nat) : Int)) = false := decide_eq_false (by omega)
  have dlt2 : decide (wN i1 < wN i0) = false := decide_eq_false hlt
  have HP : Aside0 (pickI i0 i1 = i0) := ⟨if_neg hlt⟩
  go_wp2_with fail
  have HX : Aside0 (BitsAt w w42 g3 (pickI i0 i1)) := ⟨by rw [HP.out]; exact ⟨A3, c3, B3', K3.out, ge3, O3.out, Q3.out⟩⟩
  have HB := HB4
  clear hc30 hc31 hc40 hc41 hf30 hf31 dlt dlt2
  generalize w42 = w5 at HX HB ⊢
 all_goals
  obtain ⟨J, hJ⟩ : ∃ J, J = pickI i0 i1 := ⟨_, rfl⟩
  rw [← hJ] at HX
  have HJ := Aside0.mk hJ
  clear hJ HP hlt K3 O3 Q3 O4 Q4 HB4
  refine (H2.out w5 A c (Kd.C_below HR.out HB.out) hc).mono ?_
  rintro e w60 ⟨s1, rfl, hs, hb⟩
  obtain ⟨A1, c1, B1, rfl, ho, hw⟩ := hs.cells
  have HO := Aside0.mk (Kd.R_lower ho HB.out.size)
  have HW := Aside0.mk hw
  have HX0 := Aside0.mk (HX.out.below hb)
  have HB0 := Aside0.mk (below_then HB.out HB.out.size hb)
  clear hs ho hw hb HX HB
  go_upto_region 6 with (first
   | ((with_reducible refine gate_dst (N := 5) rfl ?_); refine box_event ?hg (N := 5) ?hd (cs := #[.slice none 0 0, .int .i64 0]) (t := 61) ?hr ?_; (case hd => rfl); (case hg => rfl); (case hr => first | (go_simp; done) | (go_simp; rfl)); intro g5 hg w61 hbox hb; (have BN := Aside0.mk hbox); (have GN := Aside0.mk (show w.heap.size ≤ g5 from by rw [hg]; exact below_size HB0.out)); (have HX1 := Aside0.mk (HX0.out.below hb)); (have NE := Aside0.mk (show g3 ≠ g5 from by obtain ⟨_, _, _, h_, _⟩ := HX0.out; have := blk_lt h_; omega)); (have HO1 := Aside0.mk (Kd.R_below HO.out hb)); (have HB1 := Aside0.mk (below_step HB0.out hb)); (have hcz0 := (blk_cell BN.out 0).trans rfl); (have hcz1 := (blk_cell BN.out 1).trans rfl); (have hfz0 := blk_frozen BN.out 0); (have hfz1 := blk_frozen BN.out 1); clear HX0 HO HB0 hb hbox hg))
  have hx3 := (HX1.out.far BN.out NE.out 0 (.slice A1 B1.length c1)).far (blk_put BN.out 0 _ rfl) NE.out 1 (.int .i64 ((wN i2 : Nat) : Int))
  have hx4 := BitsAt.store (w0 := w) BN.out GN.out HO1.out HW.out
  have hb4 := below_set (j := 1) (v := .int .i64 ((wN i2 : Nat) : Int)) (below_set (j := 0) (v := .slice A1 B1.length c1) HB1.out GN.out) GN.out
  generalize ((w61.setCell ⟨g5, 0, none⟩ (.slice A1 B1.length c1)).setCell ⟨g5, 1, none⟩ (.int .i64 ((wN i2 : Nat) : Int))) = w62 at hx3 hx4 hb4 ⊢
  obtain ⟨A3, c3, B3', k3, ge3, o3, q3⟩ := hx3
  obtain ⟨A4, c4, B4, k4, _, o4, q4⟩ := hx4
  have hc30 : w62.cell? ⟨g3, 0, none⟩ = some (.slice A3 B3'.length c3) := (blk_cell k3 0).trans rfl
  have hc31 : w62.cell? ⟨g3, 1, none⟩ = some (.int .i64 (wN J : Nat)) := (blk_cell k3 1).trans rfl
  have hc40 : w62.cell? ⟨g5, 0, none⟩ = some (.slice A4 B4.length c4) := (blk_cell k4 0).trans rfl
  have hc41 : w62.cell? ⟨g5, 1, none⟩ = some (.int .i64 (wN i2 : Nat)) := (blk_cell k4 1).trans rfl
  have hf30 := blk_frozen k3 0
  have hf31 := blk_frozen k3 1
  have K3 := Aside0.mk k3
  have O3 := Aside0.mk o3
  have Q3 := Aside0.mk q3
  have O4 := Aside0.mk o4
  have Q4 := Aside0.mk q4
  have HB4 := Aside0.mk hb4
  clear k3 k4 o3 q3 o4 q4 hb4 HX1 HO1 HB1 BN HW hcz0 hcz1 hfz0 hfz1
  by_cases hlt : wN i2 < wN J
  case' pos =>
   have dlt : decide (((wN i2 : Nat) : Int) < ((wN J : Nat) : Int)) = true := decide_eq_true (by omega)
   have dlt2 : decide (wN i2 < wN J) = true := decide_eq_true hlt
   have HP : Aside0 (pickI J i2 = i2) := ⟨if_pos hlt⟩
   go_wp2_with fail
   go_ret
   rw [← HJ.out, HP.out]
   exact ⟨_, B4, rfl, Kd.R_mono (Kd.R_far (p := ⟨g3, 1, none⟩) (Kd.R_far (p := ⟨g3, 0, none⟩) (Kd.R_types O4.out K3.out (by decide)) (fun _ hk => hk.2) _) (fun _ hk => hk.2) _) (fun _ _ => trivial), Q4.out, below_set (below_set HB4.out ge3) ge3⟩
  case' neg =>
   have dlt : decide (((wN i2 : Nat) : Int) < ((wN J : Nat) : Int)) = false := decide_eq_false (by omega)
   have dlt2 : decide (wN i2 < wN J) = false := decide_eq_false hlt
   have HP : Aside0 (pickI J i2 = J) := ⟨if_neg hlt⟩
   go_wp2_with fail
   go_ret
   rw [← HJ.out, HP.out]
   exact ⟨_, B3', rfl, O3.out, Q3.out, HB4.out⟩
theorem steps_wide : ∀ (f : Nat) (a : Int) (l : List Int), (∀ x ∈ l, 0 ≤ x ∧ x ≤ 15) → ∀ t ∈ RowSteps.steps f a l, t.2.2.1 = if t.1 = 16 then 2 else if t.1 = 17 then 3 else if t.1 = 18 then 7 else 0
 | 0, a, l, _, t, ht => by simp [RowSteps.steps] at ht
 | f + 1, a, [], _, t, ht => by simp [RowSteps.steps] at ht
 | f + 1, a, v :: q, hx, t, ht => by
  simp only [RowSteps.steps] at ht
  rcases List.mem_cons.1 ht with rfl | ht
  ·exact (RowSteps.next_fit v a (RowSteps.run v q + 1) (by omega) (hx v List.mem_cons_self)).wide
  ·exact steps_wide f v _ (fun x h => hx x (List.mem_of_mem_drop h)) t ht
theorem dyn_ok {b : List Int} (hb : Bytes b) (hl : b.length ≤ 4096) (m : Made b) : DynOk b m.la m.lb m.lits m.dists m.own m.turned := by
 have hf := (T_ok b hb hl).2.2.2.2
 have h := m.by_
 refine ⟨hf, h.wa, h.wb, h.ea, h.eb, h.la0, h.lb0, h.lits_, h.dists_, m.ok.llen.1, m.ok.dlen.1, h.rng, h.wm, h.eo, m.ok.olen, h.trng, h.tn, h.tlen, makes_of m.ok.co, h.ml, h.md, h.stop, fun t ht => ⟨hf t ht, h.toks t ht⟩, fun t ht => ?_, h.slen⟩
 obtain ⟨q1, q2, x, n, q3, q4, q5, q6⟩ := steps_fit _ _ _ h.rng t ht
 refine ⟨q1, q2, m.ok.row t ht, x, n, q3, q4, q5, q6, ?_⟩
 have hw := steps_wide _ _ _ h.rng t ht
 rw [q4] at hw
 unfold wherryref01_extra.f
 rw [hw]
 split
 ·rfl
 ·split
  ·rfl
  ·split <;> rfl
theorem rdyn_bits {b : List Int} (m : Made b) : wN (rdynI b m.la m.lb m.lits m.dists m.own m.turned) = wN (madeI (T b) m.lits m.dists m.own m.turned) ∧ wX (rdynI b m.la m.lb m.lits m.dists m.own m.turned) = wX (madeI (T b) m.lits m.dists m.own m.turned) := by
 have key : ∀ R : List (Nat × Nat), wN ((5, 3) :: R) = wN ((1, 1) :: (2, 2) :: R) ∧ wX ((5, 3) :: R) = wX ((1, 1) :: (2, 2) :: R) := fun R => by
  constructor
  ·simp only [wN]; omega
  ·simp only [wX]; omega
 unfold rdynI madeI
 rw [m.by_.body]
 simp only [List.cons_append, List.nil_append]
 exact key _
theorem w_stored {b : List Int} (hb : Bytes b) (hl : b.length ≤ 4096) : Writes 45 b (plainI b) := Writes.bits (fun W A c hr hc => wr_stored A c hb hl hr hc) (rstored_bits b).1 (rstored_bits b).2
theorem w_fixed {b : List Int} (hb : Bytes b) (hl : b.length ≤ 4096) : Writes 46 b (knownI (T b)) := Writes.bits (fun W A c hr hc => wr_fixed A c hb hl hr hc) (rfixed_bits b).1 (rfixed_bits b).2
theorem w_dynamic {b : List Int} (hb : Bytes b) (hl : b.length ≤ 4096) (m : Made b) : Writes 47 b (madeI (T b) m.lits m.dists m.own m.turned) := Writes.bits (fun W A c hr hc => wr_dynamic A c hb hl (dyn_ok hb hl m) hr hc) (rdyn_bits m).1 (rdyn_bits m).2
theorem pick_w {s t : List Int × Nat} {i j : List (Nat × Nat)} (h : PenW s i) (k : PenW t j) : PenW (pick2 s t) (pickI i j) := by
 unfold pick2 pickI
 rw [h.2, k.2]
 split
 ·exact k
 ·exact h
/-- What the reference's blocks are: the package's. -/
theorem ref_block {w : World} {b r : List Int} (A : Option Addr) (c : Nat) (k : Int) (hb : ∀ x ∈ b, 0 ≤ x ∧ x < 256) (hl : b.length ≤ 4096) (h : (if k = 0 then (shrink_Stored.f b).map (·.1) else if k = 1 then (shrink_Fixed.f b).map (·.1) else (shrink_Dynamic.f b).map (·.1)) = some r) (hr : Kd.C (Kd.int .u8) w A b.length b) (hc : b.length ≤ c) :
  Calls Try.prog 24 #[.slice A b.length c, .int .i64 k] w fun e w' => ∃ v, e = .returned v ∧ Kd.R (Kd.int .u8) 5 w' w.heap.size (fun _ => True) v r ∧ Below w.heap.size w w' := by
 obtain ⟨m⟩ := made_all b hb hl
 refine (wr_block A c k _ _ _ (w_stored hb hl) (w_fixed hb hl) (w_dynamic hb hl m) hr hc).mono ?_
 rintro e w' ⟨v, B, h1, h2, h3, h4⟩
 have e : r = B := by
  rw [stored_f hl m, fixed_f hb hl m, dynamic_f hb hl m] at h
  by_cases h0 : k = 0
  ·rw [if_pos h0] at h h3
   injection h with h
   rw [← h]
   exact m.wst.1.inj h3
  ·rw [if_neg h0] at h h3
   by_cases h5 : k = 1
   ·rw [if_pos h5] at h h3
    injection h with h
    rw [← h]
    exact m.wkn.1.inj h3
   ·rw [if_neg h5] at h h3
    injection h with h
    rw [← h]
    exact m.wdy.1.inj h3
 rw [e]
 exact ⟨v, h1, h2, h4⟩
theorem ref_shrink {w : World} {b r : List Int} (A : Option Addr) (c : Nat) (hb : ∀ x ∈ b, 0 ≤ x ∧ x < 256) (hl : b.length ≤ 4096) (h : (shrink_Shrink.f b).map (·.1) = some r) (hr : Kd.C (Kd.int .u8) w A b.length b) (hc : b.length ≤ c) :
  Calls Try.prog 25 #[.slice A b.length c] w fun e w' => ∃ v, e = .returned v ∧ Kd.R (Kd.int .u8) 5 w' w.heap.size (fun _ => True) v r ∧ Below w.heap.size w w' := by
 obtain ⟨m⟩ := made_all b hb hl
 refine (wr_shrink A c _ _ _ (w_stored hb hl) (w_fixed hb hl) (w_dynamic hb hl m) hr hc).mono ?_
 rintro e w' ⟨v, B, h1, h2, h3, h4⟩
 have e : r = B := by
  rw [shrink_f hb hl m] at h
  injection h with h
  rw [← h]
  exact (pick_w (pick_w m.wst m.wkn) m.wdy).1.inj h3
 rw [e]
 exact ⟨v, h1, h2, h4⟩
end Go.Proofs.Ytlffpaploefljaa.Wr
