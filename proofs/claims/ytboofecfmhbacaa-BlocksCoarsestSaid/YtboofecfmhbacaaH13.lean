/- The walk of the law BlocksCoarsest. -/
import Derived.Test.YtboofecfmhbacaaH11
import Derived.Test.YtboofecfmhbacaaH12
import Derived.Test.YtboofecfmhbacaaPlain4
import Derived.BigRegion
import Derived.ChangeAlike
namespace Go.Proofs.Ytboofecfmhbacaa
open Go.RowKit Go.WideMaps Go.Maps Go.Proofs.YtboofecfmhbacaaW.PrintWords Go.Proofs.YtboofecfmhbacaaW.PrintLast Go.Proofs.YtboofecfmhbacaaW.PrintMore
set_option linter.unusedVariables false
set_option linter.unusedSimpArgs false

set_option maxRecDepth 100000 in
set_option maxHeartbeats 8000000 in
theorem blocksCoarsest_walk (A0 : Option Addr) (c0 : Nat) (k : List Int) (A1 : Option Addr) (c1 : Nat) (l : List Int) (A9 : Option Addr) (c9 : Nat) (more : List Int) (w : World) (hr0 : Kd.C (Kd.int .u8) w A0 k.length k) (hw0 : ∀ y ∈ k, (Lit.int .u8 y).wf = true) (hc0 : k.length ≤ c0) (hr1 : Kd.C (Kd.int .u8) w A1 l.length l) (hw1 : ∀ y ∈ l, (Lit.int .u8 y).wf = true) (hc1 : l.length ≤ c1) (hr2 : Kd.C (Kd.int .u8) w A9 more.length more) (hw2 : ∀ y ∈ more, (Lit.int .u8 y).wf = true) (hc2 : more.length ≤ c9) :
    Calls Try.prog 7 #[.slice A0 k.length c0, .slice A1 l.length c1, .slice A9 more.length c9] w fun e w' => e = .returned (.bool true) ∧ Below w.heap.size w w' := by
  have HB_0 := Aside0.mk (Below.refl w.heap.size w)
  have FA_0 := Aside0.mk hr0
  have FB_0 := Aside0.mk hr1
  have FD_0 := Aside0.mk hr2
  have HK0 := Aside0.mk hw0
  have HK1 := Aside0.mk hw1
  have HK2 := Aside0.mk hw2
  clear hr0 hr1 hr2 hw0 hw1 hw2
  go_enter Try.func7, Try.ntmps7
  go_wp2_with (first
    | (go_at_call 33; refine (twoN A0 c0 k A1 c1 l w FA_0.out HK0.out hc0 FB_0.out HK1.out hc1).mono ?_; rintro e w1 ⟨n, A2, c2, p, A3, c3, q, rfl, hn30, hp, hC, hq, hC2, hB⟩; have FP_1 := Aside0.mk (hC); have FO_1 := Aside0.mk (hC2); have FD_1 := Aside0.mk (Kd.C_below FD_0.out hB); have HB_1 := Aside0.mk (HB_0.out.trans (hB.mono HB_0.out.size)); have HP := Aside0.mk hp; have HQ := Aside0.mk hq; clear hC hC2 hp hq; clear hB HB_0 FA_0 FB_0 FD_0)
    | (go_at_call 26; refine (nextN n A9 c9 more w1 FD_1.out HK2.out hn30).mono ?_; rintro e w2 ⟨A4, c4, next, rfl, hn, hC, hB⟩; have FX_2 := Aside0.mk (hC); have FP_2 := Aside0.mk (Kd.C_below FP_1.out hB); have FO_2 := Aside0.mk (Kd.C_below FO_1.out hB); have HB_2 := Aside0.mk (HB_1.out.trans (hB.mono HB_1.out.size)); have HN := Aside0.mk hn; clear hC hn; clear hB HB_1 FD_1 FP_1 FO_1))
  have hpl := HP.out.len
  have hnl : next.length = p.length := by rw [HN.out.1, hpl]
  obtain ⟨m, hm⟩ := exists_stops HP.out.right hnl
  have hmn : m ≤ n := by have := iter_le HP.out.right hnl hm.2; omega
  refine (coarsestN A2 c2 n p A4 c4 n next w2 HP.out FP_2.out HN.out HN.out.1 FX_2.out m hm _ rfl).mono ?_
  rintro e w3 ⟨A5, c5, rfl, hC, hB⟩
  have hcp := HP.out.iter HN.out.1 m
  have hsc := stops_stable HP.out.right hnl hm
  have hle := iter_le' (q := p) HN.out.1 m
  have hco : ∀ s, PartN n s → stableP s next → leP n s p → leP n s (iterP p next m) := fun s _ h1 h2 => stable_iter HN.out h1 h2 m
  obtain ⟨c, hc⟩ : ∃ c, c = iterP p next m := ⟨_, rfl⟩
  rw [← hc] at hC hcp hsc hle hco
  obtain ⟨N, hcn⟩ : ∃ N : Nat, countP c = N := ⟨(countP c).toNat, by have := count_bounds hcp.right; omega⟩
  have hNn : N ≤ 30 := by have := (count_bounds hcp.right).2; rw [hcp.len] at this; omega
  obtain ⟨t, ht⟩ : ∃ t, meetP p q = t := ⟨_, rfl⟩
  have htp : PartN n t := by rw [← ht]; exact HP.out.meet HQ.out
  have htl : next.length = t.length := by rw [HN.out.1, htp.len]
  obtain ⟨m2, hm2⟩ := exists_stops htp.right htl
  have hm2n : m2 ≤ n := by have := iter_le htp.right htl hm2.2; have := htp.len; omega
  obtain ⟨s, hs⟩ : ∃ s, iterP t next m2 = s := ⟨_, rfl⟩
  have hsp : PartN n s := by rw [← hs]; exact htp.iter HN.out.1 m2
  have hss : stableP s next := by rw [← hs]; exact stops_stable htp.right htl hm2
  have hsc2 : leP n s c := hco s hsp hss ((by rw [← hs]; exact iter_le' HN.out.1 m2 : leP n s t).trans (by rw [← ht]; exact (meet_le HP.out.len HQ.out.len).1))
  have HCP := Aside0.mk hcp
  have HSC := Aside0.mk hsc
  have HCN := Aside0.mk hcn
  have HLE := Aside0.mk hle
  have HCO := Aside0.mk hco
  have HS1 := Aside0.mk (decide_eq_true hsc)
  have HF1 := Aside0.mk (decide_eq_true ((finer_le hcp HP.out).2 hle))
  have HST0 := Aside0.mk (stops_zero hcp.right (by rw [HN.out.1, hcp.len]) hsc)
  have HT := Aside0.mk ht
  have HTP := Aside0.mk htp
  have HM2 := Aside0.mk hm2
  have HS := Aside0.mk hs
  have HSP := Aside0.mk hsp
  have HF2 := Aside0.mk (decide_eq_true ((finer_le hsp hcp).2 hsc2))
  have FP_3 := Aside0.mk (Kd.C_below FP_2.out hB)
  have FO_3 := Aside0.mk (Kd.C_below FO_2.out hB)
  have FX_3 := Aside0.mk (Kd.C_below FX_2.out hB)
  have FC_3 := Aside0.mk hC
  have HB_3 := Aside0.mk (HB_2.out.trans (hB.mono HB_2.out.size))
  have g0 : decide ((n : Int) < (m : Int)) = false := decide_eq_false (by omega)
  have hmk := print_make_of 22 3 (.int .i64 0) 8 Try.underlying22 info3 rfl (by decide) N (by omega)
  clear hm hc hcp hsc hcn hle hco ht htp htl hm2 hs hsp hss hsc2 hC hB hpl hnl FP_2 FO_2 FX_2 HB_2
  go_wp2_with (first
    | (go_at_call 29; refine (stableN A5 c5 n c A4 c4 n next w3 HCP.out FC_3.out HN.out HN.out.1 FX_3.out true HS1.out).mono ?_; rintro e w4 ⟨rfl, hB⟩; have FP_4 := Aside0.mk (Kd.C_below FP_3.out hB); have FO_4 := Aside0.mk (Kd.C_below FO_3.out hB); have FX_4 := Aside0.mk (Kd.C_below FX_3.out hB); have FC_4 := Aside0.mk (Kd.C_below FC_3.out hB); have HB_4 := Aside0.mk (HB_3.out.trans (hB.mono HB_3.out.size)); clear hB HB_3 FP_3 FO_3 FX_3 FC_3)
    | (go_at_call 32; refine (finerN A5 c5 n c A2 c2 p w4 HCP.out FC_4.out HP.out FP_4.out true HF1.out).mono ?_; rintro e w5 ⟨rfl, hB⟩; have FP_5 := Aside0.mk (Kd.C_below FP_4.out hB); have FO_5 := Aside0.mk (Kd.C_below FO_4.out hB); have FX_5 := Aside0.mk (Kd.C_below FX_4.out hB); have FC_5 := Aside0.mk (Kd.C_below FC_4.out hB); have HB_5 := Aside0.mk (HB_4.out.trans (hB.mono HB_4.out.size)); clear hB HB_4 FP_4 FO_4 FX_4 FC_4)
    | (go_at_call 27; refine (coarsestN A5 c5 n c A4 c4 n next w5 HCP.out FC_5.out HN.out HN.out.1 FX_5.out 0 HST0.out c rfl).mono ?_; rintro e w6 ⟨A6, c6, rfl, hC, hB⟩; have FG_6 := Aside0.mk (hC); have FP_6 := Aside0.mk (Kd.C_below FP_5.out hB); have FO_6 := Aside0.mk (Kd.C_below FO_5.out hB); have FX_6 := Aside0.mk (Kd.C_below FX_5.out hB); have FC_6 := Aside0.mk (Kd.C_below FC_5.out hB); have HB_6 := Aside0.mk (HB_5.out.trans (hB.mono HB_5.out.size)); clear hC; clear hB HB_5 FP_5 FO_5 FX_5 FC_5)
    | (go_at_call 19; refine (eqN A6 c6 n c A5 c5 c w6 HCP.out.len FG_6.out HCP.out.len FC_6.out true (by simp)).mono ?_; rintro e w7 ⟨rfl, hB⟩; have FP_7 := Aside0.mk (Kd.C_below FP_6.out hB); have FO_7 := Aside0.mk (Kd.C_below FO_6.out hB); have FX_7 := Aside0.mk (Kd.C_below FX_6.out hB); have FC_7 := Aside0.mk (Kd.C_below FC_6.out hB); have HB_7 := Aside0.mk (HB_6.out.trans (hB.mono HB_6.out.size)); clear hB HB_6 FP_6 FO_6 FX_6 FC_6 FG_6)
    | (go_at_call 30; refine (meetN A2 c2 n p A3 c3 q w7 HP.out FP_7.out HQ.out FO_7.out t HT.out).mono ?_; rintro e w8 ⟨A7, c7, rfl, hC, hB⟩; have FT_8 := Aside0.mk (hC); have FP_8 := Aside0.mk (Kd.C_below FP_7.out hB); have FX_8 := Aside0.mk (Kd.C_below FX_7.out hB); have FC_8 := Aside0.mk (Kd.C_below FC_7.out hB); have HB_8 := Aside0.mk (HB_7.out.trans (hB.mono HB_7.out.size)); clear hC; clear hB HB_7 FP_7 FO_7 FX_7 FC_7)
    | (go_at_call 27; refine (coarsestN A7 c7 n t A4 c4 n next w8 HTP.out FT_8.out HN.out HN.out.1 FX_8.out m2 HM2.out s HS.out).mono ?_; rintro e w9 ⟨A8, c8, rfl, hC, hB⟩; have FS_9 := Aside0.mk (hC); have FP_9 := Aside0.mk (Kd.C_below FP_8.out hB); have FX_9 := Aside0.mk (Kd.C_below FX_8.out hB); have FC_9 := Aside0.mk (Kd.C_below FC_8.out hB); have HB_9 := Aside0.mk (HB_8.out.trans (hB.mono HB_8.out.size)); clear hC; clear hB HB_8 FP_8 FX_8 FC_8 FT_8)
    | (go_at_call 32; refine (finerN A8 c8 n s A5 c5 c w9 HSP.out FS_9.out HCP.out FC_9.out true HF2.out).mono ?_; rintro e w10 ⟨rfl, hB⟩; have FP_10 := Aside0.mk (Kd.C_below FP_9.out hB); have FX_10 := Aside0.mk (Kd.C_below FX_9.out hB); have FC_10 := Aside0.mk (Kd.C_below FC_9.out hB); have HB_10 := Aside0.mk (HB_9.out.trans (hB.mono HB_9.out.size)); clear hB HB_9 FP_9 FX_9 FC_9 FS_9)
    | (go_at_call 28; refine (quotientN A5 c5 n c A4 c4 n next w10 HCP.out FC_10.out HN.out HN.out.1 FX_10.out HSC.out N HCN.out).mono ?_; rintro e w11 ⟨A10, c10, rfl, hC, hB⟩; have FQ_11 := Aside0.mk (hC); have FP_11 := Aside0.mk (Kd.C_below FP_10.out hB); have FC_11 := Aside0.mk (Kd.C_below FC_10.out hB); have HB_11 := Aside0.mk (HB_10.out.trans (hB.mono HB_10.out.size)); clear hC; clear hB HB_10 FP_10 FX_10 FC_10))
  clear g0 hmk
  go_loopw [26] (fun i wr => ∃ (x : Int) (mm : Nat) (fs : List Int), i = .int .i64 x ∧ Aside0 (x = (mm : Int) - 1 ∧ mm ≤ n ∧ fs.length = N ∧ (∀ y ∈ fs, 0 ≤ y ∧ y ≤ 30) ∧ (∀ i, mm ≤ i → i < n → at_ fs (at_ c i).toNat = at_ p i) ∧ Kd.R (Kd.int .i64) 3 wr w11.heap.size (fun _ => True) (.slice (some ⟨w11.heap.size, 0, none⟩) N N) fs ∧ Below w11.heap.size w11 wr)) (fun i _ => (intOf i + 1).toNat)
  case atStart => exact ⟨_, n, _, rfl, rfl, Nat.le_refl _, List.length_replicate .., fun y hy => by rw [List.eq_of_mem_replicate hy]; omega, fun i h1 h2 => by omega, R_made w11 N (by omega), lit_below w11 _⟩
  case round =>
    obtain ⟨x, mm, fs, rfl, HI⟩ := hrel
    have hml := HI.out.2.1
    cases mm with
    | zero =>
      obtain rfl : x = -1 := by have := HI.out.1; omega
      have hfl := HI.out.2.2.1
      have hnp := num_part hfl (by omega)
      have hQ := quot_next HCP.out HN.out HSC.out HCN.out
      have hQl : (quotP c next).length = (Num.num fs).length := by rw [hQ.1, hnp.len]
      obtain ⟨m3, hm3⟩ := exists_stops hnp.right hQl
      have hm3n : m3 ≤ N := by have := iter_le hnp.right hQl hm3.2; have := hnp.len; omega
      obtain ⟨E, hE⟩ : ∃ E, iterP (Num.num fs) (quotP c next) m3 = E := ⟨_, rfl⟩
      have hEp : PartN N E := by rw [← hE]; exact hnp.iter hQ.1 m3
      have hEs : stableP E (quotP c next) := by rw [← hE]; exact stops_stable hnp.right hQl hm3
      have hEl : leP N E (Num.num fs) := by rw [← hE]; exact iter_le' hQ.1 m3
      have hcE := quotient_discrete HP.out HCP.out HN.out HSC.out HCO.out HCN.out hfl (fun i hi => HI.out.2.2.2.2.1 i (Nat.zero_le _) hi) hEp hEs hEl
      have HWF := Aside0.mk (show Wf fs from fun y hy => by have := HI.out.2.2.2.1 y hy; exact WalkArith.wf_i64 (by omega))
      have HCF := Aside0.mk (show Kd.C (Kd.int .i64) wr (some ⟨w11.heap.size, 0, none⟩) N fs from (R_len HI.out.2.2.2.2.2.1).2.2)
      have HFL := Aside0.mk hfl
      have HNP := Aside0.mk hnp
      have HQN := Aside0.mk hQ
      have HM3 := Aside0.mk hm3
      have HE := Aside0.mk hE
      have HEP := Aside0.mk hEp
      have HCE := Aside0.mk hcE
      have FQ := Aside0.mk (Kd.C_below FQ_11.out HI.out.2.2.2.2.2.2)
      have HBW := Aside0.mk (HB_11.out.trans (HI.out.2.2.2.2.2.2.mono HB_11.out.size))
      clear hfl hnp hQ hQl hm3 hE hEp hEs hEl hcE
      go_wp2_with (first
        | (go_at_call 17; refine (ofN _ N N fs wr HFL.out (by omega) HWF.out HCF.out _ rfl).mono ?_; rintro e v1 ⟨A11, c11, rfl, hC, hB⟩; have G1 := Aside0.mk hC; have GQ1 := Aside0.mk (Kd.C_below FQ.out hB); have HV1 := Aside0.mk (HBW.out.trans (hB.mono HBW.out.size)); clear hC hB)
        | (go_at_call 27; refine (coarsestN A11 c11 N (Num.num fs) A10 c10 N (quotP c next) v1 HNP.out G1.out HQN.out HQN.out.1 GQ1.out m3 HM3.out E HE.out).mono ?_; rintro e v2 ⟨A12, c12, rfl, hC, hB⟩; have G2 := Aside0.mk hC; have HV2 := Aside0.mk (HV1.out.trans (hB.mono HV1.out.size)); clear hC hB)
        | (go_at_call 34; refine (countN A12 c12 N E v2 HEP.out G2.out N HCE.out).mono ?_; rintro e v3 ⟨rfl, hB⟩; have HV3 := Aside0.mk (HV2.out.trans (hB.mono HV2.out.size)); clear hB)
        | (go_at_call 14; refine (awake_walk v3).mono ?_; rintro e v4 ⟨rfl, hB⟩; have HV4 := Aside0.mk (HV3.out.trans (hB.mono HV3.out.size)); clear hB))
      go_ret
      exact ⟨rfl, HV4.out⟩
    | succ j =>
      obtain rfl : x = (j : Int) := by have := HI.out.1; omega
      have hjn : j < n := by omega
      have hcl := HCP.out.len
      have hpl := HP.out.len
      have hbb := block_lt HCP.out HCN.out hjn
      obtain ⟨b, hb⟩ : ∃ b : Nat, at_ c j = b := ⟨(at_ c j).toNat, by omega⟩
      have hbN : b < N := by omega
      have HBL := Aside0.mk HI.out.2.2.2.2.2.2
      obtain ⟨ad1, e1, hx1⟩ := ints_atN (Kd.C_below FC_11.out HBL.out) HCP.out.len j hjn
      obtain ⟨ad2, e2, hx2⟩ := ints_atN (Kd.C_below FP_11.out HBL.out) HP.out.len j hjn
      subst e1 e2
      rw [← at_get (show j < c.length by omega), hb] at hx1
      rw [← at_get (show j < p.length by omega)] at hx2
      have hpb := at_bounds HP.out.right (show j < p.length by omega)
      obtain ⟨⟨v0, hv0⟩, hf0, hg0, hS⟩ := put_int (w := w) HI.out.2.2.2.2.2.1 HI.out.2.2.1 b hbN (at_ p j)
      have HK := Aside0.mk (show (fs.set b (at_ p j)).length = N ∧ (∀ y ∈ fs.set b (at_ p j), 0 ≤ y ∧ y ≤ 30) ∧ (∀ i, j ≤ i → i < n → at_ (fs.set b (at_ p j)) (at_ c i).toNat = at_ p i) ∧ Kd.R (Kd.int .i64) 3 (wr.setCell ⟨w11.heap.size, b, none⟩ (.int .i64 (at_ p j))).drew w11.heap.size (fun _ => True) (.slice (some ⟨w11.heap.size, 0, none⟩) N N) (fs.set b (at_ p j)) ∧ Below w11.heap.size w11 (wr.setCell ⟨w11.heap.size, b, none⟩ (.int .i64 (at_ p j))).drew from by
        refine ⟨by rw [List.length_set]; exact HI.out.2.2.1, fun y hy => ?_, fun i h1 h2 => ?_, Kd.R_drew hS, (HBL.out.setCell hg0 _).drew⟩
        · rcases List.mem_or_eq_of_mem_set hy with hy | hy
          · exact HI.out.2.2.2.1 y hy
          · rw [hy]; omega
        · have hbi := block_lt HCP.out HCN.out h2
          by_cases e : at_ c i = b
          · rw [e, Int.toNat_natCast, at_set_self (by rw [HI.out.2.2.1]; exact hbN)]
            exact (HLE.out i j h2 hjn (by rw [e, hb])).symm
          · rw [at_set_ne (by omega)]
            refine HI.out.2.2.2.2.1 i ?_ h2
            rcases Nat.lt_or_ge j i with h3 | h3
            · omega
            · have h4 : i = j := by omega
              subst h4
              exact absurd hb e)
      generalize at_ p j = y at hx2 HK hpb
      have hy2 : y ≤ 30 := by omega
      have hy1 := hpb.1
      have g1 : decide ((N : Int) ≤ (b : Int)) = false := decide_eq_false (by omega)
      clear hcl hpl hbb hb hS hpb
      go_wp2
      go_region
      go_wp2
      go_roundw
      case rel => exact ⟨(j : Int) - 1, j, _, by go_num, rfl, by omega, HK.out.1, HK.out.2.1, HK.out.2.2.1, HK.out.2.2.2.1, HK.out.2.2.2.2⟩
      case measure => simp [intOf]
end Go.Proofs.Ytboofecfmhbacaa
