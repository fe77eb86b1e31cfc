/- The walk of the law BlocksLattice. -/
import Derived.Test.YtboofecfmhbacaaH10
namespace Go.Proofs.Ytboofecfmhbacaa
open Go.RowKit Go.WideMaps Go.Maps Go.Proofs.YtboofecfmhbacaaW.PrintWords Go.Proofs.YtboofecfmhbacaaW.PrintLast Go.Proofs.YtboofecfmhbacaaW.PrintMore
attribute [local go_sem] max_two min_two max_three min_three min_four
set_option linter.unusedVariables false
set_option linter.unusedSimpArgs false

theorem eqN (A0 : Option Addr) (c0 n : Nat) (l0 : List Int) (A1 : Option Addr) (c1 : Nat) (l1 : List Int) (w : World) (h0 : l0.length = n) (hr0 : Kd.C (Kd.int .i64) w A0 n l0) (h1 : l1.length = n) (hr1 : Kd.C (Kd.int .i64) w A1 n l1) (b : Bool) (hb : decide (l0 = l1) = b) :
    Calls Try.prog 19 #[.slice A0 n c0, .slice A1 n c1] w fun e w' => e = .returned (.bool b) ∧ Below w.heap.size w w' := by
  subst h0 hb
  have h := equal_walk A0 c0 l0 A1 c1 l1 w hr0 (by rw [h1]; exact hr1)
  rwa [h1] at h

set_option maxRecDepth 100000 in
set_option maxHeartbeats 8000000 in
theorem blocksLattice_walk (A0 : Option Addr) (c0 : Nat) (j : List Int) (A1 : Option Addr) (c1 : Nat) (k : List Int) (A9 : Option Addr) (c9 : Nat) (l : List Int) (w : World) (hr0 : Kd.C (Kd.int .u8) w A0 j.length j) (hw0 : ∀ y ∈ j, (Lit.int .u8 y).wf = true) (hc0 : j.length ≤ c0) (hr1 : Kd.C (Kd.int .u8) w A1 k.length k) (hw1 : ∀ y ∈ k, (Lit.int .u8 y).wf = true) (hc1 : k.length ≤ c1) (hr2 : Kd.C (Kd.int .u8) w A9 l.length l) (hw2 : ∀ y ∈ l, (Lit.int .u8 y).wf = true) (hc2 : l.length ≤ c9) :
    Calls Try.prog 6 #[.slice A0 j.length c0, .slice A1 k.length c1, .slice A9 l.length c9] w fun e w' => e = .returned (.bool true) ∧ Below w.heap.size w w' := by
  have hb0 := len_le hr0
  have hb1 := len_le hr1
  have hb2 := len_le hr2
  obtain ⟨n, hn⟩ : ∃ n, n = min (min (min j.length k.length) l.length) 30 := ⟨_, rfl⟩
  obtain ⟨hcut0, hC0⟩ := cut_ints (k := .u8) Try.underlying39 info5 A0 c0 j n (by omega) hc0
  obtain ⟨hcut1, hC1⟩ := cut_ints (k := .u8) Try.underlying39 info5 A1 c1 k n (by omega) hc1
  obtain ⟨hcut2, hC2⟩ := cut_ints (k := .u8) Try.underlying39 info5 A9 c9 l n (by omega) hc2
  have hm1 := min2_nat j.length k.length
  have hm2 := min2_nat (min j.length k.length) l.length
  have hm3 := min2_c (min (min j.length k.length) l.length)
  rw [← hn] at hm3
  have hn30 : n ≤ 30 := by omega
  have M0 := Aside0.mk (fun W (hB : Below w.heap.size w W) => madeN_walk A0 c0 n (j.take n) W (by rw [List.length_take]; omega) (Kd.C_below (hC0 w hr0) hB) (fun y hy => hw0 y (List.mem_of_mem_take hy)) (by omega) hn30)
  have M1 := Aside0.mk (fun W (hB : Below w.heap.size w W) => madeN_walk A1 c1 n (k.take n) W (by rw [List.length_take]; omega) (Kd.C_below (hC1 w hr1) hB) (fun y hy => hw1 y (List.mem_of_mem_take hy)) (by omega) hn30)
  have M2 := Aside0.mk (fun W (hB : Below w.heap.size w W) => madeN_walk A9 c9 n (l.take n) W (by rw [List.length_take]; omega) (Kd.C_below (hC2 w hr2) hB) (fun y hy => hw2 y (List.mem_of_mem_take hy)) (by omega) hn30)
  generalize min (min j.length k.length) l.length = m2 at hm2 hm3
  generalize min j.length k.length = m1 at hm1 hm2
  clear hr0 hr1 hr2 hw0 hw1 hw2 hC0 hC1 hC2 hn
  go_enter Try.func6, Try.ntmps6
  go_wp2
  go_region_with (first
    | (go_at_call 25; refine (M0.out w.drew (below_drew (Below.refl _ _))).mono ?_; rintro e w1 ⟨A2, c2, p, rfl, hp, hpl, hC, hB⟩; have HP := Aside0.mk (PartN.mk hp hpl); have HPC := Aside0.mk (And.intro hC ((below_drew (Below.refl w.heap.size w)).trans hB)); clear hp hpl hC hB M0)
    | (go_at_call 25; refine (M1.out w1 HPC.out.2).mono ?_; rintro e w2 ⟨A3, c3, q, rfl, hq, hql, hC, hB⟩; have HQ := Aside0.mk (PartN.mk hq hql); have HQC := Aside0.mk (And.intro (Kd.C_below HPC.out.1 hB) (And.intro hC (HPC.out.2.trans (hB.mono HPC.out.2.size)))); clear hq hql hC hB M1 HPC)
    | (go_at_call 25; refine (M2.out w2 HQC.out.2.2).mono ?_; rintro e w3 ⟨A4, c4, r, rfl, hr, hrl, hC, hB⟩; have HR := Aside0.mk (PartN.mk hr hrl); have FP_3 := Aside0.mk (Kd.C_below HQC.out.1 hB); have FQ_3 := Aside0.mk (Kd.C_below HQC.out.2.1 hB); have FR_3 := Aside0.mk hC; have HB_3 := Aside0.mk (HQC.out.2.2.trans (hB.mono HQC.out.2.2.size)); clear hr hrl hC hB M2 HQC))
  all_goals
    obtain ⟨m, hm⟩ : ∃ m, meetP p q = m := ⟨_, rfl⟩
    obtain ⟨o, ho⟩ := join_exists q HP.out
    obtain ⟨x, hx⟩ : ∃ x, meetP m r = x := ⟨_, rfl⟩
    obtain ⟨y, hy⟩ : ∃ y, meetP q r = y := ⟨_, rfl⟩
    obtain ⟨g, hg⟩ := join_exists r HQ.out
    have hop := ho.part HP.out
    obtain ⟨f, hf⟩ := join_exists r hop
    obtain ⟨b, hb⟩ : ∃ b, decide (finerP p q) = b := ⟨_, rfl⟩
    have hmp : PartN n m := by rw [← hm]; exact HP.out.meet HQ.out
    have HMP := Aside0.mk hmp
    have HOP := Aside0.mk hop
    have HXP := Aside0.mk (show PartN n x by rw [← hx]; exact hmp.meet HR.out)
    have HYP := Aside0.mk (show PartN n y by rw [← hy]; exact HQ.out.meet HR.out)
    have HFP := Aside0.mk (hf.part hop)
    have HGP := Aside0.mk (hg.part HQ.out)
    have HM := Aside0.mk hm
    have HM2 := Aside0.mk (show meetP q p = m by rw [meet_comm HP.out HQ.out, hm])
    have HO := Aside0.mk ho
    have HO2 := Aside0.mk (ho.comm HP.out HQ.out)
    have HPO := Aside0.mk (meet_join HP.out ho)
    have HPM := Aside0.mk (show IsJoin p m p by rw [← hm]; exact join_meet HP.out HQ.out)
    have HBF := Aside0.mk hb
    have HF1 := Aside0.mk (show decide (finerP m p) = true from decide_eq_true ((finer_le hmp HP.out).2 (by rw [← hm]; exact (meet_le HP.out.len HQ.out.len).1)))
    have HF2 := Aside0.mk (show decide (finerP p o) = true from decide_eq_true ((finer_le HP.out hop).2 (ho.ge HP.out).1))
    have HBM := Aside0.mk (show decide (m = p) = b by rw [← hb, ← hm]; rfl)
    have HBO := Aside0.mk (show decide (o = q) = b by
      rw [← hb]
      have h := finer_join HP.out HQ.out ho
      by_cases h1 : o = q
      · rw [decide_eq_true h1, decide_eq_true (h.2 h1)]
      · rw [decide_eq_false h1, decide_eq_false (fun h2 => h1 (h.1 h2))])
    have HX := Aside0.mk hx
    have HY := Aside0.mk hy
    have HX2 := Aside0.mk (show meetP p y = x by rw [← hy, ← hx, ← hm]; exact meet_assoc HP.out HQ.out HR.out)
    have HF := Aside0.mk hf
    have HG := Aside0.mk hg
    have HF9 := Aside0.mk (ho.assoc HP.out HQ.out hf hg)
    clear hm ho hx hy hg hop hf hb hmp
    go_wp2_with (first
    | (go_at_call 30; refine (meetN A2 c2 n p A3 c3 q w3 HP.out FP_3.out HQ.out FQ_3.out m HM.out).mono ?_; rintro e w4 ⟨AM, cM, rfl, hC, hB⟩; have FM_4 := Aside0.mk (hC); have FP_4 := Aside0.mk (Kd.C_below FP_3.out hB); have FQ_4 := Aside0.mk (Kd.C_below FQ_3.out hB); have FR_4 := Aside0.mk (Kd.C_below FR_3.out hB); have HB_4 := Aside0.mk (HB_3.out.trans (hB.mono HB_3.out.size)); clear hC; clear hB HB_3 FP_3 FQ_3 FR_3)
    | (go_at_call 30; refine (meetN A3 c3 n q A2 c2 p w4 HQ.out FQ_4.out HP.out FP_4.out m HM2.out).mono ?_; rintro e w5 ⟨AMB, cMB, rfl, hC, hB⟩; have FMB_5 := Aside0.mk (hC); have FP_5 := Aside0.mk (Kd.C_below FP_4.out hB); have FQ_5 := Aside0.mk (Kd.C_below FQ_4.out hB); have FR_5 := Aside0.mk (Kd.C_below FR_4.out hB); have FM_5 := Aside0.mk (Kd.C_below FM_4.out hB); have HB_5 := Aside0.mk (HB_4.out.trans (hB.mono HB_4.out.size)); clear hC; clear hB HB_4 FP_4 FQ_4 FR_4 FM_4)
    | (go_at_call 31; refine (joinN A2 c2 n p A3 c3 q w5 HP.out FP_5.out HQ.out FQ_5.out o HO.out).mono ?_; rintro e w6 ⟨AO, cO, rfl, hC, hB⟩; have FO_6 := Aside0.mk (hC); have FP_6 := Aside0.mk (Kd.C_below FP_5.out hB); have FQ_6 := Aside0.mk (Kd.C_below FQ_5.out hB); have FR_6 := Aside0.mk (Kd.C_below FR_5.out hB); have FM_6 := Aside0.mk (Kd.C_below FM_5.out hB); have FMB_6 := Aside0.mk (Kd.C_below FMB_5.out hB); have HB_6 := Aside0.mk (HB_5.out.trans (hB.mono HB_5.out.size)); clear hC; clear hB HB_5 FP_5 FQ_5 FR_5 FM_5 FMB_5)
    | (go_at_call 31; refine (joinN A3 c3 n q A2 c2 p w6 HQ.out FQ_6.out HP.out FP_6.out o HO2.out).mono ?_; rintro e w7 ⟨AOB, cOB, rfl, hC, hB⟩; have FOB_7 := Aside0.mk (hC); have FP_7 := Aside0.mk (Kd.C_below FP_6.out hB); have FQ_7 := Aside0.mk (Kd.C_below FQ_6.out hB); have FR_7 := Aside0.mk (Kd.C_below FR_6.out hB); have FM_7 := Aside0.mk (Kd.C_below FM_6.out hB); have FMB_7 := Aside0.mk (Kd.C_below FMB_6.out hB); have FO_7 := Aside0.mk (Kd.C_below FO_6.out hB); have HB_7 := Aside0.mk (HB_6.out.trans (hB.mono HB_6.out.size)); clear hC; clear hB HB_6 FP_6 FQ_6 FR_6 FM_6 FMB_6 FO_6)
    | (go_at_call 19; refine (eqN AM cM n m AMB cMB m w7 HMP.out.len FM_7.out HMP.out.len FMB_7.out true (by simp)).mono ?_; rintro e w8 ⟨rfl, hB⟩; have FP_8 := Aside0.mk (Kd.C_below FP_7.out hB); have FQ_8 := Aside0.mk (Kd.C_below FQ_7.out hB); have FR_8 := Aside0.mk (Kd.C_below FR_7.out hB); have FM_8 := Aside0.mk (Kd.C_below FM_7.out hB); have FO_8 := Aside0.mk (Kd.C_below FO_7.out hB); have FOB_8 := Aside0.mk (Kd.C_below FOB_7.out hB); have HB_8 := Aside0.mk (HB_7.out.trans (hB.mono HB_7.out.size)); clear hB HB_7 FP_7 FQ_7 FR_7 FM_7 FMB_7 FO_7 FOB_7)
    | (go_at_call 19; refine (eqN AO cO n o AOB cOB o w8 HOP.out.len FO_8.out HOP.out.len FOB_8.out true (by simp)).mono ?_; rintro e w9 ⟨rfl, hB⟩; have FP_9 := Aside0.mk (Kd.C_below FP_8.out hB); have FQ_9 := Aside0.mk (Kd.C_below FQ_8.out hB); have FR_9 := Aside0.mk (Kd.C_below FR_8.out hB); have FM_9 := Aside0.mk (Kd.C_below FM_8.out hB); have FO_9 := Aside0.mk (Kd.C_below FO_8.out hB); have HB_9 := Aside0.mk (HB_8.out.trans (hB.mono HB_8.out.size)); clear hB HB_8 FP_8 FQ_8 FR_8 FM_8 FO_8 FOB_8)
    | (go_at_call 30; refine (meetN A2 c2 n p AO cO o w9 HP.out FP_9.out HOP.out FO_9.out p HPO.out).mono ?_; rintro e w10 ⟨APO, cPO, rfl, hC, hB⟩; have FPO_10 := Aside0.mk (hC); have FP_10 := Aside0.mk (Kd.C_below FP_9.out hB); have FQ_10 := Aside0.mk (Kd.C_below FQ_9.out hB); have FR_10 := Aside0.mk (Kd.C_below FR_9.out hB); have FM_10 := Aside0.mk (Kd.C_below FM_9.out hB); have FO_10 := Aside0.mk (Kd.C_below FO_9.out hB); have HB_10 := Aside0.mk (HB_9.out.trans (hB.mono HB_9.out.size)); clear hC; clear hB HB_9 FP_9 FQ_9 FR_9 FM_9 FO_9)
    | (go_at_call 31; refine (joinN A2 c2 n p AM cM m w10 HP.out FP_10.out HMP.out FM_10.out p HPM.out).mono ?_; rintro e w11 ⟨APM, cPM, rfl, hC, hB⟩; have FPM_11 := Aside0.mk (hC); have FP_11 := Aside0.mk (Kd.C_below FP_10.out hB); have FQ_11 := Aside0.mk (Kd.C_below FQ_10.out hB); have FR_11 := Aside0.mk (Kd.C_below FR_10.out hB); have FM_11 := Aside0.mk (Kd.C_below FM_10.out hB); have FO_11 := Aside0.mk (Kd.C_below FO_10.out hB); have FPO_11 := Aside0.mk (Kd.C_below FPO_10.out hB); have HB_11 := Aside0.mk (HB_10.out.trans (hB.mono HB_10.out.size)); clear hC; clear hB HB_10 FP_10 FQ_10 FR_10 FM_10 FO_10 FPO_10)
    | (go_at_call 32; refine (finerN A2 c2 n p A3 c3 q w11 HP.out FP_11.out HQ.out FQ_11.out b HBF.out).mono ?_; rintro e w12 ⟨rfl, hB⟩; have FP_12 := Aside0.mk (Kd.C_below FP_11.out hB); have FQ_12 := Aside0.mk (Kd.C_below FQ_11.out hB); have FR_12 := Aside0.mk (Kd.C_below FR_11.out hB); have FM_12 := Aside0.mk (Kd.C_below FM_11.out hB); have FO_12 := Aside0.mk (Kd.C_below FO_11.out hB); have FPO_12 := Aside0.mk (Kd.C_below FPO_11.out hB); have FPM_12 := Aside0.mk (Kd.C_below FPM_11.out hB); have HB_12 := Aside0.mk (HB_11.out.trans (hB.mono HB_11.out.size)); clear hB HB_11 FP_11 FQ_11 FR_11 FM_11 FO_11 FPO_11 FPM_11)
    | (go_at_call 32; refine (finerN AM cM n m A2 c2 p w12 HMP.out FM_12.out HP.out FP_12.out true HF1.out).mono ?_; rintro e w13 ⟨rfl, hB⟩; have FP_13 := Aside0.mk (Kd.C_below FP_12.out hB); have FQ_13 := Aside0.mk (Kd.C_below FQ_12.out hB); have FR_13 := Aside0.mk (Kd.C_below FR_12.out hB); have FM_13 := Aside0.mk (Kd.C_below FM_12.out hB); have FO_13 := Aside0.mk (Kd.C_below FO_12.out hB); have FPO_13 := Aside0.mk (Kd.C_below FPO_12.out hB); have FPM_13 := Aside0.mk (Kd.C_below FPM_12.out hB); have HB_13 := Aside0.mk (HB_12.out.trans (hB.mono HB_12.out.size)); clear hB HB_12 FP_12 FQ_12 FR_12 FM_12 FO_12 FPO_12 FPM_12)
    | (go_at_call 32; refine (finerN A2 c2 n p AO cO o w13 HP.out FP_13.out HOP.out FO_13.out true HF2.out).mono ?_; rintro e w14 ⟨rfl, hB⟩; have FP_14 := Aside0.mk (Kd.C_below FP_13.out hB); have FQ_14 := Aside0.mk (Kd.C_below FQ_13.out hB); have FR_14 := Aside0.mk (Kd.C_below FR_13.out hB); have FM_14 := Aside0.mk (Kd.C_below FM_13.out hB); have FO_14 := Aside0.mk (Kd.C_below FO_13.out hB); have FPO_14 := Aside0.mk (Kd.C_below FPO_13.out hB); have FPM_14 := Aside0.mk (Kd.C_below FPM_13.out hB); have HB_14 := Aside0.mk (HB_13.out.trans (hB.mono HB_13.out.size)); clear hB HB_13 FP_13 FQ_13 FR_13 FM_13 FO_13 FPO_13 FPM_13)
    | (go_at_call 19; refine (eqN APO cPO n p A2 c2 p w14 HP.out.len FPO_14.out HP.out.len FP_14.out true (by simp)).mono ?_; rintro e w15 ⟨rfl, hB⟩; have FP_15 := Aside0.mk (Kd.C_below FP_14.out hB); have FQ_15 := Aside0.mk (Kd.C_below FQ_14.out hB); have FR_15 := Aside0.mk (Kd.C_below FR_14.out hB); have FM_15 := Aside0.mk (Kd.C_below FM_14.out hB); have FO_15 := Aside0.mk (Kd.C_below FO_14.out hB); have FPM_15 := Aside0.mk (Kd.C_below FPM_14.out hB); have HB_15 := Aside0.mk (HB_14.out.trans (hB.mono HB_14.out.size)); clear hB HB_14 FP_14 FQ_14 FR_14 FM_14 FO_14 FPO_14 FPM_14)
    | (go_at_call 19; refine (eqN APM cPM n p A2 c2 p w15 HP.out.len FPM_15.out HP.out.len FP_15.out true (by simp)).mono ?_; rintro e w16 ⟨rfl, hB⟩; have FP_16 := Aside0.mk (Kd.C_below FP_15.out hB); have FQ_16 := Aside0.mk (Kd.C_below FQ_15.out hB); have FR_16 := Aside0.mk (Kd.C_below FR_15.out hB); have FM_16 := Aside0.mk (Kd.C_below FM_15.out hB); have FO_16 := Aside0.mk (Kd.C_below FO_15.out hB); have HB_16 := Aside0.mk (HB_15.out.trans (hB.mono HB_15.out.size)); clear hB HB_15 FP_15 FQ_15 FR_15 FM_15 FO_15 FPM_15)
    | (go_at_call 19; refine (eqN AM cM n m A2 c2 p w16 HMP.out.len FM_16.out HP.out.len FP_16.out b HBM.out).mono ?_; rintro e w17 ⟨rfl, hB⟩; have FP_17 := Aside0.mk (Kd.C_below FP_16.out hB); have FQ_17 := Aside0.mk (Kd.C_below FQ_16.out hB); have FR_17 := Aside0.mk (Kd.C_below FR_16.out hB); have FM_17 := Aside0.mk (Kd.C_below FM_16.out hB); have FO_17 := Aside0.mk (Kd.C_below FO_16.out hB); have HB_17 := Aside0.mk (HB_16.out.trans (hB.mono HB_16.out.size)); clear hB HB_16 FP_16 FQ_16 FR_16 FM_16 FO_16)
    | (go_at_call 19; refine (eqN AO cO n o A3 c3 q w17 HOP.out.len FO_17.out HQ.out.len FQ_17.out b HBO.out).mono ?_; rintro e w18 ⟨rfl, hB⟩; have FP_18 := Aside0.mk (Kd.C_below FP_17.out hB); have FQ_18 := Aside0.mk (Kd.C_below FQ_17.out hB); have FR_18 := Aside0.mk (Kd.C_below FR_17.out hB); have FM_18 := Aside0.mk (Kd.C_below FM_17.out hB); have FO_18 := Aside0.mk (Kd.C_below FO_17.out hB); have HB_18 := Aside0.mk (HB_17.out.trans (hB.mono HB_17.out.size)); clear hB HB_17 FP_17 FQ_17 FR_17 FM_17 FO_17)
    | (go_at_call 30; refine (meetN AM cM n m A4 c4 r w18 HMP.out FM_18.out HR.out FR_18.out x HX.out).mono ?_; rintro e w19 ⟨AX, cX, rfl, hC, hB⟩; have FX_19 := Aside0.mk (hC); have FP_19 := Aside0.mk (Kd.C_below FP_18.out hB); have FQ_19 := Aside0.mk (Kd.C_below FQ_18.out hB); have FR_19 := Aside0.mk (Kd.C_below FR_18.out hB); have FM_19 := Aside0.mk (Kd.C_below FM_18.out hB); have FO_19 := Aside0.mk (Kd.C_below FO_18.out hB); have HB_19 := Aside0.mk (HB_18.out.trans (hB.mono HB_18.out.size)); clear hC; clear hB HB_18 FP_18 FQ_18 FR_18 FM_18 FO_18)
    | (go_at_call 30; refine (meetN A3 c3 n q A4 c4 r w19 HQ.out FQ_19.out HR.out FR_19.out y HY.out).mono ?_; rintro e w20 ⟨AY, cY, rfl, hC, hB⟩; have FY_20 := Aside0.mk (hC); have FP_20 := Aside0.mk (Kd.C_below FP_19.out hB); have FQ_20 := Aside0.mk (Kd.C_below FQ_19.out hB); have FR_20 := Aside0.mk (Kd.C_below FR_19.out hB); have FM_20 := Aside0.mk (Kd.C_below FM_19.out hB); have FO_20 := Aside0.mk (Kd.C_below FO_19.out hB); have FX_20 := Aside0.mk (Kd.C_below FX_19.out hB); have HB_20 := Aside0.mk (HB_19.out.trans (hB.mono HB_19.out.size)); clear hC; clear hB HB_19 FP_19 FQ_19 FR_19 FM_19 FO_19 FX_19)
    | (go_at_call 30; refine (meetN A2 c2 n p AY cY y w20 HP.out FP_20.out HYP.out FY_20.out x HX2.out).mono ?_; rintro e w21 ⟨AXB, cXB, rfl, hC, hB⟩; have FXB_21 := Aside0.mk (hC); have FP_21 := Aside0.mk (Kd.C_below FP_20.out hB); have FQ_21 := Aside0.mk (Kd.C_below FQ_20.out hB); have FR_21 := Aside0.mk (Kd.C_below FR_20.out hB); have FM_21 := Aside0.mk (Kd.C_below FM_20.out hB); have FO_21 := Aside0.mk (Kd.C_below FO_20.out hB); have FX_21 := Aside0.mk (Kd.C_below FX_20.out hB); have FY_21 := Aside0.mk (Kd.C_below FY_20.out hB); have HB_21 := Aside0.mk (HB_20.out.trans (hB.mono HB_20.out.size)); clear hC; clear hB HB_20 FP_20 FQ_20 FR_20 FM_20 FO_20 FX_20 FY_20)
    | (go_at_call 31; refine (joinN AO cO n o A4 c4 r w21 HOP.out FO_21.out HR.out FR_21.out f HF.out).mono ?_; rintro e w22 ⟨AF, cF, rfl, hC, hB⟩; have FF_22 := Aside0.mk (hC); have FP_22 := Aside0.mk (Kd.C_below FP_21.out hB); have FQ_22 := Aside0.mk (Kd.C_below FQ_21.out hB); have FR_22 := Aside0.mk (Kd.C_below FR_21.out hB); have FM_22 := Aside0.mk (Kd.C_below FM_21.out hB); have FO_22 := Aside0.mk (Kd.C_below FO_21.out hB); have FX_22 := Aside0.mk (Kd.C_below FX_21.out hB); have FY_22 := Aside0.mk (Kd.C_below FY_21.out hB); have FXB_22 := Aside0.mk (Kd.C_below FXB_21.out hB); have HB_22 := Aside0.mk (HB_21.out.trans (hB.mono HB_21.out.size)); clear hC; clear hB HB_21 FP_21 FQ_21 FR_21 FM_21 FO_21 FX_21 FY_21 FXB_21)
    | (go_at_call 31; refine (joinN A3 c3 n q A4 c4 r w22 HQ.out FQ_22.out HR.out FR_22.out g HG.out).mono ?_; rintro e w23 ⟨AG, cG, rfl, hC, hB⟩; have FG_23 := Aside0.mk (hC); have FP_23 := Aside0.mk (Kd.C_below FP_22.out hB); have FQ_23 := Aside0.mk (Kd.C_below FQ_22.out hB); have FR_23 := Aside0.mk (Kd.C_below FR_22.out hB); have FM_23 := Aside0.mk (Kd.C_below FM_22.out hB); have FO_23 := Aside0.mk (Kd.C_below FO_22.out hB); have FX_23 := Aside0.mk (Kd.C_below FX_22.out hB); have FY_23 := Aside0.mk (Kd.C_below FY_22.out hB); have FXB_23 := Aside0.mk (Kd.C_below FXB_22.out hB); have FF_23 := Aside0.mk (Kd.C_below FF_22.out hB); have HB_23 := Aside0.mk (HB_22.out.trans (hB.mono HB_22.out.size)); clear hC; clear hB HB_22 FP_22 FQ_22 FR_22 FM_22 FO_22 FX_22 FY_22 FXB_22 FF_22)
    | (go_at_call 31; refine (joinN A2 c2 n p AG cG g w23 HP.out FP_23.out HGP.out FG_23.out f HF9.out).mono ?_; rintro e w24 ⟨AFB, cFB, rfl, hC, hB⟩; have FFB_24 := Aside0.mk (hC); have FP_24 := Aside0.mk (Kd.C_below FP_23.out hB); have FQ_24 := Aside0.mk (Kd.C_below FQ_23.out hB); have FR_24 := Aside0.mk (Kd.C_below FR_23.out hB); have FM_24 := Aside0.mk (Kd.C_below FM_23.out hB); have FO_24 := Aside0.mk (Kd.C_below FO_23.out hB); have FX_24 := Aside0.mk (Kd.C_below FX_23.out hB); have FY_24 := Aside0.mk (Kd.C_below FY_23.out hB); have FXB_24 := Aside0.mk (Kd.C_below FXB_23.out hB); have FF_24 := Aside0.mk (Kd.C_below FF_23.out hB); have FG_24 := Aside0.mk (Kd.C_below FG_23.out hB); have HB_24 := Aside0.mk (HB_23.out.trans (hB.mono HB_23.out.size)); clear hC; clear hB HB_23 FP_23 FQ_23 FR_23 FM_23 FO_23 FX_23 FY_23 FXB_23 FF_23 FG_23)
    | (go_at_call 19; refine (eqN AX cX n x AXB cXB x w24 HXP.out.len FX_24.out HXP.out.len FXB_24.out true (by simp)).mono ?_; rintro e w25 ⟨rfl, hB⟩; have FP_25 := Aside0.mk (Kd.C_below FP_24.out hB); have FQ_25 := Aside0.mk (Kd.C_below FQ_24.out hB); have FR_25 := Aside0.mk (Kd.C_below FR_24.out hB); have FM_25 := Aside0.mk (Kd.C_below FM_24.out hB); have FO_25 := Aside0.mk (Kd.C_below FO_24.out hB); have FY_25 := Aside0.mk (Kd.C_below FY_24.out hB); have FF_25 := Aside0.mk (Kd.C_below FF_24.out hB); have FG_25 := Aside0.mk (Kd.C_below FG_24.out hB); have FFB_25 := Aside0.mk (Kd.C_below FFB_24.out hB); have HB_25 := Aside0.mk (HB_24.out.trans (hB.mono HB_24.out.size)); clear hB HB_24 FP_24 FQ_24 FR_24 FM_24 FO_24 FX_24 FY_24 FXB_24 FF_24 FG_24 FFB_24)
    | (go_at_call 19; refine (eqN AF cF n f AFB cFB f w25 HFP.out.len FF_25.out HFP.out.len FFB_25.out true (by simp)).mono ?_; rintro e w26 ⟨rfl, hB⟩; have FP_26 := Aside0.mk (Kd.C_below FP_25.out hB); have FQ_26 := Aside0.mk (Kd.C_below FQ_25.out hB); have FR_26 := Aside0.mk (Kd.C_below FR_25.out hB); have FM_26 := Aside0.mk (Kd.C_below FM_25.out hB); have FO_26 := Aside0.mk (Kd.C_below FO_25.out hB); have FY_26 := Aside0.mk (Kd.C_below FY_25.out hB); have FG_26 := Aside0.mk (Kd.C_below FG_25.out hB); have HB_26 := Aside0.mk (HB_25.out.trans (hB.mono HB_25.out.size)); clear hB HB_25 FP_25 FQ_25 FR_25 FM_25 FO_25 FY_25 FF_25 FG_25 FFB_25)
    | (go_at_call 14; refine (awake_walk w26).mono ?_; rintro e w27 ⟨rfl, hB⟩; have FP_27 := Aside0.mk (Kd.C_below FP_26.out hB); have FQ_27 := Aside0.mk (Kd.C_below FQ_26.out hB); have FR_27 := Aside0.mk (Kd.C_below FR_26.out hB); have FM_27 := Aside0.mk (Kd.C_below FM_26.out hB); have FO_27 := Aside0.mk (Kd.C_below FO_26.out hB); have FY_27 := Aside0.mk (Kd.C_below FY_26.out hB); have FG_27 := Aside0.mk (Kd.C_below FG_26.out hB); have HB_27 := Aside0.mk (HB_26.out.trans (hB.mono HB_26.out.size)); clear hB HB_26 FP_26 FQ_26 FR_26 FM_26 FO_26 FY_26 FG_26))
    go_ret
    exact ⟨rfl, HB_27.out⟩
end Go.Proofs.Ytboofecfmhbacaa
