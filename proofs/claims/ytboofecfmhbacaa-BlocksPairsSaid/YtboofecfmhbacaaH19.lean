/- The walk of the law BlocksPairs. -/
import Derived.Test.YtboofecfmhbacaaH18
namespace Go.Proofs.Ytboofecfmhbacaa
open Go.RowKit Go.WideMaps Go.Maps Go.Proofs.YtboofecfmhbacaaW.PrintWords Go.Proofs.YtboofecfmhbacaaW.PrintLast Go.Proofs.YtboofecfmhbacaaW.PrintMore
set_option linter.unusedVariables false
set_option linter.unusedSimpArgs false

theorem cloneN_walk (A0 : Option Addr) (c0 n : Nat) (l : List Int) (w : World) (hn : l.length = n) (hr : Kd.C (Kd.int .i64) w A0 n l) (hl : n ≤ 1000000) :
    Calls Try.prog 15 #[.slice A0 n c0] w fun e w' => ∃ A c, e = .returned (.slice A n c) ∧ Kd.C (Kd.int .i64) w' A n l ∧ Below w.heap.size w w' := by
  subst hn
  exact cloneC_walk A0 c0 l w hr hl
theorem meetR (A0 : Option Addr) (c0 n : Nat) (p : List Int) (A1 : Option Addr) (c1 : Nat) (q : List Int) (w : World) (hp : PartN n p) (hr0 : Kd.C (Kd.int .i64) w A0 n p) (hq : PartN n q) (hr1 : Kd.C (Kd.int .i64) w A1 n q) : Calls Try.prog 30 #[.slice A0 n c0, .slice A1 n c1] w fun e w' => ∃ A c, e = .returned (.tuple #[.slice A n c, .int .i64 0]) ∧ Kd.R (Kd.int .i64) 3 w' w.heap.size (fun _ => True) (.slice A n c) (meetP p q) ∧ Below w.heap.size w w' := by
  have hml := (hp.meet hq).len
  have hl := hp.len
  have hl2 := hq.len
  subst hl
  have h := meet_yes A0 c0 p A1 c1 q w hr0 (by rw [hl2]; exact hr1) hp.right hq.right hl2.symm
  rw [hl2] at h
  refine h.mono ?_
  rintro e w' ⟨v, rfl, hR, hB⟩
  obtain ⟨A, c, rfl⟩ := R_shape hR hml
  exact ⟨A, c, rfl, hR, hB⟩
theorem joinR (A0 : Option Addr) (c0 n : Nat) (p : List Int) (A1 : Option Addr) (c1 : Nat) (q : List Int) (w : World) (hp : PartN n p) (hr0 : Kd.C (Kd.int .i64) w A0 n p) (hq : PartN n q) (hr1 : Kd.C (Kd.int .i64) w A1 n q) (o : List Int) (ho : IsJoin p q o) : Calls Try.prog 31 #[.slice A0 n c0, .slice A1 n c1] w fun e w' => ∃ A c, e = .returned (.tuple #[.slice A n c, .int .i64 0]) ∧ Kd.R (Kd.int .i64) 3 w' w.heap.size (fun _ => True) (.slice A n c) o ∧ Below w.heap.size w w' := by
  have hol := (ho.part hp).len
  have hl := hp.len
  have hl2 := hq.len
  subst hl
  have h := join_yes A0 c0 p A1 c1 q w hr0 (by rw [hl2]; exact hr1) hp.right hq.right hl2.symm
  rw [hl2] at h
  refine h.mono ?_
  rintro e w' ⟨v, l, rfl, hJ, hR, hB⟩
  rw [hJ.one ho] at hR
  obtain ⟨A, c, rfl⟩ := R_shape hR hol
  exact ⟨A, c, rfl, hR, hB⟩
theorem membersR (A0 : Option Addr) (c0 n : Nat) (p : List Int) (w : World) (hp : PartN n p) (hr0 : Kd.C (Kd.int .i64) w A0 n p) (m : Nat) (hm : countP p = m) : Calls Try.prog 36 #[.slice A0 n c0] w fun e w' => ∃ A c, e = .returned (.tuple #[.slice A m c, .int .i64 0]) ∧ Kd.R (Kd.slice 3 (Kd.int .i64)) 22 w' w.heap.size (fun _ => True) (.slice A m c) (membersP p) ∧ Below w.heap.size w w' := by
  have hl := hp.len
  subst hl
  refine (members_yes A0 c0 p w hr0 hp.right).mono ?_
  rintro e w' ⟨v, rfl, hR, hB⟩
  obtain ⟨A, c, rfl⟩ := R_shape hR (show (membersP p).length = m by unfold membersP; rw [rowsP_length, hm, Int.toNat_natCast])
  exact ⟨A, c, rfl, hR, hB⟩
theorem refRightN (A0 : Option Addr) (c0 n : Nat) (p : List Int) (w : World) (hl : p.length = n) (hr0 : Kd.C (Kd.int .i64) w A0 n p) (hn : n ≤ 1000000) (b : Bool) (hb : decide (rightP p) = b) : Calls Try.prog 47 #[.slice A0 n c0] w fun e w' => e = .returned (.bool b) ∧ Below w.heap.size w w' := by
  subst hl
  exact refRightB A0 c0 p w hr0 hn b hb
theorem refFinerB (A0 : Option Addr) (c0 : Nat) (p : List Int) (A1 : Option Addr) (c1 : Nat) (q : List Int) (w : World) (hp : PartN p.length p) (hq : PartN p.length q) (hr0 : Kd.C (Kd.int .i64) w A0 p.length p) (hr1 : Kd.C (Kd.int .i64) w A1 p.length q) (b : Bool) (hb : decide (finerP p q) = b) : Calls Try.prog 61 #[.slice A0 p.length c0, .slice A1 p.length c1] w fun e w' => e = .returned (.bool b) ∧ Below w.heap.size w w' := by
  subst hb
  have h := refFiner_walk A0 c0 p A1 c1 q w hr0 (by rw [hq.len]; exact hr1) hp hq
  rwa [hq.len] at h
theorem refMeetB (A0 : Option Addr) (c0 : Nat) (p : List Int) (A1 : Option Addr) (c1 : Nat) (q : List Int) (w : World) (hp : PartN p.length p) (hq : PartN p.length q) (hr0 : Kd.C (Kd.int .i64) w A0 p.length p) (hr1 : Kd.C (Kd.int .i64) w A1 p.length q) : Calls Try.prog 62 #[.slice A0 p.length c0, .slice A1 p.length c1] w fun e w' => ∃ A c, e = .returned (.slice A p.length c) ∧ Kd.C (Kd.int .i64) w' A p.length (meetP p q) ∧ Below w.heap.size w w' := by
  have h := refMeet_walk A0 c0 p A1 c1 q w hr0 (by rw [hq.len]; exact hr1) hq.len.symm (by have := hp.le; omega)
  rw [hq.len] at h
  refine h.mono ?_
  rintro e w' ⟨v, rfl, hR, hB⟩
  obtain ⟨A, c, rfl, hC⟩ := r_read hR (hp.meet hq).len
  exact ⟨A, c, rfl, hC, hB⟩
theorem refJoinB (A0 : Option Addr) (c0 : Nat) (p : List Int) (A1 : Option Addr) (c1 : Nat) (q : List Int) (w : World) (hp : PartN p.length p) (hq : PartN p.length q) (hr0 : Kd.C (Kd.int .i64) w A0 p.length p) (hr1 : Kd.C (Kd.int .i64) w A1 p.length q) (o : List Int) (ho : IsJoin p q o) : Calls Try.prog 63 #[.slice A0 p.length c0, .slice A1 p.length c1] w fun e w' => ∃ A c, e = .returned (.slice A p.length c) ∧ Kd.C (Kd.int .i64) w' A p.length o ∧ Below w.heap.size w w' := by
  have h := refJoin_walk A0 c0 p A1 c1 q w hr0 (by rw [hq.len]; exact hr1) hp.right hq.len.symm
  rw [hq.len] at h
  refine h.mono ?_
  rintro e w' ⟨v, l, rfl, hJ, hR, hB⟩
  rw [hJ.one ho] at hR
  obtain ⟨A, c, rfl, hC⟩ := r_read hR (ho.part hp).len
  exact ⟨A, c, rfl, hC, hB⟩

set_option maxRecDepth 100000 in
set_option maxHeartbeats 8000000 in
theorem pairs_yes (A0 : Option Addr) (c0 : Nat) (p : List Int) (A1 : Option Addr) (c1 : Nat) (q : List Int) (w : World) (hr0 : Kd.C (Kd.int .i64) w A0 p.length p) (hr1 : Kd.C (Kd.int .i64) w A1 p.length q) (hpp : PartN p.length p) (hqp : PartN p.length q) :
    Calls Try.prog 38 #[.slice A0 p.length c0, .slice A1 p.length c1] w fun e w' => e = .returned (.bool true) ∧ Below w.heap.size w w' := by
  have HB_0 := Aside0.mk (Below.refl w.heap.size w)
  have FA_0 := Aside0.mk hr0
  have FB_0 := Aside0.mk hr1
  have hn1 := hpp.le
  obtain ⟨N, hcn⟩ : ∃ N : Nat, countP p = N := ⟨(countP p).toNat, by have := count_bounds hpp.right; omega⟩
  have hN1 : N ≤ 1024 := by have := (count_bounds hpp.right).2; omega
  obtain ⟨o, ho⟩ := join_exists q hpp
  obtain ⟨b, hb⟩ : ∃ b, decide (finerP p q) = b := ⟨_, rfl⟩
  have HPP := Aside0.mk hpp
  have HQP := Aside0.mk hqp
  have HCN := Aside0.mk hcn
  have HJO := Aside0.mk ho
  have HBF := Aside0.mk hb
  have HRB := Aside0.mk (decide_eq_true hpp.right)
  have HRQ := Aside0.mk (decide_eq_true hqp.right)
  have HMM := Aside0.mk (hpp.meet hqp).len
  have HOO := Aside0.mk (ho.part hpp).len
  have hml : (membersP p).length = N := by unfold membersP; rw [rowsP_length, hcn, Int.toNat_natCast]
  have HML := Aside0.mk hml
  have HLB := Aside0.mk (show ((membersP p).length + 2) * 24 ≤ 140737488355328 by rw [hml]; omega)
  have HLN := Aside0.mk (show (membersP p ++ [meetP p q, o]).length = N + 2 by rw [List.length_append, hml]; rfl)
  clear hr0 hr1 hpp hqp hcn ho hb hml
  go_enter Try.func38, Try.ntmps38
  go_wp2_with (first
    | (go_at_call 15; refine (cloneC_walk A0 c0 p w FA_0.out (by omega)).mono ?_; rintro e w1 ⟨A2, c2, rfl, hC, hB⟩; have FP_1 := Aside0.mk (hC); have FA_1 := Aside0.mk (Kd.C_below FA_0.out hB); have FB_1 := Aside0.mk (Kd.C_below FB_0.out hB); have HB_1 := Aside0.mk (HB_0.out.trans (hB.mono HB_0.out.size)); clear hC; clear hB HB_0 FA_0 FB_0)
    | (go_at_call 15; refine (cloneN_walk A1 c1 p.length q w1 HQP.out.len FB_1.out (by omega)).mono ?_; rintro e w2 ⟨A3, c3, rfl, hC, hB⟩; have FQ_2 := Aside0.mk (hC); have FA_2 := Aside0.mk (Kd.C_below FA_1.out hB); have FB_2 := Aside0.mk (Kd.C_below FB_1.out hB); have FP_2 := Aside0.mk (Kd.C_below FP_1.out hB); have HB_2 := Aside0.mk (HB_1.out.trans (hB.mono HB_1.out.size)); have SA := FA_2; have SB := FB_2; have SP := FP_2; have SQ := FQ_2; have HZ_2 := Aside0.mk (Below.refl w2.heap.size w2); have HBE := Aside0.mk (HB_1.out.trans (hB.mono HB_1.out.size)); clear hC; clear hB HB_1 FA_1 FB_1 FP_1)
    | (go_at_call 32; refine (finerN A2 c2 p.length p A3 c3 q w2 HPP.out FP_2.out HQP.out FQ_2.out b HBF.out).mono ?_; rintro e w3 ⟨rfl, hB⟩; have FA_3 := Aside0.mk (Kd.C_below FA_2.out hB); have FB_3 := Aside0.mk (Kd.C_below FB_2.out hB); have FP_3 := Aside0.mk (Kd.C_below FP_2.out hB); have FQ_3 := Aside0.mk (Kd.C_below FQ_2.out hB); have HZ_3 := Aside0.mk (HZ_2.out.trans (hB.mono HZ_2.out.size)); clear HZ_2; have HB_3 := Aside0.mk (HB_2.out.trans (hB.mono HB_2.out.size)); clear hB HB_2 FA_2 FB_2 FP_2 FQ_2)
    | (go_at_call 30; refine (meetR A2 c2 p.length p A3 c3 q w3 HPP.out FP_3.out HQP.out FQ_3.out).mono ?_; rintro e w4 ⟨A4, c4, rfl, hR, hB⟩; have FrM_4 := Aside0.mk (Kd.R_lower hR HZ_3.out.size); have FA_4 := Aside0.mk (Kd.C_below FA_3.out hB); have FB_4 := Aside0.mk (Kd.C_below FB_3.out hB); have FP_4 := Aside0.mk (Kd.C_below FP_3.out hB); have FQ_4 := Aside0.mk (Kd.C_below FQ_3.out hB); have HZ_4 := Aside0.mk (HZ_3.out.trans (hB.mono HZ_3.out.size)); clear HZ_3; have HB_4 := Aside0.mk (HB_3.out.trans (hB.mono HB_3.out.size)); clear hR; clear hB HB_3 FA_3 FB_3 FP_3 FQ_3)
    | (go_at_call 31; refine (joinR A2 c2 p.length p A3 c3 q w4 HPP.out FP_4.out HQP.out FQ_4.out o HJO.out).mono ?_; rintro e w5 ⟨A5, c5, rfl, hR, hB⟩; have FrJ_5 := Aside0.mk (Kd.R_lower hR HZ_4.out.size); have FA_5 := Aside0.mk (Kd.C_below FA_4.out hB); have FB_5 := Aside0.mk (Kd.C_below FB_4.out hB); have FP_5 := Aside0.mk (Kd.C_below FP_4.out hB); have FQ_5 := Aside0.mk (Kd.C_below FQ_4.out hB); have FrM_5 := Aside0.mk (Kd.R_below FrM_4.out hB); have HZ_5 := Aside0.mk (HZ_4.out.trans (hB.mono HZ_4.out.size)); clear HZ_4; have HB_5 := Aside0.mk (HB_4.out.trans (hB.mono HB_4.out.size)); clear hR; clear hB HB_4 FA_4 FB_4 FP_4 FQ_4 FrM_4)
    | (go_at_call 34; refine (countN A2 c2 p.length p w5 HPP.out FP_5.out N HCN.out).mono ?_; rintro e w6 ⟨rfl, hB⟩; have FA_6 := Aside0.mk (Kd.C_below FA_5.out hB); have FB_6 := Aside0.mk (Kd.C_below FB_5.out hB); have FP_6 := Aside0.mk (Kd.C_below FP_5.out hB); have FQ_6 := Aside0.mk (Kd.C_below FQ_5.out hB); have FrM_6 := Aside0.mk (Kd.R_below FrM_5.out hB); have FrJ_6 := Aside0.mk (Kd.R_below FrJ_5.out hB); have HZ_6 := Aside0.mk (HZ_5.out.trans (hB.mono HZ_5.out.size)); clear HZ_5; have HB_6 := Aside0.mk (HB_5.out.trans (hB.mono HB_5.out.size)); clear hB HB_5 FA_5 FB_5 FP_5 FQ_5 FrM_5 FrJ_5)
    | (go_at_call 36; refine (membersR A2 c2 p.length p w6 HPP.out FP_6.out N HCN.out).mono ?_; rintro e w7 ⟨A6, c6, rfl, hR, hB⟩; have FrL_7 := Aside0.mk (Kd.R_lower hR HZ_6.out.size); have FrM_7 := Aside0.mk (Kd.R_elder FrM_6.out hR hB); have FrJ_7 := Aside0.mk (Kd.R_elder FrJ_6.out hR hB); have FA_7 := Aside0.mk (Kd.C_below FA_6.out hB); have FB_7 := Aside0.mk (Kd.C_below FB_6.out hB); have FP_7 := Aside0.mk (Kd.C_below FP_6.out hB); have FQ_7 := Aside0.mk (Kd.C_below FQ_6.out hB); have HZ_7 := Aside0.mk (HZ_6.out.trans (hB.mono HZ_6.out.size)); clear HZ_6; have HB_7 := Aside0.mk (HB_6.out.trans (hB.mono HB_6.out.size)); clear hR; clear hB HB_6 FA_6 FB_6 FP_6 FQ_6 FrM_6 FrJ_6)
    | (go_at_call 19; refine (same_walk A2 c2 p A0 c0 w7 FP_7.out FA_7.out).mono ?_; rintro e w8 ⟨rfl, hB⟩; have FA_8 := Aside0.mk (Kd.C_below FA_7.out hB); have FB_8 := Aside0.mk (Kd.C_below FB_7.out hB); have FP_8 := Aside0.mk (Kd.C_below FP_7.out hB); have FQ_8 := Aside0.mk (Kd.C_below FQ_7.out hB); have FrL_8 := Aside0.mk (Kd.R_below FrL_7.out hB); have FrM_8 := Aside0.mk (Kd.R_below FrM_7.out hB); have FrJ_8 := Aside0.mk (Kd.R_below FrJ_7.out hB); have HZ_8 := Aside0.mk (HZ_7.out.trans (hB.mono HZ_7.out.size)); clear HZ_7; have HB_8 := Aside0.mk (HB_7.out.trans (hB.mono HB_7.out.size)); clear hB HB_7 FA_7 FB_7 FP_7 FQ_7 FrL_7 FrM_7 FrJ_7)
    | (go_at_call 19; refine (sameN_walk A3 c3 p.length q A1 c1 w8 HQP.out.len FQ_8.out FB_8.out).mono ?_; rintro e w9 ⟨rfl, hB⟩; have FA_9 := Aside0.mk (Kd.C_below FA_8.out hB); have FB_9 := Aside0.mk (Kd.C_below FB_8.out hB); have FP_9 := Aside0.mk (Kd.C_below FP_8.out hB); have FQ_9 := Aside0.mk (Kd.C_below FQ_8.out hB); have FrL_9 := Aside0.mk (Kd.R_below FrL_8.out hB); have FrM_9 := Aside0.mk (Kd.R_below FrM_8.out hB); have FrJ_9 := Aside0.mk (Kd.R_below FrJ_8.out hB); have HZ_9 := Aside0.mk (HZ_8.out.trans (hB.mono HZ_8.out.size)); clear HZ_8; have HB_9 := Aside0.mk (HB_8.out.trans (hB.mono HB_8.out.size)); clear hB HB_8 FA_8 FB_8 FP_8 FQ_8 FrL_8 FrM_8 FrJ_8)
    | (go_at_call 37; refine (rightN A2 c2 p.length p w9 HPP.out FP_9.out).mono ?_; rintro e w10 ⟨rfl, hB⟩; have FA_10 := Aside0.mk (Kd.C_below FA_9.out hB); have FB_10 := Aside0.mk (Kd.C_below FB_9.out hB); have FP_10 := Aside0.mk (Kd.C_below FP_9.out hB); have FQ_10 := Aside0.mk (Kd.C_below FQ_9.out hB); have FrL_10 := Aside0.mk (Kd.R_below FrL_9.out hB); have FrM_10 := Aside0.mk (Kd.R_below FrM_9.out hB); have FrJ_10 := Aside0.mk (Kd.R_below FrJ_9.out hB); have HZ_10 := Aside0.mk (HZ_9.out.trans (hB.mono HZ_9.out.size)); clear HZ_9; have HB_10 := Aside0.mk (HB_9.out.trans (hB.mono HB_9.out.size)); clear hB HB_9 FA_9 FB_9 FP_9 FQ_9 FrL_9 FrM_9 FrJ_9)
    | (go_at_call 47; refine (refRightB A0 c0 p w10 FA_10.out (by omega) _ HRB.out).mono ?_; rintro e w11 ⟨rfl, hB⟩; have FA_11 := Aside0.mk (Kd.C_below FA_10.out hB); have FB_11 := Aside0.mk (Kd.C_below FB_10.out hB); have FP_11 := Aside0.mk (Kd.C_below FP_10.out hB); have FQ_11 := Aside0.mk (Kd.C_below FQ_10.out hB); have FrL_11 := Aside0.mk (Kd.R_below FrL_10.out hB); have FrM_11 := Aside0.mk (Kd.R_below FrM_10.out hB); have FrJ_11 := Aside0.mk (Kd.R_below FrJ_10.out hB); have HZ_11 := Aside0.mk (HZ_10.out.trans (hB.mono HZ_10.out.size)); clear HZ_10; have HB_11 := Aside0.mk (HB_10.out.trans (hB.mono HB_10.out.size)); clear hB HB_10 FA_10 FB_10 FP_10 FQ_10 FrL_10 FrM_10 FrJ_10)
    | (go_at_call 47; refine (refRightB A0 c0 p w11 FA_11.out (by omega) _ HRB.out).mono ?_; rintro e w12 ⟨rfl, hB⟩; have FA_12 := Aside0.mk (Kd.C_below FA_11.out hB); have FB_12 := Aside0.mk (Kd.C_below FB_11.out hB); have FP_12 := Aside0.mk (Kd.C_below FP_11.out hB); have FQ_12 := Aside0.mk (Kd.C_below FQ_11.out hB); have FrL_12 := Aside0.mk (Kd.R_below FrL_11.out hB); have FrM_12 := Aside0.mk (Kd.R_below FrM_11.out hB); have FrJ_12 := Aside0.mk (Kd.R_below FrJ_11.out hB); have HZ_12 := Aside0.mk (HZ_11.out.trans (hB.mono HZ_11.out.size)); clear HZ_11; have HB_12 := Aside0.mk (HB_11.out.trans (hB.mono HB_11.out.size)); clear hB HB_11 FA_11 FB_11 FP_11 FQ_11 FrL_11 FrM_11 FrJ_11)
    | (go_at_call 59; refine (refCountB A0 c0 p w12 FA_12.out HPP.out.right N HCN.out).mono ?_; rintro e w13 ⟨rfl, hB⟩; have FA_13 := Aside0.mk (Kd.C_below FA_12.out hB); have FB_13 := Aside0.mk (Kd.C_below FB_12.out hB); have FP_13 := Aside0.mk (Kd.C_below FP_12.out hB); have FQ_13 := Aside0.mk (Kd.C_below FQ_12.out hB); have FrL_13 := Aside0.mk (Kd.R_below FrL_12.out hB); have FrM_13 := Aside0.mk (Kd.R_below FrM_12.out hB); have FrJ_13 := Aside0.mk (Kd.R_below FrJ_12.out hB); have HZ_13 := Aside0.mk (HZ_12.out.trans (hB.mono HZ_12.out.size)); clear HZ_12; have HB_13 := Aside0.mk (HB_12.out.trans (hB.mono HB_12.out.size)); clear hB HB_12 FA_12 FB_12 FP_12 FQ_12 FrL_12 FrM_12 FrJ_12)
    | (go_at_call 60; refine (refMembersB A0 c0 p w13 FA_13.out HPP.out.right N HCN.out).mono ?_; rintro e w14 ⟨A7, c7, rfl, hC, hB⟩; have FX_14 := Aside0.mk (hC); have FA_14 := Aside0.mk (Kd.C_below FA_13.out hB); have FB_14 := Aside0.mk (Kd.C_below FB_13.out hB); have FP_14 := Aside0.mk (Kd.C_below FP_13.out hB); have FQ_14 := Aside0.mk (Kd.C_below FQ_13.out hB); have FrL_14 := Aside0.mk (Kd.R_below FrL_13.out hB); have FrM_14 := Aside0.mk (Kd.R_below FrM_13.out hB); have FrJ_14 := Aside0.mk (Kd.R_below FrJ_13.out hB); have HZ_14 := Aside0.mk (HZ_13.out.trans (hB.mono HZ_13.out.size)); clear HZ_13; have HB_14 := Aside0.mk (HB_13.out.trans (hB.mono HB_13.out.size)); clear hC; clear hB HB_13 FA_13 FB_13 FP_13 FQ_13 FrL_13 FrM_13 FrJ_13)
    | (go_at_call 40; refine (sameRows2_walk A6 c6 N (membersP p) A7 c7 w14 HML.out (R_len FrL_14.out).2.2 FX_14.out).mono ?_; rintro e w15 ⟨rfl, hB⟩; have FA_15 := Aside0.mk (Kd.C_below FA_14.out hB); have FB_15 := Aside0.mk (Kd.C_below FB_14.out hB); have FP_15 := Aside0.mk (Kd.C_below FP_14.out hB); have FQ_15 := Aside0.mk (Kd.C_below FQ_14.out hB); have FrL_15 := Aside0.mk (Kd.R_below FrL_14.out hB); have FrM_15 := Aside0.mk (Kd.R_below FrM_14.out hB); have FrJ_15 := Aside0.mk (Kd.R_below FrJ_14.out hB); have HZ_15 := Aside0.mk (HZ_14.out.trans (hB.mono HZ_14.out.size)); clear HZ_14; have HB_15 := Aside0.mk (HB_14.out.trans (hB.mono HB_14.out.size)); clear hB HB_14 FA_14 FB_14 FP_14 FQ_14 FrL_14 FrM_14 FrJ_14 FX_14)
    | (go_at_call 47; refine (refRightN A1 c1 p.length q w15 HQP.out.len FB_15.out (by omega) _ HRQ.out).mono ?_; rintro e w16 ⟨rfl, hB⟩; have FA_16 := Aside0.mk (Kd.C_below FA_15.out hB); have FB_16 := Aside0.mk (Kd.C_below FB_15.out hB); have FP_16 := Aside0.mk (Kd.C_below FP_15.out hB); have FQ_16 := Aside0.mk (Kd.C_below FQ_15.out hB); have FrL_16 := Aside0.mk (Kd.R_below FrL_15.out hB); have FrM_16 := Aside0.mk (Kd.R_below FrM_15.out hB); have FrJ_16 := Aside0.mk (Kd.R_below FrJ_15.out hB); have HZ_16 := Aside0.mk (HZ_15.out.trans (hB.mono HZ_15.out.size)); clear HZ_15; have HB_16 := Aside0.mk (HB_15.out.trans (hB.mono HB_15.out.size)); clear hB HB_15 FA_15 FB_15 FP_15 FQ_15 FrL_15 FrM_15 FrJ_15)
    | (go_at_call 61; refine (refFinerB A0 c0 p A1 c1 q w16 HPP.out HQP.out FA_16.out FB_16.out b HBF.out).mono ?_; rintro e w17 ⟨rfl, hB⟩; have FA_17 := Aside0.mk (Kd.C_below FA_16.out hB); have FB_17 := Aside0.mk (Kd.C_below FB_16.out hB); have FP_17 := Aside0.mk (Kd.C_below FP_16.out hB); have FQ_17 := Aside0.mk (Kd.C_below FQ_16.out hB); have FrL_17 := Aside0.mk (Kd.R_below FrL_16.out hB); have FrM_17 := Aside0.mk (Kd.R_below FrM_16.out hB); have FrJ_17 := Aside0.mk (Kd.R_below FrJ_16.out hB); have HZ_17 := Aside0.mk (HZ_16.out.trans (hB.mono HZ_16.out.size)); clear HZ_16; have HB_17 := Aside0.mk (HB_16.out.trans (hB.mono HB_16.out.size)); clear hB HB_16 FA_16 FB_16 FP_16 FQ_16 FrL_16 FrM_16 FrJ_16)
    | (go_at_call 62; refine (refMeetB A0 c0 p A1 c1 q w17 HPP.out HQP.out FA_17.out FB_17.out).mono ?_; rintro e w18 ⟨A8, c8, rfl, hC, hB⟩; have FY_18 := Aside0.mk (hC); have FA_18 := Aside0.mk (Kd.C_below FA_17.out hB); have FB_18 := Aside0.mk (Kd.C_below FB_17.out hB); have FP_18 := Aside0.mk (Kd.C_below FP_17.out hB); have FQ_18 := Aside0.mk (Kd.C_below FQ_17.out hB); have FrL_18 := Aside0.mk (Kd.R_below FrL_17.out hB); have FrM_18 := Aside0.mk (Kd.R_below FrM_17.out hB); have FrJ_18 := Aside0.mk (Kd.R_below FrJ_17.out hB); have HZ_18 := Aside0.mk (HZ_17.out.trans (hB.mono HZ_17.out.size)); clear HZ_17; have HB_18 := Aside0.mk (HB_17.out.trans (hB.mono HB_17.out.size)); clear hC; clear hB HB_17 FA_17 FB_17 FP_17 FQ_17 FrL_17 FrM_17 FrJ_17)
    | (go_at_call 19; refine (sameN_walk A4 c4 p.length (meetP p q) A8 c8 w18 HMM.out (R_len FrM_18.out).2.2 FY_18.out).mono ?_; rintro e w19 ⟨rfl, hB⟩; have FA_19 := Aside0.mk (Kd.C_below FA_18.out hB); have FB_19 := Aside0.mk (Kd.C_below FB_18.out hB); have FP_19 := Aside0.mk (Kd.C_below FP_18.out hB); have FQ_19 := Aside0.mk (Kd.C_below FQ_18.out hB); have FrL_19 := Aside0.mk (Kd.R_below FrL_18.out hB); have FrM_19 := Aside0.mk (Kd.R_below FrM_18.out hB); have FrJ_19 := Aside0.mk (Kd.R_below FrJ_18.out hB); have HZ_19 := Aside0.mk (HZ_18.out.trans (hB.mono HZ_18.out.size)); clear HZ_18; have HB_19 := Aside0.mk (HB_18.out.trans (hB.mono HB_18.out.size)); clear hB HB_18 FA_18 FB_18 FP_18 FQ_18 FrL_18 FrM_18 FrJ_18 FY_18)
    | (go_at_call 63; refine (refJoinB A0 c0 p A1 c1 q w19 HPP.out HQP.out FA_19.out FB_19.out o HJO.out).mono ?_; rintro e w20 ⟨A9, c9, rfl, hC, hB⟩; have FV_20 := Aside0.mk (hC); have FA_20 := Aside0.mk (Kd.C_below FA_19.out hB); have FB_20 := Aside0.mk (Kd.C_below FB_19.out hB); have FP_20 := Aside0.mk (Kd.C_below FP_19.out hB); have FQ_20 := Aside0.mk (Kd.C_below FQ_19.out hB); have FrL_20 := Aside0.mk (Kd.R_below FrL_19.out hB); have FrM_20 := Aside0.mk (Kd.R_below FrM_19.out hB); have FrJ_20 := Aside0.mk (Kd.R_below FrJ_19.out hB); have HZ_20 := Aside0.mk (HZ_19.out.trans (hB.mono HZ_19.out.size)); clear HZ_19; have HB_20 := Aside0.mk (HB_19.out.trans (hB.mono HB_19.out.size)); clear hC; clear hB HB_19 FA_19 FB_19 FP_19 FQ_19 FrL_19 FrM_19 FrJ_19)
    | (go_at_call 19; refine (sameN_walk A5 c5 p.length o A9 c9 w20 HOO.out (R_len FrJ_20.out).2.2 FV_20.out).mono ?_; rintro e w21 ⟨rfl, hB⟩; have FA_21 := Aside0.mk (Kd.C_below FA_20.out hB); have FB_21 := Aside0.mk (Kd.C_below FB_20.out hB); have FP_21 := Aside0.mk (Kd.C_below FP_20.out hB); have FQ_21 := Aside0.mk (Kd.C_below FQ_20.out hB); have FrL_21 := Aside0.mk (Kd.R_below FrL_20.out hB); have FrM_21 := Aside0.mk (Kd.R_below FrM_20.out hB); have FrJ_21 := Aside0.mk (Kd.R_below FrJ_20.out hB); have HZ_21 := Aside0.mk (HZ_20.out.trans (hB.mono HZ_20.out.size)); clear HZ_20; have HB_21 := Aside0.mk (HB_20.out.trans (hB.mono HB_20.out.size)); clear hB HB_20 FA_20 FB_20 FP_20 FQ_20 FrL_20 FrM_20 FrJ_20 FV_20)
    | (at_builtin; refine Kd.R_append_rows (Kd.slice 3 (Kd.int .i64)) (w0 := w2) (W := w21.alloc (.cells #[.slice A4 p.length c4, .slice A5 p.length c5] 22)) w2.heap.size rfl (.tmp 192) (.tmp 195) 36 22 (.slice none 0 0) 24 rfl Try.underlying36 info22 rfl (by decide) (by decide) (.slice A6 N c6) (membersP p) [meetP p q, o] (some ⟨w21.heap.size, 0, none⟩) 2 2 (fun _ => True) (fun k => True ∧ some k ≠ (Value.slice A6 N c6).ownBlock) rfl rfl (Kd.R_alloc FrL_21.out _) (lit_two w21 w2.heap.size _ _ _ _ _ FrM_21.out FrJ_21.out) (fun _ _ h => h) (fun _ h => h) (fun _ _ => trivial) (HZ_21.out.alloc HZ_21.out.size _) (Nat.le_trans HZ_21.out.size (by simp)) HLB.out ?_; rintro v1 v9 hR1 hB1 - -; obtain ⟨A10, c10, rfl⟩ := R_shape hR1 HLN.out; have HK := Aside0.mk (And.intro hR1 hB1); clear hR1 hB1))
  obtain ⟨vs, hmess⟩ := Mess.of_R HK.out.1 HLN.out
  have HM0 := Aside0.mk (And.intro hmess HK.out.2)
  clear hmess
  go_loopw [198] (fun i wr => ∃ (j : Nat), i = .int .i64 j ∧ Aside0 (j ≤ N + 2 ∧ Mess wr w2.heap.size A10 (N + 2) c10 vs ∧ Below w2.heap.size w2 wr)) (fun i _ => N + 2 - (intOf i).toNat)
  case atStart => exact ⟨0, rfl, Nat.zero_le _, HM0.out.1, HM0.out.2⟩
  case round =>
    obtain ⟨i, rfl, HI⟩ := hrel
    have hil := HI.out.1
    by_cases hi : i < N + 2
    · obtain ⟨ad, B, k, d, e1, hx1, hmem, hk⟩ := HI.out.2.1.at_ i hi
      subst e1
      have HMEM := Aside0.mk hmem
      clear hmem
      go_wp2
      clear hx1
      go_loopw [204] (fun i' wq => ∃ (t : Nat), i' = .int .i64 t ∧ Aside0 (t ≤ k ∧ Mess wq w2.heap.size (some ad) (N + 2) c10 vs ∧ Below w2.heap.size w2 wq)) (fun i' _ => k - (intOf i').toNat)
      case atStart => exact ⟨0, rfl, Nat.zero_le _, HI.out.2.1, HI.out.2.2⟩
      case round =>
        obtain ⟨t, rfl, HT⟩ := hrel
        have htl := HT.out.1
        by_cases ht : t < k
        · obtain ⟨g, hg, hgb, ⟨v0, hv0⟩, hf0, hM⟩ := HT.out.2.1.store HMEM.out t ht (-1)
          subst hg
          have HS := Aside0.mk (And.intro hM (HT.out.2.2.setCell (p := ⟨g, t, none⟩) hgb (.int .i64 (-1))))
          clear hM hgb
          go_wp2
          go_roundw
          case rel => exact ⟨t + 1, by go_num, by omega, HS.out.1, HS.out.2⟩
          case measure => simp [intOf]; omega
        · go_wp2
          go_roundw
          case rel => exact ⟨i + 1, by go_num, by omega, HT.out.2.1, HT.out.2.2⟩
          case measure => simp [intOf]; omega
    · have HW := Aside0.mk HI.out.2.2
      go_wp2_with (first
        | (go_at_call 19; refine (same_walk A2 c2 p A0 c0 wr (Kd.C_below SP.out HW.out) (Kd.C_below SA.out HW.out)).mono ?_; rintro e v3 ⟨rfl, hB⟩; have HV3 := Aside0.mk (HW.out.trans (hB.mono HW.out.size)); clear hB SP)
        | (go_at_call 19; refine (sameN_walk A3 c3 p.length q A1 c1 v3 HQP.out.len (Kd.C_below SQ.out HV3.out) (Kd.C_below SB.out HV3.out)).mono ?_; rintro e v4 ⟨rfl, hB⟩; have HV4 := Aside0.mk (HV3.out.trans (hB.mono HV3.out.size)); clear hB))
      go_ret
      exact ⟨rfl, HBE.out.trans (HV4.out.mono HBE.out.size)⟩
end Go.Proofs.Ytboofecfmhbacaa
