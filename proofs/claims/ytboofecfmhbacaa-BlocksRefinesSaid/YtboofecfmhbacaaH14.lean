/- The walk of the law BlocksRefines. -/
import Derived.Test.YtboofecfmhbacaaH12
namespace Go.Proofs.Ytboofecfmhbacaa
open Go.RowKit Go.WideMaps Go.Maps Go.Proofs.YtboofecfmhbacaaW.PrintWords Go.Proofs.YtboofecfmhbacaaW.PrintLast Go.Proofs.YtboofecfmhbacaaW.PrintMore
set_option linter.unusedVariables false
set_option linter.unusedSimpArgs false

set_option maxRecDepth 100000 in
set_option maxHeartbeats 8000000 in
theorem blocksRefines_walk (A0 : Option Addr) (c0 : Nat) (k : List Int) (A1 : Option Addr) (c1 : Nat) (l : List Int) (A9 : Option Addr) (c9 : Nat) (more : List Int) (w : World) (hr0 : Kd.C (Kd.int .u8) w A0 k.length k) (hw0 : ∀ y ∈ k, (Lit.int .u8 y).wf = true) (hc0 : k.length ≤ c0) (hr1 : Kd.C (Kd.int .u8) w A1 l.length l) (hw1 : ∀ y ∈ l, (Lit.int .u8 y).wf = true) (hc1 : l.length ≤ c1) (hr2 : Kd.C (Kd.int .u8) w A9 more.length more) (hw2 : ∀ y ∈ more, (Lit.int .u8 y).wf = true) (hc2 : more.length ≤ c9) :
    Calls Try.prog 8 #[.slice A0 k.length c0, .slice A1 l.length c1, .slice A9 more.length c9] w fun e w' => e = .returned (.bool true) ∧ Below w.heap.size w w' := by
  have HB_0 := Aside0.mk (Below.refl w.heap.size w)
  have FA_0 := Aside0.mk hr0
  have FB_0 := Aside0.mk hr1
  have FD_0 := Aside0.mk hr2
  have HK0 := Aside0.mk hw0
  have HK1 := Aside0.mk hw1
  have HK2 := Aside0.mk hw2
  clear hr0 hr1 hr2 hw0 hw1 hw2
  go_enter Try.func8, Try.ntmps8
  go_wp2_with (first
    | (go_at_call 33; refine (twoN A0 c0 k A1 c1 l w FA_0.out HK0.out hc0 FB_0.out HK1.out hc1).mono ?_; rintro e w1 ⟨n, A2, c2, p, A3, c3, q, rfl, hn30, hp, hC, hq, hC2, hB⟩; have FP_1 := Aside0.mk (hC); have FO_1 := Aside0.mk (hC2); have FD_1 := Aside0.mk (Kd.C_below FD_0.out hB); have HB_1 := Aside0.mk (HB_0.out.trans (hB.mono HB_0.out.size)); have HP := Aside0.mk hp; have HQ := Aside0.mk hq; clear hC hC2 hp hq; clear hB HB_0 FA_0 FB_0 FD_0)
    | (go_at_call 30; refine (meetN A2 c2 n p A3 c3 q w1 HP.out FP_1.out HQ.out FO_1.out (meetP p q) rfl).mono ?_; rintro e w2 ⟨A5, c5, rfl, hC, hB⟩; have FM_2 := Aside0.mk (hC); have FD_2 := Aside0.mk (Kd.C_below FD_1.out hB); have FP_2 := Aside0.mk (Kd.C_below FP_1.out hB); have HB_2 := Aside0.mk (HB_1.out.trans (hB.mono HB_1.out.size)); clear hC; clear hB HB_1 FD_1 FP_1 FO_1)
    | (go_at_call 26; refine (nextN n A9 c9 more w2 FD_2.out HK2.out hn30).mono ?_; rintro e w3 ⟨A4, c4, next, rfl, hn, hC, hB⟩; have FX_3 := Aside0.mk (hC); have FP_3 := Aside0.mk (Kd.C_below FP_2.out hB); have FM_3 := Aside0.mk (Kd.C_below FM_2.out hB); have HB_3 := Aside0.mk (HB_2.out.trans (hB.mono HB_2.out.size)); have HN := Aside0.mk hn; clear hC hn; clear hB HB_2 FD_2 FP_2 FM_2))
  have hrp := HP.out.refine HN.out.1
  obtain ⟨b, hb⟩ : ∃ b, decide (stableP p next) = b := ⟨_, rfl⟩
  obtain ⟨N1, h1⟩ : ∃ N : Nat, countP p = N := ⟨(countP p).toNat, by have := count_bounds HP.out.right; omega⟩
  obtain ⟨N2, h2⟩ : ∃ N : Nat, countP (refineP p next) = N := ⟨(countP (refineP p next)).toNat, by have := count_bounds hrp.right; omega⟩
  refine (refineN A2 c2 n p A4 c4 n next w3 HP.out FP_3.out HN.out HN.out.1 FX_3.out (refineP p next) rfl).mono ?_
  rintro e w4 ⟨A6, c6, rfl, hC, hB⟩
  have HMP := Aside0.mk (HP.out.meet HQ.out)
  have HAP := Aside0.mk hrp
  have HBP := Aside0.mk (HMP.out.refine HN.out.1)
  have HST := Aside0.mk hb
  have HN1 := Aside0.mk h1
  have HN2 := Aside0.mk h2
  have HF1 := Aside0.mk (decide_eq_true ((finer_le hrp HP.out).2 (refine_le HN.out.1)))
  have HF2 := Aside0.mk (decide_eq_true ((finer_le HBP.out hrp).2 (refine_mono HN.out (meet_le HP.out.len HQ.out.len).1)))
  have hcn := refine_count HP.out HN.out.1
  have hn12 : N1 ≤ N2 := by omega
  have hstc := stable_count HP.out.right (by rw [HN.out.1, HP.out.len])
  have hcmp : ((N2 : Int) == (N1 : Int)) = b := by
    rw [← hb, ← h1, ← h2]
    by_cases hs : stableP p next
    · rw [decide_eq_true hs]
      exact beq_iff_eq.mpr (hstc.1 hs)
    · rw [decide_eq_false hs]
      exact beq_eq_false_iff_ne.mpr fun e => hs (hstc.2 e)
  have hcmp2 : (N2 == N1) = b := by
    rw [← hcmp]
    by_cases e : N2 = N1
    · subst e; simp
    · rw [beq_eq_false_iff_ne.mpr e]
      exact (beq_eq_false_iff_ne.mpr (by omega)).symm
  have HEQ := Aside0.mk (show decide (refineP p next = p) = b from hb)
  have FP_4 := Aside0.mk (Kd.C_below FP_3.out hB)
  have FM_4 := Aside0.mk (Kd.C_below FM_3.out hB)
  have FX_4 := Aside0.mk (Kd.C_below FX_3.out hB)
  have FR_4 := Aside0.mk hC
  have HB_4 := Aside0.mk (HB_3.out.trans (hB.mono HB_3.out.size))
  have g0 : decide ((N1 : Int) ≤ (N2 : Int)) = true := decide_eq_true (by omega)
  clear hb h1 h2 hrp hcn hstc hC hB FP_3 FM_3 FX_3 HB_3
  go_wp2_with (first
    | (go_at_call 35; refine (refineN A5 c5 n (meetP p q) A4 c4 n next w4 HMP.out FM_4.out HN.out HN.out.1 FX_4.out (refineP (meetP p q) next) rfl).mono ?_; rintro e w5 ⟨A7, c7, rfl, hC, hB⟩; have FS_5 := Aside0.mk (hC); have FP_5 := Aside0.mk (Kd.C_below FP_4.out hB); have FX_5 := Aside0.mk (Kd.C_below FX_4.out hB); have FR_5 := Aside0.mk (Kd.C_below FR_4.out hB); have HB_5 := Aside0.mk (HB_4.out.trans (hB.mono HB_4.out.size)); clear hC; clear hB HB_4 FP_4 FM_4 FX_4 FR_4)
    | (go_at_call 29; refine (stableN A2 c2 n p A4 c4 n next w5 HP.out FP_5.out HN.out HN.out.1 FX_5.out b HST.out).mono ?_; rintro e w6 ⟨rfl, hB⟩; have FP_6 := Aside0.mk (Kd.C_below FP_5.out hB); have FR_6 := Aside0.mk (Kd.C_below FR_5.out hB); have FS_6 := Aside0.mk (Kd.C_below FS_5.out hB); have HB_6 := Aside0.mk (HB_5.out.trans (hB.mono HB_5.out.size)); clear hB HB_5 FP_5 FX_5 FR_5 FS_5)
    | (go_at_call 32; refine (finerN A6 c6 n (refineP p next) A2 c2 p w6 HAP.out FR_6.out HP.out FP_6.out true HF1.out).mono ?_; rintro e w7 ⟨rfl, hB⟩; have FP_7 := Aside0.mk (Kd.C_below FP_6.out hB); have FR_7 := Aside0.mk (Kd.C_below FR_6.out hB); have FS_7 := Aside0.mk (Kd.C_below FS_6.out hB); have HB_7 := Aside0.mk (HB_6.out.trans (hB.mono HB_6.out.size)); clear hB HB_6 FP_6 FR_6 FS_6)
    | (go_at_call 32; refine (finerN A7 c7 n (refineP (meetP p q) next) A6 c6 (refineP p next) w7 HBP.out FS_7.out HAP.out FR_7.out true HF2.out).mono ?_; rintro e w8 ⟨rfl, hB⟩; have FP_8 := Aside0.mk (Kd.C_below FP_7.out hB); have FR_8 := Aside0.mk (Kd.C_below FR_7.out hB); have HB_8 := Aside0.mk (HB_7.out.trans (hB.mono HB_7.out.size)); clear hB HB_7 FP_7 FR_7 FS_7)
    | (go_at_call 34; refine (countN A2 c2 n p w8 HP.out FP_8.out N1 HN1.out).mono ?_; rintro e w9 ⟨rfl, hB⟩; have FP_9 := Aside0.mk (Kd.C_below FP_8.out hB); have FR_9 := Aside0.mk (Kd.C_below FR_8.out hB); have HB_9 := Aside0.mk (HB_8.out.trans (hB.mono HB_8.out.size)); clear hB HB_8 FP_8 FR_8)
    | (go_at_call 34; refine (countN A6 c6 n (refineP p next) w9 HAP.out FR_9.out N2 HN2.out).mono ?_; rintro e w10 ⟨rfl, hB⟩; have FP_10 := Aside0.mk (Kd.C_below FP_9.out hB); have FR_10 := Aside0.mk (Kd.C_below FR_9.out hB); have HB_10 := Aside0.mk (HB_9.out.trans (hB.mono HB_9.out.size)); clear hB HB_9 FP_9 FR_9)
    | (go_at_call 19; refine (eqN A6 c6 n (refineP p next) A2 c2 p w10 HAP.out.len FR_10.out HP.out.len FP_10.out b HEQ.out).mono ?_; rintro e w11 ⟨rfl, hB⟩; have HB_11 := Aside0.mk (HB_10.out.trans (hB.mono HB_10.out.size)); clear hB HB_10 FP_10 FR_10)
    | (go_at_call 14; refine (awake_walk w11).mono ?_; rintro e w12 ⟨rfl, hB⟩; have HB_12 := Aside0.mk (HB_11.out.trans (hB.mono HB_11.out.size)); clear hB HB_11))
  go_ret
  exact ⟨rfl, HB_12.out⟩
end Go.Proofs.Ytboofecfmhbacaa
