/- The statement of the law BlocksWrong: whatever the input, true, and the input reads as it did; out of its walk. No condition. -/
import Derived.Test.YtboofecfmhbacaaPw2
import Derived.Test.YtboofecfmhbacaaWWords
import Derived.ChangeSlices
import Derived.Test.YtboofecfmhbacaaRows
import Derived.WalkKit
import Derived.ProofKit
import Derived.OpenShut
import Derived.ShutString
import Derived.ChangeOld
import Derived.Below
import Derived.SizedLaws
/- The walks of the law BlocksSteps. -/
namespace Go.Proofs.Ytboofecfmhbacaa
open Go.RowKit Go.WideMaps Go.Maps Go.Proofs.YtboofecfmhbacaaW.PrintWords Go.Proofs.YtboofecfmhbacaaW.PrintLast Go.Proofs.YtboofecfmhbacaaW.PrintMore
set_option linter.unusedVariables false
set_option linter.unusedSimpArgs false

theorem no35 (A0 : Option Addr) (c0 : Nat) (p : List Int) (A1 : Option Addr) (c1 : Nat) (next : List (List Int)) (w : World) (hr0 : Kd.C (Kd.int .i64) w A0 p.length p) (hr1 : Kd.C (Kd.slice 3 (Kd.int .i64)) w A1 next.length next) (hw0 : Wf p) (E : Int) (hE : wrongE p next = E) (h0 : E ≠ 0) : Calls Try.prog 35 #[.slice A0 p.length c0, .slice A1 next.length c1] w fun e w' => e = .returned (.tuple #[.slice none 0 0, .int .i64 E]) ∧ Below w.heap.size w w' := by
  subst hE
  exact refineOf_no A0 c0 p A1 c1 next w hr0 hr1 hw0 h0
theorem no29 (A0 : Option Addr) (c0 : Nat) (p : List Int) (A1 : Option Addr) (c1 : Nat) (next : List (List Int)) (w : World) (hr0 : Kd.C (Kd.int .i64) w A0 p.length p) (hr1 : Kd.C (Kd.slice 3 (Kd.int .i64)) w A1 next.length next) (hw0 : Wf p) (E : Int) (hE : wrongE p next = E) (h0 : E ≠ 0) : Calls Try.prog 29 #[.slice A0 p.length c0, .slice A1 next.length c1] w fun e w' => e = .returned (.tuple #[.bool false, .int .i64 E]) ∧ Below w.heap.size w w' := by
  subst hE
  exact stable_no A0 c0 p A1 c1 next w hr0 hr1 hw0 h0
theorem no27 (A0 : Option Addr) (c0 : Nat) (p : List Int) (A1 : Option Addr) (c1 : Nat) (next : List (List Int)) (w : World) (hr0 : Kd.C (Kd.int .i64) w A0 p.length p) (hr1 : Kd.C (Kd.slice 3 (Kd.int .i64)) w A1 next.length next) (hw0 : Wf p) (E : Int) (hE : wrongE p next = E) (h0 : E ≠ 0) : Calls Try.prog 27 #[.slice A0 p.length c0, .slice A1 next.length c1] w fun e w' => e = .returned (.tuple #[.slice none 0 0, .int .i64 0, .int .i64 E]) ∧ Below w.heap.size w w' := by
  subst hE
  exact coarsest_no A0 c0 p A1 c1 next w hr0 hr1 hw0 h0
theorem no28 (A0 : Option Addr) (c0 : Nat) (p : List Int) (A1 : Option Addr) (c1 : Nat) (next : List (List Int)) (w : World) (hr0 : Kd.C (Kd.int .i64) w A0 p.length p) (hr1 : Kd.C (Kd.slice 3 (Kd.int .i64)) w A1 next.length next) (hw0 : Wf p) (E : Int) (hE : wrongE p next = E) (h0 : E ≠ 0) : Calls Try.prog 28 #[.slice A0 p.length c0, .slice A1 next.length c1] w fun e w' => e = .returned (.tuple #[.slice none 0 0, .int .i64 E]) ∧ Below w.heap.size w w' := by
  subst hE
  exact quotient_no A0 c0 p A1 c1 next w hr0 hr1 hw0 h0
theorem copiedC_walk (A0 : Option Addr) (c0 : Nat) (l : List (List Int)) (w : World) (hr : Kd.C (Kd.slice 3 (Kd.int .i64)) w A0 l.length l) (hl : l.length ≤ 1000000) (hx : ∀ x ∈ l, x.length ≤ 1000000) :
    Calls Try.prog 46 #[.slice A0 l.length c0] w fun e w' => ∃ A c, e = .returned (.slice A l.length c) ∧ Kd.C (Kd.slice 3 (Kd.int .i64)) w' A l.length l ∧ Below w.heap.size w w' := by
  refine (copied_walk A0 c0 l w hr hl hx).mono ?_
  rintro e w' ⟨v, rfl, hR, hB⟩
  obtain ⟨A, c, rfl, hC⟩ := r_read hR rfl
  exact ⟨A, c, rfl, hC, hB⟩
theorem sameRowsN_walk (A0 : Option Addr) (c0 n : Nat) (l : List (List Int)) (A1 : Option Addr) (c1 : Nat) (w : World) (hn : l.length = n) (hr0 : Kd.C (Kd.slice 3 (Kd.int .i64)) w A0 n l) (hr1 : Kd.C (Kd.slice 3 (Kd.int .i64)) w A1 n l) :
    Calls Try.prog 40 #[.slice A0 n c0, .slice A1 n c1] w fun e w' => e = .returned (.bool true) ∧ Below w.heap.size w w' := by
  subst hn
  refine (lists_walk A0 c0 l A1 c1 l w hr0 hr1).mono ?_
  rintro e w' ⟨rfl, hB⟩
  exact ⟨by simp, hB⟩
theorem refineOfC_walk (A0 : Option Addr) (c0 : Nat) (p : List Int) (A1 : Option Addr) (c1 : Nat) (next : List (List Int)) (w : World) (hr0 : Kd.C (Kd.int .i64) w A0 p.length p) (hr1 : Kd.C (Kd.slice 3 (Kd.int .i64)) w A1 next.length next) (hp : rightP p) (hn : nextP p.length next) :
    Calls Try.prog 35 #[.slice A0 p.length c0, .slice A1 next.length c1] w fun e w' => ∃ A c, e = .returned (.tuple #[.slice A p.length c, .int .i64 0]) ∧ Kd.C (Kd.int .i64) w' A p.length (refineP p next) ∧ Below w.heap.size w w' := by
  refine (refineOf_yes A0 c0 p A1 c1 next w hr0 hr1 hp hn).mono ?_
  rintro e w' ⟨v, rfl, hR, hB⟩
  obtain ⟨A, c, rfl, hC⟩ := r_read hR (by rw [refine_length, hn.1])
  exact ⟨A, c, rfl, hC, hB⟩
theorem coarsestC_walk (A0 : Option Addr) (c0 : Nat) (p : List Int) (A1 : Option Addr) (c1 : Nat) (next : List (List Int)) (w : World) (hr0 : Kd.C (Kd.int .i64) w A0 p.length p) (hr1 : Kd.C (Kd.slice 3 (Kd.int .i64)) w A1 next.length next) (hp : rightP p) (hn : nextP p.length next) (m : Nat) (hm : Stops p next m) :
    Calls Try.prog 27 #[.slice A0 p.length c0, .slice A1 next.length c1] w fun e w' => ∃ A c, e = .returned (.tuple #[.slice A p.length c, .int .i64 m, .int .i64 0]) ∧ Kd.C (Kd.int .i64) w' A p.length (iterP p next m) ∧ Below w.heap.size w w' := by
  refine (coarsest_yes A0 c0 p A1 c1 next w hr0 hr1 hp hn).mono ?_
  rintro e w' ⟨m', v, rfl, hS, hR, hB⟩
  obtain rfl := stops_one hS hm
  obtain ⟨A, c, rfl, hC⟩ := r_read hR ((iter_right hp hn.1 m').2)
  exact ⟨A, c, rfl, hC, hB⟩
theorem refCoarsestC_walk (A0 : Option Addr) (c0 : Nat) (p : List Int) (A1 : Option Addr) (c1 : Nat) (next : List (List Int)) (w : World) (hr0 : Kd.C (Kd.int .i64) w A0 p.length p) (hr1 : Kd.C (Kd.slice 3 (Kd.int .i64)) w A1 next.length next) (hn : nextP p.length next) (hp : rightP p) (m : Nat) (hm : Stops p next m) :
    Calls Try.prog 49 #[.slice A0 p.length c0, .slice A1 next.length c1] w fun e w' => ∃ A c, e = .returned (.tuple #[.slice A p.length c, .int .i64 m]) ∧ Kd.C (Kd.int .i64) w' A p.length (iterP p next m) ∧ Below w.heap.size w w' := by
  refine (refCoarsest_walk A0 c0 p A1 c1 next w hr0 hr1 hn hp).mono ?_
  rintro e w' ⟨m', A, c, rfl, hS, hC, hB⟩
  obtain rfl := stops_one hS hm
  exact ⟨A, c, rfl, hC, hB⟩
theorem quotientC_walk (A0 : Option Addr) (c0 : Nat) (p : List Int) (A1 : Option Addr) (c1 : Nat) (next : List (List Int)) (w : World) (hr0 : Kd.C (Kd.int .i64) w A0 p.length p) (hr1 : Kd.C (Kd.slice 3 (Kd.int .i64)) w A1 next.length next) (hp : rightP p) (hn : nextP p.length next) (hs : stableP p next) :
    Calls Try.prog 28 #[.slice A0 p.length c0, .slice A1 next.length c1] w fun e w' => ∃ A c, e = .returned (.tuple #[.slice A (quotP p next).length c, .int .i64 0]) ∧ Kd.C (Kd.slice 3 (Kd.int .i64)) w' A (quotP p next).length (quotP p next) ∧ Below w.heap.size w w' := by
  refine (quotient_yes A0 c0 p A1 c1 next w hr0 hr1 hp hn hs).mono ?_
  rintro e w' ⟨v, rfl, hR, hB⟩
  obtain ⟨A, c, rfl, hC⟩ := r_read hR rfl
  exact ⟨A, c, rfl, hC, hB⟩
theorem refQuotientC_walk (A0 : Option Addr) (c0 : Nat) (p : List Int) (A1 : Option Addr) (c1 : Nat) (next : List (List Int)) (w : World) (hr0 : Kd.C (Kd.int .i64) w A0 p.length p) (hr1 : Kd.C (Kd.slice 3 (Kd.int .i64)) w A1 next.length next) (hn : nextP p.length next) (hp : rightP p) (hs : stableP p next) :
    Calls Try.prog 52 #[.slice A0 p.length c0, .slice A1 next.length c1] w fun e w' => ∃ A c, e = .returned (.slice A (quotP p next).length c) ∧ Kd.C (Kd.slice 3 (Kd.int .i64)) w' A (quotP p next).length (quotP p next) ∧ Below w.heap.size w w' := by
  refine (refQuotient_walk A0 c0 p A1 c1 next w hr0 hr1 hn hp hs).mono ?_
  rintro e w' ⟨v, rfl, hR, hB⟩
  obtain ⟨A, c, rfl, hC⟩ := r_read hR rfl
  exact ⟨A, c, rfl, hC, hB⟩
set_option maxRecDepth 100000 in
set_option maxHeartbeats 8000000 in
theorem steps_walk (A0 : Option Addr) (c0 : Nat) (p : List Int) (A1 : Option Addr) (c1 : Nat) (next : List (List Int)) (w : World) (hr0 : Kd.C (Kd.int .i64) w A0 p.length p) (hr1 : Kd.C (Kd.slice 3 (Kd.int .i64)) w A1 next.length next) (hw0 : Wf p) (hp1 : p.length ≤ 40) (hl : next.length ≤ 1000000) (hx : ∀ x ∈ next, x.length ≤ 1000000) :
    Calls Try.prog 24 #[.slice A0 p.length c0, .slice A1 next.length c1] w fun e w' => e = .returned (.bool true) ∧ Below w.heap.size w w' := by
  have HB_0 := Aside0.mk (Below.refl w.heap.size w)
  have FA_0 := Aside0.mk hr0
  have FB_0 := Aside0.mk hr1
  have HW := Aside0.mk hw0
  have HX := Aside0.mk hx
  have HR := Aside0.mk (fun A c W hC => refRight_walk A c p W hC (by omega))
  have HN := Aside0.mk (fun A c W hC => refNext_walk p.length A c next W hC (by omega))
  clear hr0 hr1 hw0 hx
  by_cases hp : rightP p
  · simp only [decide_eq_true hp] at HR
    by_cases hn : nextP p.length next
    · simp only [decide_eq_true hn] at HN
      obtain ⟨m, hm⟩ := exists_stops hp hn.1
      have hc := stable_count hp hn.1
      have hmb : m ≤ p.length := iter_le hp hn.1 hm.2
      have HP := Aside0.mk hp
      have HNX := Aside0.mk hn
      have HM := Aside0.mk hm
      have HLR := Aside0.mk (show (refineP p next).length = p.length by rw [refine_length, hn.1])
      have HLI := Aside0.mk ((iter_right hp hn.1 m).2)
      by_cases hs : stableP p next
      · have HS := Aside0.mk hs
        have hst : ∀ A c A' c' W (h0 : Kd.C (Kd.int .i64) W A p.length p) (h1 : Kd.C (Kd.slice 3 (Kd.int .i64)) W A' next.length next), Calls Try.prog 29 #[.slice A p.length c, .slice A' next.length c'] W fun e w' => e = .returned (.tuple #[.bool true, .int .i64 0]) ∧ Below W.heap.size W w' := by
          intro A c A' c' W h0 h1
          have h := stable_yes A c p A' c' next W h0 h1 hp hn
          rwa [decide_eq_true hs] at h
        have hrs : ∀ A c A' c' W (h0 : Kd.C (Kd.int .i64) W A p.length p) (h1 : Kd.C (Kd.slice 3 (Kd.int .i64)) W A' next.length next), Calls Try.prog 51 #[.slice A p.length c, .slice A' next.length c'] W fun e w' => e = .returned (.bool true) ∧ Below W.heap.size W w' := by
          intro A c A' c' W h0 h1
          have h := refStable_walk A c p A' c' next W h0 h1 hn hp
          rwa [decide_eq_true (hc.1 hs)] at h
        have HST := Aside0.mk hst
        have HRS := Aside0.mk hrs
        clear hst hrs hs hp hn hm hc
        go_enter Try.func24, Try.ntmps24
        go_wp2_with (first
          | (go_at_call 15; refine (cloneC_walk A0 c0 p w FA_0.out (by omega)).mono ?_; rintro e w1 ⟨A2, c2, rfl, hC, hB⟩; have FP_1 := Aside0.mk (hC); have FA_1 := Aside0.mk (Kd.C_below FA_0.out hB); have FB_1 := Aside0.mk (Kd.C_below FB_0.out hB); have HB_1 := Aside0.mk (HB_0.out.trans (hB.mono HB_0.out.size)); clear hC; clear hB HB_0 FA_0 FB_0)
          | (go_at_call 46; refine (copiedC_walk A1 c1 next w1 FB_1.out hl HX.out).mono ?_; rintro e w2 ⟨A3, c3, rfl, hC, hB⟩; have FX_2 := Aside0.mk (hC); have FA_2 := Aside0.mk (Kd.C_below FA_1.out hB); have FB_2 := Aside0.mk (Kd.C_below FB_1.out hB); have FP_2 := Aside0.mk (Kd.C_below FP_1.out hB); have HB_2 := Aside0.mk (HB_1.out.trans (hB.mono HB_1.out.size)); clear hC; clear hB HB_1 FA_1 FB_1 FP_1)
          | (go_at_call 35; refine (refineOfC_walk A2 c2 p A3 c3 next w2 FP_2.out FX_2.out HP.out HNX.out).mono ?_; rintro e w3 ⟨A4, c4, rfl, hC, hB⟩; have FR_3 := Aside0.mk (hC); have FA_3 := Aside0.mk (Kd.C_below FA_2.out hB); have FB_3 := Aside0.mk (Kd.C_below FB_2.out hB); have FP_3 := Aside0.mk (Kd.C_below FP_2.out hB); have FX_3 := Aside0.mk (Kd.C_below FX_2.out hB); have HB_3 := Aside0.mk (HB_2.out.trans (hB.mono HB_2.out.size)); clear hC; clear hB HB_2 FA_2 FB_2 FP_2 FX_2)
          | (go_at_call 29; refine (HST.out A2 c2 A3 c3 w3 FP_3.out FX_3.out).mono ?_; rintro e w4 ⟨rfl, hB⟩; have FA_4 := Aside0.mk (Kd.C_below FA_3.out hB); have FB_4 := Aside0.mk (Kd.C_below FB_3.out hB); have FP_4 := Aside0.mk (Kd.C_below FP_3.out hB); have FX_4 := Aside0.mk (Kd.C_below FX_3.out hB); have FR_4 := Aside0.mk (Kd.C_below FR_3.out hB); have HB_4 := Aside0.mk (HB_3.out.trans (hB.mono HB_3.out.size)); clear hB HB_3 FA_3 FB_3 FP_3 FX_3 FR_3)
          | (go_at_call 27; refine (coarsestC_walk A2 c2 p A3 c3 next w4 FP_4.out FX_4.out HP.out HNX.out m HM.out).mono ?_; rintro e w5 ⟨A5, c5, rfl, hC, hB⟩; have FI_5 := Aside0.mk (hC); have FA_5 := Aside0.mk (Kd.C_below FA_4.out hB); have FB_5 := Aside0.mk (Kd.C_below FB_4.out hB); have FP_5 := Aside0.mk (Kd.C_below FP_4.out hB); have FX_5 := Aside0.mk (Kd.C_below FX_4.out hB); have FR_5 := Aside0.mk (Kd.C_below FR_4.out hB); have HB_5 := Aside0.mk (HB_4.out.trans (hB.mono HB_4.out.size)); clear hC; clear hB HB_4 FA_4 FB_4 FP_4 FX_4 FR_4)
          | (go_at_call 28; refine (quotientC_walk A2 c2 p A3 c3 next w5 FP_5.out FX_5.out HP.out HNX.out HS.out).mono ?_; rintro e w6 ⟨A6, c6, rfl, hC, hB⟩; have FQ_6 := Aside0.mk (hC); have FA_6 := Aside0.mk (Kd.C_below FA_5.out hB); have FB_6 := Aside0.mk (Kd.C_below FB_5.out hB); have FP_6 := Aside0.mk (Kd.C_below FP_5.out hB); have FX_6 := Aside0.mk (Kd.C_below FX_5.out hB); have FR_6 := Aside0.mk (Kd.C_below FR_5.out hB); have FI_6 := Aside0.mk (Kd.C_below FI_5.out hB); have HB_6 := Aside0.mk (HB_5.out.trans (hB.mono HB_5.out.size)); clear hC; clear hB HB_5 FA_5 FB_5 FP_5 FX_5 FR_5 FI_5)
          | (go_at_call 19; refine (same_walk A2 c2 p A0 c0 w6 FP_6.out FA_6.out).mono ?_; rintro e w7 ⟨rfl, hB⟩; have FA_7 := Aside0.mk (Kd.C_below FA_6.out hB); have FB_7 := Aside0.mk (Kd.C_below FB_6.out hB); have FX_7 := Aside0.mk (Kd.C_below FX_6.out hB); have FR_7 := Aside0.mk (Kd.C_below FR_6.out hB); have FI_7 := Aside0.mk (Kd.C_below FI_6.out hB); have FQ_7 := Aside0.mk (Kd.C_below FQ_6.out hB); have HB_7 := Aside0.mk (HB_6.out.trans (hB.mono HB_6.out.size)); clear hB HB_6 FA_6 FB_6 FP_6 FX_6 FR_6 FI_6 FQ_6)
          | (go_at_call 40; refine (sameRowsN_walk A3 c3 next.length next A1 c1 w7 rfl FX_7.out FB_7.out).mono ?_; rintro e w8 ⟨rfl, hB⟩; have FA_8 := Aside0.mk (Kd.C_below FA_7.out hB); have FB_8 := Aside0.mk (Kd.C_below FB_7.out hB); have FR_8 := Aside0.mk (Kd.C_below FR_7.out hB); have FI_8 := Aside0.mk (Kd.C_below FI_7.out hB); have FQ_8 := Aside0.mk (Kd.C_below FQ_7.out hB); have HB_8 := Aside0.mk (HB_7.out.trans (hB.mono HB_7.out.size)); clear hB HB_7 FA_7 FB_7 FX_7 FR_7 FI_7 FQ_7)
          | (go_at_call 47; refine (HR.out A0 c0 w8 FA_8.out).mono ?_; rintro e w9 ⟨rfl, hB⟩; have FA_9 := Aside0.mk (Kd.C_below FA_8.out hB); have FB_9 := Aside0.mk (Kd.C_below FB_8.out hB); have FR_9 := Aside0.mk (Kd.C_below FR_8.out hB); have FI_9 := Aside0.mk (Kd.C_below FI_8.out hB); have FQ_9 := Aside0.mk (Kd.C_below FQ_8.out hB); have HB_9 := Aside0.mk (HB_8.out.trans (hB.mono HB_8.out.size)); clear hB HB_8 FA_8 FB_8 FR_8 FI_8 FQ_8)
          | (go_at_call 48; refine (HN.out A1 c1 w9 FB_9.out).mono ?_; rintro e w10 ⟨rfl, hB⟩; have FA_10 := Aside0.mk (Kd.C_below FA_9.out hB); have FB_10 := Aside0.mk (Kd.C_below FB_9.out hB); have FR_10 := Aside0.mk (Kd.C_below FR_9.out hB); have FI_10 := Aside0.mk (Kd.C_below FI_9.out hB); have FQ_10 := Aside0.mk (Kd.C_below FQ_9.out hB); have HB_10 := Aside0.mk (HB_9.out.trans (hB.mono HB_9.out.size)); clear hB HB_9 FA_9 FB_9 FR_9 FI_9 FQ_9)
          | (go_at_call 49; refine (refCoarsestC_walk A0 c0 p A1 c1 next w10 FA_10.out FB_10.out HNX.out HP.out m HM.out).mono ?_; rintro e w11 ⟨A7, c7, rfl, hC, hB⟩; have FJ_11 := Aside0.mk (hC); have FA_11 := Aside0.mk (Kd.C_below FA_10.out hB); have FB_11 := Aside0.mk (Kd.C_below FB_10.out hB); have FR_11 := Aside0.mk (Kd.C_below FR_10.out hB); have FI_11 := Aside0.mk (Kd.C_below FI_10.out hB); have FQ_11 := Aside0.mk (Kd.C_below FQ_10.out hB); have HB_11 := Aside0.mk (HB_10.out.trans (hB.mono HB_10.out.size)); clear hC; clear hB HB_10 FA_10 FB_10 FR_10 FI_10 FQ_10)
          | (go_at_call 50; refine (refRefineC_walk A0 c0 p A1 c1 next w11 FA_11.out FB_11.out HNX.out (by omega)).mono ?_; rintro e w12 ⟨A8, c8, rfl, hC, hB⟩; have FS_12 := Aside0.mk (hC); have FA_12 := Aside0.mk (Kd.C_below FA_11.out hB); have FB_12 := Aside0.mk (Kd.C_below FB_11.out hB); have FR_12 := Aside0.mk (Kd.C_below FR_11.out hB); have FI_12 := Aside0.mk (Kd.C_below FI_11.out hB); have FQ_12 := Aside0.mk (Kd.C_below FQ_11.out hB); have FJ_12 := Aside0.mk (Kd.C_below FJ_11.out hB); have HB_12 := Aside0.mk (HB_11.out.trans (hB.mono HB_11.out.size)); clear hC; clear hB HB_11 FA_11 FB_11 FR_11 FI_11 FQ_11 FJ_11)
          | (go_at_call 19; refine (sameN_walk A4 c4 p.length (refineP p next) A8 c8 w12 HLR.out FR_12.out FS_12.out).mono ?_; rintro e w13 ⟨rfl, hB⟩; have FA_13 := Aside0.mk (Kd.C_below FA_12.out hB); have FB_13 := Aside0.mk (Kd.C_below FB_12.out hB); have FI_13 := Aside0.mk (Kd.C_below FI_12.out hB); have FQ_13 := Aside0.mk (Kd.C_below FQ_12.out hB); have FJ_13 := Aside0.mk (Kd.C_below FJ_12.out hB); have HB_13 := Aside0.mk (HB_12.out.trans (hB.mono HB_12.out.size)); clear hB HB_12 FA_12 FB_12 FR_12 FI_12 FQ_12 FJ_12 FS_12)
          | (go_at_call 51; refine (HRS.out A0 c0 A1 c1 w13 FA_13.out FB_13.out).mono ?_; rintro e w14 ⟨rfl, hB⟩; have FA_14 := Aside0.mk (Kd.C_below FA_13.out hB); have FB_14 := Aside0.mk (Kd.C_below FB_13.out hB); have FI_14 := Aside0.mk (Kd.C_below FI_13.out hB); have FQ_14 := Aside0.mk (Kd.C_below FQ_13.out hB); have FJ_14 := Aside0.mk (Kd.C_below FJ_13.out hB); have HB_14 := Aside0.mk (HB_13.out.trans (hB.mono HB_13.out.size)); clear hB HB_13 FA_13 FB_13 FI_13 FQ_13 FJ_13)
          | (go_at_call 19; refine (sameN_walk A5 c5 p.length (iterP p next m) A7 c7 w14 HLI.out FI_14.out FJ_14.out).mono ?_; rintro e w15 ⟨rfl, hB⟩; have FA_15 := Aside0.mk (Kd.C_below FA_14.out hB); have FB_15 := Aside0.mk (Kd.C_below FB_14.out hB); have FQ_15 := Aside0.mk (Kd.C_below FQ_14.out hB); have HB_15 := Aside0.mk (HB_14.out.trans (hB.mono HB_14.out.size)); clear hB HB_14 FA_14 FB_14 FI_14 FQ_14 FJ_14)
          | (go_at_call 52; refine (refQuotientC_walk A0 c0 p A1 c1 next w15 FA_15.out FB_15.out HNX.out HP.out HS.out).mono ?_; rintro e w16 ⟨A9, c9, rfl, hC, hB⟩; have FT_16 := Aside0.mk (hC); have FA_16 := Aside0.mk (Kd.C_below FA_15.out hB); have FB_16 := Aside0.mk (Kd.C_below FB_15.out hB); have FQ_16 := Aside0.mk (Kd.C_below FQ_15.out hB); have HB_16 := Aside0.mk (HB_15.out.trans (hB.mono HB_15.out.size)); clear hC; clear hB HB_15 FA_15 FB_15 FQ_15)
          | (go_at_call 40; refine (sameRowsN_walk A6 c6 (quotP p next).length (quotP p next) A9 c9 w16 rfl FQ_16.out FT_16.out).mono ?_; rintro e w17 ⟨rfl, hB⟩; have FA_17 := Aside0.mk (Kd.C_below FA_16.out hB); have FB_17 := Aside0.mk (Kd.C_below FB_16.out hB); have HB_17 := Aside0.mk (HB_16.out.trans (hB.mono HB_16.out.size)); clear hB HB_16 FA_16 FB_16 FQ_16 FT_16))
        go_ret
        exact ⟨rfl, HB_17.out⟩
      · have HS := Aside0.mk hs
        have hst : ∀ A c A' c' W (h0 : Kd.C (Kd.int .i64) W A p.length p) (h1 : Kd.C (Kd.slice 3 (Kd.int .i64)) W A' next.length next), Calls Try.prog 29 #[.slice A p.length c, .slice A' next.length c'] W fun e w' => e = .returned (.tuple #[.bool false, .int .i64 0]) ∧ Below W.heap.size W w' := by
          intro A c A' c' W h0 h1
          have h := stable_yes A c p A' c' next W h0 h1 hp hn
          rwa [decide_eq_false hs] at h
        have hrs : ∀ A c A' c' W (h0 : Kd.C (Kd.int .i64) W A p.length p) (h1 : Kd.C (Kd.slice 3 (Kd.int .i64)) W A' next.length next), Calls Try.prog 51 #[.slice A p.length c, .slice A' next.length c'] W fun e w' => e = .returned (.bool false) ∧ Below W.heap.size W w' := by
          intro A c A' c' W h0 h1
          have h := refStable_walk A c p A' c' next W h0 h1 hn hp
          rwa [decide_eq_false (fun h => hs (hc.2 h))] at h
        have HST := Aside0.mk hst
        have HRS := Aside0.mk hrs
        clear hst hrs hs hp hn hm hc
        go_enter Try.func24, Try.ntmps24
        go_wp2_with (first
          | (go_at_call 15; refine (cloneC_walk A0 c0 p w FA_0.out (by omega)).mono ?_; rintro e w1 ⟨A2, c2, rfl, hC, hB⟩; have FP_1 := Aside0.mk (hC); have FA_1 := Aside0.mk (Kd.C_below FA_0.out hB); have FB_1 := Aside0.mk (Kd.C_below FB_0.out hB); have HB_1 := Aside0.mk (HB_0.out.trans (hB.mono HB_0.out.size)); clear hC; clear hB HB_0 FA_0 FB_0)
          | (go_at_call 46; refine (copiedC_walk A1 c1 next w1 FB_1.out hl HX.out).mono ?_; rintro e w2 ⟨A3, c3, rfl, hC, hB⟩; have FX_2 := Aside0.mk (hC); have FA_2 := Aside0.mk (Kd.C_below FA_1.out hB); have FB_2 := Aside0.mk (Kd.C_below FB_1.out hB); have FP_2 := Aside0.mk (Kd.C_below FP_1.out hB); have HB_2 := Aside0.mk (HB_1.out.trans (hB.mono HB_1.out.size)); clear hC; clear hB HB_1 FA_1 FB_1 FP_1)
          | (go_at_call 35; refine (refineOfC_walk A2 c2 p A3 c3 next w2 FP_2.out FX_2.out HP.out HNX.out).mono ?_; rintro e w3 ⟨A4, c4, rfl, hC, hB⟩; have FR_3 := Aside0.mk (hC); have FA_3 := Aside0.mk (Kd.C_below FA_2.out hB); have FB_3 := Aside0.mk (Kd.C_below FB_2.out hB); have FP_3 := Aside0.mk (Kd.C_below FP_2.out hB); have FX_3 := Aside0.mk (Kd.C_below FX_2.out hB); have HB_3 := Aside0.mk (HB_2.out.trans (hB.mono HB_2.out.size)); clear hC; clear hB HB_2 FA_2 FB_2 FP_2 FX_2)
          | (go_at_call 29; refine (HST.out A2 c2 A3 c3 w3 FP_3.out FX_3.out).mono ?_; rintro e w4 ⟨rfl, hB⟩; have FA_4 := Aside0.mk (Kd.C_below FA_3.out hB); have FB_4 := Aside0.mk (Kd.C_below FB_3.out hB); have FP_4 := Aside0.mk (Kd.C_below FP_3.out hB); have FX_4 := Aside0.mk (Kd.C_below FX_3.out hB); have FR_4 := Aside0.mk (Kd.C_below FR_3.out hB); have HB_4 := Aside0.mk (HB_3.out.trans (hB.mono HB_3.out.size)); clear hB HB_3 FA_3 FB_3 FP_3 FX_3 FR_3)
          | (go_at_call 27; refine (coarsestC_walk A2 c2 p A3 c3 next w4 FP_4.out FX_4.out HP.out HNX.out m HM.out).mono ?_; rintro e w5 ⟨A5, c5, rfl, hC, hB⟩; have FI_5 := Aside0.mk (hC); have FA_5 := Aside0.mk (Kd.C_below FA_4.out hB); have FB_5 := Aside0.mk (Kd.C_below FB_4.out hB); have FP_5 := Aside0.mk (Kd.C_below FP_4.out hB); have FX_5 := Aside0.mk (Kd.C_below FX_4.out hB); have FR_5 := Aside0.mk (Kd.C_below FR_4.out hB); have HB_5 := Aside0.mk (HB_4.out.trans (hB.mono HB_4.out.size)); clear hC; clear hB HB_4 FA_4 FB_4 FP_4 FX_4 FR_4)
          | (go_at_call 28; refine (quotient_split A2 c2 p A3 c3 next w5 FP_5.out FX_5.out HP.out HNX.out HS.out).mono ?_; rintro e w6 ⟨rfl, hB⟩; have FA_6 := Aside0.mk (Kd.C_below FA_5.out hB); have FB_6 := Aside0.mk (Kd.C_below FB_5.out hB); have FP_6 := Aside0.mk (Kd.C_below FP_5.out hB); have FX_6 := Aside0.mk (Kd.C_below FX_5.out hB); have FR_6 := Aside0.mk (Kd.C_below FR_5.out hB); have FI_6 := Aside0.mk (Kd.C_below FI_5.out hB); have HB_6 := Aside0.mk (HB_5.out.trans (hB.mono HB_5.out.size)); clear hB HB_5 FA_5 FB_5 FP_5 FX_5 FR_5 FI_5)
          | (go_at_call 19; refine (same_walk A2 c2 p A0 c0 w6 FP_6.out FA_6.out).mono ?_; rintro e w7 ⟨rfl, hB⟩; have FA_7 := Aside0.mk (Kd.C_below FA_6.out hB); have FB_7 := Aside0.mk (Kd.C_below FB_6.out hB); have FX_7 := Aside0.mk (Kd.C_below FX_6.out hB); have FR_7 := Aside0.mk (Kd.C_below FR_6.out hB); have FI_7 := Aside0.mk (Kd.C_below FI_6.out hB); have HB_7 := Aside0.mk (HB_6.out.trans (hB.mono HB_6.out.size)); clear hB HB_6 FA_6 FB_6 FP_6 FX_6 FR_6 FI_6)
          | (go_at_call 40; refine (sameRowsN_walk A3 c3 next.length next A1 c1 w7 rfl FX_7.out FB_7.out).mono ?_; rintro e w8 ⟨rfl, hB⟩; have FA_8 := Aside0.mk (Kd.C_below FA_7.out hB); have FB_8 := Aside0.mk (Kd.C_below FB_7.out hB); have FR_8 := Aside0.mk (Kd.C_below FR_7.out hB); have FI_8 := Aside0.mk (Kd.C_below FI_7.out hB); have HB_8 := Aside0.mk (HB_7.out.trans (hB.mono HB_7.out.size)); clear hB HB_7 FA_7 FB_7 FX_7 FR_7 FI_7)
          | (go_at_call 47; refine (HR.out A0 c0 w8 FA_8.out).mono ?_; rintro e w9 ⟨rfl, hB⟩; have FA_9 := Aside0.mk (Kd.C_below FA_8.out hB); have FB_9 := Aside0.mk (Kd.C_below FB_8.out hB); have FR_9 := Aside0.mk (Kd.C_below FR_8.out hB); have FI_9 := Aside0.mk (Kd.C_below FI_8.out hB); have HB_9 := Aside0.mk (HB_8.out.trans (hB.mono HB_8.out.size)); clear hB HB_8 FA_8 FB_8 FR_8 FI_8)
          | (go_at_call 48; refine (HN.out A1 c1 w9 FB_9.out).mono ?_; rintro e w10 ⟨rfl, hB⟩; have FA_10 := Aside0.mk (Kd.C_below FA_9.out hB); have FB_10 := Aside0.mk (Kd.C_below FB_9.out hB); have FR_10 := Aside0.mk (Kd.C_below FR_9.out hB); have FI_10 := Aside0.mk (Kd.C_below FI_9.out hB); have HB_10 := Aside0.mk (HB_9.out.trans (hB.mono HB_9.out.size)); clear hB HB_9 FA_9 FB_9 FR_9 FI_9)
          | (go_at_call 49; refine (refCoarsestC_walk A0 c0 p A1 c1 next w10 FA_10.out FB_10.out HNX.out HP.out m HM.out).mono ?_; rintro e w11 ⟨A7, c7, rfl, hC, hB⟩; have FJ_11 := Aside0.mk (hC); have FA_11 := Aside0.mk (Kd.C_below FA_10.out hB); have FB_11 := Aside0.mk (Kd.C_below FB_10.out hB); have FR_11 := Aside0.mk (Kd.C_below FR_10.out hB); have FI_11 := Aside0.mk (Kd.C_below FI_10.out hB); have HB_11 := Aside0.mk (HB_10.out.trans (hB.mono HB_10.out.size)); clear hC; clear hB HB_10 FA_10 FB_10 FR_10 FI_10)
          | (go_at_call 50; refine (refRefineC_walk A0 c0 p A1 c1 next w11 FA_11.out FB_11.out HNX.out (by omega)).mono ?_; rintro e w12 ⟨A8, c8, rfl, hC, hB⟩; have FS_12 := Aside0.mk (hC); have FA_12 := Aside0.mk (Kd.C_below FA_11.out hB); have FB_12 := Aside0.mk (Kd.C_below FB_11.out hB); have FR_12 := Aside0.mk (Kd.C_below FR_11.out hB); have FI_12 := Aside0.mk (Kd.C_below FI_11.out hB); have FJ_12 := Aside0.mk (Kd.C_below FJ_11.out hB); have HB_12 := Aside0.mk (HB_11.out.trans (hB.mono HB_11.out.size)); clear hC; clear hB HB_11 FA_11 FB_11 FR_11 FI_11 FJ_11)
          | (go_at_call 19; refine (sameN_walk A4 c4 p.length (refineP p next) A8 c8 w12 HLR.out FR_12.out FS_12.out).mono ?_; rintro e w13 ⟨rfl, hB⟩; have FA_13 := Aside0.mk (Kd.C_below FA_12.out hB); have FB_13 := Aside0.mk (Kd.C_below FB_12.out hB); have FI_13 := Aside0.mk (Kd.C_below FI_12.out hB); have FJ_13 := Aside0.mk (Kd.C_below FJ_12.out hB); have HB_13 := Aside0.mk (HB_12.out.trans (hB.mono HB_12.out.size)); clear hB HB_12 FA_12 FB_12 FR_12 FI_12 FJ_12 FS_12)
          | (go_at_call 51; refine (HRS.out A0 c0 A1 c1 w13 FA_13.out FB_13.out).mono ?_; rintro e w14 ⟨rfl, hB⟩; have FA_14 := Aside0.mk (Kd.C_below FA_13.out hB); have FB_14 := Aside0.mk (Kd.C_below FB_13.out hB); have FI_14 := Aside0.mk (Kd.C_below FI_13.out hB); have FJ_14 := Aside0.mk (Kd.C_below FJ_13.out hB); have HB_14 := Aside0.mk (HB_13.out.trans (hB.mono HB_13.out.size)); clear hB HB_13 FA_13 FB_13 FI_13 FJ_13)
          | (go_at_call 19; refine (sameN_walk A5 c5 p.length (iterP p next m) A7 c7 w14 HLI.out FI_14.out FJ_14.out).mono ?_; rintro e w15 ⟨rfl, hB⟩; have FA_15 := Aside0.mk (Kd.C_below FA_14.out hB); have FB_15 := Aside0.mk (Kd.C_below FB_14.out hB); have HB_15 := Aside0.mk (HB_14.out.trans (hB.mono HB_14.out.size)); clear hB HB_14 FA_14 FB_14 FI_14 FJ_14))
        go_ret
        exact ⟨rfl, HB_15.out⟩
    · simp only [decide_eq_false hn] at HN
      have HE := Aside0.mk (show wrongE p next = 61 by simp [wrongE, hp, hn])
      clear hp hn
      go_enter Try.func24, Try.ntmps24
      go_wp2_with (first
        | (go_at_call 15; refine (cloneC_walk A0 c0 p w FA_0.out (by omega)).mono ?_; rintro e w1 ⟨A2, c2, rfl, hC, hB⟩; have FP_1 := Aside0.mk (hC); have FA_1 := Aside0.mk (Kd.C_below FA_0.out hB); have FB_1 := Aside0.mk (Kd.C_below FB_0.out hB); have HB_1 := Aside0.mk (HB_0.out.trans (hB.mono HB_0.out.size)); clear hC; clear hB HB_0 FA_0 FB_0)
        | (go_at_call 46; refine (copiedC_walk A1 c1 next w1 FB_1.out hl HX.out).mono ?_; rintro e w2 ⟨A3, c3, rfl, hC, hB⟩; have FX_2 := Aside0.mk (hC); have FA_2 := Aside0.mk (Kd.C_below FA_1.out hB); have FB_2 := Aside0.mk (Kd.C_below FB_1.out hB); have FP_2 := Aside0.mk (Kd.C_below FP_1.out hB); have HB_2 := Aside0.mk (HB_1.out.trans (hB.mono HB_1.out.size)); clear hC; clear hB HB_1 FA_1 FB_1 FP_1)
        | (go_at_call 35; refine (no35 A2 c2 p A3 c3 next w2 FP_2.out FX_2.out HW.out _ HE.out (by decide)).mono ?_; rintro e w3 ⟨rfl, hB⟩; have FA_3 := Aside0.mk (Kd.C_below FA_2.out hB); have FB_3 := Aside0.mk (Kd.C_below FB_2.out hB); have FP_3 := Aside0.mk (Kd.C_below FP_2.out hB); have FX_3 := Aside0.mk (Kd.C_below FX_2.out hB); have HB_3 := Aside0.mk (HB_2.out.trans (hB.mono HB_2.out.size)); clear hB HB_2 FA_2 FB_2 FP_2 FX_2)
        | (go_at_call 29; refine (no29 A2 c2 p A3 c3 next w3 FP_3.out FX_3.out HW.out _ HE.out (by decide)).mono ?_; rintro e w4 ⟨rfl, hB⟩; have FA_4 := Aside0.mk (Kd.C_below FA_3.out hB); have FB_4 := Aside0.mk (Kd.C_below FB_3.out hB); have FP_4 := Aside0.mk (Kd.C_below FP_3.out hB); have FX_4 := Aside0.mk (Kd.C_below FX_3.out hB); have HB_4 := Aside0.mk (HB_3.out.trans (hB.mono HB_3.out.size)); clear hB HB_3 FA_3 FB_3 FP_3 FX_3)
        | (go_at_call 27; refine (no27 A2 c2 p A3 c3 next w4 FP_4.out FX_4.out HW.out _ HE.out (by decide)).mono ?_; rintro e w5 ⟨rfl, hB⟩; have FA_5 := Aside0.mk (Kd.C_below FA_4.out hB); have FB_5 := Aside0.mk (Kd.C_below FB_4.out hB); have FP_5 := Aside0.mk (Kd.C_below FP_4.out hB); have FX_5 := Aside0.mk (Kd.C_below FX_4.out hB); have HB_5 := Aside0.mk (HB_4.out.trans (hB.mono HB_4.out.size)); clear hB HB_4 FA_4 FB_4 FP_4 FX_4)
        | (go_at_call 28; refine (no28 A2 c2 p A3 c3 next w5 FP_5.out FX_5.out HW.out _ HE.out (by decide)).mono ?_; rintro e w6 ⟨rfl, hB⟩; have FA_6 := Aside0.mk (Kd.C_below FA_5.out hB); have FB_6 := Aside0.mk (Kd.C_below FB_5.out hB); have FP_6 := Aside0.mk (Kd.C_below FP_5.out hB); have FX_6 := Aside0.mk (Kd.C_below FX_5.out hB); have HB_6 := Aside0.mk (HB_5.out.trans (hB.mono HB_5.out.size)); clear hB HB_5 FA_5 FB_5 FP_5 FX_5)
        | (go_at_call 19; refine (same_walk A2 c2 p A0 c0 w6 FP_6.out FA_6.out).mono ?_; rintro e w7 ⟨rfl, hB⟩; have FA_7 := Aside0.mk (Kd.C_below FA_6.out hB); have FB_7 := Aside0.mk (Kd.C_below FB_6.out hB); have FX_7 := Aside0.mk (Kd.C_below FX_6.out hB); have HB_7 := Aside0.mk (HB_6.out.trans (hB.mono HB_6.out.size)); clear hB HB_6 FA_6 FB_6 FP_6 FX_6)
        | (go_at_call 40; refine (sameRowsN_walk A3 c3 next.length next A1 c1 w7 rfl FX_7.out FB_7.out).mono ?_; rintro e w8 ⟨rfl, hB⟩; have FA_8 := Aside0.mk (Kd.C_below FA_7.out hB); have FB_8 := Aside0.mk (Kd.C_below FB_7.out hB); have HB_8 := Aside0.mk (HB_7.out.trans (hB.mono HB_7.out.size)); clear hB HB_7 FA_7 FB_7 FX_7)
        | (go_at_call 47; refine (HR.out A0 c0 w8 FA_8.out).mono ?_; rintro e w9 ⟨rfl, hB⟩; have FA_9 := Aside0.mk (Kd.C_below FA_8.out hB); have FB_9 := Aside0.mk (Kd.C_below FB_8.out hB); have HB_9 := Aside0.mk (HB_8.out.trans (hB.mono HB_8.out.size)); clear hB HB_8 FA_8 FB_8)
        | (go_at_call 48; refine (HN.out A1 c1 w9 FB_9.out).mono ?_; rintro e w10 ⟨rfl, hB⟩; have FA_10 := Aside0.mk (Kd.C_below FA_9.out hB); have FB_10 := Aside0.mk (Kd.C_below FB_9.out hB); have HB_10 := Aside0.mk (HB_9.out.trans (hB.mono HB_9.out.size)); clear hB HB_9 FA_9 FB_9))
      go_ret
      exact ⟨rfl, HB_10.out⟩
  · simp only [decide_eq_false hp] at HR
    have HE := Aside0.mk (show wrongE p next = 60 by simp [wrongE, hp])
    clear hp
    go_enter Try.func24, Try.ntmps24
    go_wp2_with (first
      | (go_at_call 15; refine (cloneC_walk A0 c0 p w FA_0.out (by omega)).mono ?_; rintro e w1 ⟨A2, c2, rfl, hC, hB⟩; have FP_1 := Aside0.mk (hC); have FA_1 := Aside0.mk (Kd.C_below FA_0.out hB); have FB_1 := Aside0.mk (Kd.C_below FB_0.out hB); have HB_1 := Aside0.mk (HB_0.out.trans (hB.mono HB_0.out.size)); clear hC; clear hB HB_0 FA_0 FB_0)
      | (go_at_call 46; refine (copiedC_walk A1 c1 next w1 FB_1.out hl HX.out).mono ?_; rintro e w2 ⟨A3, c3, rfl, hC, hB⟩; have FX_2 := Aside0.mk (hC); have FA_2 := Aside0.mk (Kd.C_below FA_1.out hB); have FB_2 := Aside0.mk (Kd.C_below FB_1.out hB); have FP_2 := Aside0.mk (Kd.C_below FP_1.out hB); have HB_2 := Aside0.mk (HB_1.out.trans (hB.mono HB_1.out.size)); clear hC; clear hB HB_1 FA_1 FB_1 FP_1)
      | (go_at_call 35; refine (no35 A2 c2 p A3 c3 next w2 FP_2.out FX_2.out HW.out _ HE.out (by decide)).mono ?_; rintro e w3 ⟨rfl, hB⟩; have FA_3 := Aside0.mk (Kd.C_below FA_2.out hB); have FB_3 := Aside0.mk (Kd.C_below FB_2.out hB); have FP_3 := Aside0.mk (Kd.C_below FP_2.out hB); have FX_3 := Aside0.mk (Kd.C_below FX_2.out hB); have HB_3 := Aside0.mk (HB_2.out.trans (hB.mono HB_2.out.size)); clear hB HB_2 FA_2 FB_2 FP_2 FX_2)
      | (go_at_call 29; refine (no29 A2 c2 p A3 c3 next w3 FP_3.out FX_3.out HW.out _ HE.out (by decide)).mono ?_; rintro e w4 ⟨rfl, hB⟩; have FA_4 := Aside0.mk (Kd.C_below FA_3.out hB); have FB_4 := Aside0.mk (Kd.C_below FB_3.out hB); have FP_4 := Aside0.mk (Kd.C_below FP_3.out hB); have FX_4 := Aside0.mk (Kd.C_below FX_3.out hB); have HB_4 := Aside0.mk (HB_3.out.trans (hB.mono HB_3.out.size)); clear hB HB_3 FA_3 FB_3 FP_3 FX_3)
      | (go_at_call 27; refine (no27 A2 c2 p A3 c3 next w4 FP_4.out FX_4.out HW.out _ HE.out (by decide)).mono ?_; rintro e w5 ⟨rfl, hB⟩; have FA_5 := Aside0.mk (Kd.C_below FA_4.out hB); have FB_5 := Aside0.mk (Kd.C_below FB_4.out hB); have FP_5 := Aside0.mk (Kd.C_below FP_4.out hB); have FX_5 := Aside0.mk (Kd.C_below FX_4.out hB); have HB_5 := Aside0.mk (HB_4.out.trans (hB.mono HB_4.out.size)); clear hB HB_4 FA_4 FB_4 FP_4 FX_4)
      | (go_at_call 28; refine (no28 A2 c2 p A3 c3 next w5 FP_5.out FX_5.out HW.out _ HE.out (by decide)).mono ?_; rintro e w6 ⟨rfl, hB⟩; have FA_6 := Aside0.mk (Kd.C_below FA_5.out hB); have FB_6 := Aside0.mk (Kd.C_below FB_5.out hB); have FP_6 := Aside0.mk (Kd.C_below FP_5.out hB); have FX_6 := Aside0.mk (Kd.C_below FX_5.out hB); have HB_6 := Aside0.mk (HB_5.out.trans (hB.mono HB_5.out.size)); clear hB HB_5 FA_5 FB_5 FP_5 FX_5)
      | (go_at_call 19; refine (same_walk A2 c2 p A0 c0 w6 FP_6.out FA_6.out).mono ?_; rintro e w7 ⟨rfl, hB⟩; have FA_7 := Aside0.mk (Kd.C_below FA_6.out hB); have FB_7 := Aside0.mk (Kd.C_below FB_6.out hB); have FX_7 := Aside0.mk (Kd.C_below FX_6.out hB); have HB_7 := Aside0.mk (HB_6.out.trans (hB.mono HB_6.out.size)); clear hB HB_6 FA_6 FB_6 FP_6 FX_6)
      | (go_at_call 40; refine (sameRowsN_walk A3 c3 next.length next A1 c1 w7 rfl FX_7.out FB_7.out).mono ?_; rintro e w8 ⟨rfl, hB⟩; have FA_8 := Aside0.mk (Kd.C_below FA_7.out hB); have FB_8 := Aside0.mk (Kd.C_below FB_7.out hB); have HB_8 := Aside0.mk (HB_7.out.trans (hB.mono HB_7.out.size)); clear hB HB_7 FA_7 FB_7 FX_7)
      | (go_at_call 47; refine (HR.out A0 c0 w8 FA_8.out).mono ?_; rintro e w9 ⟨rfl, hB⟩; have FA_9 := Aside0.mk (Kd.C_below FA_8.out hB); have FB_9 := Aside0.mk (Kd.C_below FB_8.out hB); have HB_9 := Aside0.mk (HB_8.out.trans (hB.mono HB_8.out.size)); clear hB HB_8 FA_8 FB_8))
    go_ret
    exact ⟨rfl, HB_9.out⟩

set_option maxRecDepth 100000 in
set_option maxHeartbeats 2000000 in
theorem blocksSteps_walk (A0 : Option Addr) (c0 : Nat) (p : List Int) (A1 : Option Addr) (c1 : Nat) (next : List (List Int)) (w : World) (hr0 : Kd.C (Kd.int .i64) w A0 p.length p) (hw0 : Wf p) (hr1 : Kd.C (Kd.slice 3 (Kd.int .i64)) w A1 next.length next) (hw1 : ∀ y ∈ next, ∀ z ∈ y, (Lit.int .i64 z).wf = true) :
    Calls Try.prog 4 #[.slice A0 p.length c0, .slice A1 next.length c1] w fun e w' => e = .returned (.bool true) ∧ Below w.heap.size w w' := by
  have hb0 := len_le hr0
  have HB_0 := Aside0.mk (Below.refl w.heap.size w)
  by_cases h40 : 40 < p.length
  · have g0 : decide ((40 : Int) < (p.length : Int)) = true := decide_eq_true (by omega)
    clear hr0 hr1 hw0 hw1
    go_enter Try.func4, Try.ntmps4
    go_wp2_with (go_at_call 14; refine (awake_walk w).mono ?_; rintro e w1 ⟨rfl, hB⟩)
    go_ret
    exact ⟨rfl, hB⟩
  · have g0 : decide ((40 : Int) < (p.length : Int)) = false := decide_eq_false (by omega)
    have hfew := few_walk A1 c1 next w hr1
    cases hf : fewB next with
    | false =>
      rw [hf] at hfew
      have HF := Aside0.mk hfew
      clear hr0 hr1 hw0 hw1 hf hfew
      go_enter Try.func4, Try.ntmps4
      go_wp2_with (first
        | (go_at_call 23; refine HF.out.mono ?_; rintro e w1 ⟨rfl, hB⟩; have HB1 := Aside0.mk hB; clear hB)
        | (go_at_call 14; refine (awake_walk w1).mono ?_; rintro e w2 ⟨rfl, hB⟩; have HB2 := Aside0.mk (HB1.out.trans (hB.mono HB1.out.size)); clear hB))
      go_ret
      exact ⟨rfl, HB2.out⟩
    | true =>
      rw [hf] at hfew
      have HF := Aside0.mk hfew
      simp only [fewB, Bool.and_eq_true, decide_eq_true_eq, Bool.not_eq_true', List.any_eq_false, decide_eq_true_eq] at hf
      have HS := Aside0.mk (fun W (hB : Below w.heap.size w W) => steps_walk A0 c0 p A1 c1 next W (Kd.C_below hr0 hB) (Kd.C_below hr1 hB) hw0 (by omega) (by have := hf.1; omega) (fun x hx => by have := hf.2 x hx; omega))
      clear hr0 hr1 hw0 hw1 hf hfew
      go_enter Try.func4, Try.ntmps4
      go_wp2_with (first
        | (go_at_call 23; refine HF.out.mono ?_; rintro e w1 ⟨rfl, hB⟩; have HB1 := Aside0.mk hB; clear hB)
        | (go_at_call 24; refine (HS.out w1 HB1.out).mono ?_; rintro e w2 ⟨rfl, hB⟩; have HB2 := Aside0.mk (HB1.out.trans (hB.mono HB1.out.size)); clear hB)
        | (go_at_call 14; refine (awake_walk w2).mono ?_; rintro e w3 ⟨rfl, hB⟩; have HB3 := Aside0.mk (HB2.out.trans (hB.mono HB2.out.size)); clear hB))
      go_ret
      exact ⟨rfl, HB3.out⟩
end Go.Proofs.Ytboofecfmhbacaa

/- A partition with an element put ahead of it; defects. Plain Lean. -/
namespace Go.Proofs.Ytboofecfmhbacaa
set_option linter.unusedVariables false
open Num
/-- 0, and the numbers of p, each greater by one. -/
def ahead (p : List Int) : List Int := 0 :: p.map (· + 1)
theorem ahead_snoc (p : List Int) (x : Int) : ahead (p ++ [x]) = ahead p ++ [x + 1] := by simp [ahead]
theorem ahead_num (p : List Int) : num p = p → num (ahead p) = ahead p ∧ (firsts (ahead p)).length = (firsts p).length + 1 := by
  refine list_snoc (P := fun p : List Int => num p = p → num (ahead p) = ahead p ∧ (firsts (ahead p)).length = (firsts p).length + 1) (fun _ => ⟨rfl, rfl⟩) ?_ p
  intro l x ih h
  have hl : num l = l := by
    have h1 := congrArg (List.take l.length) h
    rw [← num_take, List.take_left] at h1
    simpa using h1
  obtain ⟨h1, h2⟩ := ih hl
  have h3 := (right_step hl x).1 h
  rw [ahead_snoc]
  have h4 : 0 ≤ x + 1 ∧ x + 1 ≤ ((firsts (ahead l)).length : Int) := by rw [h2]; omega
  refine ⟨(right_step h1 (x + 1)).2 h4, ?_⟩
  rw [firsts_step h1 h4.1 h4.2, firsts_step hl h3.1 h3.2, h2]
  by_cases e : x = ((firsts l).length : Int)
  · rw [if_pos e, if_pos (by omega)]
  · rw [if_neg e, if_neg (by omega)]
theorem ahead_right {p : List Int} (hp : rightP p) (h : p.length ≤ 1000) : rightP (ahead p) := ⟨by simp [ahead]; omega, (ahead_num p hp.2).1⟩
theorem ahead_length (p : List Int) : (ahead p).length = p.length + 1 := by simp [ahead]
theorem rightP.take {p : List Int} (hp : rightP p) (n : Nat) : rightP (p.take n) := ⟨by have := hp.1; simp; omega, by rw [num_take, hp.2]⟩
/-- A list with a number that is none of a block's. -/
theorem bad_right {p : List Int} {i : Nat} {x : Int} (hi : i < p.length) (hx : x < 0 ∨ (p.length : Int) ≤ x) : ¬ rightP (p.set i x) := by
  intro h
  have h1 := h.bounds x (List.mem_iff_getElem.2 ⟨i, by simpa using hi, by simp⟩)
  simp at h1
  omega
end Go.Proofs.Ytboofecfmhbacaa

/- The walk of the law BlocksWrong: part one, lists that are no partitions. -/
namespace Go.Proofs.Ytboofecfmhbacaa
open Go.RowKit Go.WideMaps Go.Maps Go.Proofs.YtboofecfmhbacaaW.PrintWords Go.Proofs.YtboofecfmhbacaaW.PrintLast Go.Proofs.YtboofecfmhbacaaW.PrintMore
attribute [local go_sem] max_two min_two max_three min_three
set_option linter.unusedVariables false
set_option linter.unusedSimpArgs false

theorem nobN30 (A0 : Option Addr) (c0 n : Nat) (p : List Int) (A1 : Option Addr) (c1 m : Nat) (q : List Int) (w : World) (hn : p.length = n) (hm : q.length = m) (hr0 : Kd.C (Kd.int .i64) w A0 n p) (hr1 : Kd.C (Kd.int .i64) w A1 m q) (hw0 : Wf p) (hw1 : Wf q) (E : Int) (hE : bothE p q = E) (h0 : E ≠ 0) : Calls Try.prog 30 #[.slice A0 n c0, .slice A1 m c1] w fun e w' => e = .returned (.tuple #[.slice none 0 0, .int .i64 E]) ∧ Below w.heap.size w w' := by
  subst hn hm
  exact nob30 A0 c0 p A1 c1 q w hr0 hr1 hw0 hw1 E hE h0
theorem nobN31 (A0 : Option Addr) (c0 n : Nat) (p : List Int) (A1 : Option Addr) (c1 m : Nat) (q : List Int) (w : World) (hn : p.length = n) (hm : q.length = m) (hr0 : Kd.C (Kd.int .i64) w A0 n p) (hr1 : Kd.C (Kd.int .i64) w A1 m q) (hw0 : Wf p) (hw1 : Wf q) (E : Int) (hE : bothE p q = E) (h0 : E ≠ 0) : Calls Try.prog 31 #[.slice A0 n c0, .slice A1 m c1] w fun e w' => e = .returned (.tuple #[.slice none 0 0, .int .i64 E]) ∧ Below w.heap.size w w' := by
  subst hn hm
  exact nob31 A0 c0 p A1 c1 q w hr0 hr1 hw0 hw1 E hE h0
theorem nobN32 (A0 : Option Addr) (c0 n : Nat) (p : List Int) (A1 : Option Addr) (c1 m : Nat) (q : List Int) (w : World) (hn : p.length = n) (hm : q.length = m) (hr0 : Kd.C (Kd.int .i64) w A0 n p) (hr1 : Kd.C (Kd.int .i64) w A1 m q) (hw0 : Wf p) (hw1 : Wf q) (E : Int) (hE : bothE p q = E) (h0 : E ≠ 0) : Calls Try.prog 32 #[.slice A0 n c0, .slice A1 m c1] w fun e w' => e = .returned (.tuple #[.bool false, .int .i64 E]) ∧ Below w.heap.size w w' := by
  subst hn hm
  exact nob32 A0 c0 p A1 c1 q w hr0 hr1 hw0 hw1 E hE h0
theorem noN35 (A0 : Option Addr) (c0 n : Nat) (p : List Int) (A1 : Option Addr) (c1 m : Nat) (next : List (List Int)) (w : World) (hn : p.length = n) (hm : next.length = m) (hr0 : Kd.C (Kd.int .i64) w A0 n p) (hr1 : Kd.C (Kd.slice 3 (Kd.int .i64)) w A1 m next) (hw0 : Wf p) (E : Int) (hE : wrongE p next = E) (h0 : E ≠ 0) : Calls Try.prog 35 #[.slice A0 n c0, .slice A1 m c1] w fun e w' => e = .returned (.tuple #[.slice none 0 0, .int .i64 E]) ∧ Below w.heap.size w w' := by
  subst hn hm
  exact no35 A0 c0 p A1 c1 next w hr0 hr1 hw0 E hE h0
theorem noN29 (A0 : Option Addr) (c0 n : Nat) (p : List Int) (A1 : Option Addr) (c1 m : Nat) (next : List (List Int)) (w : World) (hn : p.length = n) (hm : next.length = m) (hr0 : Kd.C (Kd.int .i64) w A0 n p) (hr1 : Kd.C (Kd.slice 3 (Kd.int .i64)) w A1 m next) (hw0 : Wf p) (E : Int) (hE : wrongE p next = E) (h0 : E ≠ 0) : Calls Try.prog 29 #[.slice A0 n c0, .slice A1 m c1] w fun e w' => e = .returned (.tuple #[.bool false, .int .i64 E]) ∧ Below w.heap.size w w' := by
  subst hn hm
  exact no29 A0 c0 p A1 c1 next w hr0 hr1 hw0 E hE h0
theorem noN27 (A0 : Option Addr) (c0 n : Nat) (p : List Int) (A1 : Option Addr) (c1 m : Nat) (next : List (List Int)) (w : World) (hn : p.length = n) (hm : next.length = m) (hr0 : Kd.C (Kd.int .i64) w A0 n p) (hr1 : Kd.C (Kd.slice 3 (Kd.int .i64)) w A1 m next) (hw0 : Wf p) (E : Int) (hE : wrongE p next = E) (h0 : E ≠ 0) : Calls Try.prog 27 #[.slice A0 n c0, .slice A1 m c1] w fun e w' => e = .returned (.tuple #[.slice none 0 0, .int .i64 0, .int .i64 E]) ∧ Below w.heap.size w w' := by
  subst hn hm
  exact no27 A0 c0 p A1 c1 next w hr0 hr1 hw0 E hE h0
theorem noN28 (A0 : Option Addr) (c0 n : Nat) (p : List Int) (A1 : Option Addr) (c1 m : Nat) (next : List (List Int)) (w : World) (hn : p.length = n) (hm : next.length = m) (hr0 : Kd.C (Kd.int .i64) w A0 n p) (hr1 : Kd.C (Kd.slice 3 (Kd.int .i64)) w A1 m next) (hw0 : Wf p) (E : Int) (hE : wrongE p next = E) (h0 : E ≠ 0) : Calls Try.prog 28 #[.slice A0 n c0, .slice A1 m c1] w fun e w' => e = .returned (.tuple #[.slice none 0 0, .int .i64 E]) ∧ Below w.heap.size w w' := by
  subst hn hm
  exact no28 A0 c0 p A1 c1 next w hr0 hr1 hw0 E hE h0
theorem countNoN (A0 : Option Addr) (c0 n : Nat) (p : List Int) (w : World) (hn : p.length = n) (hr0 : Kd.C (Kd.int .i64) w A0 n p) (hw0 : Wf p) (hp : ¬ rightP p) : Calls Try.prog 34 #[.slice A0 n c0] w fun e w' => e = .returned (.tuple #[.int .i64 0, .int .i64 60]) ∧ Below w.heap.size w w' := by
  subst hn
  exact countNo A0 c0 p w hr0 hw0 hp
theorem membersNoN (A0 : Option Addr) (c0 n : Nat) (p : List Int) (w : World) (hn : p.length = n) (hr0 : Kd.C (Kd.int .i64) w A0 n p) (hw0 : Wf p) (hp : ¬ rightP p) : Calls Try.prog 36 #[.slice A0 n c0] w fun e w' => e = .returned (.tuple #[.slice none 0 0, .int .i64 60]) ∧ Below w.heap.size w w' := by
  subst hn
  exact members_no A0 c0 p w hr0 hw0 hp
theorem rightNoN (A0 : Option Addr) (c0 n : Nat) (p : List Int) (w : World) (hn : p.length = n) (hr0 : Kd.C (Kd.int .i64) w A0 n p) (hw0 : Wf p) (hp : ¬ rightP p) : Calls Try.prog 37 #[.slice A0 n c0] w fun e w' => e = .returned (.bool false) ∧ Below w.heap.size w w' := by
  subst hn
  exact rightB A0 c0 p w hr0 hw0 false (decide_eq_false hp)
/-- The list while it is counted up: the first i elements are done. -/
def mix (m : List Int) (i : Nat) : List Int := (ahead m).take i ++ ((0 : Int) :: m).drop i
theorem mix_one (m : List Int) : mix m 1 = 0 :: m := by simp [mix, ahead]
theorem mix_end (m : List Int) : mix m (m.length + 1) = ahead m := by
  have h1 : (ahead m).take (m.length + 1) = ahead m := List.take_of_length_le (by rw [ahead_length]; omega)
  have h2 : ((0 : Int) :: m).drop (m.length + 1) = [] := List.drop_of_length_le (by simp)
  rw [mix, h1, h2, List.append_nil]
theorem mix_length (m : List Int) (i : Nat) (h : i ≤ m.length + 1) : (mix m i).length = m.length + 1 := by
  simp [mix, ahead_length]
  omega
theorem mix_at (m : List Int) (i : Nat) (h0 : 1 ≤ i) (h : i < m.length + 1) : (mix m i)[i]'(by rw [mix_length _ _ (by omega)]; exact h) = m[i - 1]'(by omega) := by
  have hl : ((ahead m).take i).length = i := by rw [List.length_take, ahead_length]; omega
  obtain ⟨j, rfl⟩ : ∃ j, i = j + 1 := ⟨i - 1, by omega⟩
  simp only [mix]
  rw [List.getElem_append_right (by omega)]
  simp [hl]
theorem mix_set (m : List Int) (i : Nat) (h0 : 1 ≤ i) (h : i < m.length + 1) : (mix m i).set i (m[i - 1]'(by omega) + 1) = mix m (i + 1) := by
  have hl : ((ahead m).take i).length = i := by rw [List.length_take, ahead_length]; omega
  obtain ⟨j, rfl⟩ : ∃ j, i = j + 1 := ⟨i - 1, by omega⟩
  have hj : j < m.length := by omega
  have e1 : (ahead m).take (j + 1 + 1) = (ahead m).take (j + 1) ++ [m[j] + 1] := by
    rw [List.take_succ_eq_append_getElem (by rw [ahead_length]; omega)]
    simp [ahead]
  have e2 : ((0 : Int) :: m).drop (j + 1) = m[j] :: m.drop (j + 1) := by
    rw [List.drop_succ_cons, List.drop_eq_getElem_cons hj]
  unfold mix
  rw [e1, e2, List.set_append_right _ _ (by omega), hl, Nat.sub_self]
  simp
  rw [List.drop_eq_getElem_cons hj]
  rfl
/-- next[1:] of rows. -/
theorem drop_rows (A : Option Addr) (N c : Nat) (ls : List (List Int)) (hN : ls.length = N) (h1 : 1 ≤ N) (hc : N ≤ c) (w : World) (h : Kd.C (Kd.slice 3 (Kd.int .i64)) w A N ls) :
    ∃ A' : Option Addr, (∀ W : World, (Instr.slice 36 (.slice A N c) (some (.int .i64 1)) none none).run Try.prog W = .ok (.slice A' (N - 1) (c - 1)) W) ∧ Kd.C (Kd.slice 3 (Kd.int .i64)) w A' (N - 1) (ls.drop 1) := by
  subst hN
  refine ⟨if c = 1 then A else A.map (·.add 1), fun W => ?_, ?_⟩
  · obtain ⟨i, hi, hzz⟩ := Option.map_eq_some_iff.1 info22
    simp only [Prod.mk.injEq] at hzz
    have hu : Try.prog.underlying 36 = some (.slice (Try.prog.elem 36)) := by simp [Program.elem, Try.underlying36]
    have hel : Try.prog.elem 36 = 22 := by simp [Program.elem, Try.underlying36]
    refine (run_slice_l W 36 A ls.length c hu .i64 ((1 : Nat) : Int) (by omega) (by omega)).trans ?_
    rw [hel]
    simp [sizeOf, typeInfo, hi, hzz.2.1, sliced, Result.andThen]
  · have := Kd.C_drop h h1 hc
    rwa [List.length_drop, show (Kd.slice 3 (Kd.int .i64)).sz = 1 from rfl, Nat.mul_one] at this
/-- The rows that a literal is put into. -/
theorem rows_put {w0 W : World} {base g n c i : Nat} {ls : List (List Int)} {vs : List Value} {u : Value} {p : List Int} (h : Rows w0 base W (some ⟨g, 0, none⟩) n c vs ls) (hi : i < n) (hu : W.ownsRow base 3 1 u p.length (encs (Value.int .i64) p))
    (hne : ∀ v ∈ vs, v.ownBlock = none) (hg : base ≤ g) : Rows w0 base (W.setCell ⟨g, i, none⟩ u) (some ⟨g, 0, none⟩) n c (vs.set i u) (ls.set i p) := by
  have hlen := h.vlen
  have ho := (h.outer.stored i u).1
  have hgr := (h.outer.stored i u).2
  have hub : ∀ b, u.ownBlock = some b → b ≠ g := by
    rintro b hb rfl
    rcases own_type_ne hu h.outer (by decide) with h1 | h1
    · rw [h1] at hb; cases hb
    · exact h1 (hb.trans rfl)
  refine ⟨by rw [List.length_set]; exact h.len, ho, ?_, ?_, h.below.setCell (p := ⟨g, i, none⟩) hg u⟩
  · intro b hb hb1 hb2
    by_cases e : b = i
    · subst e
      simp only [List.getElem_set_self]
      refine own_move hu fun k hk => Below.heap_setCell W ⟨g, b, none⟩ u k (hub k hk)
    · rw [List.getElem_set_ne (Ne.symm e)]
      simp only [List.getElem_set_ne (Ne.symm e)]
      have hb1' : b < vs.length := by simpa using hb1
      have hb2' : b < ls.length := by simpa using hb2
      refine own_move (h.inner b hb hb1' hb2') fun k hk => ?_
      rw [hne _ (List.getElem_mem hb1')] at hk
      cases hk
  · intro a b ha hb hab
    by_cases ea : a = i
    · subst ea
      rw [List.getElem_set_self, List.getElem_set_ne hab, hne _ (List.getElem_mem (by simpa using hb))]
      by_cases h0 : u.ownBlock = none
      · exact .inl h0
      · exact .inr h0
    · left
      rw [List.getElem_set_ne (Ne.symm ea)]
      exact hne _ (List.getElem_mem (by simpa using ha))
end Go.Proofs.Ytboofecfmhbacaa

/- The walk of the law BlocksWrong. -/
namespace Go.Proofs.Ytboofecfmhbacaa
open Go.RowKit Go.WideMaps Go.Maps Go.Proofs.YtboofecfmhbacaaW.PrintWords Go.Proofs.YtboofecfmhbacaaW.PrintLast Go.Proofs.YtboofecfmhbacaaW.PrintMore
attribute [local go_sem] max_two min_two max_three min_three
set_option linter.unusedVariables false
set_option linter.unusedSimpArgs false

theorem max2_int' (a b : Int) : ∃ m, Builtin.max2 (.int .i64 a) (.int .i64 b) = pure (.int .i64 m) ∧ a ≤ m ∧ b ≤ m ∧ (m = a ∨ m = b) := by
  rw [max2_int]
  by_cases h : a < b
  · exact ⟨b, by rw [if_pos h], by omega, by omega, .inr rfl⟩
  · exact ⟨a, by rw [if_neg h], by omega, by omega, .inl rfl⟩
theorem min2_int' (a b : Int) : ∃ m, Builtin.min2 (.int .i64 a) (.int .i64 b) = pure (.int .i64 m) ∧ m ≤ a ∧ m ≤ b ∧ (m = a ∨ m = b) := by
  rw [min2_int]
  by_cases h : b < a
  · exact ⟨b, by rw [if_pos h], by omega, by omega, .inr rfl⟩
  · exact ⟨a, by rw [if_neg h], by omega, by omega, .inl rfl⟩
theorem nil_rows (w : World) : Kd.C (Kd.slice 3 (Kd.int .i64)) w none 0 [] := ⟨rfl, by omega, fun h => absurd h (Nat.lt_irrefl 0)⟩
theorem R_lit (W : World) (l : List Int) (cs : Array Value) (hcs : cs = (encs (Value.int .i64) l).toArray) (hm : l.length ≤ maxLen) : Kd.R (Kd.int .i64) 3 (W.alloc (.cells cs 3)) W.heap.size (fun _ => True) (.slice (some ⟨W.heap.size, 0, none⟩) l.length l.length) l := by
  subst hcs
  have h := World.ownsRow_lit (base := W.heap.size) (e := 3) (size := 1) W (encs (Value.int .i64) l).toArray l.length (Nat.le_refl _) hm (by simp [encs])
  exact Kd.R_of_own (h1 := fun _ => rfl) (enc := Value.int .i64) h (fun _ _ => trivial)

theorem R_int_at {w : World} {base g N cp : Nat} {ok : Nat → Prop} {l : List Int} (h : Kd.R (Kd.int .i64) 3 w base ok (.slice (some ⟨g, 0, none⟩) N cp) l) (hl : l.length = N) (j : Nat) (hj : j < N) : w.cell? ⟨g, j, none⟩ = some (.int .i64 (l[j]'(by omega))) ∧ w.frozen? ⟨g, j, none⟩ = false := by
  subst hl
  obtain ⟨h1, h2⟩ := own_at_of (enc := Value.int .i64) (d := (0 : Int)) (Kd.own_of_R h) (j : Int) (by omega) (by omega)
  rw [rdOf, Int.toNat_natCast, List.getD_eq_getElem?_getD, List.getElem?_eq_getElem hj] at h1
  rw [Int.toNat_natCast] at h2
  exact ⟨h1, h2⟩
theorem cloneN (A0 : Option Addr) (c0 N : Nat) (l : List Int) (w : World) (hl : l.length = N) (hN : N ≤ 1000) (hr : Kd.C (Kd.int .i64) w A0 N l) : Calls Try.prog 15 #[.slice A0 N c0] w fun e w' => ∃ v, e = .returned v ∧ Kd.R (Kd.int .i64) 3 w' w.heap.size (fun _ => True) v l ∧ Below w.heap.size w w' := by
  subst hl
  exact clone_walk A0 c0 l w hr (by omega)
theorem blk_move {w w1 : World} {base g N cp : Nat} {p : List Int} (hR : Kd.R (Kd.int .i64) 3 w base (fun _ => True) (.slice (some ⟨g, 0, none⟩) N cp) p) (h : w1.heap[g]? = w.heap[g]?) : Kd.R (Kd.int .i64) 3 w1 base (fun _ => True) (.slice (some ⟨g, 0, none⟩) N cp) p := by
  refine Kd.R_move (Kd.R_mono (ok' := fun k => k = g) (w := w) ?_ (fun k hk => hk)) (fun k hk => by rw [hk]; exact h) |> fun h => Kd.R_mono h (fun _ _ => trivial)
  exact ⟨fun k hk => by simpa [Value.ownBlock] using hk.symm, hR.2.imp_ (fun _ _ hp => hp)⟩
theorem blk_bound {w : World} {base g N cp : Nat} {p : List Int} (hR : Kd.R (Kd.int .i64) 3 w base (fun _ => True) (.slice (some ⟨g, 0, none⟩) N cp) p) (h : 0 < N) : g < w.heap.size := by
  obtain ⟨g', e, _, h⟩ := R_addr hR h
  cases e
  exact h
theorem two_lits {w0 w10 : World} {base g n i : Nat} (h : Rows w0 base w10 (some ⟨g, 0, none⟩) n n (List.replicate n (.slice none 0 0)) (List.replicate n [])) (hb : base ≤ w10.heap.size) (hi : i < n) (hg : base ≤ g) (a b y : Int) :
    Rows w0 base (((w10.setCell ⟨g, i, none⟩ (.slice (some ⟨w10.heap.size + 1, 0, none⟩) 2 2)).alloc (.cells #[.int .i64 a, .int .i64 b] 3)).alloc (.cells #[.int .i64 0, .int .i64 y] 3)) (some ⟨g, 0, none⟩) n n ((List.replicate n (.slice none 0 0)).set i (.slice (some ⟨w10.heap.size + 1, 0, none⟩) 2 2)) ((List.replicate n []).set i [0, y]) := by
  have h1 := (h.lift (lit_below w10 (.cells #[.int .i64 a, .int .i64 b] 3)) hb).lift (lit_below _ (.cells #[.int .i64 0, .int .i64 y] 3)) (by simp; omega)
  have hl := R_lit (w10.alloc (.cells #[.int .i64 a, .int .i64 b] 3)) [0, y] _ rfl (by show 2 ≤ maxLen; decide)
  rw [World.size_alloc] at hl
  have hgl : g < w10.heap.size := World.block_lt_of_cell? w10 _ (h.cell i hi).1
  rw [← World.setCell_alloc_past _ g i _ (by exact hgl), ← World.setCell_alloc_past _ g i _ (by simp; omega)]
  refine rows_put h1 hi (own_weaken (Kd.own_of_R hl) (by omega)) ?_ hg
  intro v hv
  rw [(List.mem_replicate.1 hv).2]
  rfl
theorem two_blk (w10 : World) (g NG i : Nat) (o o' : Obj) (u : Value) (h : g < w10.heap.size) (hne : g ≠ NG) : (((w10.setCell ⟨NG, i, none⟩ u).alloc o).alloc o').heap[g]? = w10.heap[g]? := by
  rw [Below.heap_alloc _ _ g (by simp; omega), Below.heap_alloc _ _ g (by simp; omega), Below.heap_setCell _ _ _ g hne]
/-- What a partition with a defect, and lists of what comes next with one, are told. -/
theorem wrong_facts {N i : Nat} {p q : List Int} {y : Int} (hp : PartN N p) (hq : PartN (N - 1) q) (hi : i < N) (hN : 1 ≤ N) (hy : y < 0 ∨ (N : Int) ≤ y) :
    wrongE p ((List.replicate N ([] : List Int)).set i [0, y]) = 61 ∧ wrongE p (((List.replicate N ([] : List Int)).set i [0, y]).drop 1) = 61 ∧ wrongE p (((List.replicate N ([] : List Int)).set i [0, y]) ++ [[]]) = 61 ∧ bothE p q = 2 ∧ bothE q p = 2 := by
  have h1 : ¬ nextP p.length ((List.replicate N ([] : List Int)).set i [0, y]) := fun h => by
    have h2 := (h.2 [0, y] (List.mem_iff_getElem.2 ⟨i, by simpa using hi, by simp⟩)).2 y (by simp)
    rw [hp.len] at h2
    omega
  have h2 : ¬ nextP p.length (((List.replicate N ([] : List Int)).set i [0, y]).drop 1) := fun h => by
    have := h.1
    rw [hp.len] at this
    simp at this
    omega
  have h3 : ¬ nextP p.length (((List.replicate N ([] : List Int)).set i [0, y]) ++ [[]]) := fun h => by
    have := h.1
    rw [hp.len] at this
    simp at this
  have e1 := hp.len
  have e2 := hq.len
  refine ⟨by simp [wrongE, hp.right, h1], by simp only [wrongE, hp.right, not_true_eq_false, if_false, h2, not_false_eq_true, if_true], by simp only [wrongE, hp.right, not_true_eq_false, if_false, h3, not_false_eq_true, if_true], ?_, ?_⟩
  · simp only [bothE, hp.right, hq.right, not_true_eq_false, or_self, if_false]
    rw [if_pos (by omega)]
  · simp only [bothE, hp.right, hq.right, not_true_eq_false, or_self, if_false]
    rw [if_pos (by omega)]
theorem bad_facts {N i : Nat} {p : List Int} {x : Int} (hp : PartN N p) (hi : i < N) (hx : x < 0 ∨ (N : Int) ≤ x) :
    ¬ rightP (p.set i x) ∧ bothE (p.set i x) p = 60 ∧ bothE p (p.set i x) = 60 ∧ wrongE (p.set i x) [] = 60 := by
  have h : ¬ rightP (p.set i x) := bad_right (by rw [hp.len]; exact hi) (by rw [hp.len]; exact hx)
  refine ⟨h, by simp [bothE, h], by simp [bothE, h], by simp [wrongE, h]⟩
theorem ahead_part {n : Nat} {m : List Int} (hm : PartN n m) (hn : n ≤ 30) : PartN (n + 1) (ahead m) := ⟨ahead_right hm.right (by have := hm.len; omega), by rw [ahead_length, hm.len]⟩
theorem part_take {N : Nat} {p : List Int} (hp : PartN N p) : PartN (N - 1) (p.take (N - 1)) := ⟨hp.right.take _, by rw [List.length_take, hp.len]; omega⟩

set_option maxRecDepth 100000 in
set_option maxHeartbeats 16000000 in
theorem blocksWrong_walk (A0 : Option Addr) (c0 : Nat) (k : List Int) (how at_0 nn : Int) (w : World) (hr0 : Kd.C (Kd.int .u8) w A0 k.length k) (hw0 : ∀ y ∈ k, (Lit.int .u8 y).wf = true) (hc0 : k.length ≤ c0) (hhow : (Lit.int .u8 how).wf = true) (hat : (Lit.int .u8 at_0).wf = true) (hnn : (Lit.int .i64 nn).wf = true) :
    Calls Try.prog 12 #[.slice A0 k.length c0, .int .u8 how, .int .u8 at_0, .int .i64 nn] w fun e w' => e = .returned (.bool true) ∧ Below w.heap.size w w' := by
  have HA := Aside0.mk (Kd.C_below hr0 (lit_below w (.cells #[.int .i64 0] 3)))
  have HKW := Aside0.mk hw0
  have HL0 := Aside0.mk (R_lit w [0] _ rfl (by decide))
  have HBL := Aside0.mk (lit_below w (.cells #[.int .i64 0] 3))
  have hhow' := Go.bounds_u8 hhow
  have hat' := Go.bounds_u8 hat
  have HNN := Aside0.mk hnn
  clear hr0 hw0 hhow hat hnn
  go_enter Try.func12, Try.ntmps12
  go_wp2_with (first
    | (go_at_call 25; refine (makeN A0 c0 k _ HA.out HKW.out hc0).mono ?_; rintro e w1 ⟨n, A2, c2, m, rfl, hn30, hm, hC, hB⟩; have FM := Aside0.mk hC; have HM := Aside0.mk hm; have HB1 := Aside0.mk (HBL.out.trans (hB.mono (by simp))); have HL1 := Aside0.mk (Kd.R_below HL0.out hB); clear hC hm hB HA HL0)
    | (at_builtin; refine Kd.R_append_rows (Kd.int .i64) (w0 := w) (W := w1) w.heap.size rfl (.tmp 28) (.tmp 30) 22 3 (.int .i64 0) 8 rfl Try.underlying22 info3 rfl (by decide) (by decide) (.slice (some ⟨w.heap.size, 0, none⟩) 1 1) [0] m A2 n c2 (fun _ => True) (fun k => True ∧ some k ≠ (Value.slice (some ⟨w.heap.size, 0, none⟩) 1 1).ownBlock) rfl rfl HL1.out FM.out (fun _ _ h => h) (fun _ h => h) (fun _ _ => trivial) HB1.out HB1.out.size (by simp; omega) ?_; rintro v1 w2 hR hB _ _; have HR2 := Aside0.mk hR; have HB2 := Aside0.mk hB; clear hR hB))
  have hml := HM.out.len
  obtain ⟨N, hN⟩ : ∃ N, N = n + 1 := ⟨_, rfl⟩
  obtain ⟨A, cp, rfl⟩ := R_shape (n := N) HR2.out (by simp; omega)
  obtain ⟨g, rfl, hgb, hgl⟩ := R_addr HR2.out (by omega)
  have HR3 := Aside0.mk (show Kd.R (Kd.int .i64) 3 w2 w.heap.size (fun _ => True) (.slice (some ⟨g, 0, none⟩) N cp) (mix m 1) by rw [mix_one]; exact HR2.out)
  have HNE := Aside0.mk hN
  have hN31 : N ≤ 31 := by omega
  have hN1 : 1 ≤ N := by omega
  have HML := Aside0.mk hml
  clear hml hN HR2 HL1 hgl
  go_wp2
  go_loopw [10] (fun i wr => ∃ (j : Nat), i = .int .i64 j ∧ Aside0 (1 ≤ j ∧ j ≤ N ∧ Kd.R (Kd.int .i64) 3 wr w.heap.size (fun _ => True) (.slice (some ⟨g, 0, none⟩) N cp) (mix m j) ∧ Below w.heap.size w wr)) (fun i _ => N - (intOf i).toNat)
  case atStart => exact ⟨1, rfl, Nat.le_refl _, by omega, HR3.out, HB2.out⟩
  case round =>
    obtain ⟨j, rfl, HI⟩ := hrel
    have hj1 := HI.out.1
    have hj2 := HI.out.2.1
    by_cases hj : j < N
    · have hjm : j - 1 < m.length := by rw [HML.out]; have := HNE.out; omega
      have hjl : j < (mix m j).length := by rw [mix_length _ _ (by have := HNE.out; have := HML.out; omega)]; have := HNE.out; have := HML.out; omega
      have hjx : (mix m j).length = N := by rw [mix_length _ _ (by have := HNE.out; have := HML.out; omega)]; have := HNE.out; have := HML.out; omega
      obtain ⟨hcell, hfro⟩ := R_int_at HI.out.2.2.1 hjx j hj
      rw [mix_at m j hj1 (by have := HNE.out; have := HML.out; omega)] at hcell
      have hmb := HM.out.right.bounds m[j - 1] (List.getElem_mem hjm)
      have hmn : m.length ≤ 30 := by rw [HML.out]; exact hn30
      have HS := Aside0.mk (mix_set m j hj1 (by have := HNE.out; have := HML.out; omega))
      obtain ⟨y, hy⟩ : ∃ y, y = m[j - 1] := ⟨_, rfl⟩
      rw [← hy] at hcell hmb HS
      have hy0 : 0 ≤ y := hmb.1
      have hy1 : y ≤ 30 := by omega
      clear hmb hy hjm hjl hjx hmn
      have HP := Aside0.mk (And.intro (Kd.R_putg (h1 := fun _ => rfl) (enc := Value.int .i64) HI.out.2.2.1 (j : Int) (y + 1)).1 (HI.out.2.2.2.setCell (p := ⟨g, j, none⟩) hgb (.int .i64 (y + 1))))
      go_wp2
      go_roundw
      case rel =>
        have h := HP.out
        rw [Int.toNat_natCast, HS.out] at h
        exact ⟨j + 1, by go_num, by omega, by omega, h.1, h.2⟩
      case measure => simp [intOf]; omega
    · have hjN : j = N := by omega
      subst hjN
      have HPP := Aside0.mk (show PartN j (ahead m) by rw [HNE.out]; exact ahead_part HM.out hn30)
      have HRP := Aside0.mk (show Kd.R (Kd.int .i64) 3 wr w.heap.size (fun _ => True) (.slice (some ⟨g, 0, none⟩) j cp) (ahead m) by
        have h := HI.out.2.2.1
        rwa [HNE.out, ← HML.out, mix_end, HML.out, ← HNE.out] at h)
      have HB3 := Aside0.mk HI.out.2.2.2
      clear HI HR3 HM HNE HML
      obtain ⟨N, rfl⟩ : ∃ N, N = j := ⟨_, rfl⟩
      generalize ahead m = p at HPP HRP
      have hpc : N ≤ cp := (R_len HRP.out).2.1
      have HCP := Aside0.mk (R_len HRP.out).2.2
      have hi0 : 0 ≤ at_0 % (N : Int) := Int.emod_nonneg _ (by omega)
      have hi1 : at_0 % (N : Int) < (N : Int) := Int.emod_lt_of_pos _ (by omega)
      obtain ⟨i, hie⟩ : ∃ i : Nat, at_0 % (N : Int) = i := ⟨(at_0 % (N : Int)).toNat, by omega⟩
      rw [hie] at hi0 hi1
      have hiN : i < N := by omega
      have hmk := print_make_of 36 22 (.slice none 0 0) 24 Try.underlying36 info22 rfl (by decide) N (by omega)
      obtain ⟨mn, hmn, hmn1, hmn2, hmn3⟩ := min2_int' nn (-1)
      obtain ⟨mx, hmx, hmx1, hmx2, hmx3⟩ := max2_int' nn (N : Int)
      have hwn := Go.bounds_i64 HNN.out
      have HPL := Aside0.mk HPP.out.len
      have HPW := Aside0.mk HPP.out.right.small.wf
      have HNX := Aside0.mk (fun W hB hb => Rows.made w W w.heap.size N hB hb (by omega))
      obtain ⟨M, hM⟩ : ∃ M, N = M + 1 := ⟨N - 1, by omega⟩
      have hNM : (N : Int) - 1 = (M : Int) := by omega
      obtain ⟨hcut, hCC⟩ := cut_ints (k := .i64) Try.underlying22 info3 (some ⟨g, 0, none⟩) cp p M (by rw [HPL.out]; omega) (by rw [HPL.out]; exact hpc)
      rw [HPL.out] at hcut hCC
      have HCT := Aside0.mk hCC
      have HNM := Aside0.mk hM
      have HTL := Aside0.mk (show (p.take M).length = M by rw [List.length_take, HPL.out]; omega)
      have HTP := Aside0.mk (show PartN M (p.take M) by have h := part_take HPP.out; rw [hM] at h; simpa using h)
      have ht0 : 0 ≤ how / 2 % 2 := by omega
      have ht1 : how / 2 % 2 < 2 := by omega
      have HDN := Aside0.mk (show mn < 0 ∨ (N : Int) ≤ mn by omega)
      have HDX := Aside0.mk (show mx < 0 ∨ (N : Int) ≤ mx by omega)
      have HWN := Aside0.mk (show (Lit.int .i64 mn).wf = true from WalkArith.wf_i64 (by omega))
      have HWX := Aside0.mk (show (Lit.int .i64 mx).wf = true from WalkArith.wf_i64 (by omega))
      clear hCC hM
      have HNG := Aside0.mk (HNX.out wr HB3.out HB3.out.size)
      have HW0 := Aside0.mk (And.intro (lit_below wr (.cells (madeCells #[.slice none 0 0] N) 22)) (HB3.out.trans ((lit_below wr (.cells (madeCells #[.slice none 0 0] N) 22)).mono HB3.out.size)))
      have HCL := Aside0.mk (cloneN (some ⟨g, 0, none⟩) cp N p _ HPL.out (by omega) (Kd.C_below HCP.out HW0.out.1))
      have hwrg : g < wr.heap.size := by
        obtain ⟨g', e, _, h⟩ := R_addr HRP.out (by omega)
        cases e
        exact h
      clear HNX hmx1 hmx2 hmx3 hmn1 hmn2 hmn3
      by_cases hev : how % 2 = 0
      · by_cases ho2 : how / 2 % 2 = 0
        · skip
          have g1 : (how % 2 == 0) = true := beq_iff_eq.mpr hev
          have g2 : how / 2 % 2 = 0 := by omega
          have HBF := Aside0.mk (bad_facts HPP.out hiN HDN.out)
          have HWF := Aside0.mk (wrong_facts HPP.out (show PartN (N - 1) (p.take M) by rw [show N - 1 = M by have := HNM.out; omega]; exact HTP.out) hiN hN1 HDN.out)
          have HQL := Aside0.mk (show (p.set i mn).length = N by rw [List.length_set]; exact HPL.out)
          have HQW := Aside0.mk (show Wf (p.set i mn) from fun z hz => by rcases List.mem_or_eq_of_mem_set hz with h | h; (exact HPW.out z h); (rw [h]; exact HWN.out))
          have HTW := Aside0.mk (show Wf (p.take M) from HTP.out.right.small.wf)
          have HNSL := Aside0.mk (show ((List.replicate N ([] : List Int)).set i [0, mn]).length = N by simp)
          clear hev ho2 ht0 ht1
          go_wp2_with (first
            | (go_at_call 15; refine HCL.out.mono ?_; rintro e w3 ⟨v3, rfl, hR, hB⟩; obtain ⟨A3, c3, rfl⟩ := R_shape (n := N) hR HPL.out; obtain ⟨g3, rfl, hg3b, hg3l⟩ := R_addr hR (by omega); obtain ⟨hc3, hf3⟩ := R_int_at hR HPL.out i hiN; have hput := (Kd.R_putg (h1 := fun _ => rfl) (enc := Value.int .i64) hR (i : Int) mn).1; rw [Int.toNat_natCast] at hput; have FQ := Aside0.mk (R_len hput).2.2; have HBV := Aside0.mk (hB.setCell (p := ⟨g3, i, none⟩) hg3b (.int .i64 mn)); have FR := Aside0.mk (Kd.R_below (Kd.R_below HRP.out HW0.out.1) HBV.out); have NG := Aside0.mk (HNG.out.lift HBV.out HW0.out.2.size); have HW := Aside0.mk (HW0.out.2.trans (HBV.out.mono HW0.out.2.size)); have HB_0 := Aside0.mk (Below.refl (w3.setCell ⟨g3, i, none⟩ (.int .i64 mn)).heap.size (w3.setCell ⟨g3, i, none⟩ (.int .i64 mn))); clear hput hR hB HCL HNG HBV hg3l)
            | (go_at_call 34; refine (countNoN (some ⟨g3, 0, none⟩) c3 N (p.set i mn) _ HQL.out (Kd.C_below FQ.out HB_0.out) HQW.out HBF.out.1).mono ?_; rintro e w4 ⟨rfl, hB⟩; clear hc3 hf3; have HB_1 := Aside0.mk (HB_0.out.trans (hB.mono HB_0.out.size)); clear hB HB_0)
            | (go_at_call 36; refine (membersNoN (some ⟨g3, 0, none⟩) c3 N (p.set i mn) _ HQL.out (Kd.C_below FQ.out HB_1.out) HQW.out HBF.out.1).mono ?_; rintro e w5 ⟨rfl, hB⟩; have HB_2 := Aside0.mk (HB_1.out.trans (hB.mono HB_1.out.size)); clear hB HB_1)
            | (go_at_call 30; refine (nobN30 (some ⟨g3, 0, none⟩) c3 N (p.set i mn) (some ⟨g, 0, none⟩) cp N p _ HQL.out HPL.out (Kd.C_below FQ.out HB_2.out) (R_len (Kd.R_below FR.out HB_2.out)).2.2 HQW.out HPW.out 60 HBF.out.2.1 (by decide)).mono ?_; rintro e w6 ⟨rfl, hB⟩; have HB_3 := Aside0.mk (HB_2.out.trans (hB.mono HB_2.out.size)); clear hB HB_2)
            | (go_at_call 31; refine (nobN31 (some ⟨g, 0, none⟩) cp N p (some ⟨g3, 0, none⟩) c3 N (p.set i mn) _ HPL.out HQL.out (R_len (Kd.R_below FR.out HB_3.out)).2.2 (Kd.C_below FQ.out HB_3.out) HPW.out HQW.out 60 HBF.out.2.2.1 (by decide)).mono ?_; rintro e w7 ⟨rfl, hB⟩; have HB_4 := Aside0.mk (HB_3.out.trans (hB.mono HB_3.out.size)); clear hB HB_3)
            | (go_at_call 32; refine (nobN32 (some ⟨g, 0, none⟩) cp N p (some ⟨g3, 0, none⟩) c3 N (p.set i mn) _ HPL.out HQL.out (R_len (Kd.R_below FR.out HB_4.out)).2.2 (Kd.C_below FQ.out HB_4.out) HPW.out HQW.out 60 HBF.out.2.2.1 (by decide)).mono ?_; rintro e w8 ⟨rfl, hB⟩; have HB_5 := Aside0.mk (HB_4.out.trans (hB.mono HB_4.out.size)); clear hB HB_4)
            | (go_at_call 35; refine (noN35 (some ⟨g3, 0, none⟩) c3 N (p.set i mn) none 0 0 [] _ HQL.out rfl (Kd.C_below FQ.out HB_5.out) (nil_rows _) HQW.out 60 HBF.out.2.2.2 (by decide)).mono ?_; rintro e w9 ⟨rfl, hB⟩; have HB_6 := Aside0.mk (HB_5.out.trans (hB.mono HB_5.out.size)); clear hB HB_5)
            | (go_at_call 28; refine (noN28 (some ⟨g3, 0, none⟩) c3 N (p.set i mn) none 0 0 [] _ HQL.out rfl (Kd.C_below FQ.out HB_6.out) (nil_rows _) HQW.out 60 HBF.out.2.2.2 (by decide)).mono ?_; rintro e wa ⟨rfl, hB⟩; have HB_7 := Aside0.mk (HB_6.out.trans (hB.mono HB_6.out.size)); clear hB HB_6)
            | (go_at_call 37; refine (rightNoN (some ⟨g3, 0, none⟩) c3 N (p.set i mn) _ HQL.out (Kd.C_below FQ.out HB_7.out) HQW.out HBF.out.1).mono ?_; rintro e wb ⟨rfl, hB⟩; have HB_8 := Aside0.mk (HB_7.out.trans (hB.mono HB_7.out.size)); clear hB HB_7)
            | (go_at_call 30; refine (nobN30 (some ⟨g, 0, none⟩) cp N p (some ⟨g, 0, none⟩) cp M (p.take M) _ HPL.out HTL.out (R_len (Kd.R_below FR.out HB_8.out)).2.2 (HCT.out _ (R_len (Kd.R_below FR.out HB_8.out)).2.2) HPW.out HTW.out 2 HWF.out.2.2.2.1 (by decide)).mono ?_; rintro e wc ⟨rfl, hB⟩; have HB_9 := Aside0.mk (HB_8.out.trans (hB.mono HB_8.out.size)); clear hB HB_8)
            | (go_at_call 32; refine (nobN32 (some ⟨g, 0, none⟩) cp M (p.take M) (some ⟨g, 0, none⟩) cp N p _ HTL.out HPL.out (HCT.out _ (R_len (Kd.R_below FR.out HB_9.out)).2.2) (R_len (Kd.R_below FR.out HB_9.out)).2.2 HTW.out HPW.out 2 HWF.out.2.2.2.2 (by decide)).mono ?_; rintro e w10 ⟨rfl, hB⟩; have HB_10 := Aside0.mk (HB_9.out.trans (hB.mono HB_9.out.size)); clear hB HB_9; have NG2 := Aside0.mk (NG.out.lift HB_10.out HW.out.size); have HW2 := Aside0.mk (HW.out.trans (HB_10.out.mono HW.out.size)); obtain ⟨hcN, hfN⟩ := NG2.out.cell i hiN; rw [List.getElem_replicate] at hcN; have hwrN : wr.heap.size < w10.heap.size := World.block_lt_of_cell? w10 _ hcN; have hcA : ∀ o, (w10.alloc o).cell? ⟨wr.heap.size, i, none⟩ = some (.slice none 0 0) := fun o => pw_cell_below (lit_below w10 o) hcN; have hfA : ∀ o, (w10.alloc o).frozen? ⟨wr.heap.size, i, none⟩ = false := fun o => ((lit_below w10 o).frozen (p := ⟨wr.heap.size, i, none⟩) hwrN).trans hfN; have hcA2 : ∀ o o', ((w10.alloc o).alloc o').cell? ⟨wr.heap.size, i, none⟩ = some (.slice none 0 0) := fun o o' => pw_cell_below (lit_below _ o') (hcA o); have hfA2 : ∀ o o', ((w10.alloc o).alloc o').frozen? ⟨wr.heap.size, i, none⟩ = false := fun o o' => ((lit_below (w10.alloc o) o').frozen (p := ⟨wr.heap.size, i, none⟩) (by simp; omega)).trans (hfA o); have NX := Aside0.mk (two_lits NG2.out HW2.out.size hiN HB3.out.size mn mx mn); have FR2 := Aside0.mk (blk_move (Kd.R_below FR.out HB_10.out) (two_blk w10 g wr.heap.size i (.cells #[.int .i64 mn, .int .i64 mx] 3) (.cells #[.int .i64 0, .int .i64 mn] 3) (.slice (some ⟨w10.heap.size + 1, 0, none⟩) 2 2) (by omega) (by omega))); clear NG2 NG)
            | (go_at_call 35; refine (noN35 (some ⟨g, 0, none⟩) cp N p (some ⟨wr.heap.size, 0, none⟩) N N ((List.replicate N ([] : List Int)).set i [0, mn]) _ HPL.out HNSL.out (R_len FR2.out).2.2 (R_len NX.out.done).2.2 HPW.out 61 HWF.out.1 (by decide)).mono ?_; rintro e w11 ⟨rfl, hB⟩; have NX1 := Aside0.mk (NX.out.lift hB NX.out.below.size); have FR4 := Aside0.mk (Kd.R_below FR2.out hB); obtain ⟨Ad, hdr, hdC⟩ := drop_rows (some ⟨wr.heap.size, 0, none⟩) N N ((List.replicate N ([] : List Int)).set i [0, mn]) HNSL.out hN1 (Nat.le_refl _) w11 (R_len NX1.out.done).2.2; have HDC := Aside0.mk hdC; clear hB hdC NX hcN hfN hcA hfA hcA2 hfA2)
            | (go_at_call 29; refine (noN29 (some ⟨g, 0, none⟩) cp N p Ad (N - 1) (N - 1) (((List.replicate N ([] : List Int)).set i [0, mn]).drop 1) _ HPL.out (by rw [List.length_drop, HNSL.out]) (R_len FR4.out).2.2 HDC.out HPW.out 61 HWF.out.2.1 (by decide)).mono ?_; rintro e w12 ⟨rfl, hB⟩; have NX2 := Aside0.mk (NX1.out.lift hB NX1.out.below.size); have FR5 := Aside0.mk (Kd.R_below FR4.out hB); clear hB NX1 HDC hdr FR4)
            | (at_builtin; refine Kd.R_append (Kd.slice 3 (Kd.int .i64)) (w0 := w) (W := w12) w.heap.size rfl (.tmp 194) (.tmp 195) 36 22 (.slice none 0 0) 24 rfl Try.underlying36 info22 rfl (by decide) (by decide) (.slice (some ⟨wr.heap.size, 0, none⟩) N N) ((List.replicate N ([] : List Int)).set i [0, mn]) [] [.slice none 0 0] (fun _ => True) (fun k => True ∧ some k ≠ (Value.slice (some ⟨wr.heap.size, 0, none⟩) N N).ownBlock) rfl rfl ⟨_, rfl, Kd.R_nil _ _ _ _ _⟩ (fun _ h => h) (fun _ _ => trivial) NX2.out.done NX2.out.below NX2.out.below.size (by rw [HNSL.out]; omega) ?_; rintro v13 w13 hR13 hB13 hg13 _; obtain ⟨A13, c13, rfl⟩ := R_shape (n := N + 1) hR13 (by rw [List.length_append, HNSL.out]; rfl); have HR13 := Aside0.mk (R_len hR13).2.2; have HB13 := Aside0.mk hB13; have FR13 := Aside0.mk (blk_move FR5.out (hg13.block g (blk_bound FR5.out (by omega)) (by simp [Value.ownBlock]; omega))); clear hR13 hB13 hg13)
            | (go_at_call 27; refine (noN27 (some ⟨g, 0, none⟩) cp N p A13 c13 (N + 1) (((List.replicate N ([] : List Int)).set i [0, mn]) ++ [[]]) _ HPL.out (by rw [List.length_append, HNSL.out]; rfl) (R_len FR13.out).2.2 HR13.out HPW.out 61 HWF.out.2.2.1 (by decide)).mono ?_; rintro e w14 ⟨rfl, hB⟩; have HB14 := Aside0.mk (HB13.out.trans (hB.mono HB13.out.size)); clear hB)
            | (go_at_call 14; refine (awake_walk w14).mono ?_; rintro e w15 ⟨rfl, hB⟩; have HB15 := Aside0.mk (HB14.out.trans (hB.mono HB14.out.size)); clear hB))
          go_ret
          exact ⟨rfl, HB15.out⟩
        · skip
          have g1 : (how % 2 == 0) = true := beq_iff_eq.mpr hev
          have g2 : how / 2 % 2 = 1 := by omega
          have HBF := Aside0.mk (bad_facts HPP.out hiN HDN.out)
          have HWF := Aside0.mk (wrong_facts HPP.out (show PartN (N - 1) (p.take M) by rw [show N - 1 = M by have := HNM.out; omega]; exact HTP.out) hiN hN1 HDX.out)
          have HQL := Aside0.mk (show (p.set i mn).length = N by rw [List.length_set]; exact HPL.out)
          have HQW := Aside0.mk (show Wf (p.set i mn) from fun z hz => by rcases List.mem_or_eq_of_mem_set hz with h | h; (exact HPW.out z h); (rw [h]; exact HWN.out))
          have HTW := Aside0.mk (show Wf (p.take M) from HTP.out.right.small.wf)
          have HNSL := Aside0.mk (show ((List.replicate N ([] : List Int)).set i [0, mx]).length = N by simp)
          clear hev ho2 ht0 ht1
          go_wp2_with (first
            | (go_at_call 15; refine HCL.out.mono ?_; rintro e w3 ⟨v3, rfl, hR, hB⟩; obtain ⟨A3, c3, rfl⟩ := R_shape (n := N) hR HPL.out; obtain ⟨g3, rfl, hg3b, hg3l⟩ := R_addr hR (by omega); obtain ⟨hc3, hf3⟩ := R_int_at hR HPL.out i hiN; have hput := (Kd.R_putg (h1 := fun _ => rfl) (enc := Value.int .i64) hR (i : Int) mn).1; rw [Int.toNat_natCast] at hput; have FQ := Aside0.mk (R_len hput).2.2; have HBV := Aside0.mk (hB.setCell (p := ⟨g3, i, none⟩) hg3b (.int .i64 mn)); have FR := Aside0.mk (Kd.R_below (Kd.R_below HRP.out HW0.out.1) HBV.out); have NG := Aside0.mk (HNG.out.lift HBV.out HW0.out.2.size); have HW := Aside0.mk (HW0.out.2.trans (HBV.out.mono HW0.out.2.size)); have HB_0 := Aside0.mk (Below.refl (w3.setCell ⟨g3, i, none⟩ (.int .i64 mn)).heap.size (w3.setCell ⟨g3, i, none⟩ (.int .i64 mn))); clear hput hR hB HCL HNG HBV hg3l)
            | (go_at_call 34; refine (countNoN (some ⟨g3, 0, none⟩) c3 N (p.set i mn) _ HQL.out (Kd.C_below FQ.out HB_0.out) HQW.out HBF.out.1).mono ?_; rintro e w4 ⟨rfl, hB⟩; clear hc3 hf3; have HB_1 := Aside0.mk (HB_0.out.trans (hB.mono HB_0.out.size)); clear hB HB_0)
            | (go_at_call 36; refine (membersNoN (some ⟨g3, 0, none⟩) c3 N (p.set i mn) _ HQL.out (Kd.C_below FQ.out HB_1.out) HQW.out HBF.out.1).mono ?_; rintro e w5 ⟨rfl, hB⟩; have HB_2 := Aside0.mk (HB_1.out.trans (hB.mono HB_1.out.size)); clear hB HB_1)
            | (go_at_call 30; refine (nobN30 (some ⟨g3, 0, none⟩) c3 N (p.set i mn) (some ⟨g, 0, none⟩) cp N p _ HQL.out HPL.out (Kd.C_below FQ.out HB_2.out) (R_len (Kd.R_below FR.out HB_2.out)).2.2 HQW.out HPW.out 60 HBF.out.2.1 (by decide)).mono ?_; rintro e w6 ⟨rfl, hB⟩; have HB_3 := Aside0.mk (HB_2.out.trans (hB.mono HB_2.out.size)); clear hB HB_2)
            | (go_at_call 31; refine (nobN31 (some ⟨g, 0, none⟩) cp N p (some ⟨g3, 0, none⟩) c3 N (p.set i mn) _ HPL.out HQL.out (R_len (Kd.R_below FR.out HB_3.out)).2.2 (Kd.C_below FQ.out HB_3.out) HPW.out HQW.out 60 HBF.out.2.2.1 (by decide)).mono ?_; rintro e w7 ⟨rfl, hB⟩; have HB_4 := Aside0.mk (HB_3.out.trans (hB.mono HB_3.out.size)); clear hB HB_3)
            | (go_at_call 32; refine (nobN32 (some ⟨g, 0, none⟩) cp N p (some ⟨g3, 0, none⟩) c3 N (p.set i mn) _ HPL.out HQL.out (R_len (Kd.R_below FR.out HB_4.out)).2.2 (Kd.C_below FQ.out HB_4.out) HPW.out HQW.out 60 HBF.out.2.2.1 (by decide)).mono ?_; rintro e w8 ⟨rfl, hB⟩; have HB_5 := Aside0.mk (HB_4.out.trans (hB.mono HB_4.out.size)); clear hB HB_4)
            | (go_at_call 35; refine (noN35 (some ⟨g3, 0, none⟩) c3 N (p.set i mn) none 0 0 [] _ HQL.out rfl (Kd.C_below FQ.out HB_5.out) (nil_rows _) HQW.out 60 HBF.out.2.2.2 (by decide)).mono ?_; rintro e w9 ⟨rfl, hB⟩; have HB_6 := Aside0.mk (HB_5.out.trans (hB.mono HB_5.out.size)); clear hB HB_5)
            | (go_at_call 28; refine (noN28 (some ⟨g3, 0, none⟩) c3 N (p.set i mn) none 0 0 [] _ HQL.out rfl (Kd.C_below FQ.out HB_6.out) (nil_rows _) HQW.out 60 HBF.out.2.2.2 (by decide)).mono ?_; rintro e wa ⟨rfl, hB⟩; have HB_7 := Aside0.mk (HB_6.out.trans (hB.mono HB_6.out.size)); clear hB HB_6)
            | (go_at_call 37; refine (rightNoN (some ⟨g3, 0, none⟩) c3 N (p.set i mn) _ HQL.out (Kd.C_below FQ.out HB_7.out) HQW.out HBF.out.1).mono ?_; rintro e wb ⟨rfl, hB⟩; have HB_8 := Aside0.mk (HB_7.out.trans (hB.mono HB_7.out.size)); clear hB HB_7)
            | (go_at_call 30; refine (nobN30 (some ⟨g, 0, none⟩) cp N p (some ⟨g, 0, none⟩) cp M (p.take M) _ HPL.out HTL.out (R_len (Kd.R_below FR.out HB_8.out)).2.2 (HCT.out _ (R_len (Kd.R_below FR.out HB_8.out)).2.2) HPW.out HTW.out 2 HWF.out.2.2.2.1 (by decide)).mono ?_; rintro e wc ⟨rfl, hB⟩; have HB_9 := Aside0.mk (HB_8.out.trans (hB.mono HB_8.out.size)); clear hB HB_8)
            | (go_at_call 32; refine (nobN32 (some ⟨g, 0, none⟩) cp M (p.take M) (some ⟨g, 0, none⟩) cp N p _ HTL.out HPL.out (HCT.out _ (R_len (Kd.R_below FR.out HB_9.out)).2.2) (R_len (Kd.R_below FR.out HB_9.out)).2.2 HTW.out HPW.out 2 HWF.out.2.2.2.2 (by decide)).mono ?_; rintro e w10 ⟨rfl, hB⟩; have HB_10 := Aside0.mk (HB_9.out.trans (hB.mono HB_9.out.size)); clear hB HB_9; have NG2 := Aside0.mk (NG.out.lift HB_10.out HW.out.size); have HW2 := Aside0.mk (HW.out.trans (HB_10.out.mono HW.out.size)); obtain ⟨hcN, hfN⟩ := NG2.out.cell i hiN; rw [List.getElem_replicate] at hcN; have hwrN : wr.heap.size < w10.heap.size := World.block_lt_of_cell? w10 _ hcN; have hcA : ∀ o, (w10.alloc o).cell? ⟨wr.heap.size, i, none⟩ = some (.slice none 0 0) := fun o => pw_cell_below (lit_below w10 o) hcN; have hfA : ∀ o, (w10.alloc o).frozen? ⟨wr.heap.size, i, none⟩ = false := fun o => ((lit_below w10 o).frozen (p := ⟨wr.heap.size, i, none⟩) hwrN).trans hfN; have hcA2 : ∀ o o', ((w10.alloc o).alloc o').cell? ⟨wr.heap.size, i, none⟩ = some (.slice none 0 0) := fun o o' => pw_cell_below (lit_below _ o') (hcA o); have hfA2 : ∀ o o', ((w10.alloc o).alloc o').frozen? ⟨wr.heap.size, i, none⟩ = false := fun o o' => ((lit_below (w10.alloc o) o').frozen (p := ⟨wr.heap.size, i, none⟩) (by simp; omega)).trans (hfA o); have NX := Aside0.mk (two_lits NG2.out HW2.out.size hiN HB3.out.size mn mx mx); have FR2 := Aside0.mk (blk_move (Kd.R_below FR.out HB_10.out) (two_blk w10 g wr.heap.size i (.cells #[.int .i64 mn, .int .i64 mx] 3) (.cells #[.int .i64 0, .int .i64 mx] 3) (.slice (some ⟨w10.heap.size + 1, 0, none⟩) 2 2) (by omega) (by omega))); clear NG2 NG)
            | (go_at_call 35; refine (noN35 (some ⟨g, 0, none⟩) cp N p (some ⟨wr.heap.size, 0, none⟩) N N ((List.replicate N ([] : List Int)).set i [0, mx]) _ HPL.out HNSL.out (R_len FR2.out).2.2 (R_len NX.out.done).2.2 HPW.out 61 HWF.out.1 (by decide)).mono ?_; rintro e w11 ⟨rfl, hB⟩; have NX1 := Aside0.mk (NX.out.lift hB NX.out.below.size); have FR4 := Aside0.mk (Kd.R_below FR2.out hB); obtain ⟨Ad, hdr, hdC⟩ := drop_rows (some ⟨wr.heap.size, 0, none⟩) N N ((List.replicate N ([] : List Int)).set i [0, mx]) HNSL.out hN1 (Nat.le_refl _) w11 (R_len NX1.out.done).2.2; have HDC := Aside0.mk hdC; clear hB hdC NX hcN hfN hcA hfA hcA2 hfA2)
            | (go_at_call 29; refine (noN29 (some ⟨g, 0, none⟩) cp N p Ad (N - 1) (N - 1) (((List.replicate N ([] : List Int)).set i [0, mx]).drop 1) _ HPL.out (by rw [List.length_drop, HNSL.out]) (R_len FR4.out).2.2 HDC.out HPW.out 61 HWF.out.2.1 (by decide)).mono ?_; rintro e w12 ⟨rfl, hB⟩; have NX2 := Aside0.mk (NX1.out.lift hB NX1.out.below.size); have FR5 := Aside0.mk (Kd.R_below FR4.out hB); clear hB NX1 HDC hdr FR4)
            | (at_builtin; refine Kd.R_append (Kd.slice 3 (Kd.int .i64)) (w0 := w) (W := w12) w.heap.size rfl (.tmp 194) (.tmp 195) 36 22 (.slice none 0 0) 24 rfl Try.underlying36 info22 rfl (by decide) (by decide) (.slice (some ⟨wr.heap.size, 0, none⟩) N N) ((List.replicate N ([] : List Int)).set i [0, mx]) [] [.slice none 0 0] (fun _ => True) (fun k => True ∧ some k ≠ (Value.slice (some ⟨wr.heap.size, 0, none⟩) N N).ownBlock) rfl rfl ⟨_, rfl, Kd.R_nil _ _ _ _ _⟩ (fun _ h => h) (fun _ _ => trivial) NX2.out.done NX2.out.below NX2.out.below.size (by rw [HNSL.out]; omega) ?_; rintro v13 w13 hR13 hB13 hg13 _; obtain ⟨A13, c13, rfl⟩ := R_shape (n := N + 1) hR13 (by rw [List.length_append, HNSL.out]; rfl); have HR13 := Aside0.mk (R_len hR13).2.2; have HB13 := Aside0.mk hB13; have FR13 := Aside0.mk (blk_move FR5.out (hg13.block g (blk_bound FR5.out (by omega)) (by simp [Value.ownBlock]; omega))); clear hR13 hB13 hg13)
            | (go_at_call 27; refine (noN27 (some ⟨g, 0, none⟩) cp N p A13 c13 (N + 1) (((List.replicate N ([] : List Int)).set i [0, mx]) ++ [[]]) _ HPL.out (by rw [List.length_append, HNSL.out]; rfl) (R_len FR13.out).2.2 HR13.out HPW.out 61 HWF.out.2.2.1 (by decide)).mono ?_; rintro e w14 ⟨rfl, hB⟩; have HB14 := Aside0.mk (HB13.out.trans (hB.mono HB13.out.size)); clear hB)
            | (go_at_call 14; refine (awake_walk w14).mono ?_; rintro e w15 ⟨rfl, hB⟩; have HB15 := Aside0.mk (HB14.out.trans (hB.mono HB14.out.size)); clear hB))
          go_ret
          exact ⟨rfl, HB15.out⟩
      · by_cases ho2 : how / 2 % 2 = 0
        · skip
          have g1 : (how % 2 == 0) = false := beq_eq_false_iff_ne.mpr hev
          have g2 : how / 2 % 2 = 0 := by omega
          have HBF := Aside0.mk (bad_facts HPP.out hiN HDX.out)
          have HWF := Aside0.mk (wrong_facts HPP.out (show PartN (N - 1) (p.take M) by rw [show N - 1 = M by have := HNM.out; omega]; exact HTP.out) hiN hN1 HDN.out)
          have HQL := Aside0.mk (show (p.set i mx).length = N by rw [List.length_set]; exact HPL.out)
          have HQW := Aside0.mk (show Wf (p.set i mx) from fun z hz => by rcases List.mem_or_eq_of_mem_set hz with h | h; (exact HPW.out z h); (rw [h]; exact HWX.out))
          have HTW := Aside0.mk (show Wf (p.take M) from HTP.out.right.small.wf)
          have HNSL := Aside0.mk (show ((List.replicate N ([] : List Int)).set i [0, mn]).length = N by simp)
          clear hev ho2 ht0 ht1
          go_wp2_with (first
            | (go_at_call 15; refine HCL.out.mono ?_; rintro e w3 ⟨v3, rfl, hR, hB⟩; obtain ⟨A3, c3, rfl⟩ := R_shape (n := N) hR HPL.out; obtain ⟨g3, rfl, hg3b, hg3l⟩ := R_addr hR (by omega); obtain ⟨hc3, hf3⟩ := R_int_at hR HPL.out i hiN; have hput := (Kd.R_putg (h1 := fun _ => rfl) (enc := Value.int .i64) hR (i : Int) mx).1; rw [Int.toNat_natCast] at hput; have FQ := Aside0.mk (R_len hput).2.2; have HBV := Aside0.mk (hB.setCell (p := ⟨g3, i, none⟩) hg3b (.int .i64 mx)); have FR := Aside0.mk (Kd.R_below (Kd.R_below HRP.out HW0.out.1) HBV.out); have NG := Aside0.mk (HNG.out.lift HBV.out HW0.out.2.size); have HW := Aside0.mk (HW0.out.2.trans (HBV.out.mono HW0.out.2.size)); have HB_0 := Aside0.mk (Below.refl (w3.setCell ⟨g3, i, none⟩ (.int .i64 mx)).heap.size (w3.setCell ⟨g3, i, none⟩ (.int .i64 mx))); clear hput hR hB HCL HNG HBV hg3l)
            | (go_at_call 34; refine (countNoN (some ⟨g3, 0, none⟩) c3 N (p.set i mx) _ HQL.out (Kd.C_below FQ.out HB_0.out) HQW.out HBF.out.1).mono ?_; rintro e w4 ⟨rfl, hB⟩; clear hc3 hf3; have HB_1 := Aside0.mk (HB_0.out.trans (hB.mono HB_0.out.size)); clear hB HB_0)
            | (go_at_call 36; refine (membersNoN (some ⟨g3, 0, none⟩) c3 N (p.set i mx) _ HQL.out (Kd.C_below FQ.out HB_1.out) HQW.out HBF.out.1).mono ?_; rintro e w5 ⟨rfl, hB⟩; have HB_2 := Aside0.mk (HB_1.out.trans (hB.mono HB_1.out.size)); clear hB HB_1)
            | (go_at_call 30; refine (nobN30 (some ⟨g3, 0, none⟩) c3 N (p.set i mx) (some ⟨g, 0, none⟩) cp N p _ HQL.out HPL.out (Kd.C_below FQ.out HB_2.out) (R_len (Kd.R_below FR.out HB_2.out)).2.2 HQW.out HPW.out 60 HBF.out.2.1 (by decide)).mono ?_; rintro e w6 ⟨rfl, hB⟩; have HB_3 := Aside0.mk (HB_2.out.trans (hB.mono HB_2.out.size)); clear hB HB_2)
            | (go_at_call 31; refine (nobN31 (some ⟨g, 0, none⟩) cp N p (some ⟨g3, 0, none⟩) c3 N (p.set i mx) _ HPL.out HQL.out (R_len (Kd.R_below FR.out HB_3.out)).2.2 (Kd.C_below FQ.out HB_3.out) HPW.out HQW.out 60 HBF.out.2.2.1 (by decide)).mono ?_; rintro e w7 ⟨rfl, hB⟩; have HB_4 := Aside0.mk (HB_3.out.trans (hB.mono HB_3.out.size)); clear hB HB_3)
            | (go_at_call 32; refine (nobN32 (some ⟨g, 0, none⟩) cp N p (some ⟨g3, 0, none⟩) c3 N (p.set i mx) _ HPL.out HQL.out (R_len (Kd.R_below FR.out HB_4.out)).2.2 (Kd.C_below FQ.out HB_4.out) HPW.out HQW.out 60 HBF.out.2.2.1 (by decide)).mono ?_; rintro e w8 ⟨rfl, hB⟩; have HB_5 := Aside0.mk (HB_4.out.trans (hB.mono HB_4.out.size)); clear hB HB_4)
            | (go_at_call 35; refine (noN35 (some ⟨g3, 0, none⟩) c3 N (p.set i mx) none 0 0 [] _ HQL.out rfl (Kd.C_below FQ.out HB_5.out) (nil_rows _) HQW.out 60 HBF.out.2.2.2 (by decide)).mono ?_; rintro e w9 ⟨rfl, hB⟩; have HB_6 := Aside0.mk (HB_5.out.trans (hB.mono HB_5.out.size)); clear hB HB_5)
            | (go_at_call 28; refine (noN28 (some ⟨g3, 0, none⟩) c3 N (p.set i mx) none 0 0 [] _ HQL.out rfl (Kd.C_below FQ.out HB_6.out) (nil_rows _) HQW.out 60 HBF.out.2.2.2 (by decide)).mono ?_; rintro e wa ⟨rfl, hB⟩; have HB_7 := Aside0.mk (HB_6.out.trans (hB.mono HB_6.out.size)); clear hB HB_6)
            | (go_at_call 37; refine (rightNoN (some ⟨g3, 0, none⟩) c3 N (p.set i mx) _ HQL.out (Kd.C_below FQ.out HB_7.out) HQW.out HBF.out.1).mono ?_; rintro e wb ⟨rfl, hB⟩; have HB_8 := Aside0.mk (HB_7.out.trans (hB.mono HB_7.out.size)); clear hB HB_7)
            | (go_at_call 30; refine (nobN30 (some ⟨g, 0, none⟩) cp N p (some ⟨g, 0, none⟩) cp M (p.take M) _ HPL.out HTL.out (R_len (Kd.R_below FR.out HB_8.out)).2.2 (HCT.out _ (R_len (Kd.R_below FR.out HB_8.out)).2.2) HPW.out HTW.out 2 HWF.out.2.2.2.1 (by decide)).mono ?_; rintro e wc ⟨rfl, hB⟩; have HB_9 := Aside0.mk (HB_8.out.trans (hB.mono HB_8.out.size)); clear hB HB_8)
            | (go_at_call 32; refine (nobN32 (some ⟨g, 0, none⟩) cp M (p.take M) (some ⟨g, 0, none⟩) cp N p _ HTL.out HPL.out (HCT.out _ (R_len (Kd.R_below FR.out HB_9.out)).2.2) (R_len (Kd.R_below FR.out HB_9.out)).2.2 HTW.out HPW.out 2 HWF.out.2.2.2.2 (by decide)).mono ?_; rintro e w10 ⟨rfl, hB⟩; have HB_10 := Aside0.mk (HB_9.out.trans (hB.mono HB_9.out.size)); clear hB HB_9; have NG2 := Aside0.mk (NG.out.lift HB_10.out HW.out.size); have HW2 := Aside0.mk (HW.out.trans (HB_10.out.mono HW.out.size)); obtain ⟨hcN, hfN⟩ := NG2.out.cell i hiN; rw [List.getElem_replicate] at hcN; have hwrN : wr.heap.size < w10.heap.size := World.block_lt_of_cell? w10 _ hcN; have hcA : ∀ o, (w10.alloc o).cell? ⟨wr.heap.size, i, none⟩ = some (.slice none 0 0) := fun o => pw_cell_below (lit_below w10 o) hcN; have hfA : ∀ o, (w10.alloc o).frozen? ⟨wr.heap.size, i, none⟩ = false := fun o => ((lit_below w10 o).frozen (p := ⟨wr.heap.size, i, none⟩) hwrN).trans hfN; have hcA2 : ∀ o o', ((w10.alloc o).alloc o').cell? ⟨wr.heap.size, i, none⟩ = some (.slice none 0 0) := fun o o' => pw_cell_below (lit_below _ o') (hcA o); have hfA2 : ∀ o o', ((w10.alloc o).alloc o').frozen? ⟨wr.heap.size, i, none⟩ = false := fun o o' => ((lit_below (w10.alloc o) o').frozen (p := ⟨wr.heap.size, i, none⟩) (by simp; omega)).trans (hfA o); have NX := Aside0.mk (two_lits NG2.out HW2.out.size hiN HB3.out.size mn mx mn); have FR2 := Aside0.mk (blk_move (Kd.R_below FR.out HB_10.out) (two_blk w10 g wr.heap.size i (.cells #[.int .i64 mn, .int .i64 mx] 3) (.cells #[.int .i64 0, .int .i64 mn] 3) (.slice (some ⟨w10.heap.size + 1, 0, none⟩) 2 2) (by omega) (by omega))); clear NG2 NG)
            | (go_at_call 35; refine (noN35 (some ⟨g, 0, none⟩) cp N p (some ⟨wr.heap.size, 0, none⟩) N N ((List.replicate N ([] : List Int)).set i [0, mn]) _ HPL.out HNSL.out (R_len FR2.out).2.2 (R_len NX.out.done).2.2 HPW.out 61 HWF.out.1 (by decide)).mono ?_; rintro e w11 ⟨rfl, hB⟩; have NX1 := Aside0.mk (NX.out.lift hB NX.out.below.size); have FR4 := Aside0.mk (Kd.R_below FR2.out hB); obtain ⟨Ad, hdr, hdC⟩ := drop_rows (some ⟨wr.heap.size, 0, none⟩) N N ((List.replicate N ([] : List Int)).set i [0, mn]) HNSL.out hN1 (Nat.le_refl _) w11 (R_len NX1.out.done).2.2; have HDC := Aside0.mk hdC; clear hB hdC NX hcN hfN hcA hfA hcA2 hfA2)
            | (go_at_call 29; refine (noN29 (some ⟨g, 0, none⟩) cp N p Ad (N - 1) (N - 1) (((List.replicate N ([] : List Int)).set i [0, mn]).drop 1) _ HPL.out (by rw [List.length_drop, HNSL.out]) (R_len FR4.out).2.2 HDC.out HPW.out 61 HWF.out.2.1 (by decide)).mono ?_; rintro e w12 ⟨rfl, hB⟩; have NX2 := Aside0.mk (NX1.out.lift hB NX1.out.below.size); have FR5 := Aside0.mk (Kd.R_below FR4.out hB); clear hB NX1 HDC hdr FR4)
            | (at_builtin; refine Kd.R_append (Kd.slice 3 (Kd.int .i64)) (w0 := w) (W := w12) w.heap.size rfl (.tmp 194) (.tmp 195) 36 22 (.slice none 0 0) 24 rfl Try.underlying36 info22 rfl (by decide) (by decide) (.slice (some ⟨wr.heap.size, 0, none⟩) N N) ((List.replicate N ([] : List Int)).set i [0, mn]) [] [.slice none 0 0] (fun _ => True) (fun k => True ∧ some k ≠ (Value.slice (some ⟨wr.heap.size, 0, none⟩) N N).ownBlock) rfl rfl ⟨_, rfl, Kd.R_nil _ _ _ _ _⟩ (fun _ h => h) (fun _ _ => trivial) NX2.out.done NX2.out.below NX2.out.below.size (by rw [HNSL.out]; omega) ?_; rintro v13 w13 hR13 hB13 hg13 _; obtain ⟨A13, c13, rfl⟩ := R_shape (n := N + 1) hR13 (by rw [List.length_append, HNSL.out]; rfl); have HR13 := Aside0.mk (R_len hR13).2.2; have HB13 := Aside0.mk hB13; have FR13 := Aside0.mk (blk_move FR5.out (hg13.block g (blk_bound FR5.out (by omega)) (by simp [Value.ownBlock]; omega))); clear hR13 hB13 hg13)
            | (go_at_call 27; refine (noN27 (some ⟨g, 0, none⟩) cp N p A13 c13 (N + 1) (((List.replicate N ([] : List Int)).set i [0, mn]) ++ [[]]) _ HPL.out (by rw [List.length_append, HNSL.out]; rfl) (R_len FR13.out).2.2 HR13.out HPW.out 61 HWF.out.2.2.1 (by decide)).mono ?_; rintro e w14 ⟨rfl, hB⟩; have HB14 := Aside0.mk (HB13.out.trans (hB.mono HB13.out.size)); clear hB)
            | (go_at_call 14; refine (awake_walk w14).mono ?_; rintro e w15 ⟨rfl, hB⟩; have HB15 := Aside0.mk (HB14.out.trans (hB.mono HB14.out.size)); clear hB))
          go_ret
          exact ⟨rfl, HB15.out⟩
        · skip
          have g1 : (how % 2 == 0) = false := beq_eq_false_iff_ne.mpr hev
          have g2 : how / 2 % 2 = 1 := by omega
          have HBF := Aside0.mk (bad_facts HPP.out hiN HDX.out)
          have HWF := Aside0.mk (wrong_facts HPP.out (show PartN (N - 1) (p.take M) by rw [show N - 1 = M by have := HNM.out; omega]; exact HTP.out) hiN hN1 HDX.out)
          have HQL := Aside0.mk (show (p.set i mx).length = N by rw [List.length_set]; exact HPL.out)
          have HQW := Aside0.mk (show Wf (p.set i mx) from fun z hz => by rcases List.mem_or_eq_of_mem_set hz with h | h; (exact HPW.out z h); (rw [h]; exact HWX.out))
          have HTW := Aside0.mk (show Wf (p.take M) from HTP.out.right.small.wf)
          have HNSL := Aside0.mk (show ((List.replicate N ([] : List Int)).set i [0, mx]).length = N by simp)
          clear hev ho2 ht0 ht1
          go_wp2_with (first
            | (go_at_call 15; refine HCL.out.mono ?_; rintro e w3 ⟨v3, rfl, hR, hB⟩; obtain ⟨A3, c3, rfl⟩ := R_shape (n := N) hR HPL.out; obtain ⟨g3, rfl, hg3b, hg3l⟩ := R_addr hR (by omega); obtain ⟨hc3, hf3⟩ := R_int_at hR HPL.out i hiN; have hput := (Kd.R_putg (h1 := fun _ => rfl) (enc := Value.int .i64) hR (i : Int) mx).1; rw [Int.toNat_natCast] at hput; have FQ := Aside0.mk (R_len hput).2.2; have HBV := Aside0.mk (hB.setCell (p := ⟨g3, i, none⟩) hg3b (.int .i64 mx)); have FR := Aside0.mk (Kd.R_below (Kd.R_below HRP.out HW0.out.1) HBV.out); have NG := Aside0.mk (HNG.out.lift HBV.out HW0.out.2.size); have HW := Aside0.mk (HW0.out.2.trans (HBV.out.mono HW0.out.2.size)); have HB_0 := Aside0.mk (Below.refl (w3.setCell ⟨g3, i, none⟩ (.int .i64 mx)).heap.size (w3.setCell ⟨g3, i, none⟩ (.int .i64 mx))); clear hput hR hB HCL HNG HBV hg3l)
            | (go_at_call 34; refine (countNoN (some ⟨g3, 0, none⟩) c3 N (p.set i mx) _ HQL.out (Kd.C_below FQ.out HB_0.out) HQW.out HBF.out.1).mono ?_; rintro e w4 ⟨rfl, hB⟩; clear hc3 hf3; have HB_1 := Aside0.mk (HB_0.out.trans (hB.mono HB_0.out.size)); clear hB HB_0)
            | (go_at_call 36; refine (membersNoN (some ⟨g3, 0, none⟩) c3 N (p.set i mx) _ HQL.out (Kd.C_below FQ.out HB_1.out) HQW.out HBF.out.1).mono ?_; rintro e w5 ⟨rfl, hB⟩; have HB_2 := Aside0.mk (HB_1.out.trans (hB.mono HB_1.out.size)); clear hB HB_1)
            | (go_at_call 30; refine (nobN30 (some ⟨g3, 0, none⟩) c3 N (p.set i mx) (some ⟨g, 0, none⟩) cp N p _ HQL.out HPL.out (Kd.C_below FQ.out HB_2.out) (R_len (Kd.R_below FR.out HB_2.out)).2.2 HQW.out HPW.out 60 HBF.out.2.1 (by decide)).mono ?_; rintro e w6 ⟨rfl, hB⟩; have HB_3 := Aside0.mk (HB_2.out.trans (hB.mono HB_2.out.size)); clear hB HB_2)
            | (go_at_call 31; refine (nobN31 (some ⟨g, 0, none⟩) cp N p (some ⟨g3, 0, none⟩) c3 N (p.set i mx) _ HPL.out HQL.out (R_len (Kd.R_below FR.out HB_3.out)).2.2 (Kd.C_below FQ.out HB_3.out) HPW.out HQW.out 60 HBF.out.2.2.1 (by decide)).mono ?_; rintro e w7 ⟨rfl, hB⟩; have HB_4 := Aside0.mk (HB_3.out.trans (hB.mono HB_3.out.size)); clear hB HB_3)
            | (go_at_call 32; refine (nobN32 (some ⟨g, 0, none⟩) cp N p (some ⟨g3, 0, none⟩) c3 N (p.set i mx) _ HPL.out HQL.out (R_len (Kd.R_below FR.out HB_4.out)).2.2 (Kd.C_below FQ.out HB_4.out) HPW.out HQW.out 60 HBF.out.2.2.1 (by decide)).mono ?_; rintro e w8 ⟨rfl, hB⟩; have HB_5 := Aside0.mk (HB_4.out.trans (hB.mono HB_4.out.size)); clear hB HB_4)
            | (go_at_call 35; refine (noN35 (some ⟨g3, 0, none⟩) c3 N (p.set i mx) none 0 0 [] _ HQL.out rfl (Kd.C_below FQ.out HB_5.out) (nil_rows _) HQW.out 60 HBF.out.2.2.2 (by decide)).mono ?_; rintro e w9 ⟨rfl, hB⟩; have HB_6 := Aside0.mk (HB_5.out.trans (hB.mono HB_5.out.size)); clear hB HB_5)
            | (go_at_call 28; refine (noN28 (some ⟨g3, 0, none⟩) c3 N (p.set i mx) none 0 0 [] _ HQL.out rfl (Kd.C_below FQ.out HB_6.out) (nil_rows _) HQW.out 60 HBF.out.2.2.2 (by decide)).mono ?_; rintro e wa ⟨rfl, hB⟩; have HB_7 := Aside0.mk (HB_6.out.trans (hB.mono HB_6.out.size)); clear hB HB_6)
            | (go_at_call 37; refine (rightNoN (some ⟨g3, 0, none⟩) c3 N (p.set i mx) _ HQL.out (Kd.C_below FQ.out HB_7.out) HQW.out HBF.out.1).mono ?_; rintro e wb ⟨rfl, hB⟩; have HB_8 := Aside0.mk (HB_7.out.trans (hB.mono HB_7.out.size)); clear hB HB_7)
            | (go_at_call 30; refine (nobN30 (some ⟨g, 0, none⟩) cp N p (some ⟨g, 0, none⟩) cp M (p.take M) _ HPL.out HTL.out (R_len (Kd.R_below FR.out HB_8.out)).2.2 (HCT.out _ (R_len (Kd.R_below FR.out HB_8.out)).2.2) HPW.out HTW.out 2 HWF.out.2.2.2.1 (by decide)).mono ?_; rintro e wc ⟨rfl, hB⟩; have HB_9 := Aside0.mk (HB_8.out.trans (hB.mono HB_8.out.size)); clear hB HB_8)
            | (go_at_call 32; refine (nobN32 (some ⟨g, 0, none⟩) cp M (p.take M) (some ⟨g, 0, none⟩) cp N p _ HTL.out HPL.out (HCT.out _ (R_len (Kd.R_below FR.out HB_9.out)).2.2) (R_len (Kd.R_below FR.out HB_9.out)).2.2 HTW.out HPW.out 2 HWF.out.2.2.2.2 (by decide)).mono ?_; rintro e w10 ⟨rfl, hB⟩; have HB_10 := Aside0.mk (HB_9.out.trans (hB.mono HB_9.out.size)); clear hB HB_9; have NG2 := Aside0.mk (NG.out.lift HB_10.out HW.out.size); have HW2 := Aside0.mk (HW.out.trans (HB_10.out.mono HW.out.size)); obtain ⟨hcN, hfN⟩ := NG2.out.cell i hiN; rw [List.getElem_replicate] at hcN; have hwrN : wr.heap.size < w10.heap.size := World.block_lt_of_cell? w10 _ hcN; have hcA : ∀ o, (w10.alloc o).cell? ⟨wr.heap.size, i, none⟩ = some (.slice none 0 0) := fun o => pw_cell_below (lit_below w10 o) hcN; have hfA : ∀ o, (w10.alloc o).frozen? ⟨wr.heap.size, i, none⟩ = false := fun o => ((lit_below w10 o).frozen (p := ⟨wr.heap.size, i, none⟩) hwrN).trans hfN; have hcA2 : ∀ o o', ((w10.alloc o).alloc o').cell? ⟨wr.heap.size, i, none⟩ = some (.slice none 0 0) := fun o o' => pw_cell_below (lit_below _ o') (hcA o); have hfA2 : ∀ o o', ((w10.alloc o).alloc o').frozen? ⟨wr.heap.size, i, none⟩ = false := fun o o' => ((lit_below (w10.alloc o) o').frozen (p := ⟨wr.heap.size, i, none⟩) (by simp; omega)).trans (hfA o); have NX := Aside0.mk (two_lits NG2.out HW2.out.size hiN HB3.out.size mn mx mx); have FR2 := Aside0.mk (blk_move (Kd.R_below FR.out HB_10.out) (two_blk w10 g wr.heap.size i (.cells #[.int .i64 mn, .int .i64 mx] 3) (.cells #[.int .i64 0, .int .i64 mx] 3) (.slice (some ⟨w10.heap.size + 1, 0, none⟩) 2 2) (by omega) (by omega))); clear NG2 NG)
            | (go_at_call 35; refine (noN35 (some ⟨g, 0, none⟩) cp N p (some ⟨wr.heap.size, 0, none⟩) N N ((List.replicate N ([] : List Int)).set i [0, mx]) _ HPL.out HNSL.out (R_len FR2.out).2.2 (R_len NX.out.done).2.2 HPW.out 61 HWF.out.1 (by decide)).mono ?_; rintro e w11 ⟨rfl, hB⟩; have NX1 := Aside0.mk (NX.out.lift hB NX.out.below.size); have FR4 := Aside0.mk (Kd.R_below FR2.out hB); obtain ⟨Ad, hdr, hdC⟩ := drop_rows (some ⟨wr.heap.size, 0, none⟩) N N ((List.replicate N ([] : List Int)).set i [0, mx]) HNSL.out hN1 (Nat.le_refl _) w11 (R_len NX1.out.done).2.2; have HDC := Aside0.mk hdC; clear hB hdC NX hcN hfN hcA hfA hcA2 hfA2)
            | (go_at_call 29; refine (noN29 (some ⟨g, 0, none⟩) cp N p Ad (N - 1) (N - 1) (((List.replicate N ([] : List Int)).set i [0, mx]).drop 1) _ HPL.out (by rw [List.length_drop, HNSL.out]) (R_len FR4.out).2.2 HDC.out HPW.out 61 HWF.out.2.1 (by decide)).mono ?_; rintro e w12 ⟨rfl, hB⟩; have NX2 := Aside0.mk (NX1.out.lift hB NX1.out.below.size); have FR5 := Aside0.mk (Kd.R_below FR4.out hB); clear hB NX1 HDC hdr FR4)
            | (at_builtin; refine Kd.R_append (Kd.slice 3 (Kd.int .i64)) (w0 := w) (W := w12) w.heap.size rfl (.tmp 194) (.tmp 195) 36 22 (.slice none 0 0) 24 rfl Try.underlying36 info22 rfl (by decide) (by decide) (.slice (some ⟨wr.heap.size, 0, none⟩) N N) ((List.replicate N ([] : List Int)).set i [0, mx]) [] [.slice none 0 0] (fun _ => True) (fun k => True ∧ some k ≠ (Value.slice (some ⟨wr.heap.size, 0, none⟩) N N).ownBlock) rfl rfl ⟨_, rfl, Kd.R_nil _ _ _ _ _⟩ (fun _ h => h) (fun _ _ => trivial) NX2.out.done NX2.out.below NX2.out.below.size (by rw [HNSL.out]; omega) ?_; rintro v13 w13 hR13 hB13 hg13 _; obtain ⟨A13, c13, rfl⟩ := R_shape (n := N + 1) hR13 (by rw [List.length_append, HNSL.out]; rfl); have HR13 := Aside0.mk (R_len hR13).2.2; have HB13 := Aside0.mk hB13; have FR13 := Aside0.mk (blk_move FR5.out (hg13.block g (blk_bound FR5.out (by omega)) (by simp [Value.ownBlock]; omega))); clear hR13 hB13 hg13)
            | (go_at_call 27; refine (noN27 (some ⟨g, 0, none⟩) cp N p A13 c13 (N + 1) (((List.replicate N ([] : List Int)).set i [0, mx]) ++ [[]]) _ HPL.out (by rw [List.length_append, HNSL.out]; rfl) (R_len FR13.out).2.2 HR13.out HPW.out 61 HWF.out.2.2.1 (by decide)).mono ?_; rintro e w14 ⟨rfl, hB⟩; have HB14 := Aside0.mk (HB13.out.trans (hB.mono HB13.out.size)); clear hB)
            | (go_at_call 14; refine (awake_walk w14).mono ?_; rintro e w15 ⟨rfl, hB⟩; have HB15 := Aside0.mk (HB14.out.trans (hB.mono HB14.out.size)); clear hB))
          go_ret
          exact ⟨rfl, HB15.out⟩
end Go.Proofs.Ytboofecfmhbacaa

/- Arguments that are slices, opened as rows that are read. -/
namespace Go.Proofs.Ytboofecfmhbacaa
open Go.RowKit Go.ChangeShapes Go.WideShapes Go.Proofs.YtboofecfmhbacaaW.PrintWords
section
variable {H : Type} {enc : TypeId × Value → H} {P : Program} {w : World} {base : Nat} {spare : Nat → Bool} {held : Bool}
theorem exists_list {α : Type} (n : Nat) (p : Nat → α → Prop) (h : ∀ i, i < n → ∃ x, p i x) : ∃ xs : List α, xs.length = n ∧ ∀ i (hi : i < xs.length), p i xs[i] := by
  induction n with
  | zero => exact ⟨[], rfl, fun i hi => absurd hi (Nat.not_lt_zero i)⟩
  | succ n ih =>
    obtain ⟨xs, h1, h2⟩ := ih (fun i hi => h i (by omega))
    obtain ⟨x, hx⟩ := h n (by omega)
    refine ⟨xs ++ [x], by simp [h1], fun i hi => ?_⟩
    by_cases e : i < xs.length
    · rw [List.getElem_append_left e]
      exact h2 i e
    · have : i = n := by simp at hi; omega
      subst this
      have e2 : (xs ++ [x])[i] = x := by rw [List.getElem_append_right (by omega)]; simp
      rw [e2]
      exact hx
/-- A slice whose elements are of one cell each. -/
theorem open_row {α : Type} (d : Kd α) (hd : d.sz = 1) {t e : TypeId} (ht : P.underlying t = some (.slice e)) (hc : P.cellsOf e = 1) (Good : α → Prop)
    (helem : ∀ n cs y, DataW.trod enc P w base spare held n e cs = some y → ∃ x v, cs = [v] ∧ d.K w x [v] ∧ Good x)
    {fuel : Nat} {cs : List Value} {x : DataW H × List MemPlace} {A : Option Addr} {len cap : Nat} (hcs : cs = [.slice A len cap]) (h : DataW.trod enc P w base spare held fuel t cs = some x) :
    ∃ xs : List α, d.C w A len xs ∧ (∀ y ∈ xs, Good y) ∧ len ≤ cap := by
  rcases DataW.trod_slice ht h with ⟨h0, _⟩ | ⟨a, len', cap', elems, rest, n, _, h0, _, hb, hl, hm, hlen, hel, hsp, hns⟩
  · rw [hcs] at h0
    simp at h0
    obtain ⟨rfl, rfl, rfl⟩ := h0
    exact ⟨[], ⟨rfl, by omega, fun h => absurd h (Nat.lt_irrefl 0)⟩, (fun y hy => absurd hy List.not_mem_nil), Nat.le_refl _⟩
  · rw [hcs] at h0
    simp at h0
    obtain ⟨rfl, rfl, rfl⟩ := h0
    have each : ∀ i, i < len → ∃ x, Good x ∧ ∃ v, d.K w x [v] ∧ w.cell? (a.add i) = some v := by
      intro i hi
      have h1 := hel i hi
      rw [List.getElem?_eq_getElem (by omega), hc, Nat.mul_one, Option.bind_eq_some_iff] at h1
      obtain ⟨cs', hcs', hy⟩ := h1
      obtain ⟨x, v, rfl, hK, hG⟩ := helem n cs' _ hy
      exact ⟨x, hG, v, hK, cell_of_cells?_one hcs'⟩
    obtain ⟨xs, hxl, hx⟩ := exists_list len _ each
    refine ⟨xs, ⟨hxl, by simp only [maxLen] at hm; omega, fun hpos => ⟨a, rfl, fun j p hj => ?_⟩⟩, fun y hy => ?_, hl⟩
    · obtain ⟨hj1, rfl⟩ := List.getElem?_eq_some_iff.1 hj
      obtain ⟨_, v, hK, hcell⟩ := hx j hj1
      refine ⟨[v], by rw [hd]; rfl, hK, fun i u hu => ?_⟩
      cases i with
      | zero =>
        have hu' : v = u := by simpa using hu
        subst hu'
        rw [hd, Nat.mul_one, Nat.add_zero]
        exact hcell
      | succ i => simp at hu
    · obtain ⟨i, hi, rfl⟩ := List.mem_iff_getElem.1 hy
      exact (hx i hi).1
theorem open_row_int {k : IntKind} {t e : TypeId} (ht : P.underlying t = some (.slice e)) (he : P.underlying e = some (.int k)) (hc : P.cellsOf e = 1)
    {fuel : Nat} {cs : List Value} {x : DataW H × List MemPlace} {A : Option Addr} {len cap : Nat} (hcs : cs = [.slice A len cap]) (h : DataW.trod enc P w base spare held fuel t cs = some x) :
    ∃ xs : List Int, (Kd.int k).C w A len xs ∧ (∀ y ∈ xs, (Lit.int k y).wf = true) ∧ len ≤ cap := by
  refine open_row (Kd.int k) rfl ht hc _ (fun n cs y hy => ?_) hcs h
  obtain ⟨m, rfl, _, hw⟩ := DataW.trod_int he hy
  exact ⟨m, _, rfl, rfl, hw⟩
theorem open_row_string {t e : TypeId} (ht : P.underlying t = some (.slice e)) (he : P.underlying e = some .string) (hc : P.cellsOf e = 1)
    {fuel : Nat} {cs : List Value} {x : DataW H × List MemPlace} {A : Option Addr} {len cap : Nat} (hcs : cs = [.slice A len cap]) (h : DataW.trod enc P w base spare held fuel t cs = some x) :
    ∃ xs : List ByteArray, Kd.string.C w A len xs ∧ (∀ y ∈ xs, y.size ≤ maxLen) ∧ len ≤ cap := by
  refine open_row Kd.string rfl ht hc _ (fun n cs y hy => ?_) hcs h
  obtain ⟨m, rfl, _, hw⟩ := DataW.trod_string he hy
  exact ⟨m, _, rfl, rfl, hw⟩
theorem open_row_rows {k : IntKind} {t e e2 : TypeId} (ht : P.underlying t = some (.slice e)) (he : P.underlying e = some (.slice e2)) (hc : P.cellsOf e = 1) (he2 : P.underlying e2 = some (.int k)) (hc2 : P.cellsOf e2 = 1)
    {fuel : Nat} {cs : List Value} {x : DataW H × List MemPlace} {A : Option Addr} {len cap : Nat} (hcs : cs = [.slice A len cap]) (h : DataW.trod enc P w base spare held fuel t cs = some x) :
    ∃ xs : List (List Int), (Kd.slice e2 (Kd.int k)).C w A len xs ∧ (∀ y ∈ xs, ∀ z ∈ y, (Lit.int k z).wf = true) ∧ len ≤ cap := by
  refine open_row (Kd.slice e2 (Kd.int k)) rfl ht hc _ (fun n cs y hy => ?_) hcs h
  have hform : ∃ A1 l1 c1, cs = [.slice A1 l1 c1] := by
    rcases DataW.trod_slice he hy with ⟨h0, _⟩ | ⟨a, len', cap', elems, rest, n, _, h0, _⟩
    · exact ⟨none, 0, 0, h0⟩
    · exact ⟨_, _, _, h0⟩
  obtain ⟨A1, l1, c1, hcs1⟩ := hform
  obtain ⟨ys, hC, hw, hl⟩ := open_row_int he he2 hc2 hcs1 hy
  obtain rfl : ys.length = l1 := hC.1
  exact ⟨ys, _, hcs1, ⟨A1, c1, rfl, hl, hC⟩, hw⟩
end
end Go.Proofs.Ytboofecfmhbacaa

/- The statement of the law BlocksWrong: whatever the input, true, and the input reads as it did; out of its walk. No condition. -/
namespace Go.Proofs.Ytboofecfmhbacaa.blocksWrong
open Go.ChangeShapes Go.WideShapes Go.ChangeAt Go.RowKit Go.Proofs.YtboofecfmhbacaaW.PrintWords
open Go.ChangeMaps (open_string shut_string)
set_option linter.unusedVariables false
theorem own : ownKnob Try.prog.godebug = none := by kernel_rfl
theorem laidOut : laidOutB Try.prog = true := by kernel_rfl
set_option maxRecDepth 100000 in
theorem lifted (os : Os) (started : os.Started) (H : Type) (enc : TypeId × Value → H) :
    ReturnsInHanded {} Try.checked os 12 .any (Rows.blocksWrongSpec.pre6 enc Try.prog Try.f12 Rows.blocksWrongRow.domain false) (Rows.blocksWrongSpec.post enc Try.prog Try.f12 false true false false) := by
  refine returnsInHanded_of_change_sized (C := Try.checked) own started (by kernel_rfl) Try.func12
    (ChangeSpec.witness6 (enc := enc) (C := Try.checked) false ⟨#[], #[.slice none 0 0, .int .u8 0, .int .u8 0, .int .i64 0], []⟩ 8 (by kernel_rfl) (by kernel_rfl) (by kernel_rfl) (by kernel_rfl)) ?_
  intro W base args ds gs before hval0 hW hcnd hsz0 _
  have hval : ∀ (j : Nat) t v, Try.f12.params[j]? = some t → args[j]? = some v → Value.okWide Try.prog W .any base t v := hval0
  have hW' := hW
  obtain ⟨p, q, hA0, hV, rfl, hfz, hnd⟩ := hW
  have hA : DataW.TrodAll enc Try.prog W 0 (fun _ => true) true Try.f12.params.toList args.toList ds p := hA0
  rw [Try.params12] at hA hval
  obtain ⟨v0, vs0, d0, ds0, p0, q0, hargs, rfl, rfl, h0, r0⟩ := trodAll_cons hA
  obtain ⟨v1, vs1, d1, ds1, p1, q1, rfl, rfl, rfl, h1, r1⟩ := trodAll_cons r0
  obtain ⟨v2, vs2, d2, ds2, p2, q2, rfl, rfl, rfl, h2, r2⟩ := trodAll_cons r1
  obtain ⟨v3, vs3, d3, ds3, p3, q3, rfl, rfl, rfl, h3, r3⟩ := trodAll_cons r2
  obtain ⟨rfl, rfl, rfl⟩ := trodAll_nil r3
  obtain rfl : args = #[v0, v1, v2, v3] := by cases args; simp_all
  obtain ⟨rfl, rfl⟩ := trodVars_none hV
  obtain ⟨a0, len0, cap0, rfl⟩ := okWide_slice Try.underlying39 (hval 0 39 v0 rfl rfl)
  have k0 := h0
  have lt0 : ∀ x ∈ p0, x.block < W.heap.size := by obtain ⟨m, hm⟩ := k0; exact DataW.trod_lt m _ _ _ hm
  obtain ⟨fuel0, hf0⟩ := h0
  obtain ⟨z0, w0, y0, l0⟩ := open_row_int Try.underlying39 Try.underlying5 (by kernel_rfl) (A := a0) (len := len0) (cap := cap0) (by simp [Value.cells]) hf0
  obtain rfl : z0.length = len0 := w0.1
  obtain ⟨a1, rfl, rfl, rfl, w1⟩ := open_int Try.underlying5 (hval 1 5 v1 rfl rfl) h1
  obtain ⟨a2, rfl, rfl, rfl, w2⟩ := open_int Try.underlying5 (hval 2 5 v2 rfl rfl) h2
  obtain ⟨a3, rfl, rfl, rfl, w3⟩ := open_int Try.underlying3 (hval 3 3 v3 rfl rfl) h3
  clear hA0 hval0 hsz0
  refine (blocksWrong_walk a0 cap0 z0 a1 a2 a3 W w0 y0 l0 w1 w2 w3).mono fun e W' ⟨he, bel⟩ => ?_
  subst he
  exact ⟨_, rfl, _, _, _, [], _, [], hW', trodAll_mk1 (shut_bool Try.underlying4 _), (trodAll_cons_mk (Below.trod laidOut (by kernel_rfl) (of_decide_eq_true (by kernel_rfl)) k0 bel lt0) (trodAll_cons_mk (shut_int Try.underlying5 w1) (trodAll_cons_mk (shut_int Try.underlying5 w2) (trodAll_cons_mk (shut_int Try.underlying3 w3) trodAll_mk0)))), rfl, bel.frame _, fun h => by cases h⟩
theorem over : Rows.blocksWrongRow.holds Try.pinned (OpenSpec.ofChange Rows.blocksWrongSpec) :=
  OpenClaim.holds_of_wide 12 Try.f12 rfl rfl rfl rfl rfl rfl rfl ⟨rfl, rfl, rfl, rfl, rfl⟩ rfl rfl rfl rfl rfl (by kernel_rfl) Try.func12 (by kernel_rfl)
    (of_decide_eq_true (by kernel_rfl)) (by unfold Func.isWrapper; first | (rw [if_pos (by decide +kernel)]; kernel_rfl) | (rw [if_neg (by decide +kernel)]; exact ⟨rfl, rfl⟩))
    (fun os started H enc _ => lifted os started H enc)
theorem proved : Rows.BlocksWrongSaid := over
#print axioms proved
end Go.Proofs.Ytboofecfmhbacaa.blocksWrong
namespace Go.Proofs.Ytboofecfmhbacaa
/-- The row, under a short name, for the claim. -/
theorem blocksWrong_holds : Rows.BlocksWrongSaid := blocksWrong.proved
end Go.Proofs.Ytboofecfmhbacaa
