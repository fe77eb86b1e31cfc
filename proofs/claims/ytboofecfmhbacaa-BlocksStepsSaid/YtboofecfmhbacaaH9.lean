/- The walks of the law BlocksSteps. -/
import Derived.Test.YtboofecfmhbacaaH8
import Derived.Test.YtboofecfmhbacaaH4
namespace Go.Proofs.Ytboofecfmhbacaa
open Go.RowKit Go.WideMaps Go.Maps Go.Proofs.YtboofecfmhbacaaW.PrintWords Go.Proofs.YtboofecfmhbacaaW.PrintLast Go.Proofs.YtboofecfmhbacaaW.PrintMore
set_option linter.unusedVariables false
set_option linter.unusedSimpArgs false

theorem no35 (A0 : Option Addr) (c0 : Nat) (p : List Int) (A1 : Option Addr) (c1 : Nat) (next : List (List Int)) (w : World) (hr0 : Kd.C (Kd.int .i64) w A0 p.length p) (hr1 : Kd.C (Kd.slice 3 (Kd.int .i64)) w A1 next.length next) (hw0 : Wf p) (E : Int) (hE : wrongE p next = E) (h0 : E ≠ 0) : Calls Try.prog 35 #[.slice A0 p.length c0, .slice A1 next.length c1] w fun e w' => e = .returned (.tuple #[.slice none 0 0, .int .i64 E]) ∧ Below w.heap.size w w' := by
  subst hE
  exact refineOf_no A0 c0 p A1 c1 next w hr0 hr1 hw0 h0
theorem no29 (A0 : Option Addr) (c0 : Nat) (p : List Int) (A1 : Option Addr) (c1 : Nat) (next : List (List Int)) (w : World) (hr0 : Kd.C (Kd.int .i64) w A0 p.length p) (hr1 : Kd.C (Kd.slice 3 (Kd.int .i64)) w A1 next.length next) (hw0 : Wf p) (E : Int) (hE : wrongE p next = E) (h0 : E ≠ 0) : Calls Try.prog 29 #[.slice A0 p.length c0, .slice A1 next.length c1] w fun e w' => e = .returned (.tuple #[.bool false, .int .i64 E]) ∧ Below w.heap.size w w' := by
  subst hE
  exact stable_no A0 c0 p A1 c1 next w hr0 hr1 hw0 h0
theorem no27 (A0 : Option Addr) (c0 : Nat) (p : List Int) (A1 : Option Addr) (c1 : Nat) (next : List (List Int)) (w : World) (hr0 : Kd.C (Kd.int .i64) w A0 p.length p) (hr1 : Kd.C (Kd.slice 3 (Kd.int .i64)) w A1 next.length next) (hw0 : Wf p) (E : Int) (hE : wrongE p next = E) (h0 : E ≠ 0) : Calls Try.prog 27 #[.slice A0 p.length c0, .slice A1 next.length c1] w fun e w' => e = .returned (.tuple #[.slice none 0 0, .int .i64 0, .int .i64 E]) ∧ Below w.heap.size w w' := by
  subst hE
  exact coarsest_no A0 c0 p A1 c1 next w hr0 hr1 hw0 h0
theorem no28 (A0 : Option Addr) (c0 : Nat) (p : List Int) (A1 : Option Addr) (c1 : Nat) (next : List (List Int)) (w : World) (hr0 : Kd.C (Kd.int .i64) w A0 p.length p) (hr1 : Kd.C (Kd.slice 3 (Kd.int .i64)) w A1 next.length next) (hw0 : Wf p) (E : Int) (hE : wrongE p next = E) (h0 : E ≠ 0) : Calls Try.prog 28 #[.slice A0 p.length c0, .slice A1 next.length c1] w fun e w' => e = .returned (.tuple #[.slice none 0 0, .int .i64 E]) ∧ Below w.heap.size w w' := by
  subst hE
  exact quotient_no A0 c0 p A1 c1 next w hr0 hr1 hw0 h0
theorem copiedC_walk (A0 : Option Addr) (c0 : Nat) (l : List (List Int)) (w : World) (hr : Kd.C (Kd.slice 3 (Kd.int .i64)) w A0 l.length l) (hl : l.length ≤ 1000000) (hx : ∀ x ∈ l, x.length ≤ 1000000) :
    Calls Try.prog 46 #[.slice A0 l.length c0] w fun e w' => ∃ A c, e = .returned (.slice A l.length c) ∧ Kd.C (Kd.slice 3 (Kd.int .i64)) w' A l.length l ∧ Below w.heap.size w w' := by
  refine (copied_walk A0 c0 l w hr hl hx).mono ?_
  rintro e w' ⟨v, rfl, hR, hB⟩
  obtain ⟨A, c, rfl, hC⟩ := r_read hR rfl
  exact ⟨A, c, rfl, hC, hB⟩
theorem sameRowsN_walk (A0 : Option Addr) (c0 n : Nat) (l : List (List Int)) (A1 : Option Addr) (c1 : Nat) (w : World) (hn : l.length = n) (hr0 : Kd.C (Kd.slice 3 (Kd.int .i64)) w A0 n l) (hr1 : Kd.C (Kd.slice 3 (Kd.int .i64)) w A1 n l) :
    Calls Try.prog 40 #[.slice A0 n c0, .slice A1 n c1] w fun e w' => e = .returned (.bool true) ∧ Below w.heap.size w w' := by
  subst hn
  refine (lists_walk A0 c0 l A1 c1 l w hr0 hr1).mono ?_
  rintro e w' ⟨rfl, hB⟩
  exact ⟨by simp, hB⟩
theorem refineOfC_walk (A0 : Option Addr) (c0 : Nat) (p : List Int) (A1 : Option Addr) (c1 : Nat) (next : List (List Int)) (w : World) (hr0 : Kd.C (Kd.int .i64) w A0 p.length p) (hr1 : Kd.C (Kd.slice 3 (Kd.int .i64)) w A1 next.length next) (hp : rightP p) (hn : nextP p.length next) :
    Calls Try.prog 35 #[.slice A0 p.length c0, .slice A1 next.length c1] w fun e w' => ∃ A c, e = .returned (.tuple #[.slice A p.length c, .int .i64 0]) ∧ Kd.C (Kd.int .i64) w' A p.length (refineP p next) ∧ Below w.heap.size w w' := by
  refine (refineOf_yes A0 c0 p A1 c1 next w hr0 hr1 hp hn).mono ?_
  rintro e w' ⟨v, rfl, hR, hB⟩
  obtain ⟨A, c, rfl, hC⟩ := r_read hR (by rw [refine_length, hn.1])
  exact ⟨A, c, rfl, hC, hB⟩
theorem coarsestC_walk (A0 : Option Addr) (c0 : Nat) (p : List Int) (A1 : Option Addr) (c1 : Nat) (next : List (List Int)) (w : World) (hr0 : Kd.C (Kd.int .i64) w A0 p.length p) (hr1 : Kd.C (Kd.slice 3 (Kd.int .i64)) w A1 next.length next) (hp : rightP p) (hn : nextP p.length next) (m : Nat) (hm : Stops p next m) :
    Calls Try.prog 27 #[.slice A0 p.length c0, .slice A1 next.length c1] w fun e w' => ∃ A c, e = .returned (.tuple #[.slice A p.length c, .int .i64 m, .int .i64 0]) ∧ Kd.C (Kd.int .i64) w' A p.length (iterP p next m) ∧ Below w.heap.size w w' := by
  refine (coarsest_yes A0 c0 p A1 c1 next w hr0 hr1 hp hn).mono ?_
  rintro e w' ⟨m', v, rfl, hS, hR, hB⟩
  obtain rfl := stops_one hS hm
  obtain ⟨A, c, rfl, hC⟩ := r_read hR ((iter_right hp hn.1 m').2)
  exact ⟨A, c, rfl, hC, hB⟩
theorem refCoarsestC_walk (A0 : Option Addr) (c0 : Nat) (p : List Int) (A1 : Option Addr) (c1 : Nat) (next : List (List Int)) (w : World) (hr0 : Kd.C (Kd.int .i64) w A0 p.length p) (hr1 : Kd.C (Kd.slice 3 (Kd.int .i64)) w A1 next.length next) (hn : nextP p.length next) (hp : rightP p) (m : Nat) (hm : Stops p next m) :
    Calls Try.prog 49 #[.slice A0 p.length c0, .slice A1 next.length c1] w fun e w' => ∃ A c, e = .returned (.tuple #[.slice A p.length c, .int .i64 m]) ∧ Kd.C (Kd.int .i64) w' A p.length (iterP p next m) ∧ Below w.heap.size w w' := by
  refine (refCoarsest_walk A0 c0 p A1 c1 next w hr0 hr1 hn hp).mono ?_
  rintro e w' ⟨m', A, c, rfl, hS, hC, hB⟩
  obtain rfl := stops_one hS hm
  exact ⟨A, c, rfl, hC, hB⟩
theorem quotientC_walk (A0 : Option Addr) (c0 : Nat) (p : List Int) (A1 : Option Addr) (c1 : Nat) (next : List (List Int)) (w : World) (hr0 : Kd.C (Kd.int .i64) w A0 p.length p) (hr1 : Kd.C (Kd.slice 3 (Kd.int .i64)) w A1 next.length next) (hp : rightP p) (hn : nextP p.length next) (hs : stableP p next) :
    Calls Try.prog 28 #[.slice A0 p.length c0, .slice A1 next.length c1] w fun e w' => ∃ A c, e = .returned (.tuple #[.slice A (quotP p next).length c, .int .i64 0]) ∧ Kd.C (Kd.slice 3 (Kd.int .i64)) w' A (quotP p next).length (quotP p next) ∧ Below w.heap.size w w' := by
  refine (quotient_yes A0 c0 p A1 c1 next w hr0 hr1 hp hn hs).mono ?_
  rintro e w' ⟨v, rfl, hR, hB⟩
  obtain ⟨A, c, rfl, hC⟩ := r_read hR rfl
  exact ⟨A, c, rfl, hC, hB⟩
theorem refQuotientC_walk (A0 : Option Addr) (c0 : Nat) (p : List Int) (A1 : Option Addr) (c1 : Nat) (next : List (List Int)) (w : World) (hr0 : Kd.C (Kd.int .i64) w A0 p.length p) (hr1 : Kd.C (Kd.slice 3 (Kd.int .i64)) w A1 next.length next) (hn : nextP p.length next) (hp : rightP p) (hs : stableP p next) :
    Calls Try.prog 52 #[.slice A0 p.length c0, .slice A1 next.length c1] w fun e w' => ∃ A c, e = .returned (.slice A (quotP p next).length c) ∧ Kd.C (Kd.slice 3 (Kd.int .i64)) w' A (quotP p next).length (quotP p next) ∧ Below w.heap.size w w' := by
  refine (refQuotient_walk A0 c0 p A1 c1 next w hr0 hr1 hn hp hs).mono ?_
  rintro e w' ⟨v, rfl, hR, hB⟩
  obtain ⟨A, c, rfl, hC⟩ := r_read hR rfl
  exact ⟨A, c, rfl, hC, hB⟩
set_option maxRecDepth 100000 in
set_option maxHeartbeats 8000000 in
theorem steps_walk (A0 : Option Addr) (c0 : Nat) (p : List Int) (A1 : Option Addr) (c1 : Nat) (next : List (List Int)) (w : World) (hr0 : Kd.C (Kd.int .i64) w A0 p.length p) (hr1 : Kd.C (Kd.slice 3 (Kd.int .i64)) w A1 next.length next) (hw0 : Wf p) (hp1 : p.length ≤ 40) (hl : next.length ≤ 1000000) (hx : ∀ x ∈ next, x.length ≤ 1000000) :
    Calls Try.prog 24 #[.slice A0 p.length c0, .slice A1 next.length c1] w fun e w' => e = .returned (.bool true) ∧ Below w.heap.size w w' := by
  have HB_0 := Aside0.mk (Below.refl w.heap.size w)
  have FA_0 := Aside0.mk hr0
  have FB_0 := Aside0.mk hr1
  have HW := Aside0.mk hw0
  have HX := Aside0.mk hx
  have HR := Aside0.mk (fun A c W hC => refRight_walk A c p W hC (by omega))
  have HN := Aside0.mk (fun A c W hC => refNext_walk p.length A c next W hC (by omega))
  clear hr0 hr1 hw0 hx
  by_cases hp : rightP p
  · simp only [decide_eq_true hp] at HR
    by_cases hn : nextP p.length next
    · simp only [decide_eq_true hn] at HN
      obtain ⟨m, hm⟩ := exists_stops hp hn.1
      have hc := stable_count hp hn.1
      have hmb : m ≤ p.length := iter_le hp hn.1 hm.2
      have HP := Aside0.mk hp
      have HNX := Aside0.mk hn
      have HM := Aside0.mk hm
      have HLR := Aside0.mk (show (refineP p next).length = p.length by rw [refine_length, hn.1])
      have HLI := Aside0.mk ((iter_right hp hn.1 m).2)
      by_cases hs : stableP p next
      · have HS := Aside0.mk hs
        have hst : ∀ A c A' c' W (h0 : Kd.C (Kd.int .i64) W A p.length p) (h1 : Kd.C (Kd.slice 3 (Kd.int .i64)) W A' next.length next), Calls Try.prog 29 #[.slice A p.length c, .slice A' next.length c'] W fun e w' => e = .returned (.tuple #[.bool true, .int .i64 0]) ∧ Below W.heap.size W w' := by
          intro A c A' c' W h0 h1
          have h := stable_yes A c p A' c' next W h0 h1 hp hn
          rwa [decide_eq_true hs] at h
        have hrs : ∀ A c A' c' W (h0 : Kd.C (Kd.int .i64) W A p.length p) (h1 : Kd.C (Kd.slice 3 (Kd.int .i64)) W A' next.length next), Calls Try.prog 51 #[.slice A p.length c, .slice A' next.length c'] W fun e w' => e = .returned (.bool true) ∧ Below W.heap.size W w' := by
          intro A c A' c' W h0 h1
          have h := refStable_walk A c p A' c' next W h0 h1 hn hp
          rwa [decide_eq_true (hc.1 hs)] at h
        have HST := Aside0.mk hst
        have HRS := Aside0.mk hrs
        clear hst hrs hs hp hn hm hc
        go_enter Try.func24, Try.ntmps24
        go_wp2_with (first
          | (go_at_call 15; refine (cloneC_walk A0 c0 p w FA_0.out (by omega)).mono ?_; rintro e w1 ⟨A2, c2, rfl, hC, hB⟩; have FP_1 := Aside0.mk (hC); have FA_1 := Aside0.mk (Kd.C_below FA_0.out hB); have FB_1 := Aside0.mk (Kd.C_below FB_0.out hB); have HB_1 := Aside0.mk (HB_0.out.trans (hB.mono HB_0.out.size)); clear hC; clear hB HB_0 FA_0 FB_0)
          | (go_at_call 46; refine (copiedC_walk A1 c1 next w1 FB_1.out hl HX.out).mono ?_; rintro e w2 ⟨A3, c3, rfl, hC, hB⟩; have FX_2 := Aside0.mk (hC); have FA_2 := Aside0.mk (Kd.C_below FA_1.out hB); have FB_2 := Aside0.mk (Kd.C_below FB_1.out hB); have FP_2 := Aside0.mk (Kd.C_below FP_1.out hB); have HB_2 := Aside0.mk (HB_1.out.trans (hB.mono HB_1.out.size)); clear hC; clear hB HB_1 FA_1 FB_1 FP_1)
          | (go_at_call 35; refine (refineOfC_walk A2 c2 p A3 c3 next w2 FP_2.out FX_2.out HP.out HNX.out).mono ?_; rintro e w3 ⟨A4, c4, rfl, hC, hB⟩; have FR_3 := Aside0.mk (hC); have FA_3 := Aside0.mk (Kd.C_below FA_2.out hB); have FB_3 := Aside0.mk (Kd.C_below FB_2.out hB); have FP_3 := Aside0.mk (Kd.C_below FP_2.out hB); have FX_3 := Aside0.mk (Kd.C_below FX_2.out hB); have HB_3 := Aside0.mk (HB_2.out.trans (hB.mono HB_2.out.size)); clear hC; clear hB HB_2 FA_2 FB_2 FP_2 FX_2)
          | (go_at_call 29; refine (HST.out A2 c2 A3 c3 w3 FP_3.out FX_3.out).mono ?_; rintro e w4 ⟨rfl, hB⟩; have FA_4 := Aside0.mk (Kd.C_below FA_3.out hB); have FB_4 := Aside0.mk (Kd.C_below FB_3.out hB); have FP_4 := Aside0.mk (Kd.C_below FP_3.out hB); have FX_4 := Aside0.mk (Kd.C_below FX_3.out hB); have FR_4 := Aside0.mk (Kd.C_below FR_3.out hB); have HB_4 := Aside0.mk (HB_3.out.trans (hB.mono HB_3.out.size)); clear hB HB_3 FA_3 FB_3 FP_3 FX_3 FR_3)
          | (go_at_call 27; refine (coarsestC_walk A2 c2 p A3 c3 next w4 FP_4.out FX_4.out HP.out HNX.out m HM.out).mono ?_; rintro e w5 ⟨A5, c5, rfl, hC, hB⟩; have FI_5 := Aside0.mk (hC); have FA_5 := Aside0.mk (Kd.C_below FA_4.out hB); have FB_5 := Aside0.mk (Kd.C_below FB_4.out hB); have FP_5 := Aside0.mk (Kd.C_below FP_4.out hB); have FX_5 := Aside0.mk (Kd.C_below FX_4.out hB); have FR_5 := Aside0.mk (Kd.C_below FR_4.out hB); have HB_5 := Aside0.mk (HB_4.out.trans (hB.mono HB_4.out.size)); clear hC; clear hB HB_4 FA_4 FB_4 FP_4 FX_4 FR_4)
          | (go_at_call 28; refine (quotientC_walk A2 c2 p A3 c3 next w5 FP_5.out FX_5.out HP.out HNX.out HS.out).mono ?_; rintro e w6 ⟨A6, c6, rfl, hC, hB⟩; have FQ_6 := Aside0.mk (hC); have FA_6 := Aside0.mk (Kd.C_below FA_5.out hB); have FB_6 := Aside0.mk (Kd.C_below FB_5.out hB); have FP_6 := Aside0.mk (Kd.C_below FP_5.out hB); have FX_6 := Aside0.mk (Kd.C_below FX_5.out hB); have FR_6 := Aside0.mk (Kd.C_below FR_5.out hB); have FI_6 := Aside0.mk (Kd.C_below FI_5.out hB); have HB_6 := Aside0.mk (HB_5.out.trans (hB.mono HB_5.out.size)); clear hC; clear hB HB_5 FA_5 FB_5 FP_5 FX_5 FR_5 FI_5)
          | (go_at_call 19; refine (same_walk A2 c2 p A0 c0 w6 FP_6.out FA_6.out).mono ?_; rintro e w7 ⟨rfl, hB⟩; have FA_7 := Aside0.mk (Kd.C_below FA_6.out hB); have FB_7 := Aside0.mk (Kd.C_below FB_6.out hB); have FX_7 := Aside0.mk (Kd.C_below FX_6.out hB); have FR_7 := Aside0.mk (Kd.C_below FR_6.out hB); have FI_7 := Aside0.mk (Kd.C_below FI_6.out hB); have FQ_7 := Aside0.mk (Kd.C_below FQ_6.out hB); have HB_7 := Aside0.mk (HB_6.out.trans (hB.mono HB_6.out.size)); clear hB HB_6 FA_6 FB_6 FP_6 FX_6 FR_6 FI_6 FQ_6)
          | (go_at_call 40; refine (sameRowsN_walk A3 c3 next.length next A1 c1 w7 rfl FX_7.out FB_7.out).mono ?_; rintro e w8 ⟨rfl, hB⟩; have FA_8 := Aside0.mk (Kd.C_below FA_7.out hB); have FB_8 := Aside0.mk (Kd.C_below FB_7.out hB); have FR_8 := Aside0.mk (Kd.C_below FR_7.out hB); have FI_8 := Aside0.mk (Kd.C_below FI_7.out hB); have FQ_8 := Aside0.mk (Kd.C_below FQ_7.out hB); have HB_8 := Aside0.mk (HB_7.out.trans (hB.mono HB_7.out.size)); clear hB HB_7 FA_7 FB_7 FX_7 FR_7 FI_7 FQ_7)
          | (go_at_call 47; refine (HR.out A0 c0 w8 FA_8.out).mono ?_; rintro e w9 ⟨rfl, hB⟩; have FA_9 := Aside0.mk (Kd.C_below FA_8.out hB); have FB_9 := Aside0.mk (Kd.C_below FB_8.out hB); have FR_9 := Aside0.mk (Kd.C_below FR_8.out hB); have FI_9 := Aside0.mk (Kd.C_below FI_8.out hB); have FQ_9 := Aside0.mk (Kd.C_below FQ_8.out hB); have HB_9 := Aside0.mk (HB_8.out.trans (hB.mono HB_8.out.size)); clear hB HB_8 FA_8 FB_8 FR_8 FI_8 FQ_8)
          | (go_at_call 48; refine (HN.out A1 c1 w9 FB_9.out).mono ?_; rintro e w10 ⟨rfl, hB⟩; have FA_10 := Aside0.mk (Kd.C_below FA_9.out hB); have FB_10 := Aside0.mk (Kd.C_below FB_9.out hB); have FR_10 := Aside0.mk (Kd.C_below FR_9.out hB); have FI_10 := Aside0.mk (Kd.C_below FI_9.out hB); have FQ_10 := Aside0.mk (Kd.C_below FQ_9.out hB); have HB_10 := Aside0.mk (HB_9.out.trans (hB.mono HB_9.out.size)); clear hB HB_9 FA_9 FB_9 FR_9 FI_9 FQ_9)
          | (go_at_call 49; refine (refCoarsestC_walk A0 c0 p A1 c1 next w10 FA_10.out FB_10.out HNX.out HP.out m HM.out).mono ?_; rintro e w11 ⟨A7, c7, rfl, hC, hB⟩; have FJ_11 := Aside0.mk (hC); have FA_11 := Aside0.mk (Kd.C_below FA_10.out hB); have FB_11 := Aside0.mk (Kd.C_below FB_10.out hB); have FR_11 := Aside0.mk (Kd.C_below FR_10.out hB); have FI_11 := Aside0.mk (Kd.C_below FI_10.out hB); have FQ_11 := Aside0.mk (Kd.C_below FQ_10.out hB); have HB_11 := Aside0.mk (HB_10.out.trans (hB.mono HB_10.out.size)); clear hC; clear hB HB_10 FA_10 FB_10 FR_10 FI_10 FQ_10)
          | (go_at_call 50; refine (refRefineC_walk A0 c0 p A1 c1 next w11 FA_11.out FB_11.out HNX.out (by omega)).mono ?_; rintro e w12 ⟨A8, c8, rfl, hC, hB⟩; have FS_12 := Aside0.mk (hC); have FA_12 := Aside0.mk (Kd.C_below FA_11.out hB); have FB_12 := Aside0.mk (Kd.C_below FB_11.out hB); have FR_12 := Aside0.mk (Kd.C_below FR_11.out hB); have FI_12 := Aside0.mk (Kd.C_below FI_11.out hB); have FQ_12 := Aside0.mk (Kd.C_below FQ_11.out hB); have FJ_12 := Aside0.mk (Kd.C_below FJ_11.out hB); have HB_12 := Aside0.mk (HB_11.out.trans (hB.mono HB_11.out.size)); clear hC; clear hB HB_11 FA_11 FB_11 FR_11 FI_11 FQ_11 FJ_11)
          | (go_at_call 19; refine (sameN_walk A4 c4 p.length (refineP p next) A8 c8 w12 HLR.out FR_12.out FS_12.out).mono ?_; rintro e w13 ⟨rfl, hB⟩; have FA_13 := Aside0.mk (Kd.C_below FA_12.out hB); have FB_13 := Aside0.mk (Kd.C_below FB_12.out hB); have FI_13 := Aside0.mk (Kd.C_below FI_12.out hB); have FQ_13 := Aside0.mk (Kd.C_below FQ_12.out hB); have FJ_13 := Aside0.mk (Kd.C_below FJ_12.out hB); have HB_13 := Aside0.mk (HB_12.out.trans (hB.mono HB_12.out.size)); clear hB HB_12 FA_12 FB_12 FR_12 FI_12 FQ_12 FJ_12 FS_12)
          | (go_at_call 51; refine (HRS.out A0 c0 A1 c1 w13 FA_13.out FB_13.out).mono ?_; rintro e w14 ⟨rfl, hB⟩; have FA_14 := Aside0.mk (Kd.C_below FA_13.out hB); have FB_14 := Aside0.mk (Kd.C_below FB_13.out hB); have FI_14 := Aside0.mk (Kd.C_below FI_13.out hB); have FQ_14 := Aside0.mk (Kd.C_below FQ_13.out hB); have FJ_14 := Aside0.mk (Kd.C_below FJ_13.out hB); have HB_14 := Aside0.mk (HB_13.out.trans (hB.mono HB_13.out.size)); clear hB HB_13 FA_13 FB_13 FI_13 FQ_13 FJ_13)
          | (go_at_call 19; refine (sameN_walk A5 c5 p.length (iterP p next m) A7 c7 w14 HLI.out FI_14.out FJ_14.out).mono ?_; rintro e w15 ⟨rfl, hB⟩; have FA_15 := Aside0.mk (Kd.C_below FA_14.out hB); have FB_15 := Aside0.mk (Kd.C_below FB_14.out hB); have FQ_15 := Aside0.mk (Kd.C_below FQ_14.out hB); have HB_15 := Aside0.mk (HB_14.out.trans (hB.mono HB_14.out.size)); clear hB HB_14 FA_14 FB_14 FI_14 FQ_14 FJ_14)
          | (go_at_call 52; refine (refQuotientC_walk A0 c0 p A1 c1 next w15 FA_15.out FB_15.out HNX.out HP.out HS.out).mono ?_; rintro e w16 ⟨A9, c9, rfl, hC, hB⟩; have FT_16 := Aside0.mk (hC); have FA_16 := Aside0.mk (Kd.C_below FA_15.out hB); have FB_16 := Aside0.mk (Kd.C_below FB_15.out hB); have FQ_16 := Aside0.mk (Kd.C_below FQ_15.out hB); have HB_16 := Aside0.mk (HB_15.out.trans (hB.mono HB_15.out.size)); clear hC; clear hB HB_15 FA_15 FB_15 FQ_15)
          | (go_at_call 40; refine (sameRowsN_walk A6 c6 (quotP p next).length (quotP p next) A9 c9 w16 rfl FQ_16.out FT_16.out).mono ?_; rintro e w17 ⟨rfl, hB⟩; have FA_17 := Aside0.mk (Kd.C_below FA_16.out hB); have FB_17 := Aside0.mk (Kd.C_below FB_16.out hB); have HB_17 := Aside0.mk (HB_16.out.trans (hB.mono HB_16.out.size)); clear hB HB_16 FA_16 FB_16 FQ_16 FT_16))
        go_ret
        exact ⟨rfl, HB_17.out⟩
      · have HS := Aside0.mk hs
        have hst : ∀ A c A' c' W (h0 : Kd.C (Kd.int .i64) W A p.length p) (h1 : Kd.C (Kd.slice 3 (Kd.int .i64)) W A' next.length next), Calls Try.prog 29 #[.slice A p.length c, .slice A' next.length c'] W fun e w' => e = .returned (.tuple #[.bool false, .int .i64 0]) ∧ Below W.heap.size W w' := by
          intro A c A' c' W h0 h1
          have h := stable_yes A c p A' c' next W h0 h1 hp hn
          rwa [decide_eq_false hs] at h
        have hrs : ∀ A c A' c' W (h0 : Kd.C (Kd.int .i64) W A p.length p) (h1 : Kd.C (Kd.slice 3 (Kd.int .i64)) W A' next.length next), Calls Try.prog 51 #[.slice A p.length c, .slice A' next.length c'] W fun e w' => e = .returned (.bool false) ∧ Below W.heap.size W w' := by
          intro A c A' c' W h0 h1
          have h := refStable_walk A c p A' c' next W h0 h1 hn hp
          rwa [decide_eq_false (fun h => hs (hc.2 h))] at h
        have HST := Aside0.mk hst
        have HRS := Aside0.mk hrs
        clear hst hrs hs hp hn hm hc
        go_enter Try.func24, Try.ntmps24
        go_wp2_with (first
          | (go_at_call 15; refine (cloneC_walk A0 c0 p w FA_0.out (by omega)).mono ?_; rintro e w1 ⟨A2, c2, rfl, hC, hB⟩; have FP_1 := Aside0.mk (hC); have FA_1 := Aside0.mk (Kd.C_below FA_0.out hB); have FB_1 := Aside0.mk (Kd.C_below FB_0.out hB); have HB_1 := Aside0.mk (HB_0.out.trans (hB.mono HB_0.out.size)); clear hC; clear hB HB_0 FA_0 FB_0)
          | (go_at_call 46; refine (copiedC_walk A1 c1 next w1 FB_1.out hl HX.out).mono ?_; rintro e w2 ⟨A3, c3, rfl, hC, hB⟩; have FX_2 := Aside0.mk (hC); have FA_2 := Aside0.mk (Kd.C_below FA_1.out hB); have FB_2 := Aside0.mk (Kd.C_below FB_1.out hB); have FP_2 := Aside0.mk (Kd.C_below FP_1.out hB); have HB_2 := Aside0.mk (HB_1.out.trans (hB.mono HB_1.out.size)); clear hC; clear hB HB_1 FA_1 FB_1 FP_1)
          | (go_at_call 35; refine (refineOfC_walk A2 c2 p A3 c3 next w2 FP_2.out FX_2.out HP.out HNX.out).mono ?_; rintro e w3 ⟨A4, c4, rfl, hC, hB⟩; have FR_3 := Aside0.mk (hC); have FA_3 := Aside0.mk (Kd.C_below FA_2.out hB); have FB_3 := Aside0.mk (Kd.C_below FB_2.out hB); have FP_3 := Aside0.mk (Kd.C_below FP_2.out hB); have FX_3 := Aside0.mk (Kd.C_below FX_2.out hB); have HB_3 := Aside0.mk (HB_2.out.trans (hB.mono HB_2.out.size)); clear hC; clear hB HB_2 FA_2 FB_2 FP_2 FX_2)
          | (go_at_call 29; refine (HST.out A2 c2 A3 c3 w3 FP_3.out FX_3.out).mono ?_; rintro e w4 ⟨rfl, hB⟩; have FA_4 := Aside0.mk (Kd.C_below FA_3.out hB); have FB_4 := Aside0.mk (Kd.C_below FB_3.out hB); have FP_4 := Aside0.mk (Kd.C_below FP_3.out hB); have FX_4 := Aside0.mk (Kd.C_below FX_3.out hB); have FR_4 := Aside0.mk (Kd.C_below FR_3.out hB); have HB_4 := Aside0.mk (HB_3.out.trans (hB.mono HB_3.out.size)); clear hB HB_3 FA_3 FB_3 FP_3 FX_3 FR_3)
          | (go_at_call 27; refine (coarsestC_walk A2 c2 p A3 c3 next w4 FP_4.out FX_4.out HP.out HNX.out m HM.out).mono ?_; rintro e w5 ⟨A5, c5, rfl, hC, hB⟩; have FI_5 := Aside0.mk (hC); have FA_5 := Aside0.mk (Kd.C_below FA_4.out hB); have FB_5 := Aside0.mk (Kd.C_below FB_4.out hB); have FP_5 := Aside0.mk (Kd.C_below FP_4.out hB); have FX_5 := Aside0.mk (Kd.C_below FX_4.out hB); have FR_5 := Aside0.mk (Kd.C_below FR_4.out hB); have HB_5 := Aside0.mk (HB_4.out.trans (hB.mono HB_4.out.size)); clear hC; clear hB HB_4 FA_4 FB_4 FP_4 FX_4 FR_4)
          | (go_at_call 28; refine (quotient_split A2 c2 p A3 c3 next w5 FP_5.out FX_5.out HP.out HNX.out HS.out).mono ?_; rintro e w6 ⟨rfl, hB⟩; have FA_6 := Aside0.mk (Kd.C_below FA_5.out hB); have FB_6 := Aside0.mk (Kd.C_below FB_5.out hB); have FP_6 := Aside0.mk (Kd.C_below FP_5.out hB); have FX_6 := Aside0.mk (Kd.C_below FX_5.out hB); have FR_6 := Aside0.mk (Kd.C_below FR_5.out hB); have FI_6 := Aside0.mk (Kd.C_below FI_5.out hB); have HB_6 := Aside0.mk (HB_5.out.trans (hB.mono HB_5.out.size)); clear hB HB_5 FA_5 FB_5 FP_5 FX_5 FR_5 FI_5)
          | (go_at_call 19; refine (same_walk A2 c2 p A0 c0 w6 FP_6.out FA_6.out).mono ?_; rintro e w7 ⟨rfl, hB⟩; have FA_7 := Aside0.mk (Kd.C_below FA_6.out hB); have FB_7 := Aside0.mk (Kd.C_below FB_6.out hB); have FX_7 := Aside0.mk (Kd.C_below FX_6.out hB); have FR_7 := Aside0.mk (Kd.C_below FR_6.out hB); have FI_7 := Aside0.mk (Kd.C_below FI_6.out hB); have HB_7 := Aside0.mk (HB_6.out.trans (hB.mono HB_6.out.size)); clear hB HB_6 FA_6 FB_6 FP_6 FX_6 FR_6 FI_6)
          | (go_at_call 40; refine (sameRowsN_walk A3 c3 next.length next A1 c1 w7 rfl FX_7.out FB_7.out).mono ?_; rintro e w8 ⟨rfl, hB⟩; have FA_8 := Aside0.mk (Kd.C_below FA_7.out hB); have FB_8 := Aside0.mk (Kd.C_below FB_7.out hB); have FR_8 := Aside0.mk (Kd.C_below FR_7.out hB); have FI_8 := Aside0.mk (Kd.C_below FI_7.out hB); have HB_8 := Aside0.mk (HB_7.out.trans (hB.mono HB_7.out.size)); clear hB HB_7 FA_7 FB_7 FX_7 FR_7 FI_7)
          | (go_at_call 47; refine (HR.out A0 c0 w8 FA_8.out).mono ?_; rintro e w9 ⟨rfl, hB⟩; have FA_9 := Aside0.mk (Kd.C_below FA_8.out hB); have FB_9 := Aside0.mk (Kd.C_below FB_8.out hB); have FR_9 := Aside0.mk (Kd.C_below FR_8.out hB); have FI_9 := Aside0.mk (Kd.C_below FI_8.out hB); have HB_9 := Aside0.mk (HB_8.out.trans (hB.mono HB_8.out.size)); clear hB HB_8 FA_8 FB_8 FR_8 FI_8)
          | (go_at_call 48; refine (HN.out A1 c1 w9 FB_9.out).mono ?_; rintro e w10 ⟨rfl, hB⟩; have FA_10 := Aside0.mk (Kd.C_below FA_9.out hB); have FB_10 := Aside0.mk (Kd.C_below FB_9.out hB); have FR_10 := Aside0.mk (Kd.C_below FR_9.out hB); have FI_10 := Aside0.mk (Kd.C_below FI_9.out hB); have HB_10 := Aside0.mk (HB_9.out.trans (hB.mono HB_9.out.size)); clear hB HB_9 FA_9 FB_9 FR_9 FI_9)
          | (go_at_call 49; refine (refCoarsestC_walk A0 c0 p A1 c1 next w10 FA_10.out FB_10.out HNX.out HP.out m HM.out).mono ?_; rintro e w11 ⟨A7, c7, rfl, hC, hB⟩; have FJ_11 := Aside0.mk (hC); have FA_11 := Aside0.mk (Kd.C_below FA_10.out hB); have FB_11 := Aside0.mk (Kd.C_below FB_10.out hB); have FR_11 := Aside0.mk (Kd.C_below FR_10.out hB); have FI_11 := Aside0.mk (Kd.C_below FI_10.out hB); have HB_11 := Aside0.mk (HB_10.out.trans (hB.mono HB_10.out.size)); clear hC; clear hB HB_10 FA_10 FB_10 FR_10 FI_10)
          | (go_at_call 50; refine (refRefineC_walk A0 c0 p A1 c1 next w11 FA_11.out FB_11.out HNX.out (by omega)).mono ?_; rintro e w12 ⟨A8, c8, rfl, hC, hB⟩; have FS_12 := Aside0.mk (hC); have FA_12 := Aside0.mk (Kd.C_below FA_11.out hB); have FB_12 := Aside0.mk (Kd.C_below FB_11.out hB); have FR_12 := Aside0.mk (Kd.C_below FR_11.out hB); have FI_12 := Aside0.mk (Kd.C_below FI_11.out hB); have FJ_12 := Aside0.mk (Kd.C_below FJ_11.out hB); have HB_12 := Aside0.mk (HB_11.out.trans (hB.mono HB_11.out.size)); clear hC; clear hB HB_11 FA_11 FB_11 FR_11 FI_11 FJ_11)
          | (go_at_call 19; refine (sameN_walk A4 c4 p.length (refineP p next) A8 c8 w12 HLR.out FR_12.out FS_12.out).mono ?_; rintro e w13 ⟨rfl, hB⟩; have FA_13 := Aside0.mk (Kd.C_below FA_12.out hB); have FB_13 := Aside0.mk (Kd.C_below FB_12.out hB); have FI_13 := Aside0.mk (Kd.C_below FI_12.out hB); have FJ_13 := Aside0.mk (Kd.C_below FJ_12.out hB); have HB_13 := Aside0.mk (HB_12.out.trans (hB.mono HB_12.out.size)); clear hB HB_12 FA_12 FB_12 FR_12 FI_12 FJ_12 FS_12)
          | (go_at_call 51; refine (HRS.out A0 c0 A1 c1 w13 FA_13.out FB_13.out).mono ?_; rintro e w14 ⟨rfl, hB⟩; have FA_14 := Aside0.mk (Kd.C_below FA_13.out hB); have FB_14 := Aside0.mk (Kd.C_below FB_13.out hB); have FI_14 := Aside0.mk (Kd.C_below FI_13.out hB); have FJ_14 := Aside0.mk (Kd.C_below FJ_13.out hB); have HB_14 := Aside0.mk (HB_13.out.trans (hB.mono HB_13.out.size)); clear hB HB_13 FA_13 FB_13 FI_13 FJ_13)
          | (go_at_call 19; refine (sameN_walk A5 c5 p.length (iterP p next m) A7 c7 w14 HLI.out FI_14.out FJ_14.out).mono ?_; rintro e w15 ⟨rfl, hB⟩; have FA_15 := Aside0.mk (Kd.C_below FA_14.out hB); have FB_15 := Aside0.mk (Kd.C_below FB_14.out hB); have HB_15 := Aside0.mk (HB_14.out.trans (hB.mono HB_14.out.size)); clear hB HB_14 FA_14 FB_14 FI_14 FJ_14))
        go_ret
        exact ⟨rfl, HB_15.out⟩
    · simp only [decide_eq_false hn] at HN
      have HE := Aside0.mk (show wrongE p next = 61 by simp [wrongE, hp, hn])
      clear hp hn
      go_enter Try.func24, Try.ntmps24
      go_wp2_with (first
        | (go_at_call 15; refine (cloneC_walk A0 c0 p w FA_0.out (by omega)).mono ?_; rintro e w1 ⟨A2, c2, rfl, hC, hB⟩; have FP_1 := Aside0.mk (hC); have FA_1 := Aside0.mk (Kd.C_below FA_0.out hB); have FB_1 := Aside0.mk (Kd.C_below FB_0.out hB); have HB_1 := Aside0.mk (HB_0.out.trans (hB.mono HB_0.out.size)); clear hC; clear hB HB_0 FA_0 FB_0)
        | (go_at_call 46; refine (copiedC_walk A1 c1 next w1 FB_1.out hl HX.out).mono ?_; rintro e w2 ⟨A3, c3, rfl, hC, hB⟩; have FX_2 := Aside0.mk (hC); have FA_2 := Aside0.mk (Kd.C_below FA_1.out hB); have FB_2 := Aside0.mk (Kd.C_below FB_1.out hB); have FP_2 := Aside0.mk (Kd.C_below FP_1.out hB); have HB_2 := Aside0.mk (HB_1.out.trans (hB.mono HB_1.out.size)); clear hC; clear hB HB_1 FA_1 FB_1 FP_1)
        | (go_at_call 35; refine (no35 A2 c2 p A3 c3 next w2 FP_2.out FX_2.out HW.out _ HE.out (by decide)).mono ?_; rintro e w3 ⟨rfl, hB⟩; have FA_3 := Aside0.mk (Kd.C_below FA_2.out hB); have FB_3 := Aside0.mk (Kd.C_below FB_2.out hB); have FP_3 := Aside0.mk (Kd.C_below FP_2.out hB); have FX_3 := Aside0.mk (Kd.C_below FX_2.out hB); have HB_3 := Aside0.mk (HB_2.out.trans (hB.mono HB_2.out.size)); clear hB HB_2 FA_2 FB_2 FP_2 FX_2)
        | (go_at_call 29; refine (no29 A2 c2 p A3 c3 next w3 FP_3.out FX_3.out HW.out _ HE.out (by decide)).mono ?_; rintro e w4 ⟨rfl, hB⟩; have FA_4 := Aside0.mk (Kd.C_below FA_3.out hB); have FB_4 := Aside0.mk (Kd.C_below FB_3.out hB); have FP_4 := Aside0.mk (Kd.C_below FP_3.out hB); have FX_4 := Aside0.mk (Kd.C_below FX_3.out hB); have HB_4 := Aside0.mk (HB_3.out.trans (hB.mono HB_3.out.size)); clear hB HB_3 FA_3 FB_3 FP_3 FX_3)
        | (go_at_call 27; refine (no27 A2 c2 p A3 c3 next w4 FP_4.out FX_4.out HW.out _ HE.out (by decide)).mono ?_; rintro e w5 ⟨rfl, hB⟩; have FA_5 := Aside0.mk (Kd.C_below FA_4.out hB); have FB_5 := Aside0.mk (Kd.C_below FB_4.out hB); have FP_5 := Aside0.mk (Kd.C_below FP_4.out hB); have FX_5 := Aside0.mk (Kd.C_below FX_4.out hB); have HB_5 := Aside0.mk (HB_4.out.trans (hB.mono HB_4.out.size)); clear hB HB_4 FA_4 FB_4 FP_4 FX_4)
        | (go_at_call 28; refine (no28 A2 c2 p A3 c3 next w5 FP_5.out FX_5.out HW.out _ HE.out (by decide)).mono ?_; rintro e w6 ⟨rfl, hB⟩; have FA_6 := Aside0.mk (Kd.C_below FA_5.out hB); have FB_6 := Aside0.mk (Kd.C_below FB_5.out hB); have FP_6 := Aside0.mk (Kd.C_below FP_5.out hB); have FX_6 := Aside0.mk (Kd.C_below FX_5.out hB); have HB_6 := Aside0.mk (HB_5.out.trans (hB.mono HB_5.out.size)); clear hB HB_5 FA_5 FB_5 FP_5 FX_5)
        | (go_at_call 19; refine (same_walk A2 c2 p A0 c0 w6 FP_6.out FA_6.out).mono ?_; rintro e w7 ⟨rfl, hB⟩; have FA_7 := Aside0.mk (Kd.C_below FA_6.out hB); have FB_7 := Aside0.mk (Kd.C_below FB_6.out hB); have FX_7 := Aside0.mk (Kd.C_below FX_6.out hB); have HB_7 := Aside0.mk (HB_6.out.trans (hB.mono HB_6.out.size)); clear hB HB_6 FA_6 FB_6 FP_6 FX_6)
        | (go_at_call 40; refine (sameRowsN_walk A3 c3 next.length next A1 c1 w7 rfl FX_7.out FB_7.out).mono ?_; rintro e w8 ⟨rfl, hB⟩; have FA_8 := Aside0.mk (Kd.C_below FA_7.out hB); have FB_8 := Aside0.mk (Kd.C_below FB_7.out hB); have HB_8 := Aside0.mk (HB_7.out.trans (hB.mono HB_7.out.size)); clear hB HB_7 FA_7 FB_7 FX_7)
        | (go_at_call 47; refine (HR.out A0 c0 w8 FA_8.out).mono ?_; rintro e w9 ⟨rfl, hB⟩; have FA_9 := Aside0.mk (Kd.C_below FA_8.out hB); have FB_9 := Aside0.mk (Kd.C_below FB_8.out hB); have HB_9 := Aside0.mk (HB_8.out.trans (hB.mono HB_8.out.size)); clear hB HB_8 FA_8 FB_8)
        | (go_at_call 48; refine (HN.out A1 c1 w9 FB_9.out).mono ?_; rintro e w10 ⟨rfl, hB⟩; have FA_10 := Aside0.mk (Kd.C_below FA_9.out hB); have FB_10 := Aside0.mk (Kd.C_below FB_9.out hB); have HB_10 := Aside0.mk (HB_9.out.trans (hB.mono HB_9.out.size)); clear hB HB_9 FA_9 FB_9))
      go_ret
      exact ⟨rfl, HB_10.out⟩
  · simp only [decide_eq_false hp] at HR
    have HE := Aside0.mk (show wrongE p next = 60 by simp [wrongE, hp])
    clear hp
    go_enter Try.func24, Try.ntmps24
    go_wp2_with (first
      | (go_at_call 15; refine (cloneC_walk A0 c0 p w FA_0.out (by omega)).mono ?_; rintro e w1 ⟨A2, c2, rfl, hC, hB⟩; have FP_1 := Aside0.mk (hC); have FA_1 := Aside0.mk (Kd.C_below FA_0.out hB); have FB_1 := Aside0.mk (Kd.C_below FB_0.out hB); have HB_1 := Aside0.mk (HB_0.out.trans (hB.mono HB_0.out.size)); clear hC; clear hB HB_0 FA_0 FB_0)
      | (go_at_call 46; refine (copiedC_walk A1 c1 next w1 FB_1.out hl HX.out).mono ?_; rintro e w2 ⟨A3, c3, rfl, hC, hB⟩; have FX_2 := Aside0.mk (hC); have FA_2 := Aside0.mk (Kd.C_below FA_1.out hB); have FB_2 := Aside0.mk (Kd.C_below FB_1.out hB); have FP_2 := Aside0.mk (Kd.C_below FP_1.out hB); have HB_2 := Aside0.mk (HB_1.out.trans (hB.mono HB_1.out.size)); clear hC; clear hB HB_1 FA_1 FB_1 FP_1)
      | (go_at_call 35; refine (no35 A2 c2 p A3 c3 next w2 FP_2.out FX_2.out HW.out _ HE.out (by decide)).mono ?_; rintro e w3 ⟨rfl, hB⟩; have FA_3 := Aside0.mk (Kd.C_below FA_2.out hB); have FB_3 := Aside0.mk (Kd.C_below FB_2.out hB); have FP_3 := Aside0.mk (Kd.C_below FP_2.out hB); have FX_3 := Aside0.mk (Kd.C_below FX_2.out hB); have HB_3 := Aside0.mk (HB_2.out.trans (hB.mono HB_2.out.size)); clear hB HB_2 FA_2 FB_2 FP_2 FX_2)
      | (go_at_call 29; refine (no29 A2 c2 p A3 c3 next w3 FP_3.out FX_3.out HW.out _ HE.out (by decide)).mono ?_; rintro e w4 ⟨rfl, hB⟩; have FA_4 := Aside0.mk (Kd.C_below FA_3.out hB); have FB_4 := Aside0.mk (Kd.C_below FB_3.out hB); have FP_4 := Aside0.mk (Kd.C_below FP_3.out hB); have FX_4 := Aside0.mk (Kd.C_below FX_3.out hB); have HB_4 := Aside0.mk (HB_3.out.trans (hB.mono HB_3.out.size)); clear hB HB_3 FA_3 FB_3 FP_3 FX_3)
      | (go_at_call 27; refine (no27 A2 c2 p A3 c3 next w4 FP_4.out FX_4.out HW.out _ HE.out (by decide)).mono ?_; rintro e w5 ⟨rfl, hB⟩; have FA_5 := Aside0.mk (Kd.C_below FA_4.out hB); have FB_5 := Aside0.mk (Kd.C_below FB_4.out hB); have FP_5 := Aside0.mk (Kd.C_below FP_4.out hB); have FX_5 := Aside0.mk (Kd.C_below FX_4.out hB); have HB_5 := Aside0.mk (HB_4.out.trans (hB.mono HB_4.out.size)); clear hB HB_4 FA_4 FB_4 FP_4 FX_4)
      | (go_at_call 28; refine (no28 A2 c2 p A3 c3 next w5 FP_5.out FX_5.out HW.out _ HE.out (by decide)).mono ?_; rintro e w6 ⟨rfl, hB⟩; have FA_6 := Aside0.mk (Kd.C_below FA_5.out hB); have FB_6 := Aside0.mk (Kd.C_below FB_5.out hB); have FP_6 := Aside0.mk (Kd.C_below FP_5.out hB); have FX_6 := Aside0.mk (Kd.C_below FX_5.out hB); have HB_6 := Aside0.mk (HB_5.out.trans (hB.mono HB_5.out.size)); clear hB HB_5 FA_5 FB_5 FP_5 FX_5)
      | (go_at_call 19; refine (same_walk A2 c2 p A0 c0 w6 FP_6.out FA_6.out).mono ?_; rintro e w7 ⟨rfl, hB⟩; have FA_7 := Aside0.mk (Kd.C_below FA_6.out hB); have FB_7 := Aside0.mk (Kd.C_below FB_6.out hB); have FX_7 := Aside0.mk (Kd.C_below FX_6.out hB); have HB_7 := Aside0.mk (HB_6.out.trans (hB.mono HB_6.out.size)); clear hB HB_6 FA_6 FB_6 FP_6 FX_6)
      | (go_at_call 40; refine (sameRowsN_walk A3 c3 next.length next A1 c1 w7 rfl FX_7.out FB_7.out).mono ?_; rintro e w8 ⟨rfl, hB⟩; have FA_8 := Aside0.mk (Kd.C_below FA_7.out hB); have FB_8 := Aside0.mk (Kd.C_below FB_7.out hB); have HB_8 := Aside0.mk (HB_7.out.trans (hB.mono HB_7.out.size)); clear hB HB_7 FA_7 FB_7 FX_7)
      | (go_at_call 47; refine (HR.out A0 c0 w8 FA_8.out).mono ?_; rintro e w9 ⟨rfl, hB⟩; have FA_9 := Aside0.mk (Kd.C_below FA_8.out hB); have FB_9 := Aside0.mk (Kd.C_below FB_8.out hB); have HB_9 := Aside0.mk (HB_8.out.trans (hB.mono HB_8.out.size)); clear hB HB_8 FA_8 FB_8))
    go_ret
    exact ⟨rfl, HB_9.out⟩

set_option maxRecDepth 100000 in
set_option maxHeartbeats 2000000 in
theorem blocksSteps_walk (A0 : Option Addr) (c0 : Nat) (p : List Int) (A1 : Option Addr) (c1 : Nat) (next : List (List Int)) (w : World) (hr0 : Kd.C (Kd.int .i64) w A0 p.length p) (hw0 : Wf p) (hr1 : Kd.C (Kd.slice 3 (Kd.int .i64)) w A1 next.length next) (hw1 : ∀ y ∈ next, ∀ z ∈ y, (Lit.int .i64 z).wf = true) :
    Calls Try.prog 4 #[.slice A0 p.length c0, .slice A1 next.length c1] w fun e w' => e = .returned (.bool true) ∧ Below w.heap.size w w' := by
  have hb0 := len_le hr0
  have HB_0 := Aside0.mk (Below.refl w.heap.size w)
  by_cases h40 : 40 < p.length
  · have g0 : decide ((40 : Int) < (p.length : Int)) = true := decide_eq_true (by omega)
    clear hr0 hr1 hw0 hw1
    go_enter Try.func4, Try.ntmps4
    go_wp2_with (go_at_call 14; refine (awake_walk w).mono ?_; rintro e w1 ⟨rfl, hB⟩)
    go_ret
    exact ⟨rfl, hB⟩
  · have g0 : decide ((40 : Int) < (p.length : Int)) = false := decide_eq_false (by omega)
    have hfew := few_walk A1 c1 next w hr1
    cases hf : fewB next with
    | false =>
      rw [hf] at hfew
      have HF := Aside0.mk hfew
      clear hr0 hr1 hw0 hw1 hf hfew
      go_enter Try.func4, Try.ntmps4
      go_wp2_with (first
        | (go_at_call 23; refine HF.out.mono ?_; rintro e w1 ⟨rfl, hB⟩; have HB1 := Aside0.mk hB; clear hB)
        | (go_at_call 14; refine (awake_walk w1).mono ?_; rintro e w2 ⟨rfl, hB⟩; have HB2 := Aside0.mk (HB1.out.trans (hB.mono HB1.out.size)); clear hB))
      go_ret
      exact ⟨rfl, HB2.out⟩
    | true =>
      rw [hf] at hfew
      have HF := Aside0.mk hfew
      simp only [fewB, Bool.and_eq_true, decide_eq_true_eq, Bool.not_eq_true', List.any_eq_false, decide_eq_true_eq] at hf
      have HS := Aside0.mk (fun W (hB : Below w.heap.size w W) => steps_walk A0 c0 p A1 c1 next W (Kd.C_below hr0 hB) (Kd.C_below hr1 hB) hw0 (by omega) (by have := hf.1; omega) (fun x hx => by have := hf.2 x hx; omega))
      clear hr0 hr1 hw0 hw1 hf hfew
      go_enter Try.func4, Try.ntmps4
      go_wp2_with (first
        | (go_at_call 23; refine HF.out.mono ?_; rintro e w1 ⟨rfl, hB⟩; have HB1 := Aside0.mk hB; clear hB)
        | (go_at_call 24; refine (HS.out w1 HB1.out).mono ?_; rintro e w2 ⟨rfl, hB⟩; have HB2 := Aside0.mk (HB1.out.trans (hB.mono HB1.out.size)); clear hB)
        | (go_at_call 14; refine (awake_walk w2).mono ?_; rintro e w3 ⟨rfl, hB⟩; have HB3 := Aside0.mk (HB2.out.trans (hB.mono HB2.out.size)); clear hB))
      go_ret
      exact ⟨rfl, HB3.out⟩
end Go.Proofs.Ytboofecfmhbacaa
