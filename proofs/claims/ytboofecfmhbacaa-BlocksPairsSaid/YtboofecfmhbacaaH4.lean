/- The walk of the law BlocksKeys. -/
import Derived.Test.YtboofecfmhbacaaH3
namespace Go.Proofs.Ytboofecfmhbacaa
open Go.RowKit Go.WideMaps Go.Maps Go.Proofs.YtboofecfmhbacaaW.PrintWords Go.Proofs.YtboofecfmhbacaaW.PrintLast Go.Proofs.YtboofecfmhbacaaW.PrintMore
set_option linter.unusedVariables false
set_option linter.unusedSimpArgs false

theorem str_nne {a b : ByteArray} (h : a = b) : (a.toList != b.toList) = false := by subst h; simp
set_option maxRecDepth 100000 in
set_option maxHeartbeats 1000000 in
/-- slices.Equal of two slices that hold the same strings. -/
theorem sameStr_walk (A0 : Option Addr) (c0 : Nat) (l : List ByteArray) (A1 : Option Addr) (c1 : Nat) (w : World) (hr0 : Kd.C Kd.string w A0 l.length l) (hr1 : Kd.C Kd.string w A1 l.length l) :
    Calls Try.prog 20 #[.slice A0 l.length c0, .slice A1 l.length c1] w fun e w' => e = .returned (.bool true) ∧ Below w.heap.size w w' := by
  have HR0 := Aside0.mk hr0
  have HR1 := Aside0.mk hr1
  have hb := len_le hr0
  clear hr0 hr1
  go_enter Try.func20, Try.ntmps20
  go_wp2
  go_loopw [13] (fun i wr => ∃ k : Nat, i = .int .i64 k ∧ Aside0 (k ≤ l.length ∧ Below w.heap.size w wr)) (fun i _ => l.length - (intOf i).toNat)
  case atStart => exact ⟨0, rfl, ⟨Nat.zero_le _, Below.refl _ _⟩⟩
  case round =>
    obtain ⟨k, rfl, HI⟩ := hrel
    have hkl := HI.out.1
    by_cases hk : k < l.length
    · obtain ⟨ad0, e0, hx0⟩ := strs_at (Kd.C_below HR0.out HI.out.2) k hk
      obtain ⟨ad1, e1, hx1⟩ := strs_at (Kd.C_below HR1.out HI.out.2) k hk
      subst e0 e1
      have h1 := str_eq (rfl : l[k] = l[k])
      have h2 := str_nne (rfl : l[k] = l[k])
      go_wp2
      go_quiet (fail)
      go_wp2
      go_roundw
      case rel => exact ⟨k + 1, by go_num, ⟨by omega, pw_below_drewN HI.out.2 _⟩⟩
      case measure => simp [intOf]; omega
    · go_wp2
      go_ret
      exact ⟨rfl, HI.out.2⟩

/-- Is a number of keys one that the law leaves out? -/
def longB (n : Nat) : Bool := (decide (60 < n) && decide (n ≤ 1024)) || decide (1100 ≤ n)
set_option maxRecDepth 100000 in
set_option maxHeartbeats 1000000 in
theorem long_walk (n : Nat) (w : World) (hb : n ≤ 9223372036854775807) : Calls Try.prog 13 #[.int .i64 n] w fun e w' => e = .returned (.bool (longB n)) ∧ Below w.heap.size w w' := by
  unfold longB
  by_cases h1 : 60 < n <;> by_cases h2 : n ≤ 1024 <;> by_cases h3 : 1100 ≤ n <;> first | omega | skip
  all_goals
    have g1 : decide ((60 : Int) < (n : Int)) = decide (60 < n) := by simp; omega
    have g2 : decide ((n : Int) ≤ (1024 : Int)) = decide (n ≤ 1024) := by simp; omega
    have g3 : decide ((1100 : Int) ≤ (n : Int)) = decide (1100 ≤ n) := by simp; omega
    simp only [h1, h2, h3, decide_true, decide_false] at g1 g2 g3 ⊢
    go_enter Try.func13, Try.ntmps13
    go_wp2
    go_ret
    exact ⟨rfl, Below.refl _ _⟩

theorem cloneC_walk (A0 : Option Addr) (c0 : Nat) (l : List Int) (w : World) (hr : Kd.C (Kd.int .i64) w A0 l.length l) (hl : l.length ≤ 1000000) :
    Calls Try.prog 15 #[.slice A0 l.length c0] w fun e w' => ∃ A c, e = .returned (.slice A l.length c) ∧ Kd.C (Kd.int .i64) w' A l.length l ∧ Below w.heap.size w w' := by
  refine (clone_walk A0 c0 l w hr (by omega)).mono ?_
  rintro e w' ⟨v, rfl, hR, hB⟩
  obtain ⟨A, c, rfl, hC⟩ := r_read hR rfl
  exact ⟨A, c, rfl, hC, hB⟩
theorem cloneSC_walk (A0 : Option Addr) (c0 : Nat) (l : List ByteArray) (w : World) (hr : Kd.C Kd.string w A0 l.length l) (hl : l.length ≤ 1000000) :
    Calls Try.prog 16 #[.slice A0 l.length c0] w fun e w' => ∃ A c, e = .returned (.slice A l.length c) ∧ Kd.C Kd.string w' A l.length l ∧ Below w.heap.size w w' := by
  refine (clone_str_walk A0 c0 l w hr (by omega)).mono ?_
  rintro e w' ⟨v, rfl, hR, hB⟩
  obtain ⟨A, c, rfl, hC⟩ := r_read hR rfl
  exact ⟨A, c, rfl, hC, hB⟩
theorem refIntsC_walk (A0 : Option Addr) (c0 : Nat) (l : List Int) (w : World) (hr : Kd.C (Kd.int .i64) w A0 l.length l) (hn : l.length ≤ 1000000) :
    Calls Try.prog 21 #[.slice A0 l.length c0] w fun e w' => ∃ A c, e = .returned (.slice A l.length c) ∧ Kd.C (Kd.int .i64) w' A l.length (Num.num l) ∧ Below w.heap.size w w' := by
  refine (refInts_walk A0 c0 l w hr hn).mono ?_
  rintro e w' ⟨v, rfl, hR, hB⟩
  obtain ⟨A, c, rfl, hC⟩ := r_read hR (Num.num_length l)
  exact ⟨A, c, rfl, hC, hB⟩
theorem refTextsC_walk (A0 : Option Addr) (c0 : Nat) (l : List ByteArray) (w : World) (hr : Kd.C Kd.string w A0 l.length l) (hn : l.length ≤ 1000000) :
    Calls Try.prog 22 #[.slice A0 l.length c0] w fun e w' => ∃ A c, e = .returned (.slice A l.length c) ∧ Kd.C (Kd.int .i64) w' A l.length (Num.num l) ∧ Below w.heap.size w w' := by
  refine (refTexts_walk A0 c0 l w hr hn).mono ?_
  rintro e w' ⟨v, rfl, hR, hB⟩
  obtain ⟨A, c, rfl, hC⟩ := r_read hR (Num.num_length l)
  exact ⟨A, c, rfl, hC, hB⟩
/-- slices.Equal of two slices that hold the same numbers. -/
theorem sameN_walk (A0 : Option Addr) (c0 n : Nat) (l : List Int) (A1 : Option Addr) (c1 : Nat) (w : World) (hn : l.length = n) (hr0 : Kd.C (Kd.int .i64) w A0 n l) (hr1 : Kd.C (Kd.int .i64) w A1 n l) :
    Calls Try.prog 19 #[.slice A0 n c0, .slice A1 n c1] w fun e w' => e = .returned (.bool true) ∧ Below w.heap.size w w' := by
  subst hn
  refine (equal_walk A0 c0 l A1 c1 l w hr0 hr1).mono ?_
  rintro e w' ⟨rfl, hB⟩
  exact ⟨by simp, hB⟩
theorem same_walk (A0 : Option Addr) (c0 : Nat) (l : List Int) (A1 : Option Addr) (c1 : Nat) (w : World) (hr0 : Kd.C (Kd.int .i64) w A0 l.length l) (hr1 : Kd.C (Kd.int .i64) w A1 l.length l) :
    Calls Try.prog 19 #[.slice A0 l.length c0, .slice A1 l.length c1] w fun e w' => e = .returned (.bool true) ∧ Below w.heap.size w w' := sameN_walk A0 c0 l.length l A1 c1 w rfl hr0 hr1

set_option maxRecDepth 100000 in
set_option maxHeartbeats 4000000 in
theorem blocksKeys_walk (A0 : Option Addr) (c0 : Nat) (l : List Int) (A1 : Option Addr) (c1 : Nat) (s : List ByteArray) (w : World) (hr0 : Kd.C (Kd.int .i64) w A0 l.length l) (hw0 : Wf l) (hr1 : Kd.C Kd.string w A1 s.length s) (hw1 : ∀ x ∈ s, x.size ≤ maxLen) :
    Calls Try.prog 3 #[.slice A0 l.length c0, .slice A1 s.length c1] w fun e w' => e = .returned (.bool true) ∧ Below w.heap.size w w' := by
  have HB_0 := Aside0.mk (Below.refl w.heap.size w)
  have hb0 := len_le hr0
  have hb1 := len_le hr1
  have HW0 := Aside0.mk hw0
  have HW1 := Aside0.mk hw1
  have HL0 := Aside0.mk (fun W => long_walk l.length W hb0)
  have HL1 := Aside0.mk (fun W => long_walk s.length W hb1)
  cases g0 : longB l.length with
  | true =>
    rw [g0] at HL0
    clear g0 hr0 hr1 hw0 hw1
    go_enter Try.func3, Try.ntmps3
    go_wp2_with (first
      | (go_at_call 13; refine (HL0.out w).mono ?_; rintro e w1 ⟨rfl, hB⟩; have HB_1 := Aside0.mk (HB_0.out.trans (hB.mono HB_0.out.size)); clear hB HB_0)
      | (go_at_call 14; refine (awake_walk w1).mono ?_; rintro e w2 ⟨rfl, hB⟩; have HB_2 := Aside0.mk (HB_1.out.trans (hB.mono HB_1.out.size)); clear hB HB_1))
    go_ret
    exact ⟨rfl, HB_2.out⟩
  | false =>
    rw [g0] at HL0
    cases g1 : longB s.length with
    | true =>
      rw [g1] at HL1
      clear g0 g1 hr0 hr1 hw0 hw1
      go_enter Try.func3, Try.ntmps3
      go_wp2_with (first
        | (go_at_call 13; refine (HL0.out w).mono ?_; rintro e w1 ⟨rfl, hB⟩; have HB_1 := Aside0.mk (HB_0.out.trans (hB.mono HB_0.out.size)); clear HL0; clear hB HB_0)
        | (go_at_call 13; refine (HL1.out w1).mono ?_; rintro e w2 ⟨rfl, hB⟩; have HB_2 := Aside0.mk (HB_1.out.trans (hB.mono HB_1.out.size)); clear hB HB_1)
        | (go_at_call 14; refine (awake_walk w2).mono ?_; rintro e w3 ⟨rfl, hB⟩; have HB_3 := Aside0.mk (HB_2.out.trans (hB.mono HB_2.out.size)); clear hB HB_2))
      go_ret
      exact ⟨rfl, HB_3.out⟩
    | false =>
      rw [g1] at HL1
      have n0 : l.length < 1100 := by
        simp only [longB, Bool.or_eq_false_iff, decide_eq_false_iff_not] at g0; omega
      have n1 : s.length < 1100 := by
        simp only [longB, Bool.or_eq_false_iff, decide_eq_false_iff_not] at g1; omega
      have FA_0 := Aside0.mk hr0
      have FB_0 := Aside0.mk hr1
      have HOI := Aside0.mk (fun A c W hC => ofInt_walk A c l W hC hw0)
      have HOS := Aside0.mk (fun A c W hC => ofString_walk A c s W hC hw1)
      clear g0 g1 hr0 hr1 hw0 hw1
      by_cases h0 : 1024 < l.length
      · have t0 : decide ((1024 : Int) < (l.length : Int)) = true := decide_eq_true (by omega)
        simp only [if_pos h0] at HOI
        by_cases h1 : 1024 < s.length
        · have t1 : decide ((1024 : Int) < (s.length : Int)) = true := decide_eq_true (by omega)
          simp only [if_pos h1] at HOS
          go_enter Try.func3, Try.ntmps3
          go_wp2_with (first
            | (go_at_call 13; refine (HL0.out w).mono ?_; rintro e w1 ⟨rfl, hB⟩; have FA_1 := Aside0.mk (Kd.C_below FA_0.out hB); have FB_1 := Aside0.mk (Kd.C_below FB_0.out hB); have HB_1 := Aside0.mk (HB_0.out.trans (hB.mono HB_0.out.size)); clear HL0; clear hB HB_0 FA_0 FB_0)
            | (go_at_call 13; refine (HL1.out w1).mono ?_; rintro e w2 ⟨rfl, hB⟩; have FA_2 := Aside0.mk (Kd.C_below FA_1.out hB); have FB_2 := Aside0.mk (Kd.C_below FB_1.out hB); have HB_2 := Aside0.mk (HB_1.out.trans (hB.mono HB_1.out.size)); clear hB HB_1 FA_1 FB_1)
            | (go_at_call 15; refine (cloneC_walk A0 c0 l w2 FA_2.out (by omega)).mono ?_; rintro e w3 ⟨A2, c2, rfl, hC, hB⟩; have FP_3 := Aside0.mk (hC); have FA_3 := Aside0.mk (Kd.C_below FA_2.out hB); have FB_3 := Aside0.mk (Kd.C_below FB_2.out hB); have HB_3 := Aside0.mk (HB_2.out.trans (hB.mono HB_2.out.size)); clear hC; clear hB HB_2 FA_2 FB_2)
            | (go_at_call 16; refine (cloneSC_walk A1 c1 s w3 FB_3.out (by omega)).mono ?_; rintro e w4 ⟨A3, c3, rfl, hC, hB⟩; have FQ_4 := Aside0.mk (hC); have FA_4 := Aside0.mk (Kd.C_below FA_3.out hB); have FB_4 := Aside0.mk (Kd.C_below FB_3.out hB); have FP_4 := Aside0.mk (Kd.C_below FP_3.out hB); have HB_4 := Aside0.mk (HB_3.out.trans (hB.mono HB_3.out.size)); clear hC; clear hB HB_3 FA_3 FB_3 FP_3)
            | (go_at_call 17; refine ((HOI.out A2 c2 w4 FP_4.out)).mono ?_; rintro e w5 ⟨v8, rfl, hR, hB⟩; have FA_5 := Aside0.mk (Kd.C_below FA_4.out hB); have FB_5 := Aside0.mk (Kd.C_below FB_4.out hB); have FP_5 := Aside0.mk (Kd.C_below FP_4.out hB); have FQ_5 := Aside0.mk (Kd.C_below FQ_4.out hB); have HB_5 := Aside0.mk (HB_4.out.trans (hB.mono HB_4.out.size)); obtain ⟨A8, c8, rfl, -⟩ := r_read hR (n := 0) rfl; clear hR HOI; clear hB HB_4 FA_4 FB_4 FP_4 FQ_4)
            | (go_at_call 18; refine ((HOS.out A3 c3 w5 FQ_5.out)).mono ?_; rintro e w6 ⟨v9, rfl, hR, hB⟩; have FA_6 := Aside0.mk (Kd.C_below FA_5.out hB); have FB_6 := Aside0.mk (Kd.C_below FB_5.out hB); have FP_6 := Aside0.mk (Kd.C_below FP_5.out hB); have FQ_6 := Aside0.mk (Kd.C_below FQ_5.out hB); have HB_6 := Aside0.mk (HB_5.out.trans (hB.mono HB_5.out.size)); obtain ⟨A9, c9, rfl, -⟩ := r_read hR (n := 0) rfl; clear hR HOS; clear hB HB_5 FA_5 FB_5 FP_5 FQ_5)
            | (go_at_call 19; refine (same_walk A2 c2 l A0 c0 w6 FP_6.out FA_6.out).mono ?_; rintro e w7 ⟨rfl, hB⟩; have FA_7 := Aside0.mk (Kd.C_below FA_6.out hB); have FB_7 := Aside0.mk (Kd.C_below FB_6.out hB); have FQ_7 := Aside0.mk (Kd.C_below FQ_6.out hB); have HB_7 := Aside0.mk (HB_6.out.trans (hB.mono HB_6.out.size)); clear hB HB_6 FA_6 FB_6 FP_6 FQ_6)
            | (go_at_call 20; refine (sameStr_walk A3 c3 s A1 c1 w7 FQ_7.out FB_7.out).mono ?_; rintro e w8 ⟨rfl, hB⟩; have FA_8 := Aside0.mk (Kd.C_below FA_7.out hB); have FB_8 := Aside0.mk (Kd.C_below FB_7.out hB); have HB_8 := Aside0.mk (HB_7.out.trans (hB.mono HB_7.out.size)); clear hB HB_7 FA_7 FB_7 FQ_7)
            | (go_at_call 14; refine (awake_walk w8).mono ?_; rintro e w9 ⟨rfl, hB⟩; have FA_9 := Aside0.mk (Kd.C_below FA_8.out hB); have FB_9 := Aside0.mk (Kd.C_below FB_8.out hB); have HB_9 := Aside0.mk (HB_8.out.trans (hB.mono HB_8.out.size)); clear hB HB_8 FA_8 FB_8))
          go_ret
          exact ⟨rfl, HB_9.out⟩
        · have t1 : decide ((1024 : Int) < (s.length : Int)) = false := decide_eq_false (by omega)
          simp only [if_neg h1] at HOS
          go_enter Try.func3, Try.ntmps3
          go_wp2_with (first
            | (go_at_call 13; refine (HL0.out w).mono ?_; rintro e w1 ⟨rfl, hB⟩; have FA_1 := Aside0.mk (Kd.C_below FA_0.out hB); have FB_1 := Aside0.mk (Kd.C_below FB_0.out hB); have HB_1 := Aside0.mk (HB_0.out.trans (hB.mono HB_0.out.size)); clear HL0; clear hB HB_0 FA_0 FB_0)
            | (go_at_call 13; refine (HL1.out w1).mono ?_; rintro e w2 ⟨rfl, hB⟩; have FA_2 := Aside0.mk (Kd.C_below FA_1.out hB); have FB_2 := Aside0.mk (Kd.C_below FB_1.out hB); have HB_2 := Aside0.mk (HB_1.out.trans (hB.mono HB_1.out.size)); clear hB HB_1 FA_1 FB_1)
            | (go_at_call 15; refine (cloneC_walk A0 c0 l w2 FA_2.out (by omega)).mono ?_; rintro e w3 ⟨A2, c2, rfl, hC, hB⟩; have FP_3 := Aside0.mk (hC); have FA_3 := Aside0.mk (Kd.C_below FA_2.out hB); have FB_3 := Aside0.mk (Kd.C_below FB_2.out hB); have HB_3 := Aside0.mk (HB_2.out.trans (hB.mono HB_2.out.size)); clear hC; clear hB HB_2 FA_2 FB_2)
            | (go_at_call 16; refine (cloneSC_walk A1 c1 s w3 FB_3.out (by omega)).mono ?_; rintro e w4 ⟨A3, c3, rfl, hC, hB⟩; have FQ_4 := Aside0.mk (hC); have FA_4 := Aside0.mk (Kd.C_below FA_3.out hB); have FB_4 := Aside0.mk (Kd.C_below FB_3.out hB); have FP_4 := Aside0.mk (Kd.C_below FP_3.out hB); have HB_4 := Aside0.mk (HB_3.out.trans (hB.mono HB_3.out.size)); clear hC; clear hB HB_3 FA_3 FB_3 FP_3)
            | (go_at_call 17; refine ((HOI.out A2 c2 w4 FP_4.out)).mono ?_; rintro e w5 ⟨v8, rfl, hR, hB⟩; have FA_5 := Aside0.mk (Kd.C_below FA_4.out hB); have FB_5 := Aside0.mk (Kd.C_below FB_4.out hB); have FP_5 := Aside0.mk (Kd.C_below FP_4.out hB); have FQ_5 := Aside0.mk (Kd.C_below FQ_4.out hB); have HB_5 := Aside0.mk (HB_4.out.trans (hB.mono HB_4.out.size)); obtain ⟨A8, c8, rfl, -⟩ := r_read hR (n := 0) rfl; clear hR HOI; clear hB HB_4 FA_4 FB_4 FP_4 FQ_4)
            | (go_at_call 18; refine ((HOS.out A3 c3 w5 FQ_5.out)).mono ?_; rintro e w6 ⟨v9, rfl, hR, hB⟩; have FA_6 := Aside0.mk (Kd.C_below FA_5.out hB); have FB_6 := Aside0.mk (Kd.C_below FB_5.out hB); have FP_6 := Aside0.mk (Kd.C_below FP_5.out hB); have FQ_6 := Aside0.mk (Kd.C_below FQ_5.out hB); have HB_6 := Aside0.mk (HB_5.out.trans (hB.mono HB_5.out.size)); obtain ⟨A9, c9, rfl, hC9⟩ := r_read hR (Num.num_length s); have F9_6 := Aside0.mk hC9; clear hR hC9 HOS; clear hB HB_5 FA_5 FB_5 FP_5 FQ_5)
            | (go_at_call 19; refine (same_walk A2 c2 l A0 c0 w6 FP_6.out FA_6.out).mono ?_; rintro e w7 ⟨rfl, hB⟩; have FA_7 := Aside0.mk (Kd.C_below FA_6.out hB); have FB_7 := Aside0.mk (Kd.C_below FB_6.out hB); have FQ_7 := Aside0.mk (Kd.C_below FQ_6.out hB); have F9_7 := Aside0.mk (Kd.C_below F9_6.out hB); have HB_7 := Aside0.mk (HB_6.out.trans (hB.mono HB_6.out.size)); clear hB HB_6 FA_6 FB_6 FP_6 FQ_6 F9_6)
            | (go_at_call 20; refine (sameStr_walk A3 c3 s A1 c1 w7 FQ_7.out FB_7.out).mono ?_; rintro e w8 ⟨rfl, hB⟩; have FA_8 := Aside0.mk (Kd.C_below FA_7.out hB); have FB_8 := Aside0.mk (Kd.C_below FB_7.out hB); have F9_8 := Aside0.mk (Kd.C_below F9_7.out hB); have HB_8 := Aside0.mk (HB_7.out.trans (hB.mono HB_7.out.size)); clear hB HB_7 FA_7 FB_7 FQ_7 F9_7)
            | (go_at_call 22; refine (refTextsC_walk A1 c1 s w8 FB_8.out (by omega)).mono ?_; rintro e w9 ⟨A11, c11, rfl, hC, hB⟩; have FY_9 := Aside0.mk (hC); have FA_9 := Aside0.mk (Kd.C_below FA_8.out hB); have FB_9 := Aside0.mk (Kd.C_below FB_8.out hB); have F9_9 := Aside0.mk (Kd.C_below F9_8.out hB); have HB_9 := Aside0.mk (HB_8.out.trans (hB.mono HB_8.out.size)); clear hC; clear hB HB_8 FA_8 FB_8 F9_8)
            | (go_at_call 19; refine (sameN_walk A9 c9 s.length (Num.num s) A11 c11 w9 (Num.num_length s) F9_9.out FY_9.out).mono ?_; rintro e w10 ⟨rfl, hB⟩; have FA_10 := Aside0.mk (Kd.C_below FA_9.out hB); have FB_10 := Aside0.mk (Kd.C_below FB_9.out hB); have HB_10 := Aside0.mk (HB_9.out.trans (hB.mono HB_9.out.size)); clear hB HB_9 FA_9 FB_9 F9_9 FY_9)
            | (go_at_call 14; refine (awake_walk w10).mono ?_; rintro e w11 ⟨rfl, hB⟩; have FA_11 := Aside0.mk (Kd.C_below FA_10.out hB); have FB_11 := Aside0.mk (Kd.C_below FB_10.out hB); have HB_11 := Aside0.mk (HB_10.out.trans (hB.mono HB_10.out.size)); clear hB HB_10 FA_10 FB_10))
          go_ret
          exact ⟨rfl, HB_11.out⟩
      · have t0 : decide ((1024 : Int) < (l.length : Int)) = false := decide_eq_false (by omega)
        simp only [if_neg h0] at HOI
        by_cases h1 : 1024 < s.length
        · have t1 : decide ((1024 : Int) < (s.length : Int)) = true := decide_eq_true (by omega)
          simp only [if_pos h1] at HOS
          go_enter Try.func3, Try.ntmps3
          go_wp2_with (first
            | (go_at_call 13; refine (HL0.out w).mono ?_; rintro e w1 ⟨rfl, hB⟩; have FA_1 := Aside0.mk (Kd.C_below FA_0.out hB); have FB_1 := Aside0.mk (Kd.C_below FB_0.out hB); have HB_1 := Aside0.mk (HB_0.out.trans (hB.mono HB_0.out.size)); clear HL0; clear hB HB_0 FA_0 FB_0)
            | (go_at_call 13; refine (HL1.out w1).mono ?_; rintro e w2 ⟨rfl, hB⟩; have FA_2 := Aside0.mk (Kd.C_below FA_1.out hB); have FB_2 := Aside0.mk (Kd.C_below FB_1.out hB); have HB_2 := Aside0.mk (HB_1.out.trans (hB.mono HB_1.out.size)); clear hB HB_1 FA_1 FB_1)
            | (go_at_call 15; refine (cloneC_walk A0 c0 l w2 FA_2.out (by omega)).mono ?_; rintro e w3 ⟨A2, c2, rfl, hC, hB⟩; have FP_3 := Aside0.mk (hC); have FA_3 := Aside0.mk (Kd.C_below FA_2.out hB); have FB_3 := Aside0.mk (Kd.C_below FB_2.out hB); have HB_3 := Aside0.mk (HB_2.out.trans (hB.mono HB_2.out.size)); clear hC; clear hB HB_2 FA_2 FB_2)
            | (go_at_call 16; refine (cloneSC_walk A1 c1 s w3 FB_3.out (by omega)).mono ?_; rintro e w4 ⟨A3, c3, rfl, hC, hB⟩; have FQ_4 := Aside0.mk (hC); have FA_4 := Aside0.mk (Kd.C_below FA_3.out hB); have FB_4 := Aside0.mk (Kd.C_below FB_3.out hB); have FP_4 := Aside0.mk (Kd.C_below FP_3.out hB); have HB_4 := Aside0.mk (HB_3.out.trans (hB.mono HB_3.out.size)); clear hC; clear hB HB_3 FA_3 FB_3 FP_3)
            | (go_at_call 17; refine ((HOI.out A2 c2 w4 FP_4.out)).mono ?_; rintro e w5 ⟨v8, rfl, hR, hB⟩; have FA_5 := Aside0.mk (Kd.C_below FA_4.out hB); have FB_5 := Aside0.mk (Kd.C_below FB_4.out hB); have FP_5 := Aside0.mk (Kd.C_below FP_4.out hB); have FQ_5 := Aside0.mk (Kd.C_below FQ_4.out hB); have HB_5 := Aside0.mk (HB_4.out.trans (hB.mono HB_4.out.size)); obtain ⟨A8, c8, rfl, hC8⟩ := r_read hR (Num.num_length l); have F8_5 := Aside0.mk hC8; clear hR hC8 HOI; clear hB HB_4 FA_4 FB_4 FP_4 FQ_4)
            | (go_at_call 18; refine ((HOS.out A3 c3 w5 FQ_5.out)).mono ?_; rintro e w6 ⟨v9, rfl, hR, hB⟩; have FA_6 := Aside0.mk (Kd.C_below FA_5.out hB); have FB_6 := Aside0.mk (Kd.C_below FB_5.out hB); have FP_6 := Aside0.mk (Kd.C_below FP_5.out hB); have FQ_6 := Aside0.mk (Kd.C_below FQ_5.out hB); have F8_6 := Aside0.mk (Kd.C_below F8_5.out hB); have HB_6 := Aside0.mk (HB_5.out.trans (hB.mono HB_5.out.size)); obtain ⟨A9, c9, rfl, -⟩ := r_read hR (n := 0) rfl; clear hR HOS; clear hB HB_5 FA_5 FB_5 FP_5 FQ_5 F8_5)
            | (go_at_call 19; refine (same_walk A2 c2 l A0 c0 w6 FP_6.out FA_6.out).mono ?_; rintro e w7 ⟨rfl, hB⟩; have FA_7 := Aside0.mk (Kd.C_below FA_6.out hB); have FB_7 := Aside0.mk (Kd.C_below FB_6.out hB); have FQ_7 := Aside0.mk (Kd.C_below FQ_6.out hB); have F8_7 := Aside0.mk (Kd.C_below F8_6.out hB); have HB_7 := Aside0.mk (HB_6.out.trans (hB.mono HB_6.out.size)); clear hB HB_6 FA_6 FB_6 FP_6 FQ_6 F8_6)
            | (go_at_call 20; refine (sameStr_walk A3 c3 s A1 c1 w7 FQ_7.out FB_7.out).mono ?_; rintro e w8 ⟨rfl, hB⟩; have FA_8 := Aside0.mk (Kd.C_below FA_7.out hB); have FB_8 := Aside0.mk (Kd.C_below FB_7.out hB); have F8_8 := Aside0.mk (Kd.C_below F8_7.out hB); have HB_8 := Aside0.mk (HB_7.out.trans (hB.mono HB_7.out.size)); clear hB HB_7 FA_7 FB_7 FQ_7 F8_7)
            | (go_at_call 21; refine (refIntsC_walk A0 c0 l w8 FA_8.out (by omega)).mono ?_; rintro e w9 ⟨A10, c10, rfl, hC, hB⟩; have FX_9 := Aside0.mk (hC); have FA_9 := Aside0.mk (Kd.C_below FA_8.out hB); have FB_9 := Aside0.mk (Kd.C_below FB_8.out hB); have F8_9 := Aside0.mk (Kd.C_below F8_8.out hB); have HB_9 := Aside0.mk (HB_8.out.trans (hB.mono HB_8.out.size)); clear hC; clear hB HB_8 FA_8 FB_8 F8_8)
            | (go_at_call 19; refine (sameN_walk A8 c8 l.length (Num.num l) A10 c10 w9 (Num.num_length l) F8_9.out FX_9.out).mono ?_; rintro e w10 ⟨rfl, hB⟩; have FA_10 := Aside0.mk (Kd.C_below FA_9.out hB); have FB_10 := Aside0.mk (Kd.C_below FB_9.out hB); have HB_10 := Aside0.mk (HB_9.out.trans (hB.mono HB_9.out.size)); clear hB HB_9 FA_9 FB_9 F8_9 FX_9)
            | (go_at_call 14; refine (awake_walk w10).mono ?_; rintro e w11 ⟨rfl, hB⟩; have FA_11 := Aside0.mk (Kd.C_below FA_10.out hB); have FB_11 := Aside0.mk (Kd.C_below FB_10.out hB); have HB_11 := Aside0.mk (HB_10.out.trans (hB.mono HB_10.out.size)); clear hB HB_10 FA_10 FB_10))
          go_ret
          exact ⟨rfl, HB_11.out⟩
        · have t1 : decide ((1024 : Int) < (s.length : Int)) = false := decide_eq_false (by omega)
          simp only [if_neg h1] at HOS
          go_enter Try.func3, Try.ntmps3
          go_wp2_with (first
            | (go_at_call 13; refine (HL0.out w).mono ?_; rintro e w1 ⟨rfl, hB⟩; have FA_1 := Aside0.mk (Kd.C_below FA_0.out hB); have FB_1 := Aside0.mk (Kd.C_below FB_0.out hB); have HB_1 := Aside0.mk (HB_0.out.trans (hB.mono HB_0.out.size)); clear HL0; clear hB HB_0 FA_0 FB_0)
            | (go_at_call 13; refine (HL1.out w1).mono ?_; rintro e w2 ⟨rfl, hB⟩; have FA_2 := Aside0.mk (Kd.C_below FA_1.out hB); have FB_2 := Aside0.mk (Kd.C_below FB_1.out hB); have HB_2 := Aside0.mk (HB_1.out.trans (hB.mono HB_1.out.size)); clear hB HB_1 FA_1 FB_1)
            | (go_at_call 15; refine (cloneC_walk A0 c0 l w2 FA_2.out (by omega)).mono ?_; rintro e w3 ⟨A2, c2, rfl, hC, hB⟩; have FP_3 := Aside0.mk (hC); have FA_3 := Aside0.mk (Kd.C_below FA_2.out hB); have FB_3 := Aside0.mk (Kd.C_below FB_2.out hB); have HB_3 := Aside0.mk (HB_2.out.trans (hB.mono HB_2.out.size)); clear hC; clear hB HB_2 FA_2 FB_2)
            | (go_at_call 16; refine (cloneSC_walk A1 c1 s w3 FB_3.out (by omega)).mono ?_; rintro e w4 ⟨A3, c3, rfl, hC, hB⟩; have FQ_4 := Aside0.mk (hC); have FA_4 := Aside0.mk (Kd.C_below FA_3.out hB); have FB_4 := Aside0.mk (Kd.C_below FB_3.out hB); have FP_4 := Aside0.mk (Kd.C_below FP_3.out hB); have HB_4 := Aside0.mk (HB_3.out.trans (hB.mono HB_3.out.size)); clear hC; clear hB HB_3 FA_3 FB_3 FP_3)
            | (go_at_call 17; refine ((HOI.out A2 c2 w4 FP_4.out)).mono ?_; rintro e w5 ⟨v8, rfl, hR, hB⟩; have FA_5 := Aside0.mk (Kd.C_below FA_4.out hB); have FB_5 := Aside0.mk (Kd.C_below FB_4.out hB); have FP_5 := Aside0.mk (Kd.C_below FP_4.out hB); have FQ_5 := Aside0.mk (Kd.C_below FQ_4.out hB); have HB_5 := Aside0.mk (HB_4.out.trans (hB.mono HB_4.out.size)); obtain ⟨A8, c8, rfl, hC8⟩ := r_read hR (Num.num_length l); have F8_5 := Aside0.mk hC8; clear hR hC8 HOI; clear hB HB_4 FA_4 FB_4 FP_4 FQ_4)
            | (go_at_call 18; refine ((HOS.out A3 c3 w5 FQ_5.out)).mono ?_; rintro e w6 ⟨v9, rfl, hR, hB⟩; have FA_6 := Aside0.mk (Kd.C_below FA_5.out hB); have FB_6 := Aside0.mk (Kd.C_below FB_5.out hB); have FP_6 := Aside0.mk (Kd.C_below FP_5.out hB); have FQ_6 := Aside0.mk (Kd.C_below FQ_5.out hB); have F8_6 := Aside0.mk (Kd.C_below F8_5.out hB); have HB_6 := Aside0.mk (HB_5.out.trans (hB.mono HB_5.out.size)); obtain ⟨A9, c9, rfl, hC9⟩ := r_read hR (Num.num_length s); have F9_6 := Aside0.mk hC9; clear hR hC9 HOS; clear hB HB_5 FA_5 FB_5 FP_5 FQ_5 F8_5)
            | (go_at_call 19; refine (same_walk A2 c2 l A0 c0 w6 FP_6.out FA_6.out).mono ?_; rintro e w7 ⟨rfl, hB⟩; have FA_7 := Aside0.mk (Kd.C_below FA_6.out hB); have FB_7 := Aside0.mk (Kd.C_below FB_6.out hB); have FQ_7 := Aside0.mk (Kd.C_below FQ_6.out hB); have F8_7 := Aside0.mk (Kd.C_below F8_6.out hB); have F9_7 := Aside0.mk (Kd.C_below F9_6.out hB); have HB_7 := Aside0.mk (HB_6.out.trans (hB.mono HB_6.out.size)); clear hB HB_6 FA_6 FB_6 FP_6 FQ_6 F8_6 F9_6)
            | (go_at_call 20; refine (sameStr_walk A3 c3 s A1 c1 w7 FQ_7.out FB_7.out).mono ?_; rintro e w8 ⟨rfl, hB⟩; have FA_8 := Aside0.mk (Kd.C_below FA_7.out hB); have FB_8 := Aside0.mk (Kd.C_below FB_7.out hB); have F8_8 := Aside0.mk (Kd.C_below F8_7.out hB); have F9_8 := Aside0.mk (Kd.C_below F9_7.out hB); have HB_8 := Aside0.mk (HB_7.out.trans (hB.mono HB_7.out.size)); clear hB HB_7 FA_7 FB_7 FQ_7 F8_7 F9_7)
            | (go_at_call 21; refine (refIntsC_walk A0 c0 l w8 FA_8.out (by omega)).mono ?_; rintro e w9 ⟨A10, c10, rfl, hC, hB⟩; have FX_9 := Aside0.mk (hC); have FA_9 := Aside0.mk (Kd.C_below FA_8.out hB); have FB_9 := Aside0.mk (Kd.C_below FB_8.out hB); have F8_9 := Aside0.mk (Kd.C_below F8_8.out hB); have F9_9 := Aside0.mk (Kd.C_below F9_8.out hB); have HB_9 := Aside0.mk (HB_8.out.trans (hB.mono HB_8.out.size)); clear hC; clear hB HB_8 FA_8 FB_8 F8_8 F9_8)
            | (go_at_call 19; refine (sameN_walk A8 c8 l.length (Num.num l) A10 c10 w9 (Num.num_length l) F8_9.out FX_9.out).mono ?_; rintro e w10 ⟨rfl, hB⟩; have FA_10 := Aside0.mk (Kd.C_below FA_9.out hB); have FB_10 := Aside0.mk (Kd.C_below FB_9.out hB); have F9_10 := Aside0.mk (Kd.C_below F9_9.out hB); have HB_10 := Aside0.mk (HB_9.out.trans (hB.mono HB_9.out.size)); clear hB HB_9 FA_9 FB_9 F8_9 F9_9 FX_9)
            | (go_at_call 22; refine (refTextsC_walk A1 c1 s w10 FB_10.out (by omega)).mono ?_; rintro e w11 ⟨A11, c11, rfl, hC, hB⟩; have FY_11 := Aside0.mk (hC); have FA_11 := Aside0.mk (Kd.C_below FA_10.out hB); have FB_11 := Aside0.mk (Kd.C_below FB_10.out hB); have F9_11 := Aside0.mk (Kd.C_below F9_10.out hB); have HB_11 := Aside0.mk (HB_10.out.trans (hB.mono HB_10.out.size)); clear hC; clear hB HB_10 FA_10 FB_10 F9_10)
            | (go_at_call 19; refine (sameN_walk A9 c9 s.length (Num.num s) A11 c11 w11 (Num.num_length s) F9_11.out FY_11.out).mono ?_; rintro e w12 ⟨rfl, hB⟩; have FA_12 := Aside0.mk (Kd.C_below FA_11.out hB); have FB_12 := Aside0.mk (Kd.C_below FB_11.out hB); have HB_12 := Aside0.mk (HB_11.out.trans (hB.mono HB_11.out.size)); clear hB HB_11 FA_11 FB_11 F9_11 FY_11)
            | (go_at_call 14; refine (awake_walk w12).mono ?_; rintro e w13 ⟨rfl, hB⟩; have FA_13 := Aside0.mk (Kd.C_below FA_12.out hB); have FB_13 := Aside0.mk (Kd.C_below FB_12.out hB); have HB_13 := Aside0.mk (HB_12.out.trans (hB.mono HB_12.out.size)); clear hB HB_12 FA_12 FB_12))
          go_ret
          exact ⟨rfl, HB_13.out⟩
end Go.Proofs.Ytboofecfmhbacaa
