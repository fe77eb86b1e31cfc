/- The walk of the law BlocksPairs. -/
import Derived.Test.YtboofecfmhbacaaH19
namespace Go.Proofs.Ytboofecfmhbacaa
open Go.RowKit Go.WideMaps Go.Maps Go.Proofs.YtboofecfmhbacaaW.PrintWords Go.Proofs.YtboofecfmhbacaaW.PrintLast Go.Proofs.YtboofecfmhbacaaW.PrintMore
set_option linter.unusedVariables false
set_option linter.unusedSimpArgs false

theorem pairs_walk (A0 : Option Addr) (c0 : Nat) (p : List Int) (A1 : Option Addr) (c1 : Nat) (q : List Int) (w : World) (hr0 : Kd.C (Kd.int .i64) w A0 p.length p) (hr1 : Kd.C (Kd.int .i64) w A1 q.length q) (hw0 : Wf p) (hw1 : Wf q) (hp1 : p.length ≤ 1000) (hq1 : q.length ≤ 1000) :
    Calls Try.prog 38 #[.slice A0 p.length c0, .slice A1 q.length c1] w fun e w' => e = .returned (.bool true) ∧ Below w.heap.size w w' := by
  by_cases h : rightP p ∧ rightP q ∧ p.length = q.length
  · obtain ⟨hp, hq, hl⟩ := h
    have h := pairs_yes A0 c0 p A1 c1 q w hr0 (by rw [hl]; exact hr1) ⟨hp, rfl⟩ ⟨hq, hl.symm⟩
    have e : (Value.slice A1 q.length c1) = .slice A1 p.length c1 := by rw [hl]
    rw [e]
    exact h
  · exact pairs_no A0 c0 p A1 c1 q w hr0 hr1 hw0 hw1 hp1 hq1 h

set_option maxRecDepth 100000 in
set_option maxHeartbeats 2000000 in
theorem blocksPairs_walk (A0 : Option Addr) (c0 : Nat) (p : List Int) (A1 : Option Addr) (c1 : Nat) (q : List Int) (w : World) (hr0 : Kd.C (Kd.int .i64) w A0 p.length p) (hw0 : Wf p) (hr1 : Kd.C (Kd.int .i64) w A1 q.length q) (hw1 : Wf q) :
    Calls Try.prog 10 #[.slice A0 p.length c0, .slice A1 q.length c1] w fun e w' => e = .returned (.bool true) ∧ Below w.heap.size w w' := by
  have hb0 := len_le hr0
  have hb1 := len_le hr1
  by_cases h0 : 60 < p.length
  · have g0 : decide ((60 : Int) < (p.length : Int)) = true := decide_eq_true (by omega)
    clear hr0 hr1 hw0 hw1
    go_enter Try.func10, Try.ntmps10
    go_wp2_with (go_at_call 14; refine (awake_walk w).mono ?_; rintro e w1 ⟨rfl, hB⟩)
    go_ret
    exact ⟨rfl, hB⟩
  · have g0 : decide ((60 : Int) < (p.length : Int)) = false := decide_eq_false (by omega)
    by_cases h1 : 60 < q.length
    · have g1 : decide ((60 : Int) < (q.length : Int)) = true := decide_eq_true (by omega)
      clear hr0 hr1 hw0 hw1
      go_enter Try.func10, Try.ntmps10
      go_wp2_with (go_at_call 14; refine (awake_walk w).mono ?_; rintro e w1 ⟨rfl, hB⟩)
      go_ret
      exact ⟨rfl, hB⟩
    · have g1 : decide ((60 : Int) < (q.length : Int)) = false := decide_eq_false (by omega)
      have HP := Aside0.mk (pairs_walk A0 c0 p A1 c1 q w hr0 hr1 hw0 hw1 (by omega) (by omega))
      clear hr0 hr1 hw0 hw1
      go_enter Try.func10, Try.ntmps10
      go_wp2_with (first
        | (go_at_call 38; refine HP.out.mono ?_; rintro e w1 ⟨rfl, hB⟩; have HB1 := Aside0.mk hB; clear hB)
        | (go_at_call 14; refine (awake_walk w1).mono ?_; rintro e w2 ⟨rfl, hB⟩; have HB2 := Aside0.mk (HB1.out.trans (hB.mono HB1.out.size)); clear hB))
      go_ret
      exact ⟨rfl, HB2.out⟩
end Go.Proofs.Ytboofecfmhbacaa
