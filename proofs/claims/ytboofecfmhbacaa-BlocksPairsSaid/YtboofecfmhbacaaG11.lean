/- The walks of package blocks' Refine, Stable and Coarsest. -/
import Derived.Test.YtboofecfmhbacaaG10
import Derived.Test.YtboofecfmhbacaaPart
import Derived.Deep.LoopGhost
namespace Go.Proofs.Ytboofecfmhbacaa
open Go.RowKit Go.WideMaps Go.Maps Go.Proofs.YtboofecfmhbacaaW.PrintWords Go.Proofs.YtboofecfmhbacaaW.PrintLast Go.Proofs.YtboofecfmhbacaaW.PrintMore
set_option linter.unusedVariables false
set_option linter.unusedSimpArgs false

theorem wrongE_ok {p : List Int} {next : List (List Int)} (hp : rightP p) (hn : nextP p.length next) : wrongE p next = 0 := by simp [wrongE, hp, hn]
theorem wrongE_wrong {p : List Int} {next : List (List Int)} (h : ¬ (rightP p ∧ nextP p.length next)) : wrongE p next ≠ 0 := by
  unfold wrongE
  by_cases hp : rightP p <;> by_cases hn : nextP p.length next <;> simp_all

set_option maxRecDepth 100000 in
set_option maxHeartbeats 1000000 in
theorem refineOf_no (A0 : Option Addr) (c0 : Nat) (p : List Int) (A1 : Option Addr) (c1 : Nat) (next : List (List Int)) (w : World) (hr0 : Kd.C (Kd.int .i64) w A0 p.length p) (hr1 : Kd.C (Kd.slice 3 (Kd.int .i64)) w A1 next.length next) (hw0 : Wf p) (hno : wrongE p next ≠ 0) :
    Calls Try.prog 35 #[.slice A0 p.length c0, .slice A1 next.length c1] w fun e w' => e = .returned (.tuple #[.slice none 0 0, .int .i64 (wrongE p next)]) ∧ Below w.heap.size w w' := by
  have HB := Aside0.mk (wrong_walk A0 c0 p A1 c1 next w hr0 hr1 hw0)
  generalize wrongE p next = b at HB hno ⊢
  have h1 : (b == 0) = false := beq_eq_false_iff_ne.mpr hno
  have h2 : (b != 0) = true := bne_iff_ne.mpr hno
  clear hno hr0 hr1 hw0
  go_enter Try.func35, Try.ntmps35
  go_wp2_with (go_at_call 53; refine HB.out.mono ?_; rintro e w1 ⟨rfl, hB⟩)
  go_ret2
  exact ⟨rfl, hB⟩

set_option maxRecDepth 100000 in
set_option maxHeartbeats 1000000 in
theorem refineOf_yes (A0 : Option Addr) (c0 : Nat) (p : List Int) (A1 : Option Addr) (c1 : Nat) (next : List (List Int)) (w : World) (hr0 : Kd.C (Kd.int .i64) w A0 p.length p) (hr1 : Kd.C (Kd.slice 3 (Kd.int .i64)) w A1 next.length next) (hp : rightP p) (hn : nextP p.length next) :
    Calls Try.prog 35 #[.slice A0 p.length c0, .slice A1 next.length c1] w fun e w' => ∃ v, e = .returned (.tuple #[v, .int .i64 0]) ∧ Kd.R (Kd.int .i64) 3 w' w.heap.size (fun _ => True) v (refineP p next) ∧ Below w.heap.size w w' := by
  have h0 := wrong_walk A0 c0 p A1 c1 next w hr0 hr1 hp.small.wf
  rw [wrongE_ok hp hn] at h0
  have HB := Aside0.mk h0
  have HC := Aside0.mk (fun w1 (hB : Below w.heap.size w w1) => refine_walk A0 c0 p A1 c1 next w1 (Kd.C_below hr0 hB) (Kd.C_below hr1 hB) hp.small hn hp.1)
  clear h0 hr0 hr1 hp hn
  go_enter Try.func35, Try.ntmps35
  go_wp2_with (first
    | (go_at_call 53; refine HB.out.mono ?_; rintro e w1 ⟨rfl, hB⟩; have HB1 := Aside0.mk hB; have HC1 := Aside0.mk (HC.out w1 hB); clear hB)
    | (go_at_call 54; refine HC1.out.mono ?_; rintro e w3 ⟨v, rfl, hR3, hB3⟩; have HD := Aside0.mk (And.intro (Kd.R_lower hR3 HB1.out.size) (HB1.out.trans (hB3.mono HB1.out.size))); clear hR3 hB3))
  go_ret2
  exact ⟨_, rfl, HD.out.1, HD.out.2⟩

/-- Does refining split nothing? -/
def stableP (p : List Int) (next : List (List Int)) : Prop := refineP p next = p
instance (p : List Int) (next : List (List Int)) : Decidable (stableP p next) := inferInstanceAs (Decidable (_ = _))

set_option maxRecDepth 100000 in
set_option maxHeartbeats 1000000 in
theorem stable_no (A0 : Option Addr) (c0 : Nat) (p : List Int) (A1 : Option Addr) (c1 : Nat) (next : List (List Int)) (w : World) (hr0 : Kd.C (Kd.int .i64) w A0 p.length p) (hr1 : Kd.C (Kd.slice 3 (Kd.int .i64)) w A1 next.length next) (hw0 : Wf p) (hno : wrongE p next ≠ 0) :
    Calls Try.prog 29 #[.slice A0 p.length c0, .slice A1 next.length c1] w fun e w' => e = .returned (.tuple #[.bool false, .int .i64 (wrongE p next)]) ∧ Below w.heap.size w w' := by
  have HM := Aside0.mk (refineOf_no A0 c0 p A1 c1 next w hr0 hr1 hw0 hno)
  generalize wrongE p next = b at HM hno ⊢
  have h1 : (b == 0) = false := beq_eq_false_iff_ne.mpr hno
  clear hno hr0 hr1 hw0
  go_enter Try.func29, Try.ntmps29
  go_wp2_with (go_at_call 35; refine HM.out.mono ?_; rintro e w1 ⟨rfl, hB⟩)
  go_ret2
  exact ⟨rfl, hB⟩
set_option maxRecDepth 100000 in
set_option maxHeartbeats 1000000 in
theorem stable_yes (A0 : Option Addr) (c0 : Nat) (p : List Int) (A1 : Option Addr) (c1 : Nat) (next : List (List Int)) (w : World) (hr0 : Kd.C (Kd.int .i64) w A0 p.length p) (hr1 : Kd.C (Kd.slice 3 (Kd.int .i64)) w A1 next.length next) (hp : rightP p) (hn : nextP p.length next) :
    Calls Try.prog 29 #[.slice A0 p.length c0, .slice A1 next.length c1] w fun e w' => e = .returned (.tuple #[.bool (decide (stableP p next)), .int .i64 0]) ∧ Below w.heap.size w w' := by
  have HM := Aside0.mk (refineOf_yes A0 c0 p A1 c1 next w hr0 hr1 hp hn)
  have HR := Aside0.mk hr0
  clear hr0 hr1 hp hn
  go_enter Try.func29, Try.ntmps29
  go_wp2_with (first
    | (go_at_call 35; refine HM.out.mono ?_; rintro e w1 ⟨v, rfl, hR, hB⟩; obtain ⟨A2, c2, rfl, hc2, hC2⟩ := Kd.R_reads hR; have HE := Aside0.mk (equal_walk A2 c2 (refineP p next) A0 c0 p w1 hC2 (Kd.C_below HR.out hB)); clear hC2 hR)
    | (go_at_call 19; refine HE.out.mono ?_; rintro e w2 ⟨rfl, hB2⟩))
  go_ret2
  exact ⟨rfl, hB.trans (hB2.mono hB.size)⟩

set_option maxRecDepth 100000 in
set_option maxHeartbeats 1000000 in
theorem coarsest_no (A0 : Option Addr) (c0 : Nat) (p : List Int) (A1 : Option Addr) (c1 : Nat) (next : List (List Int)) (w : World) (hr0 : Kd.C (Kd.int .i64) w A0 p.length p) (hr1 : Kd.C (Kd.slice 3 (Kd.int .i64)) w A1 next.length next) (hw0 : Wf p) (hno : wrongE p next ≠ 0) :
    Calls Try.prog 27 #[.slice A0 p.length c0, .slice A1 next.length c1] w fun e w' => e = .returned (.tuple #[.slice none 0 0, .int .i64 0, .int .i64 (wrongE p next)]) ∧ Below w.heap.size w w' := by
  have HB := Aside0.mk (wrong_walk A0 c0 p A1 c1 next w hr0 hr1 hw0)
  generalize wrongE p next = b at HB hno ⊢
  have h1 : (b == 0) = false := beq_eq_false_iff_ne.mpr hno
  have h2 : (b != 0) = true := bne_iff_ne.mpr hno
  clear hno hr0 hr1 hw0
  go_enter Try.func27, Try.ntmps27
  go_wp2
  go_step3
  go_wp2_with (go_at_call 53; refine HB.out.mono ?_; rintro e w1 ⟨rfl, hB⟩)
  rw [Exit.noGoto_ret]
  go_ret3
  exact ⟨rfl, hB⟩

set_option maxRecDepth 100000 in
set_option maxHeartbeats 1000000 in
theorem coarsest_yes (A0 : Option Addr) (c0 : Nat) (p : List Int) (A1 : Option Addr) (c1 : Nat) (next : List (List Int)) (w : World) (hr0 : Kd.C (Kd.int .i64) w A0 p.length p) (hr1 : Kd.C (Kd.slice 3 (Kd.int .i64)) w A1 next.length next) (hp : rightP p) (hn : nextP p.length next) :
    Calls Try.prog 27 #[.slice A0 p.length c0, .slice A1 next.length c1] w fun e w' => ∃ (m : Nat) (v : Value), e = .returned (.tuple #[v, .int .i64 m, .int .i64 0]) ∧ Stops p next m ∧ Kd.R (Kd.int .i64) 3 w' w.heap.size (fun _ => True) v (iterP p next m) ∧ Below w.heap.size w w' := by
  have h0 := wrong_walk A0 c0 p A1 c1 next w hr0 hr1 hp.small.wf
  rw [wrongE_ok hp hn] at h0
  have HB := Aside0.mk h0
  have HC := Aside0.mk (fun w1 (hB : Below w.heap.size w w1) => clone_walk A0 c0 p w1 (Kd.C_below hr0 hB) (by have := hp.1; omega))
  have HP := Aside0.mk hp
  have HN := Aside0.mk hn
  have HR1 := Aside0.mk hr1
  clear h0 hr0 hr1 hp hn
  go_enter Try.func27, Try.ntmps27
  go_wp2
  go_step3
  go_wp2_with (first
    | (go_at_call 53; refine HB.out.mono ?_; rintro e w1 ⟨rfl, hB⟩; have HB1 := Aside0.mk hB; have HC1 := Aside0.mk (HC.out w1 hB); clear hB)
    | (go_at_call 15; refine HC1.out.mono ?_; rintro e w3 ⟨v, rfl, hR3, hB3⟩; have HD := Aside0.mk (And.intro (Kd.R_lower hR3 HB1.out.size) (HB1.out.trans (hB3.mono HB1.out.size))); clear hR3 hB3))
  go_step3
  go_wp2
  go_loopg [8, 9] (p.length + 1) (fun gg now n wr => ∃ (m : Nat), n = .int .i64 m ∧ Aside0 (gg + m = p.length + 1 ∧ (∀ j, j < m → countP (iterP p next (j + 1)) ≠ countP (iterP p next j)) ∧ Kd.R (Kd.int .i64) 3 wr w.heap.size (fun _ => True) now (iterP p next m) ∧ Below w.heap.size w wr))
  case atStart => exact ⟨0, rfl, rfl, fun j hj => absurd hj (Nat.not_lt_zero j), HD.out.1, HD.out.2⟩
  case round =>
    obtain ⟨m, rfl, HI⟩ := hrel
    have hir := iter_right HP.out HN.out.1 m
    have hir2 := iter_right HP.out HN.out.1 (m + 1)
    have hle := iter_le HP.out HN.out.1 HI.out.2.1
    have hle0 := HP.out.1
    obtain ⟨A2, c2, hu, hc2, hC2⟩ := Kd.R_reads HI.out.2.2.1
    subst hu
    have hN2 : nextP (iterP p next m).length next := by rw [hir.2]; exact HN.out
    have hE : Calls _ _ _ _ _ := refine_walk A2 c2 (iterP p next m) A1 c1 next wr hC2 (Kd.C_below HR1.out HI.out.2.2.2) hir.1.small hN2 (by rw [hir.2]; exact hle0)
    rw [show refineP (iterP p next m) next = iterP p next (m + 1) from rfl] at hE
    have HG := Aside0.mk (show countP (iterP p next (m + 1)) ≠ countP (iterP p next m) → ∀ j, j < m + 1 → countP (iterP p next (j + 1)) ≠ countP (iterP p next j) from fun hc j hj => by
        by_cases e : j = m
        · subst e; exact hc
        · exact HI.out.2.1 j (by omega))
    have HST := Aside0.mk (show countP (iterP p next (m + 1)) = countP (iterP p next m) → Stops p next m from fun hc => ⟨hc, HI.out.2.1⟩)
    have HGG := Aside0.mk HI.out.1
    have hR := HI.out.2.2.1
    have HIB := Aside0.mk HI.out.2.2.2
    have hs1 := hir.1.small
    have hs2 := hir2.1.small
    clear HI hN2 hir hir2 HP HN
    obtain ⟨now, hnow⟩ : ∃ l, l = iterP p next m := ⟨_, rfl⟩
    obtain ⟨nxt, hnxt⟩ : ∃ l, l = iterP p next (m + 1) := ⟨_, rfl⟩
    rw [← hnow] at hE hR hs1 hC2 HG HST hc2 ⊢
    rw [← hnxt] at hE hs2 HG HST
    have HNOW := Aside0.mk hnow
    have HNXT := Aside0.mk hnxt
    have HE := Aside0.mk hE
    have HR := Aside0.mk hR
    have HK := Aside0.mk (fun w1 (hB : Below wr.heap.size wr w1) => count_walk A2 c2 now w1 (Kd.C_below hC2 hB) hs1)
    have HS2 := Aside0.mk hs2
    clear hE hR hs1 hC2 hs2 hnow hnxt
    by_cases hc : countP nxt = countP now
    · have hb : (countP nxt == countP now) = true := beq_iff_eq.mpr hc
      have HH := Aside0.mk hc
      clear hc
      go_wp2_with (first
        | (go_at_call 54; refine HE.out.mono ?_; rintro e w4 ⟨v1, rfl, hR, hB⟩; obtain ⟨A3, c3, rfl, hc3, hC3⟩ := Kd.R_reads hR; have HB4 := Aside0.mk hB; have HK3 := Aside0.mk (count_walk A3 c3 nxt w4 hC3 HS2.out); clear hR hC3 hB)
        | (go_at_call 55; refine HK3.out.mono ?_; rintro e w5 ⟨rfl, hB5⟩; have HB5 := Aside0.mk (HB4.out.trans (hB5.mono HB4.out.size)); clear hB5 HK3)
        | (go_at_call 55; refine (HK.out _ HB5.out).mono ?_; rintro e w6 ⟨rfl, hB6⟩; have HB6 := Aside0.mk (HB5.out.trans (hB6.mono HB5.out.size)); clear hB6))
      rw [Exit.noGoto_ret]
      go_ret3
      have hsto := HST.out HH.out
      have hfin := Kd.R_below HR.out HB6.out
      rw [HNOW.out] at hfin ⊢
      exact ⟨m, _, rfl, hsto, hfin, HIB.out.trans (HB6.out.mono HIB.out.size)⟩
    · have hb : (countP nxt == countP now) = false := beq_eq_false_iff_ne.mpr hc
      have HH := Aside0.mk hc
      clear hc
      go_wp2_with (first
        | (go_at_call 54; refine HE.out.mono ?_; rintro e w4 ⟨v1, rfl, hR, hB⟩; obtain ⟨A3, c3, rfl, hc3, hC3⟩ := Kd.R_reads hR; have HR4 := Aside0.mk hR; have HB4 := Aside0.mk hB; have HK3 := Aside0.mk (count_walk A3 c3 nxt w4 hC3 HS2.out); clear hR hC3 hB)
        | (go_at_call 55; refine HK3.out.mono ?_; rintro e w5 ⟨rfl, hB5⟩; have HB5' := Aside0.mk hB5; have HB5 := Aside0.mk (HB4.out.trans (hB5.mono HB4.out.size)); clear hB5 HK3)
        | (go_at_call 55; refine (HK.out _ HB5.out).mono ?_; rintro e w6 ⟨rfl, hB6⟩; have HB6' := Aside0.mk (HB5'.out.trans (hB6.mono HB5'.out.size)); have HB6 := Aside0.mk (HB5.out.trans (hB6.mono HB5.out.size)); clear hB6))
      go_roundg (gk - 1)
      case rel =>
        have hR4 := Kd.R_lower (Kd.R_below HR4.out HB6'.out) HIB.out.size
        have hgg := HGG.out
        refine ⟨m + 1, by go_num, by omega, HG.out HH.out, ?_, HIB.out.trans (HB6.out.mono HIB.out.size)⟩
        rw [HNXT.out] at hR4 ⊢
        exact hR4
      case measure => have := HGG.out; omega
end Go.Proofs.Ytboofecfmhbacaa
