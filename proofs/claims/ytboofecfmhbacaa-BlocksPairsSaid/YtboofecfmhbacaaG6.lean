/- The walks of slices.Max, and of package blocks' count, Of, Right, both and wrong. -/
import Derived.Test.YtboofecfmhbacaaG5
import Derived.Test.YtboofecfmhbacaaBlk
namespace Go.Proofs.Ytboofecfmhbacaa
open Go.RowKit Go.WideMaps Go.Maps Go.Proofs.YtboofecfmhbacaaW.PrintWords Go.Proofs.YtboofecfmhbacaaW.PrintLast Go.Proofs.YtboofecfmhbacaaW.PrintMore
attribute [local go_sem] max2_int min2_int max_two min_two
set_option linter.unusedVariables false
set_option linter.unusedSimpArgs false

theorem maxL_snoc (a : Int) (r : List Int) (x : Int) : maxL a (r ++ [x]) = if maxL a r < x then x else maxL a r := by
  simp only [maxL, List.foldl_append]
  rfl

set_option maxRecDepth 100000 in
set_option maxHeartbeats 1000000 in
theorem max_walk (A0 : Option Addr) (c0 : Nat) (a : Int) (r : List Int) (w : World) (hr : Kd.C (Kd.int .i64) w A0 (a :: r).length (a :: r)) :
    Calls Try.prog 72 #[.slice A0 (a :: r).length c0] w fun e w' => e = .returned (.int .i64 (maxL a r)) ∧ Below w.heap.size w w' := by
  have HR := Aside0.mk hr
  have hb := len_le hr
  clear hr
  have hl : (a :: r).length = r.length + 1 := rfl
  rw [hl] at hb ⊢
  clear hl
  obtain ⟨ad, e0, hx0⟩ := ints_at HR.out 0 (by simp)
  subst e0
  simp only [List.getElem_cons_zero, show ad.add 0 = ad from rfl] at hx0
  have h1 : ((r.length : Int) + 1 < 1) = False := by simp; omega
  go_enter Try.func72, Try.ntmps72
  go_wp2
  go_loopw [3, 4] (fun m i wr => ∃ j : Nat, i = .int .i64 ((j : Int) + 1) ∧ m = .int .i64 (maxL a (r.take j)) ∧ Aside0 (j ≤ r.length ∧ Below w.heap.size w wr)) (fun _ i _ => r.length + 1 - (intOf i).toNat)
  case atStart => exact ⟨0, by go_num, rfl, ⟨Nat.zero_le _, Below.refl _ _⟩⟩
  case round =>
    obtain ⟨j, rfl, rfl, HI⟩ := hrel
    have hjl := HI.out.1
    by_cases hj : j < r.length
    · obtain ⟨ad1, e1, hx1⟩ := ints_at (Kd.C_below HR.out HI.out.2) (j + 1) (by simp; omega)
      obtain rfl : ad = ad1 := by injection e1
      rw [List.getElem_cons_succ, show ad.add (j + 1) = ⟨ad.block, ad.off + (j + 1), none⟩ from rfl] at hx1
      have hs := maxL_snoc a (r.take j) r[j]
      rw [← Num.take_succ r j hj] at hs
      have HS := Aside0.mk hs
      clear hs
      go_wp2
      go_roundw
      case rel => exact ⟨j + 1, by go_num, by rw [HS.out], ⟨by omega, HI.out.2⟩⟩
      case measure => simp [intOf]; omega
    · go_wp2
      go_ret
      have hj' : j = r.length := by omega
      exact ⟨by rw [hj', List.take_length]; rfl, HI.out.2⟩

set_option maxRecDepth 100000 in
set_option maxHeartbeats 1000000 in
theorem count_walk (A0 : Option Addr) (c0 : Nat) (p : List Int) (w : World) (hr : Kd.C (Kd.int .i64) w A0 p.length p) (hs : Small p) :
    Calls Try.prog 55 #[.slice A0 p.length c0] w fun e w' => e = .returned (.int .i64 (countP p)) ∧ Below w.heap.size w w' := by
  cases p with
  | nil =>
    go_enter Try.func55, Try.ntmps55
    go_wp2
    go_ret
    exact ⟨rfl, Below.refl _ _⟩
  | cons a r =>
    have HC := Aside0.mk (max_walk A0 c0 a r w hr)
    obtain ⟨h1, h2⟩ := maxL_small hs
    clear hr hs
    rw [show (a :: r).length = r.length + 1 from rfl] at HC ⊢
    have h3 : (((r.length : Int) + 1) == 0) = false := beq_eq_false_iff_ne.mpr (by omega)
    go_enter Try.func55, Try.ntmps55
    go_wp2_with (go_at_call 72; refine HC.out.mono ?_; rintro e w1 ⟨rfl, hB⟩)
    go_ret
    exact ⟨rfl, hB⟩

set_option maxRecDepth 100000 in
set_option maxHeartbeats 1000000 in
/-- Of, at integers. -/
theorem ofInt_walk (A0 : Option Addr) (c0 : Nat) (l : List Int) (w : World) (hr : Kd.C (Kd.int .i64) w A0 l.length l) (hw : Wf l) :
    Calls Try.prog 17 #[.slice A0 l.length c0] w fun e w' => ∃ v, e = .returned (.tuple #[v, .int .i64 (if 1024 < l.length then 5 else 0)]) ∧ Kd.R (Kd.int .i64) 3 w' w.heap.size (fun _ => True) v (if 1024 < l.length then [] else Num.num l) ∧ Below w.heap.size w w' := by
  have hb := len_le hr
  by_cases h : 1024 < l.length
  · have h1 : decide ((1024 : Int) < (l.length : Int)) = true := decide_eq_true (by omega)
    rw [if_pos h, if_pos h]
    clear hr hw
    go_enter Try.func17, Try.ntmps17
    go_wp2
    go_ret2
    exact ⟨_, rfl, Kd.R_nil _ _ _ _ _, Below.refl _ _⟩
  · have h1 : decide ((1024 : Int) < (l.length : Int)) = false := decide_eq_false (by omega)
    rw [if_neg h, if_neg h]
    have HC := Aside0.mk (numbered_int_walk A0 c0 l w hr (by omega) hw)
    clear hr hw
    go_enter Try.func17, Try.ntmps17
    go_wp2_with (go_at_call 41; refine HC.out.mono ?_; rintro e w1 ⟨v, rfl, hR, hB⟩; have HR := Aside0.mk hR; clear hR)
    go_ret2
    exact ⟨_, rfl, HR.out, hB⟩

set_option maxRecDepth 100000 in
set_option maxHeartbeats 1000000 in
theorem right_walk (A0 : Option Addr) (c0 : Nat) (p : List Int) (w : World) (hr : Kd.C (Kd.int .i64) w A0 p.length p) (hw : Wf p) :
    Calls Try.prog 37 #[.slice A0 p.length c0] w fun e w' => e = .returned (.bool (decide (rightP p))) ∧ Below w.heap.size w w' := by
  have hb := len_le hr
  by_cases h : p.length ≤ 1024
  · have h1 : decide ((p.length : Int) ≤ 1024) = true := decide_eq_true (by omega)
    have HC := Aside0.mk (numbered_int_walk A0 c0 p w hr (by omega) hw)
    have HR := Aside0.mk hr
    have hq : decide (rightP p) = decide (Num.num p = p) := decide_eq_decide.2 (by simp [rightP, h])
    rw [hq]
    clear hr hw hq
    go_enter Try.func37, Try.ntmps37
    go_wp2_with (first
      | (go_at_call 41; refine HC.out.mono ?_; rintro e w1 ⟨v, rfl, hR, hB⟩; obtain ⟨A1, c1, rfl, hc1, hC1⟩ := Kd.R_reads hR; have HE := Aside0.mk (equal_walk A1 c1 (Num.num p) A0 c0 p w1 hC1 (Kd.C_below HR.out hB)); clear hC1 hR)
      | (go_at_call 19; refine HE.out.mono ?_; rintro e w2 ⟨rfl, hB2⟩))
    go_ret
    exact ⟨by simp, hB.trans (hB2.mono hB.size)⟩
  · have h1 : decide ((p.length : Int) ≤ 1024) = false := decide_eq_false (by omega)
    have HH := Aside0.mk h
    clear hr hw h
    go_enter Try.func37, Try.ntmps37
    go_wp2
    go_ret
    exact ⟨by rw [decide_eq_false (fun e => HH.out e.1)]; rfl, Below.refl _ _⟩
end Go.Proofs.Ytboofecfmhbacaa
