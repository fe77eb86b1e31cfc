/- The walks of Of at strings, and of the laws' helpers lists, few, copied. -/
import Derived.Test.YtboofecfmhbacaaG13
namespace Go.Proofs.Ytboofecfmhbacaa
open Go.RowKit Go.WideMaps Go.Maps Go.Proofs.YtboofecfmhbacaaW.PrintWords Go.Proofs.YtboofecfmhbacaaW.PrintLast Go.Proofs.YtboofecfmhbacaaW.PrintMore
set_option linter.unusedVariables false
set_option linter.unusedSimpArgs false

set_option maxRecDepth 100000 in
set_option maxHeartbeats 1000000 in
/-- Of, at strings. -/
theorem ofString_walk (A0 : Option Addr) (c0 : Nat) (l : List ByteArray) (w : World) (hr : Kd.C Kd.string w A0 l.length l) (hw : ∀ x ∈ l, x.size ≤ maxLen) :
    Calls Try.prog 18 #[.slice A0 l.length c0] w fun e w' => ∃ v, e = .returned (.tuple #[v, .int .i64 (if 1024 < l.length then 5 else 0)]) ∧ Kd.R (Kd.int .i64) 3 w' w.heap.size (fun _ => True) v (if 1024 < l.length then [] else Num.num l) ∧ Below w.heap.size w w' := by
  have hb := len_le hr
  by_cases h : 1024 < l.length
  · have h1 : decide ((1024 : Int) < (l.length : Int)) = true := decide_eq_true (by omega)
    rw [if_pos h, if_pos h]
    clear hr hw
    go_enter Try.func18, Try.ntmps18
    go_wp2
    go_ret2
    exact ⟨_, rfl, Kd.R_nil _ _ _ _ _, Below.refl _ _⟩
  · have h1 : decide ((1024 : Int) < (l.length : Int)) = false := decide_eq_false (by omega)
    rw [if_neg h, if_neg h]
    have HC := Aside0.mk (numbered_string_walk A0 c0 l w hr (by omega) hw)
    clear hr hw
    go_enter Try.func18, Try.ntmps18
    go_wp2_with (go_at_call 42; refine HC.out.mono ?_; rintro e w1 ⟨v, rfl, hR, hB⟩; have HR := Aside0.mk hR; clear hR)
    go_ret2
    exact ⟨_, rfl, HR.out, hB⟩

set_option maxRecDepth 100000 in
set_option maxHeartbeats 1000000 in
theorem lists_walk (A0 : Option Addr) (c0 : Nat) (l0 : List (List Int)) (A1 : Option Addr) (c1 : Nat) (l1 : List (List Int)) (w : World) (hr0 : Kd.C (Kd.slice 3 (Kd.int .i64)) w A0 l0.length l0) (hr1 : Kd.C (Kd.slice 3 (Kd.int .i64)) w A1 l1.length l1) :
    Calls Try.prog 40 #[.slice A0 l0.length c0, .slice A1 l1.length c1] w fun e w' => e = .returned (.bool (decide (l0 = l1))) ∧ Below w.heap.size w w' := by
  have HC := Aside0.mk (equalRows_walk A0 c0 l0 A1 c1 l1 w hr0 hr1)
  clear hr0 hr1
  go_enter Try.func40, Try.ntmps40
  go_wp2_with (go_at_call 65; refine HC.out.mono ?_; rintro e w1 ⟨rfl, hB⟩)
  go_ret
  exact ⟨rfl, hB⟩

theorem enters45 : ∀ args w, (callFunc 45 args).run Try.prog w = .ok (.enter 45 args) w := enters_of Try.func45 (by kernel_rfl) rfl
set_option maxRecDepth 100000 in
set_option maxHeartbeats 1000000 in
theorem few1_walk (A0 : Option Addr) (c0 : Nat) (l : List Int) (w : World) (hb : l.length ≤ 9223372036854775807) :
    Calls Try.prog 45 #[.slice A0 l.length c0] w fun e w' => e = .returned (.bool (decide (70 < l.length))) ∧ Below w.heap.size w w' := by
  by_cases h : 70 < l.length
  · have h1 : decide ((70 : Int) < (l.length : Int)) = true := decide_eq_true (by omega)
    rw [decide_eq_true h]
    go_enter Try.func45, Try.ntmps45
    go_wp2
    go_ret
    exact ⟨rfl, Below.refl _ _⟩
  · have h1 : decide ((70 : Int) < (l.length : Int)) = false := decide_eq_false (by omega)
    rw [decide_eq_false h]
    go_enter Try.func45, Try.ntmps45
    go_wp2
    go_ret
    exact ⟨rfl, Below.refl _ _⟩
/-- Lists that are few and short. -/
def fewB (next : List (List Int)) : Bool := decide (next.length ≤ 40) && !next.any fun l => decide (70 < l.length)
set_option maxRecDepth 100000 in
set_option maxHeartbeats 1000000 in
theorem few_walk (A0 : Option Addr) (c0 : Nat) (l : List (List Int)) (w : World) (hr : Kd.C (Kd.slice 3 (Kd.int .i64)) w A0 l.length l) :
    Calls Try.prog 23 #[.slice A0 l.length c0] w fun e w' => e = .returned (.bool (fewB l)) ∧ Below w.heap.size w w' := by
  have hb := len_le hr
  unfold fewB
  by_cases h : l.length ≤ 40
  · have h1 : decide ((l.length : Int) ≤ 40) = true := decide_eq_true (by omega)
    rw [decide_eq_true h, Bool.true_and]
    have HC := Aside0.mk (containsRows_walk A0 c0 l (fun l => decide (70 < l.length)) 45 #[] w hr enters45 (fun W A c x _ _ hC _ => few1_walk A c x W (len_le hC)))
    clear hr
    generalize l.any _ = b at HC ⊢
    cases b with
    | true =>
      go_enter Try.func23, Try.ntmps23
      go_wp2_with (go_at_call 44; refine HC.out.mono ?_; rintro e w1 ⟨rfl, hB⟩)
      go_ret
      exact ⟨rfl, hB⟩
    | false =>
      go_enter Try.func23, Try.ntmps23
      go_wp2_with (go_at_call 44; refine HC.out.mono ?_; rintro e w1 ⟨rfl, hB⟩)
      go_ret
      exact ⟨rfl, hB⟩
  · have h1 : decide ((l.length : Int) ≤ 40) = false := decide_eq_false (by omega)
    rw [decide_eq_false h, Bool.false_and]
    clear hr
    go_enter Try.func23, Try.ntmps23
    go_wp2
    go_ret
    exact ⟨rfl, Below.refl _ _⟩

set_option maxRecDepth 100000 in
set_option maxHeartbeats 2000000 in
theorem copied_walk (A0 : Option Addr) (c0 : Nat) (l : List (List Int)) (w : World) (hr : Kd.C (Kd.slice 3 (Kd.int .i64)) w A0 l.length l) (hl : l.length ≤ 1000000) (hx : ∀ x ∈ l, x.length ≤ 1000000) :
    Calls Try.prog 46 #[.slice A0 l.length c0] w fun e w' => ∃ v, e = .returned v ∧ Kd.R (Kd.slice 3 (Kd.int .i64)) 22 w' w.heap.size (fun _ => True) v l ∧ Below w.heap.size w w' := by
  have HR := Aside0.mk hr
  have HX := Aside0.mk hx
  clear hr hx
  go_enter Try.func46, Try.ntmps46
  go_wp2
  go_loopw [3, 8] (fun v i wr => ∃ k : Nat, i = .int .i64 k ∧ Aside0 (k ≤ l.length ∧ Kd.R (Kd.slice 3 (Kd.int .i64)) 22 wr w.heap.size (fun _ => True) v (l.take k) ∧ Below w.heap.size w wr)) (fun _ i _ => l.length - (intOf i).toNat)
  case atStart => exact ⟨0, rfl, Nat.zero_le _, by rw [List.take_zero]; exact Kd.R_nil _ _ _ _ _, Below.refl _ _⟩
  case round =>
    obtain ⟨k, rfl, HI⟩ := hrel
    have hkl := HI.out.1
    by_cases hk : k < l.length
    · obtain ⟨ad, A1, d1, e1, hx1, hd1, hD1⟩ := rows_at (Kd.C_below HR.out HI.out.2.2) k hk
      subst e1
      have HC := Aside0.mk (clone_walk A1 d1 l[k] wr hD1 (by have := HX.out _ (List.getElem_mem hk); omega))
      have HT := Aside0.mk (Num.take_succ l k hk)
      have HL8 := Aside0.mk (show ((l.take k).length + 1) * 24 ≤ 140737488355328 by simp; omega)
      clear hD1
      go_wp2_with (first
        | (go_at_call 15; refine HC.out.mono ?_; rintro e w2 ⟨v2, rfl, hR2, hB2⟩; obtain ⟨A2, c2, rfl⟩ := R_shape hR2 rfl; have HK := Aside0.mk (And.intro (Kd.R_below HI.out.2.1 hB2) (And.intro (Kd.R_lower (Kd.R_newR hR2 HI.out.2.1) HI.out.2.2.size) (HI.out.2.2.trans (hB2.mono HI.out.2.2.size)))); clear hR2 hB2)
        | (at_builtin; refine Kd.R_append (Kd.slice 3 (Kd.int .i64)) (w0 := w) (W := w2) w.heap.size rfl (.tmp 12) (.tmp 15) 36 22 (.slice none 0 0) 24 rfl Try.underlying36 info22 rfl (by decide) (by decide) u3 (l.take k) l[k] [.slice A2 l[k].length c2] (fun _ => True) (fun k => True ∧ some k ≠ u3.ownBlock) rfl rfl ⟨_, rfl, HK.out.2.1⟩ (fun _ h => h) (fun _ _ => trivial) HK.out.1 HK.out.2.2 HK.out.2.2.size HL8.out ?_; rintro v1 w3 hR3 hB3 hg3 hat3; rw [← HT.out] at hR3; have HJ := Aside0.mk (And.intro hR3 hB3); clear hR3 hB3 hg3 hat3))
      go_roundw
      case rel => exact ⟨k + 1, by go_num, by omega, HJ.out.1, HJ.out.2⟩
      case measure => simp [intOf]; omega
    · have hk' : k = l.length := by omega
      have HD := Aside0.mk (show Kd.R (Kd.slice 3 (Kd.int .i64)) 22 wr w.heap.size (fun _ => True) u3 l by have h := HI.out.2.1; rwa [hk', List.take_length] at h)
      clear hk'
      go_wp2
      go_ret
      exact ⟨_, rfl, HD.out, HI.out.2.2⟩
end Go.Proofs.Ytboofecfmhbacaa
