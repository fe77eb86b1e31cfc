/- The walk of the laws' helper two. -/
import Derived.Test.YtboofecfmhbacaaG17
import Derived.Deep.RegionWith
namespace Go.Proofs.Ytboofecfmhbacaa
open Go.RowKit Go.WideMaps Go.Maps Go.Proofs.YtboofecfmhbacaaW.PrintWords Go.Proofs.YtboofecfmhbacaaW.PrintLast Go.Proofs.YtboofecfmhbacaaW.PrintMore
attribute [local go_sem] max_two min_two max_three min_three
set_option linter.unusedVariables false
set_option linter.unusedSimpArgs false

theorem madeC_walk (A0 : Option Addr) (c0 : Nat) (l : List Int) (w : World) (hr : Kd.C (Kd.int .u8) w A0 l.length l) (hw : ∀ y ∈ l, (Lit.int .u8 y).wf = true) (hc : l.length ≤ c0) :
    Calls Try.prog 25 #[.slice A0 l.length c0] w fun e w' => ∃ (A : Option Addr) (c : Nat) (p : List Int), e = .returned (.slice A p.length c) ∧ rightP p ∧ p.length = min l.length 30 ∧ Kd.C (Kd.int .i64) w' A p.length p ∧ Below w.heap.size w w' := by
  refine (made_walk A0 c0 l w hr hw hc).mono ?_
  rintro e w' ⟨v, p, rfl, hp, hl, hR, hB⟩
  obtain ⟨A, c, rfl, hC⟩ := r_read hR rfl
  exact ⟨A, c, p, rfl, hp, hl, hC, hB⟩
theorem madeN_walk (A0 : Option Addr) (c0 n : Nat) (l : List Int) (w : World) (hl : l.length = n) (hr : Kd.C (Kd.int .u8) w A0 n l) (hw : ∀ y ∈ l, (Lit.int .u8 y).wf = true) (hc : n ≤ c0) (hn : n ≤ 30) :
    Calls Try.prog 25 #[.slice A0 n c0] w fun e w' => ∃ (A : Option Addr) (c : Nat) (p : List Int), e = .returned (.slice A n c) ∧ rightP p ∧ p.length = n ∧ Kd.C (Kd.int .i64) w' A n p ∧ Below w.heap.size w w' := by
  subst hl
  refine (madeC_walk A0 c0 l w hr hw hc).mono ?_
  rintro e w' ⟨A, c, p, rfl, hp, hpl, hC, hB⟩
  have : p.length = l.length := by omega
  rw [this] at hC ⊢
  exact ⟨A, c, p, rfl, hp, this, hC, hB⟩
theorem followsC_walk (n : Nat) (A0 : Option Addr) (c0 : Nat) (l : List Int) (w : World) (hr : Kd.C (Kd.int .u8) w A0 l.length l) (hw : ∀ y ∈ l, (Lit.int .u8 y).wf = true) (hn : n ≤ 30) :
    Calls Try.prog 26 #[.int .i64 n, .slice A0 l.length c0] w fun e w' => ∃ (A : Option Addr) (c : Nat) (next : List (List Int)), e = .returned (.slice A next.length c) ∧ nextP n next ∧ Kd.C (Kd.slice 3 (Kd.int .i64)) w' A next.length next ∧ Below w.heap.size w w' := by
  refine (follows_walk n A0 c0 l w hr hw hn).mono ?_
  rintro e w' ⟨v, next, rfl, hN, hR, hB⟩
  obtain ⟨A, c, rfl, hC⟩ := r_read hR rfl
  exact ⟨A, c, next, rfl, hN, hC, hB⟩

theorem min2_nat (a b : Nat) : Builtin.min2 (.int .i64 (a : Int)) (.int .i64 (b : Int)) = pure (.int .i64 ((min a b : Nat) : Int)) := by
  rw [min2_int]
  by_cases h : (b : Int) < (a : Int)
  · rw [if_pos h, show ((min a b : Nat) : Int) = (b : Int) by omega]
  · rw [if_neg h, show ((min a b : Nat) : Int) = (a : Int) by omega]
theorem min2_c (a : Nat) : Builtin.min2 (.int .i64 (a : Int)) (.int .i64 30) = pure (.int .i64 ((min a 30 : Nat) : Int)) := min2_nat a 30

set_option maxRecDepth 100000 in
set_option maxHeartbeats 2000000 in
theorem two_walk (A0 : Option Addr) (c0 : Nat) (k : List Int) (A1 : Option Addr) (c1 : Nat) (l : List Int) (w : World) (hr0 : Kd.C (Kd.int .u8) w A0 k.length k) (hw0 : ∀ y ∈ k, (Lit.int .u8 y).wf = true) (hc0 : k.length ≤ c0) (hr1 : Kd.C (Kd.int .u8) w A1 l.length l) (hw1 : ∀ y ∈ l, (Lit.int .u8 y).wf = true) (hc1 : l.length ≤ c1) :
    Calls Try.prog 33 #[.slice A0 k.length c0, .slice A1 l.length c1] w fun e w' => ∃ (n : Nat) (A : Option Addr) (c : Nat) (p : List Int) (A' : Option Addr) (c' : Nat) (q : List Int), e = .returned (.tuple #[.slice A n c, .slice A' n c']) ∧ n ≤ 30 ∧ rightP p ∧ p.length = n ∧ Kd.C (Kd.int .i64) w' A n p ∧ rightP q ∧ q.length = n ∧ Kd.C (Kd.int .i64) w' A' n q ∧ Below w.heap.size w w' := by
  have hb0 := len_le hr0
  have hb1 := len_le hr1
  obtain ⟨n, hn⟩ : ∃ n, n = min (min k.length l.length) 30 := ⟨_, rfl⟩
  obtain ⟨hcut0, hC0⟩ := cut_ints (k := .u8) Try.underlying39 info5 A0 c0 k n (by omega) hc0
  obtain ⟨hcut1, hC1⟩ := cut_ints (k := .u8) Try.underlying39 info5 A1 c1 l n (by omega) hc1
  have hm1 := min2_nat k.length l.length
  have hm2 := min2_c (min k.length l.length)
  rw [← hn] at hm2
  have hn30 : n ≤ 30 := by omega
  have M0 := Aside0.mk (fun W (hB : Below w.heap.size w W) => madeN_walk A0 c0 n (k.take n) W (by rw [List.length_take]; omega) (Kd.C_below (hC0 w hr0) hB) (fun y hy => hw0 y (List.mem_of_mem_take hy)) (by omega) hn30)
  have M1 := Aside0.mk (fun W (hB : Below w.heap.size w W) => madeN_walk A1 c1 n (l.take n) W (by rw [List.length_take]; omega) (Kd.C_below (hC1 w hr1) hB) (fun y hy => hw1 y (List.mem_of_mem_take hy)) (by omega) hn30)
  generalize min k.length l.length = m at hm1 hm2
  clear hr0 hr1 hw0 hw1 hC0 hC1 hn
  go_enter Try.func33, Try.ntmps33
  go_wp2
  go_region_with (first
    | (go_at_call 25; refine (M0.out w.drew (below_drew (Below.refl _ _))).mono ?_; rintro e w1 ⟨A2, c2, p, rfl, hp, hpl, hC, hB⟩; have HP := Aside0.mk (And.intro hp (And.intro hpl (And.intro hC ((below_drew (Below.refl w.heap.size w)).trans hB)))); clear hp hpl hC hB M0)
    | (go_at_call 25; refine (M1.out w1 HP.out.2.2.2).mono ?_; rintro e w2 ⟨A3, c3, q, rfl, hq, hql, hC, hB⟩; have HQ := Aside0.mk (And.intro hq (And.intro hql (And.intro hC (And.intro (Kd.C_below HP.out.2.2.1 hB) (HP.out.2.2.2.trans (hB.mono HP.out.2.2.2.size)))))); clear hq hql hC hB))
  all_goals
    go_wp2
    go_ret2
    exact ⟨n, _, _, p, _, _, q, rfl, hn30, HP.out.1, HP.out.2.1, HQ.out.2.2.2.1, HQ.out.1, HQ.out.2.1, HQ.out.2.2.1, HQ.out.2.2.2.2⟩
end Go.Proofs.Ytboofecfmhbacaa
