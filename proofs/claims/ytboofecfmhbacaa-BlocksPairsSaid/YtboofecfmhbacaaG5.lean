/- The walks of slices.IndexFunc, ContainsFunc and EqualFunc at whatever predicate. -/
import Derived.Test.YtboofecfmhbacaaG4
import Derived.Test.YtboofecfmhbacaaAcc
import Derived.Shelf.Abstract
namespace Go.Proofs.Ytboofecfmhbacaa
open Go.RowKit Go.WideMaps Go.Maps Go.Proofs.YtboofecfmhbacaaW.PrintWords Go.Proofs.YtboofecfmhbacaaW.PrintLast Go.Proofs.YtboofecfmhbacaaW.PrintMore
set_option linter.unusedVariables false
set_option linter.unusedSimpArgs false

theorem any_take {α : Type} (l : List α) (p : α → Bool) (k : Nat) (h : (l.take k).any p = false) (hk : k < l.length) (hp : p l[k] = false) : (l.take (k + 1)).any p = false := by
  rw [Num.take_succ l k hk, List.any_append, h]
  simp [hp]
theorem any_hit {α : Type} (l : List α) (p : α → Bool) (k : Nat) (hk : k < l.length) (hp : p l[k] = true) : l.any p = true := List.any_eq_true.2 ⟨l[k], List.getElem_mem hk, hp⟩

set_option maxRecDepth 100000 in
set_option maxHeartbeats 1000000 in
theorem indexRows_walk (A0 : Option Addr) (c0 : Nat) (l : List (List Int)) (p : List Int → Bool) (g : Nat) (caps : Array Value) (w : World) (hr : Kd.C (Kd.slice 3 (Kd.int .i64)) w A0 l.length l)
    (eg : ∀ args w, (callFunc g args).run Try.prog w = .ok (.enter g args) w)
    (hp : ∀ W A c x, x ∈ l → Below w.heap.size w W → Kd.C (Kd.int .i64) W A x.length x → x.length ≤ c → Calls Try.prog g (#[.slice A x.length c] ++ caps) W fun e w' => e = .returned (.bool (p x)) ∧ Below W.heap.size W w') :
    Calls Try.prog 66 #[.slice A0 l.length c0, .func (.func g) #[] caps] w fun e w' => ∃ i : Int, e = .returned (.int .i64 i) ∧ (decide (0 ≤ i) = l.any p) ∧ Below w.heap.size w w' := by
  have HR := Aside0.mk hr
  have HP := Aside0.mk hp
  clear hr hp
  go_enter Try.func66, Try.ntmps66
  go_wp2
  go_loopw [8] (fun i wr => ∃ k : Nat, i = .int .i64 k ∧ Aside0 (k ≤ l.length ∧ (l.take k).any p = false ∧ Below w.heap.size w wr)) (fun i _ => l.length - (intOf i).toNat)
  case atStart => exact ⟨0, rfl, ⟨Nat.zero_le _, rfl, Below.refl _ _⟩⟩
  case round =>
    obtain ⟨k, rfl, HI⟩ := hrel
    have hkl := HI.out.1
    have hb := len_le HR.out
    by_cases hk : k < l.length
    · obtain ⟨ad, A1, c1, e0, hx0, hc1, hC1⟩ := rows_at (Kd.C_below HR.out HI.out.2.2) k hk
      subst e0
      have HC := Aside0.mk (HP.out wr A1 c1 l[k] (List.getElem_mem hk) HI.out.2.2 hC1 hc1)
      clear hc1 hC1
      go_wp2_with (go_at_fn g; refine HC.out.mono ?_; rintro e w1 ⟨rfl, hB⟩)
      · have hpx : p l[k] = true := by assumption
        go_ret
        exact ⟨_, rfl, by rw [any_hit l p k hk hpx]; simp, HI.out.2.2.trans (hB.mono HI.out.2.2.size)⟩
      · have hpx : p l[k] = false := by first | assumption | simpa using ‹¬ p l[k] = true›
        go_roundw
        case rel => exact ⟨k + 1, by go_num, ⟨by omega, any_take l p k HI.out.2.1 hk hpx, HI.out.2.2.trans (hB.mono HI.out.2.2.size)⟩⟩
        case measure => simp [intOf]; omega
    · go_wp2
      go_ret
      have hk' : k = l.length := by omega
      exact ⟨_, rfl, by have h := HI.out.2.1; rw [hk', List.take_length] at h; rw [h]; rfl, HI.out.2.2⟩

set_option maxRecDepth 100000 in
set_option maxHeartbeats 1000000 in
theorem indexInts_walk (A0 : Option Addr) (c0 : Nat) (l : List Int) (p : Int → Bool) (g : Nat) (caps : Array Value) (w : World) (hr : Kd.C (Kd.int .i64) w A0 l.length l)
    (eg : ∀ args w, (callFunc g args).run Try.prog w = .ok (.enter g args) w)
    (hp : ∀ W x, x ∈ l → Below w.heap.size w W → Calls Try.prog g (#[.int .i64 x] ++ caps) W fun e w' => e = .returned (.bool (p x)) ∧ Below W.heap.size W w') :
    Calls Try.prog 73 #[.slice A0 l.length c0, .func (.func g) #[] caps] w fun e w' => ∃ i : Int, e = .returned (.int .i64 i) ∧ (decide (0 ≤ i) = l.any p) ∧ Below w.heap.size w w' := by
  have HR := Aside0.mk hr
  have HP := Aside0.mk hp
  clear hr hp
  go_enter Try.func73, Try.ntmps73
  go_wp2
  go_loopw [8] (fun i wr => ∃ k : Nat, i = .int .i64 k ∧ Aside0 (k ≤ l.length ∧ (l.take k).any p = false ∧ Below w.heap.size w wr)) (fun i _ => l.length - (intOf i).toNat)
  case atStart => exact ⟨0, rfl, ⟨Nat.zero_le _, rfl, Below.refl _ _⟩⟩
  case round =>
    obtain ⟨k, rfl, HI⟩ := hrel
    have hkl := HI.out.1
    have hb := len_le HR.out
    by_cases hk : k < l.length
    · obtain ⟨ad, e0, hx0⟩ := ints_at (Kd.C_below HR.out HI.out.2.2) k hk
      subst e0
      have HC := Aside0.mk (HP.out wr l[k] (List.getElem_mem hk) HI.out.2.2)
      go_wp2_with (go_at_fn g; refine HC.out.mono ?_; rintro e w1 ⟨rfl, hB⟩)
      · have hpx : p l[k] = true := by assumption
        go_ret
        exact ⟨_, rfl, by rw [any_hit l p k hk hpx]; simp, HI.out.2.2.trans (hB.mono HI.out.2.2.size)⟩
      · have hpx : p l[k] = false := by first | assumption | simpa using ‹¬ p l[k] = true›
        go_roundw
        case rel => exact ⟨k + 1, by go_num, ⟨by omega, any_take l p k HI.out.2.1 hk hpx, HI.out.2.2.trans (hB.mono HI.out.2.2.size)⟩⟩
        case measure => simp [intOf]; omega
    · go_wp2
      go_ret
      have hk' : k = l.length := by omega
      exact ⟨_, rfl, by have h := HI.out.2.1; rw [hk', List.take_length] at h; rw [h]; rfl, HI.out.2.2⟩

set_option maxRecDepth 100000 in
set_option maxHeartbeats 1000000 in
theorem containsRows_walk (A0 : Option Addr) (c0 : Nat) (l : List (List Int)) (p : List Int → Bool) (g : Nat) (caps : Array Value) (w : World) (hr : Kd.C (Kd.slice 3 (Kd.int .i64)) w A0 l.length l)
    (eg : ∀ args w, (callFunc g args).run Try.prog w = .ok (.enter g args) w)
    (hp : ∀ W A c x, x ∈ l → Below w.heap.size w W → Kd.C (Kd.int .i64) W A x.length x → x.length ≤ c → Calls Try.prog g (#[.slice A x.length c] ++ caps) W fun e w' => e = .returned (.bool (p x)) ∧ Below W.heap.size W w') :
    Calls Try.prog 44 #[.slice A0 l.length c0, .func (.func g) #[] caps] w fun e w' => e = .returned (.bool (l.any p)) ∧ Below w.heap.size w w' := by
  have HC := Aside0.mk (indexRows_walk A0 c0 l p g caps w hr eg hp)
  clear hr hp eg
  go_enter Try.func44, Try.ntmps44
  go_wp2_with (go_at_call 66; refine HC.out.mono ?_; rintro e w1 ⟨i, rfl, hi, hB⟩; have HI := Aside0.mk hi; clear hi)
  go_ret
  exact ⟨by rw [← HI.out]; rfl, hB⟩

set_option maxRecDepth 100000 in
set_option maxHeartbeats 1000000 in
theorem containsInts_walk (A0 : Option Addr) (c0 : Nat) (l : List Int) (p : Int → Bool) (g : Nat) (caps : Array Value) (w : World) (hr : Kd.C (Kd.int .i64) w A0 l.length l)
    (eg : ∀ args w, (callFunc g args).run Try.prog w = .ok (.enter g args) w)
    (hp : ∀ W x, x ∈ l → Below w.heap.size w W → Calls Try.prog g (#[.int .i64 x] ++ caps) W fun e w' => e = .returned (.bool (p x)) ∧ Below W.heap.size W w') :
    Calls Try.prog 70 #[.slice A0 l.length c0, .func (.func g) #[] caps] w fun e w' => e = .returned (.bool (l.any p)) ∧ Below w.heap.size w w' := by
  have HC := Aside0.mk (indexInts_walk A0 c0 l p g caps w hr eg hp)
  clear hr hp eg
  go_enter Try.func70, Try.ntmps70
  go_wp2_with (go_at_call 73; refine HC.out.mono ?_; rintro e w1 ⟨i, rfl, hi, hB⟩; have HI := Aside0.mk hi; clear hi)
  go_ret
  exact ⟨by rw [← HI.out]; rfl, hB⟩

set_option maxRecDepth 100000 in
set_option maxHeartbeats 1000000 in
/-- slices.EqualFunc at lists, with slices.Equal as the function. -/
theorem equalRows_walk (A0 : Option Addr) (c0 : Nat) (l0 : List (List Int)) (A1 : Option Addr) (c1 : Nat) (l1 : List (List Int)) (w : World) (hr0 : Kd.C (Kd.slice 3 (Kd.int .i64)) w A0 l0.length l0) (hr1 : Kd.C (Kd.slice 3 (Kd.int .i64)) w A1 l1.length l1) :
    Calls Try.prog 65 #[.slice A0 l0.length c0, .slice A1 l1.length c1, .func (.func 19) #[] #[]] w fun e w' => e = .returned (.bool (decide (l0 = l1))) ∧ Below w.heap.size w w' := by
  have HR0 := Aside0.mk hr0
  have HR1 := Aside0.mk hr1
  clear hr0 hr1
  by_cases hl : l0.length = l1.length
  · have h1 : ((l0.length : Int) == (l1.length : Int)) = true := beq_iff_eq.mpr (by omega)
    have h2 : ((l0.length : Int) != (l1.length : Int)) = false := bne_eq_false_iff_eq.mpr (by omega)
    have h3 : (l0.length == l1.length) = true := by simpa using hl
    have HL := Aside0.mk hl
    clear hl
    go_enter Try.func65, Try.ntmps65
    go_wp2
    clear h1 h2 h3
    go_loopw [17] (fun i wr => ∃ k : Nat, i = .int .i64 k ∧ Aside0 (k ≤ l0.length ∧ l0.take k = l1.take k ∧ Below w.heap.size w wr)) (fun i _ => l0.length - (intOf i).toNat)
    case atStart => exact ⟨0, rfl, ⟨Nat.zero_le _, rfl, Below.refl _ _⟩⟩
    case round =>
      obtain ⟨k, rfl, HI⟩ := hrel
      have hkl := HI.out.1
      have hb := len_le HR0.out
      by_cases hk : k < l0.length
      · have hk1 : k < l1.length := by rw [← HL.out]; exact hk
        obtain ⟨ad0, B0, d0, e0, hx0, hd0, hD0⟩ := rows_at (Kd.C_below HR0.out HI.out.2.2) k hk
        obtain ⟨ad1, B1, d1, e1, hx1, hd1, hD1⟩ := rows_at (Kd.C_below HR1.out HI.out.2.2) k hk1
        subst e0 e1
        have HC := Aside0.mk (equal_walk B0 d0 l0[k] B1 d1 l1[k] wr hD0 hD1)
        clear hd0 hD0 hd1 hD1
        by_cases hx : l0[k] = l1[k]
        · rw [decide_eq_true hx] at HC
          have HX := Aside0.mk hx
          clear hx
          go_wp2_with (go_at_call 19; refine HC.out.mono ?_; rintro e w1 ⟨rfl, hB⟩)
          go_roundw
          case rel => exact ⟨k + 1, by go_num, ⟨by omega, by rw [Num.take_succ _ _ hk, Num.take_succ _ _ hk1, HI.out.2.1, HX.out], HI.out.2.2.trans (hB.mono HI.out.2.2.size)⟩⟩
          case measure => simp [intOf]; omega
        · rw [decide_eq_false hx] at HC
          have HX := Aside0.mk hx
          clear hx
          go_wp2_with (go_at_call 19; refine HC.out.mono ?_; rintro e w1 ⟨rfl, hB⟩)
          go_ret
          exact ⟨by rw [decide_eq_false (fun e => HX.out (by subst e; rfl))]; rfl, HI.out.2.2.trans (hB.mono HI.out.2.2.size)⟩
      · go_wp2
        go_ret
        have hk' : k = l0.length := by omega
        exact ⟨by rw [decide_eq_true (by have h := HI.out.2.1; rwa [hk', List.take_length, HL.out, List.take_length] at h)]; rfl, HI.out.2.2⟩
  · have h1 : ((l0.length : Int) == (l1.length : Int)) = false := beq_eq_false_iff_ne.mpr (by omega)
    have h2 : ((l0.length : Int) != (l1.length : Int)) = true := bne_iff_ne.mpr (by omega)
    have h3 : (l0.length == l1.length) = false := by simpa using hl
    have HL := Aside0.mk hl
    clear hl
    go_enter Try.func65, Try.ntmps65
    go_wp2
    go_ret
    exact ⟨by rw [decide_eq_false (fun e => HL.out (by rw [e]))]; rfl, Below.refl _ _⟩
end Go.Proofs.Ytboofecfmhbacaa
