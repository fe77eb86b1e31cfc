/- The walk of the law BlocksMembers. -/
import Derived.Test.YtboofecfmhbacaaH11
import Derived.Test.YtboofecfmhbacaaH12
import Derived.Test.YtboofecfmhbacaaPlain4
import Derived.Test.YtboofecfmhbacaaPlain5
namespace Go.Proofs.Ytboofecfmhbacaa
open Go.RowKit Go.WideMaps Go.Maps Go.Proofs.YtboofecfmhbacaaW.PrintWords Go.Proofs.YtboofecfmhbacaaW.PrintLast Go.Proofs.YtboofecfmhbacaaW.PrintMore
attribute [local go_sem] max_two min_two max_three min_three
set_option linter.unusedVariables false
set_option linter.unusedSimpArgs false

theorem members_row {p : List Int} {N b : Nat} (hN : countP p = N) (hb : b < N) : ∃ h : b < (membersP p).length, (membersP p)[b] = idxs p 0 (b : Int) := by
  have hl : (membersP p).length = N := by unfold membersP; rw [rowsP_length, hN, Int.toNat_natCast]
  refine ⟨by omega, ?_⟩
  simp only [membersP]
  exact rowsP_get p (countP p).toNat b (by rw [hN, Int.toNat_natCast]; exact hb)
theorem idxs_bound (l : List Int) (b : Int) : (idxs l 0 b).length ≤ l.length := idxs_length l 0 b

set_option maxRecDepth 100000 in
set_option maxHeartbeats 8000000 in
theorem blocksMembers_walk (A0 : Option Addr) (c0 : Nat) (k : List Int) (A1 : Option Addr) (c1 : Nat) (keys : List Int) (w : World) (hr0 : Kd.C (Kd.int .u8) w A0 k.length k) (hw0 : ∀ y ∈ k, (Lit.int .u8 y).wf = true) (hc0 : k.length ≤ c0) (hr1 : Kd.C (Kd.int .i64) w A1 keys.length keys) (hw1 : ∀ y ∈ keys, (Lit.int .i64 y).wf = true) (hc1 : keys.length ≤ c1) :
    Calls Try.prog 9 #[.slice A0 k.length c0, .slice A1 keys.length c1] w fun e w' => e = .returned (.bool true) ∧ Below w.heap.size w w' := by
  have HB_0 := Aside0.mk (Below.refl w.heap.size w)
  have FA_0 := Aside0.mk hr0
  have HK0 := Aside0.mk hw0
  have hbk := len_le hr1
  obtain ⟨M, hM⟩ : ∃ M, M = min keys.length 60 := ⟨_, rfl⟩
  obtain ⟨hcut, hCC⟩ := cut_ints (k := .i64) Try.underlying22 info3 A1 c1 keys M (by omega) hc1
  have hmn : Builtin.min2 (.int .i64 (keys.length : Int)) (.int .i64 60) = pure (.int .i64 (M : Int)) := by
    rw [hM]
    exact min2_nat keys.length 60
  have hM60 : M ≤ 60 := by omega
  have FK_0 := Aside0.mk (hCC w hr1)
  have HKW := Aside0.mk (show Wf (keys.take M) from fun y hy => hw1 y (List.mem_of_mem_take hy))
  have HKL := Aside0.mk (show (keys.take M).length = M by rw [List.length_take]; omega)
  generalize keys.take M = ks at FK_0 HKW HKL
  clear hr0 hr1 hw0 hw1 hCC hM
  go_enter Try.func9, Try.ntmps9
  go_wp2_with (first
    | (go_at_call 25; refine (makeN A0 c0 k w FA_0.out HK0.out hc0).mono ?_; rintro e w1 ⟨n, A2, c2, p, rfl, hn30, hp, hC, hB⟩; have FP_1 := Aside0.mk (hC); have FK_1 := Aside0.mk (Kd.C_below FK_0.out hB); have HB_1 := Aside0.mk (HB_0.out.trans (hB.mono HB_0.out.size)); have HP := Aside0.mk hp; clear hC hp; clear hB HB_0 FA_0 FK_0))
  obtain ⟨N, hcn⟩ : ∃ N : Nat, countP p = N := ⟨(countP p).toNat, by have := count_bounds HP.out.right; omega⟩
  have hNn : N ≤ n := by have := (count_bounds HP.out.right).2; rw [HP.out.len] at this; omega
  refine (membersN A2 c2 n p w1 HP.out FP_1.out N hcn).mono ?_
  rintro e w2 ⟨A3, c3, rfl, hC, hB⟩
  have HN := Aside0.mk hcn
  have FP_2 := Aside0.mk (Kd.C_below FP_1.out hB)
  have FK_2 := Aside0.mk (Kd.C_below FK_1.out hB)
  have FL_2 := Aside0.mk hC
  have HB_2 := Aside0.mk (HB_1.out.trans (hB.mono HB_1.out.size))
  have HROW := Aside0.mk (fun b (hb : b < N) => members_row hcn hb)
  have HLL := Aside0.mk (show (membersP p).length = N by unfold membersP; rw [rowsP_length, hcn, Int.toNat_natCast])
  have HSOME := Aside0.mk (fun (b : Nat) (hb : b < N) => (by
    obtain ⟨i, hi, e⟩ := right_all HP.out.right (b := (b : Int)) (by omega) (by omega)
    rw [← e, at_get hi]; exact List.getElem_mem hi : (b : Int) ∈ p))
  have HUP := Aside0.mk (fun (b : Nat) (hb : b + 1 < N) => place_up HP.out.right (b := b) (by omega))
  have HTOT := Aside0.mk (show tot p N = n by rw [tot_all p N (fun x hx => ⟨(HP.out.right.bounds x hx).1, by rw [← hcn]; exact lt_count x hx⟩), HP.out.len])
  clear hcn hC hB FP_1 FK_1 HB_1
  go_wp2_with (first
    | (go_at_call 34; refine (countN A2 c2 n p w2 HP.out FP_2.out N HN.out).mono ?_; rintro e w3 ⟨rfl, hB⟩; have FP_3 := Aside0.mk (Kd.C_below FP_2.out hB); have FK_3 := Aside0.mk (Kd.C_below FK_2.out hB); have FL_3 := Aside0.mk (Kd.C_below FL_2.out hB); have HB_3 := Aside0.mk (HB_2.out.trans (hB.mono HB_2.out.size)); clear hB HB_2 FP_2 FK_2 FL_2)
    | (go_at_call 17; refine (ofN A2 c2 n p w3 HP.out.len (by omega) HP.out.right.small.wf FP_3.out p HP.out.right.2).mono ?_; rintro e w4 ⟨A4, c4, rfl, hC, hB⟩; have FG_4 := Aside0.mk (hC); have FP_4 := Aside0.mk (Kd.C_below FP_3.out hB); have FK_4 := Aside0.mk (Kd.C_below FK_3.out hB); have FL_4 := Aside0.mk (Kd.C_below FL_3.out hB); have HB_4 := Aside0.mk (HB_3.out.trans (hB.mono HB_3.out.size)); clear hC; clear hB HB_3 FP_3 FK_3 FL_3)
    | (go_at_call 19; refine (eqN A4 c4 n p A2 c2 p w4 HP.out.len FG_4.out HP.out.len FP_4.out true (by simp)).mono ?_; rintro e w5 ⟨rfl, hB⟩; have FP_5 := Aside0.mk (Kd.C_below FP_4.out hB); have FK_5 := Aside0.mk (Kd.C_below FK_4.out hB); have FL_5 := Aside0.mk (Kd.C_below FL_4.out hB); have HB_5 := Aside0.mk (HB_4.out.trans (hB.mono HB_4.out.size)); clear hB HB_4 FP_4 FK_4 FL_4 FG_4)
    | (go_at_call 37; refine (rightN A2 c2 n p w5 HP.out FP_5.out).mono ?_; rintro e w6 ⟨rfl, hB⟩; have FP_6 := Aside0.mk (Kd.C_below FP_5.out hB); have FK_6 := Aside0.mk (Kd.C_below FK_5.out hB); have FL_6 := Aside0.mk (Kd.C_below FL_5.out hB); have HB_6 := Aside0.mk (HB_5.out.trans (hB.mono HB_5.out.size)); clear hB HB_5 FP_5 FK_5 FL_5))
  have HCUT := Aside0.mk (And.intro hcut hmn)
  clear hcut hmn
  go_loopw [12, 63] (fun seen i wr => ∃ (s b : Nat), i = .int .i64 b ∧ seen = .int .i64 s ∧ Aside0 (b ≤ N ∧ s = tot p b ∧ s ≤ 100 * b ∧ Below w6.heap.size w6 wr)) (fun _ i _ => N - (intOf i).toNat)
  case atStart => exact ⟨0, 0, rfl, rfl, Nat.zero_le _, rfl, Nat.zero_le _, Below.refl _ _⟩
  case round =>
    obtain ⟨s, b, rfl, rfl, HI⟩ := hrel
    have hbl := HI.out.1
    have hs100 := HI.out.2.2.1
    by_cases hb : b < N
    · obtain ⟨hbl2, hrow⟩ := HROW.out b hb
      obtain ⟨ad1, B1, d1, e1, hx1, hd1, hD1⟩ := rows_atN (Kd.C_below FL_6.out HI.out.2.2.2) HLL.out b hb
      subst e1
      rw [hrow] at hx1 hD1 hd1
      have hri := idxs_row p (b : Int)
      have hlen := idxs_bound p (b : Int)
      have hne := List.length_pos_iff.2 (hri.some (HSOME.out b hb))
      have hpl := HP.out.len
      obtain ⟨r, hr⟩ : ∃ r, r = idxs p 0 (b : Int) := ⟨_, rfl⟩
      rw [← hr] at hx1 hD1 hd1 hri hlen hne
      obtain ⟨ad2, e2, hx2⟩ := ints_at hD1 0 hne
      subst e2
      rw [hri.least hne, show ad2.add 0 = ad2 from rfl] at hx2
      obtain ⟨L, hL⟩ : ∃ L, L = r.length := ⟨_, rfl⟩
      have HL := Aside0.mk hL
      rw [← hL] at hx1 hD1 hd1 hlen hne
      have HRI := Aside0.mk hri
      have HRR := Aside0.mk hr
      have HD1 := Aside0.mk hD1
      have HX1 := Aside0.mk hx1
      have hrl : L ≤ 30 := by omega
      have g0 : ((L : Int) == 0) = false := beq_eq_false_iff_ne.mpr (by omega)
      have g0' : (L == 0) = false := beq_eq_false_iff_ne.mpr (by omega)
      have HQB := Aside0.mk (fun m => pw_below_drewN HI.out.2.2.2 m)
      clear hrow hri hr hlen hpl hD1 hL
      by_cases hb0 : b = 0
      · have g9 : decide ((0 : Int) < (b : Int)) = false := decide_eq_false (by omega)
        have g9n : decide (0 < b) = false := decide_eq_false (by omega)
        clear hx2 hb0
        go_wp2
        go_quiet (fail)
        go_wp2
        clear g0 g0' g9 hx1
        obtain ⟨wo, hwo⟩ : ∃ wo : World, wo = wr.drewN nq := ⟨_, rfl⟩
        have hWO := HQB.out nq
        rw [← hwo] at hWO ⊢
        have HD2 := Aside0.mk (show Kd.C (Kd.int .i64) wo (some ad2) L r by rw [hwo]; exact Kd.C_drewN HD1.out nq)
        have HWO := Aside0.mk hWO
        clear hwo hWO HD1 HX1 HQB
        go_loopw [12, 99] (fun seen i wq => ∃ (s' t : Nat), i = .int .i64 t ∧ seen = .int .i64 s' ∧ wq = wo ∧ Aside0 (t ≤ L ∧ s' = s + t)) (fun _ i _ => L - (intOf i).toNat)
        case atStart => exact ⟨s, 0, rfl, rfl, rfl, Nat.zero_le _, rfl⟩
        case round =>
          obtain ⟨s', t, rfl, rfl, rfl, HT⟩ := hrel
          have htl := HT.out.1
          have hs' : s' ≤ 10000 := by have := HT.out.2; omega
          by_cases ht : t < L
          · have htr : t < r.length := by rw [← HL.out]; exact ht
            obtain ⟨y, hy⟩ : ∃ y : Nat, r[t] = y := ⟨r[t].toNat, by have := (HRI.out.mem _ (List.getElem_mem htr)).1; omega⟩
            have hym := HRI.out.mem _ (List.getElem_mem htr)
            obtain ⟨ad5, e5, hx5⟩ := ints_atN HD2.out HL.out.symm t ht
            obtain rfl : ad2 = ad5 := by injection e5
            rw [hy] at hx5
            have hyn : y < n := by have := HP.out.len; omega
            obtain ⟨ad6, e6, hx6⟩ := ints_atN (Kd.C_below FP_6.out HWO.out) HP.out.len y hyn
            subst e6
            rw [← at_get (show y < p.length by have := HP.out.len; omega), show at_ p y = ((b : Nat) : Int) by have h := hym.2.2; rw [hy, Int.toNat_natCast] at h; exact h] at hx6
            have g3 : decide ((n : Int) ≤ (y : Int)) = false := decide_eq_false (by omega)
            by_cases ht0 : t = 0
            · have g4 : decide ((0 : Int) < (t : Int)) = false := decide_eq_false (by omega)
              have g4n : decide (0 < t) = false := decide_eq_false (by omega)
              clear hym hy e5 ht0
              go_wp2
              go_roundw
              case rel => exact ⟨s' + 1, t + 1, by go_num, by go_num, by first | rfl | trivial, by omega, by have := HT.out.2; omega⟩
              case measure => simp [intOf]; omega
            · obtain ⟨t0, hte⟩ : ∃ t0, t = t0 + 1 := ⟨t - 1, by omega⟩
              have g4 : decide ((0 : Int) < (t : Int)) = true := decide_eq_true (by omega)
              have g4n : decide (0 < t) = true := decide_eq_true (by omega)
              have g5 : (t : Int) - 1 = (t0 : Int) := by omega
              have ht0r : t0 < L := by omega
              have ht0rr : t0 < r.length := by omega
              obtain ⟨ad7, e7, hx7⟩ := ints_atN HD2.out HL.out.symm t0 ht0r
              obtain rfl : ad2 = ad7 := by injection e7
              have hup := HRI.out.up t0 t (by omega) htr
              rw [hy] at hup
              have g6 : decide ((y : Int) ≤ r[t0]) = false := decide_eq_false (by omega)
              generalize r[t0] = z at hx7 g6
              clear hym hy e5 e7 hup hte ht0
              go_wp2
              go_roundw
              case rel => exact ⟨s' + 1, t + 1, by go_num, by go_num, by first | rfl | trivial, by omega, by have := HT.out.2; omega⟩
              case measure => simp [intOf]; omega
          · have HS := Aside0.mk (show s' = tot p (b + 1) ∧ s' ≤ 100 * (b + 1) by
              have h1 := HT.out.2
              have h2 := HI.out.2.1
              have h3 := HRR.out
              have h4 := HL.out
              refine ⟨?_, by omega⟩
              rw [tot, ← h3, ← h2]
              omega)
            go_wp2
            go_roundw
            case rel => exact ⟨s', b + 1, by go_num, rfl, by omega, HS.out.1, HS.out.2, HWO.out⟩
            case measure => simp [intOf]; omega
      · obtain ⟨b0, hbe⟩ : ∃ b0, b = b0 + 1 := ⟨b - 1, by omega⟩
        have g9 : decide ((0 : Int) < (b : Int)) = true := decide_eq_true (by omega)
        have g9n : decide (0 < b) = true := decide_eq_true (by omega)
        have g8 : (b : Int) - 1 = (b0 : Int) := by omega
        have hb0N : b0 < N := by omega
        obtain ⟨hbl3, hrow3⟩ := HROW.out b0 hb0N
        obtain ⟨ad3, B3, d3, e3, hx3, hd3, hD3⟩ := rows_atN (Kd.C_below FL_6.out HI.out.2.2.2) HLL.out b0 hb0N
        obtain rfl : ad1 = ad3 := by injection e3
        rw [hrow3] at hx3 hD3 hd3
        have hri3 := idxs_row p (b0 : Int)
        have hlen3 := idxs_bound p (b0 : Int)
        have hpl := HP.out.len
        have hne3 := List.length_pos_iff.2 (hri3.some (HSOME.out b0 (by omega)))
        obtain ⟨r3, hr3⟩ : ∃ r, r = idxs p 0 (b0 : Int) := ⟨_, rfl⟩
        rw [← hr3] at hx3 hD3 hd3 hri3 hlen3 hne3
        obtain ⟨ad4, e4, hx4⟩ := ints_at hD3 0 hne3
        subst e4
        rw [hri3.least hne3, show ad4.add 0 = ad4 from rfl] at hx4
        have hup := HUP.out b0 (by omega)
        rw [← hbe] at hup
        obtain ⟨L3, hL3⟩ : ∃ L, L = r3.length := ⟨_, rfl⟩
        rw [← hL3] at hx3 hD3 hd3 hlen3 hne3
        have hr3l : L3 ≤ 30 := by omega
        have g1 : decide ((0 : Int) < (L3 : Int)) = true := decide_eq_true (by omega)
        have g1n : decide (0 < L3) = true := decide_eq_true (by omega)
        have g2 : decide (((placeOf p (b : Int) : Nat) : Int) ≤ ((placeOf p (b0 : Int) : Nat) : Int)) = false := decide_eq_false (by omega)
        generalize ((placeOf p (b : Int) : Nat) : Int) = y1 at hx2 g2
        generalize ((placeOf p (b0 : Int) : Nat) : Int) = y0 at hx4 g2
        clear hrow3 hri3 hr3 hlen3 hpl hup hD3 e3 hbl2 hbl3 hbe hb0 hL3
        go_wp2
        go_quiet (fail)
        go_wp2
        clear g0 g0' g1 g2 g8 g9 hx1 hx2 hx3 hx4
        obtain ⟨wo, hwo⟩ : ∃ wo : World, wo = wr.drewN nq := ⟨_, rfl⟩
        have hWO := HQB.out nq
        rw [← hwo] at hWO ⊢
        have HD2 := Aside0.mk (show Kd.C (Kd.int .i64) wo (some ad2) L r by rw [hwo]; exact Kd.C_drewN HD1.out nq)
        have HWO := Aside0.mk hWO
        clear hwo hWO HD1 HX1 HQB
        go_loopw [12, 99] (fun seen i wq => ∃ (s' t : Nat), i = .int .i64 t ∧ seen = .int .i64 s' ∧ wq = wo ∧ Aside0 (t ≤ L ∧ s' = s + t)) (fun _ i _ => L - (intOf i).toNat)
        case atStart => exact ⟨s, 0, rfl, rfl, rfl, Nat.zero_le _, rfl⟩
        case round =>
          obtain ⟨s', t, rfl, rfl, rfl, HT⟩ := hrel
          have htl := HT.out.1
          have hs' : s' ≤ 10000 := by have := HT.out.2; omega
          by_cases ht : t < L
          · have htr : t < r.length := by rw [← HL.out]; exact ht
            obtain ⟨y, hy⟩ : ∃ y : Nat, r[t] = y := ⟨r[t].toNat, by have := (HRI.out.mem _ (List.getElem_mem htr)).1; omega⟩
            have hym := HRI.out.mem _ (List.getElem_mem htr)
            obtain ⟨ad5, e5, hx5⟩ := ints_atN HD2.out HL.out.symm t ht
            obtain rfl : ad2 = ad5 := by injection e5
            rw [hy] at hx5
            have hyn : y < n := by have := HP.out.len; omega
            obtain ⟨ad6, e6, hx6⟩ := ints_atN (Kd.C_below FP_6.out HWO.out) HP.out.len y hyn
            subst e6
            rw [← at_get (show y < p.length by have := HP.out.len; omega), show at_ p y = ((b : Nat) : Int) by have h := hym.2.2; rw [hy, Int.toNat_natCast] at h; exact h] at hx6
            have g3 : decide ((n : Int) ≤ (y : Int)) = false := decide_eq_false (by omega)
            by_cases ht0 : t = 0
            · have g4 : decide ((0 : Int) < (t : Int)) = false := decide_eq_false (by omega)
              have g4n : decide (0 < t) = false := decide_eq_false (by omega)
              clear hym hy e5 ht0
              go_wp2
              go_roundw
              case rel => exact ⟨s' + 1, t + 1, by go_num, by go_num, by first | rfl | trivial, by omega, by have := HT.out.2; omega⟩
              case measure => simp [intOf]; omega
            · obtain ⟨t0, hte⟩ : ∃ t0, t = t0 + 1 := ⟨t - 1, by omega⟩
              have g4 : decide ((0 : Int) < (t : Int)) = true := decide_eq_true (by omega)
              have g4n : decide (0 < t) = true := decide_eq_true (by omega)
              have g5 : (t : Int) - 1 = (t0 : Int) := by omega
              have ht0r : t0 < L := by omega
              have ht0rr : t0 < r.length := by omega
              obtain ⟨ad7, e7, hx7⟩ := ints_atN HD2.out HL.out.symm t0 ht0r
              obtain rfl : ad2 = ad7 := by injection e7
              have hup := HRI.out.up t0 t (by omega) htr
              rw [hy] at hup
              have g6 : decide ((y : Int) ≤ r[t0]) = false := decide_eq_false (by omega)
              generalize r[t0] = z at hx7 g6
              clear hym hy e5 e7 hup hte ht0
              go_wp2
              go_roundw
              case rel => exact ⟨s' + 1, t + 1, by go_num, by go_num, by first | rfl | trivial, by omega, by have := HT.out.2; omega⟩
              case measure => simp [intOf]; omega
          · have HS := Aside0.mk (show s' = tot p (b + 1) ∧ s' ≤ 100 * (b + 1) by
              have h1 := HT.out.2
              have h2 := HI.out.2.1
              have h3 := HRR.out
              have h4 := HL.out
              refine ⟨?_, by omega⟩
              rw [tot, ← h3, ← h2]
              omega)
            go_wp2
            go_roundw
            case rel => exact ⟨s', b + 1, by go_num, rfl, by omega, HS.out.1, HS.out.2, HWO.out⟩
            case measure => simp [intOf]; omega
    · have hb' : b = N := by omega
      have hsn : s = n := by rw [HI.out.2.1, hb', HTOT.out]
      have HBW := Aside0.mk (HB_6.out.trans (HI.out.2.2.2.mono HB_6.out.size))
      have FKS := Aside0.mk (Kd.C_below FK_6.out HI.out.2.2.2)
      have HIB := Aside0.mk HI.out.2.2.2
      clear HI
      subst hsn
      clear hb'
      obtain ⟨hcut, hmn⟩ := HCUT.out
      go_wp2_with (first
        | (go_at_call 17; refine (ofN A1 c1 M ks wr HKL.out (by omega) HKW.out FKS.out _ rfl).mono ?_; rintro e v1 ⟨A5, c5, rfl, hC, hB⟩; have G1 := Aside0.mk hC; have GK1 := Aside0.mk (Kd.C_below FKS.out hB); have HV1 := Aside0.mk (HBW.out.trans (hB.mono HBW.out.size)); clear hC hB)
        | (go_at_call 37; refine (rightN A5 c5 M (Num.num ks) v1 (num_part HKL.out (by omega)) G1.out).mono ?_; rintro e v2 ⟨rfl, hB⟩; have G2 := Aside0.mk (Kd.C_below G1.out hB); have GK2 := Aside0.mk (Kd.C_below GK1.out hB); have HV2 := Aside0.mk (HV1.out.trans (hB.mono HV1.out.size)); clear hB))
      clear hcut hmn
      go_loopw [169] (fun i wr => ∃ (i' : Nat), i = .int .i64 i' ∧ Aside0 (i' ≤ M ∧ Below v2.heap.size v2 wr)) (fun i _ => M - (intOf i).toNat)
      case atStart => exact ⟨0, rfl, Nat.zero_le _, Below.refl _ _⟩
      case round =>
        obtain ⟨i, rfl, HT⟩ := hrel
        have hil := HT.out.1
        by_cases hi : i < M
        · go_wp2
          obtain ⟨wo, hwo⟩ : ∃ wo : World, wo = wr := ⟨_, rfl⟩
          rw [← hwo] at HT
          have HWO := Aside0.mk hwo
          clear hwo
          go_loopw [173] (fun i' wq => ∃ (j : Nat), i' = .int .i64 j ∧ Aside0 (j ≤ i ∧ Below v2.heap.size v2 wq)) (fun i' _ => i - (intOf i').toNat)
          case atStart => exact ⟨0, rfl, Nat.zero_le _, by rw [← HWO.out]; exact HT.out.2⟩
          case round =>
            clear HWO
            obtain ⟨j, rfl, HJ⟩ := hrel
            have hjl := HJ.out.1
            by_cases hj : j < i
            · have hjM : j < M := by omega
              obtain ⟨ad1, e1, hx1⟩ := ints_atN (Kd.C_below GK2.out HJ.out.2) HKL.out i hi
              obtain ⟨ad1', e1', hx2⟩ := ints_atN (Kd.C_below GK2.out HJ.out.2) HKL.out j hjM
              obtain ⟨ad2, e2, hx3⟩ := ints_atN (Kd.C_below G2.out HJ.out.2) (by rw [Num.num_length]; exact HKL.out) i hi
              obtain ⟨ad2', e2', hx4⟩ := ints_atN (Kd.C_below G2.out HJ.out.2) (by rw [Num.num_length]; exact HKL.out) j hjM
              subst e1 e2
              obtain rfl : ad1 = ad1' := by injection e1'
              obtain rfl : ad2 = ad2' := by injection e2'
              have hnl := HKL.out
              have hiff := num_at hnl hi hjM
              have hnl2 : (Num.num ks).length = M := by rw [Num.num_length]; exact hnl
              rw [← at_get (show i < ks.length by omega)] at hx1
              rw [← at_get (show j < ks.length by omega)] at hx2
              rw [← at_get (show i < (Num.num ks).length by omega)] at hx3
              rw [← at_get (show j < (Num.num ks).length by omega)] at hx4
              have HQB := Aside0.mk (fun m => pw_below_drewN HJ.out.2 m)
              generalize at_ ks i = y1 at hx1 hiff
              generalize at_ ks j = y2 at hx2 hiff
              generalize at_ (Num.num ks) i = y3 at hx3 hiff
              generalize at_ (Num.num ks) j = y4 at hx4 hiff
              clear hnl hnl2 e1' e2'
              by_cases he : y1 = y2
              · have g1 : (y1 == y2) = true := beq_iff_eq.mpr he
                have g2 : (y3 == y4) = true := beq_iff_eq.mpr (hiff.2 he)
                clear he hiff
                go_wp2
                go_quiet (fail)
                go_wp2
                go_roundw
                case rel => exact ⟨j + 1, by go_num, by omega, HQB.out nq⟩
                case measure => simp [intOf]; omega
              · have g1 : (y1 == y2) = false := beq_eq_false_iff_ne.mpr he
                have g2 : (y3 == y4) = false := beq_eq_false_iff_ne.mpr (fun h => he (hiff.1 h))
                clear he hiff
                go_wp2
                go_quiet (fail)
                go_wp2
                go_roundw
                case rel => exact ⟨j + 1, by go_num, by omega, HQB.out nq⟩
                case measure => simp [intOf]; omega
            · go_wp2
              go_roundw
              case rel => exact ⟨i + 1, by go_num, by omega, HJ.out.2⟩
              case measure => simp [intOf]; omega
        · have HE := Aside0.mk (HV2.out.trans (HT.out.2.mono HV2.out.size))
          go_wp2_with (go_at_call 14; refine (awake_walk wr).mono ?_; rintro e v9 ⟨rfl, hB⟩; have HV9 := Aside0.mk (HE.out.trans (hB.mono HE.out.size)); clear hB)
          go_ret
          exact ⟨rfl, HV9.out⟩
end Go.Proofs.Ytboofecfmhbacaa
