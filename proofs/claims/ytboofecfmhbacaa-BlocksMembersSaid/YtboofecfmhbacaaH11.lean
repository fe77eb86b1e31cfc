/- The walk of the law BlocksQuotient. -/
import Derived.Test.YtboofecfmhbacaaH10
namespace Go.Proofs.Ytboofecfmhbacaa
open Go.RowKit Go.WideMaps Go.Maps Go.Proofs.YtboofecfmhbacaaW.PrintWords Go.Proofs.YtboofecfmhbacaaW.PrintLast Go.Proofs.YtboofecfmhbacaaW.PrintMore
set_option linter.unusedVariables false
set_option linter.unusedSimpArgs false

/-- An element's block among the quotient's. -/
theorem quot_row {n N : Nat} {c : List Int} {next : List (List Int)} (hc : PartN n c) (hn : nextP n next) (hs : stableP c next) (hN : countP c = N) {i : Nat} (hi : i < n) :
    ∃ b : Nat, at_ c i = b ∧ ∃ h : b < (quotP c next).length, b < N ∧ (quotP c next)[b] = after c next i := by
  have hl := hc.len
  have hb := at_bounds hc.right (show i < c.length by omega)
  have h1 := quot_get hc.right (by rw [hn.1, hl]) hs (show i < c.length by omega)
  obtain ⟨b, e⟩ : ∃ b : Nat, at_ c i = b := ⟨(at_ c i).toNat, by omega⟩
  rw [e, Int.toNat_natCast] at h1
  obtain ⟨h2, h3⟩ := List.getElem?_eq_some_iff.1 h1
  have hl2 : (quotP c next).length = N := by rw [quot_length, hN, Int.toNat_natCast]
  exact ⟨b, e, h2, by omega, h3⟩

theorem ints_atN {w : World} {k : IntKind} {A : Option Addr} {l : List Int} {n : Nat} (h : Kd.C (Kd.int k) w A n l) (hl : l.length = n) (j : Nat) (hj : j < n) : ∃ ad, A = some ad ∧ w.cell? (ad.add j) = some (.int k (l[j]'(by omega))) := by
  subst hl
  exact ints_at h j hj
theorem rows_atN {α : Type} {w : World} {e : Nat} {d : Kd α} {A : Option Addr} {l : List (List α)} {n : Nat} (h : Kd.C (Kd.slice e d) w A n l) (hl : l.length = n) (j : Nat) (hj : j < n) :
    ∃ ad A1 c1, A = some ad ∧ w.cell? (ad.add j) = some (.slice A1 (l[j]'(by omega)).length c1) ∧ (l[j]'(by omega)).length ≤ c1 ∧ d.C w A1 (l[j]'(by omega)).length (l[j]'(by omega)) := by
  subst hl
  exact rows_at h j hj
theorem C_le {α : Type} {d : Kd α} {w : World} {A : Option Addr} {n : Nat} {l : List α} (h : d.C w A n l) : n ≤ 9223372036854775807 := h.2.1

set_option maxRecDepth 100000 in
set_option maxHeartbeats 8000000 in
theorem blocksQuotient_walk (A0 : Option Addr) (c0 : Nat) (k : List Int) (A1 : Option Addr) (c1 : Nat) (more : List Int) (w : World) (hr0 : Kd.C (Kd.int .u8) w A0 k.length k) (hw0 : ∀ y ∈ k, (Lit.int .u8 y).wf = true) (hc0 : k.length ≤ c0) (hr1 : Kd.C (Kd.int .u8) w A1 more.length more) (hw1 : ∀ y ∈ more, (Lit.int .u8 y).wf = true) (hc1 : more.length ≤ c1) :
    Calls Try.prog 5 #[.slice A0 k.length c0, .slice A1 more.length c1] w fun e w' => e = .returned (.bool true) ∧ Below w.heap.size w w' := by
  have HB_0 := Aside0.mk (Below.refl w.heap.size w)
  have FA_0 := Aside0.mk hr0
  have FB_0 := Aside0.mk hr1
  have HK0 := Aside0.mk hw0
  have HK1 := Aside0.mk hw1
  clear hr0 hr1 hw0 hw1
  go_enter Try.func5, Try.ntmps5
  go_wp2_with (first
    | (go_at_call 25; refine (makeN A0 c0 k w FA_0.out HK0.out hc0).mono ?_; rintro e w1 ⟨n, A2, c2, p, rfl, hn30, hp, hC, hB⟩; have FP_1 := Aside0.mk (hC); have FA_1 := Aside0.mk (Kd.C_below FA_0.out hB); have FB_1 := Aside0.mk (Kd.C_below FB_0.out hB); have HB_1 := Aside0.mk (HB_0.out.trans (hB.mono HB_0.out.size)); have HP := Aside0.mk hp; clear hC hp; clear hB HB_0 FA_0 FB_0)
    | (go_at_call 26; refine (nextN n A1 c1 more w1 FB_1.out HK1.out hn30).mono ?_; rintro e w2 ⟨A3, c3, next, rfl, hn, hC, hB⟩; have FX_2 := Aside0.mk (hC); have FA_2 := Aside0.mk (Kd.C_below FA_1.out hB); have FB_2 := Aside0.mk (Kd.C_below FB_1.out hB); have FP_2 := Aside0.mk (Kd.C_below FP_1.out hB); have HB_2 := Aside0.mk (HB_1.out.trans (hB.mono HB_1.out.size)); have HN := Aside0.mk hn; clear hC hn; clear hB HB_1 FA_1 FB_1 FP_1))
  obtain ⟨m, hm⟩ := exists_stops HP.out.right (by rw [HN.out.1, HP.out.len])
  have hpl := HP.out.len
  have hmb : m ≤ 30 := by have := iter_le HP.out.right (by rw [HN.out.1, HP.out.len]) hm.2; omega
  refine (coarsestN A2 c2 n p A3 c3 n next w2 HP.out FP_2.out HN.out HN.out.1 FX_2.out m hm _ rfl).mono ?_
  rintro e w3 ⟨A4, c4, rfl, hC, hB⟩
  have hcp := HP.out.iter HN.out.1 m
  have hsc := stops_stable HP.out.right (by rw [HN.out.1, HP.out.len]) hm
  obtain ⟨c, hc⟩ : ∃ c, c = iterP p next m := ⟨_, rfl⟩
  rw [← hc] at hC hcp hsc
  obtain ⟨N, hcn⟩ : ∃ N : Nat, countP c = N := ⟨(countP c).toNat, by have := count_bounds hcp.right; omega⟩
  have HCP := Aside0.mk hcp
  have HSC := Aside0.mk hsc
  have HCN := Aside0.mk hcn
  have FP_3 := Aside0.mk (Kd.C_below FP_2.out hB)
  have FX_3 := Aside0.mk (Kd.C_below FX_2.out hB)
  have FC_3 := Aside0.mk hC
  have HB_3 := Aside0.mk (HB_2.out.trans (hB.mono HB_2.out.size))
  have HQ2 := Aside0.mk (fun W (h0 : Kd.C (Kd.int .i64) W A2 n p) (h1 : Kd.C (Kd.slice 3 (Kd.int .i64)) W A3 n next) => (by
    by_cases hs : stableP p next
    · refine (quotientN A2 c2 n p A3 c3 n next W HP.out h0 HN.out HN.out.1 h1 hs (countP p).toNat (by have := count_bounds HP.out.right; omega)).mono ?_
      rintro e w' ⟨A, c, rfl, _, hB⟩
      exact ⟨A, _, c, by rw [if_pos hs], hB⟩
    · refine (splitN A2 c2 n p A3 c3 n next W HP.out h0 HN.out HN.out.1 h1 hs).mono ?_
      rintro e w' ⟨rfl, hB⟩
      exact ⟨none, 0, 0, by rw [if_neg hs], hB⟩ : Calls Try.prog 28 #[.slice A2 n c2, .slice A3 n c3] W fun e w' => ∃ (A : Option Addr) (m c : Nat), e = .returned (.tuple #[.slice A m c, .int .i64 (if stableP p next then 0 else 62)]) ∧ Below W.heap.size W w'))
  obtain ⟨b, hb⟩ : ∃ b, decide (stableP p next) = b := ⟨_, rfl⟩
  have HST := Aside0.mk hb
  have hif : (if stableP p next then (0 : Int) else 62) = if b = true then 0 else 62 := by
    rw [← hb]
    by_cases hs : stableP p next <;> simp [hs]
  rw [hif] at HQ2
  have HROW := Aside0.mk (fun i (hi : i < n) => quot_row hcp HN.out hsc hcn hi)
  clear hm hc hcp hsc hcn hb hif hC hB FA_2 FB_2 FP_2 FX_2 HB_2 hpl
  cases b
  all_goals
    simp only [if_true, Bool.false_eq_true, if_false] at HQ2
    go_wp2_with (first
      | (go_at_call 28; refine (quotientN A4 c4 n c A3 c3 n next w3 HCP.out FC_3.out HN.out HN.out.1 FX_3.out HSC.out N HCN.out).mono ?_; rintro e w4 ⟨A5, c5, rfl, hC, hB⟩; have FQ_4 := Aside0.mk (hC); have FP_4 := Aside0.mk (Kd.C_below FP_3.out hB); have FX_4 := Aside0.mk (Kd.C_below FX_3.out hB); have FC_4 := Aside0.mk (Kd.C_below FC_3.out hB); have HB_4 := Aside0.mk (HB_3.out.trans (hB.mono HB_3.out.size)); clear hC; clear hB HB_3 FP_3 FX_3 FC_3)
      | (go_at_call 29; refine (stableN A2 c2 n p A3 c3 n next w4 HP.out FP_4.out HN.out HN.out.1 FX_4.out _ HST.out).mono ?_; rintro e w5 ⟨rfl, hB⟩; have FP_5 := Aside0.mk (Kd.C_below FP_4.out hB); have FX_5 := Aside0.mk (Kd.C_below FX_4.out hB); have FC_5 := Aside0.mk (Kd.C_below FC_4.out hB); have FQ_5 := Aside0.mk (Kd.C_below FQ_4.out hB); have HB_5 := Aside0.mk (HB_4.out.trans (hB.mono HB_4.out.size)); clear hB HB_4 FP_4 FX_4 FC_4 FQ_4)
      | (go_at_call 28; refine (HQ2.out w5 FP_5.out FX_5.out).mono ?_; rintro e w6 ⟨A6, n6, c6, rfl, hB⟩; have FX_6 := Aside0.mk (Kd.C_below FX_5.out hB); have FC_6 := Aside0.mk (Kd.C_below FC_5.out hB); have FQ_6 := Aside0.mk (Kd.C_below FQ_5.out hB); have HB_6 := Aside0.mk (HB_5.out.trans (hB.mono HB_5.out.size)); clear hB HB_5 FP_5 FX_5 FC_5 FQ_5))
    go_loopw [80] (fun i wr => ∃ (j : Nat), i = .int .i64 j ∧ Aside0 (j ≤ n ∧ Below w6.heap.size w6 wr)) (fun i _ => n - (intOf i).toNat)
    case atStart => exact ⟨0, rfl, Nat.zero_le _, Below.refl _ _⟩
    case round =>
      obtain ⟨i, rfl, HI⟩ := hrel
      have hil := HI.out.1
      by_cases hi : i < n
      · have hcl := HCP.out.len
        have hnl := HN.out.1
        obtain ⟨b, hbe, hbl, hbN, hrow⟩ := HROW.out i hi
        obtain ⟨ad1, B1, d1, e1, hx1, hd1, hD1⟩ := rows_atN (Kd.C_below FX_6.out HI.out.2) HN.out.1 i hi
        obtain ⟨ad2, e2, hx2⟩ := ints_atN (Kd.C_below FC_6.out HI.out.2) HCP.out.len i hi
        obtain ⟨ad3, B3, d3, e3, hx3, hd3, hD3⟩ := rows_atN (Kd.C_below FQ_6.out HI.out.2) (show (quotP c next).length = N by rw [quot_length, HCN.out, Int.toNat_natCast]) b hbN
        subst e1 e2 e3
        have hin : i < next.length := by omega
        have hrl : ((quotP c next)[b]).length = next[i].length := by rw [hrow, after_get c next i hin, List.length_map]
        rw [← at_get (show i < c.length by omega), hbe] at hx2
        rw [hrl] at hx3
        have HD1 := Aside0.mk hD1
        have HD3 := Aside0.mk (show Kd.C (Kd.int .i64) wr B3 next[i].length (next[i].map fun x => at_ c x.toNat) by rw [← after_get c next i hin, ← hrow, ← hrl]; exact hD3)
        have hlb := len_le hD1
        have HX := Aside0.mk (And.intro hx1 (And.intro hx2 hx3))
        have hNn : N ≤ 9223372036854775807 := C_le FQ_6.out
        clear hcl hnl hbe hrow hD1 hD3 hrl hd3
        go_wp2
        clear hx1 hx2 hx3
        obtain ⟨wo, hwo⟩ : ∃ wo : World, wo = wr := ⟨_, rfl⟩
        rw [← hwo] at HI HD1 HD3 HX
        have HWO := Aside0.mk hwo
        clear hwo
        go_loopw [114] (fun i' wq => ∃ (t : Nat), i' = .int .i64 t ∧ Aside0 (t ≤ next[i].length ∧ Below wo.heap.size wo wq)) (fun i' _ => next[i].length - (intOf i').toNat)
        case atStart => exact ⟨0, rfl, Nat.zero_le _, by rw [HWO.out]; exact Below.refl _ _⟩
        case round =>
          clear HWO
          obtain ⟨t, rfl, HT⟩ := hrel
          have htl := HT.out.1
          by_cases ht : t < next[i].length
          · have hxb := (HN.out.2 _ (List.getElem_mem hin)).2 next[i][t] (List.getElem_mem ht)
            obtain ⟨x, hxe⟩ : ∃ x : Nat, next[i][t] = x := ⟨next[i][t].toNat, by omega⟩
            have hxn : x < n := by omega
            have hB := HI.out.2.trans (HT.out.2.mono HI.out.2.size)
            have hx1 := pw_cell_below HT.out.2 HX.out.1
            have hx2 := pw_cell_below HT.out.2 HX.out.2.1
            have hx3 := pw_cell_below HT.out.2 HX.out.2.2
            obtain ⟨ad4, e4, hx4⟩ := ints_at (Kd.C_below HD1.out HT.out.2) t ht
            obtain ⟨ad5, e5, hx5⟩ := ints_atN (Kd.C_below HD3.out HT.out.2) (by simp) t ht
            obtain ⟨ad6, e6, hx6⟩ := ints_atN (Kd.C_below FC_6.out hB) HCP.out.len x hxn
            subst e4 e5
            obtain rfl : ad2 = ad6 := by injection e6
            rw [hxe] at hx4
            rw [List.getElem_map, hxe, Int.toNat_natCast, at_get (show x < c.length by have := HCP.out.len; omega)] at hx5
            have HQB := Aside0.mk (fun m => pw_below_drewN HT.out.2 m)
            generalize c[x]'(by have := HCP.out.len; omega) = y at hx5 hx6
            have g1 : (y == y) = true := by simp
            have g2 : (y != y) = false := by simp
            clear hxe hxb hB e6
            go_wp2
            go_quiet (fail)
            go_wp2
            go_roundw
            case rel => exact ⟨t + 1, by go_num, by omega, HQB.out nq⟩
            case measure => simp [intOf]; omega
          · have HK := Aside0.mk (HI.out.2.trans (HT.out.2.mono HI.out.2.size))
            go_wp2
            go_roundw
            case rel => exact ⟨i + 1, by go_num, by omega, HK.out⟩
            case measure => simp [intOf]; omega
      · have HK := Aside0.mk (HB_6.out.trans (HI.out.2.mono HB_6.out.size))
        go_wp2_with (go_at_call 14; refine (awake_walk wr).mono ?_; rintro e w9 ⟨rfl, hB⟩; have HB9 := Aside0.mk (HK.out.trans (hB.mono HK.out.size)); clear hB)
        go_ret
        exact ⟨rfl, HB9.out⟩
end Go.Proofs.Ytboofecfmhbacaa
