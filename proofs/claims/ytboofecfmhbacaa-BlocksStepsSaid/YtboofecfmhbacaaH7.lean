/- The walks of the reference's Refine, Stable, Coarsest. -/
import Derived.Test.YtboofecfmhbacaaH6
namespace Go.Proofs.Ytboofecfmhbacaa
open Go.RowKit Go.WideMaps Go.Maps Go.Proofs.YtboofecfmhbacaaW.PrintWords Go.Proofs.YtboofecfmhbacaaW.PrintLast Go.Proofs.YtboofecfmhbacaaW.PrintMore
set_option linter.unusedVariables false
set_option linter.unusedSimpArgs false

theorem refine_numA (p : List Int) (next : List (List Int)) : refineP p next = numR next.length (fun i => (at_ p i, after p next i)) := by
  rw [refine_numR]
  exact numR_congr _ _ _ fun i j _ _ => by
    rw [word_iff]
    constructor
    · rintro ⟨h1, h2⟩
      exact Prod.ext h1 h2
    · intro h
      exact ⟨congrArg Prod.fst h, congrArg Prod.snd h⟩
theorem rowB_rest (g : Nat → Bool) (n j : Nat) (h : ∀ k, j ≤ k → k < n → g k = false) : rowB g n j = rowB g n n := by
  apply List.ext_getElem
  · simp [rowB]
  · intro i h1 h2
    have hi : i < n := by simpa [rowB] using h1
    rw [rowB_get _ _ _ _ hi, rowB_get _ _ _ _ hi]
    by_cases e : i < j
    · simp [e, hi]
    · have := h i (by omega) hi
      simp [this]

set_option maxRecDepth 100000 in
set_option maxHeartbeats 4000000 in
theorem refRefine_walk (A0 : Option Addr) (c0 : Nat) (p : List Int) (A1 : Option Addr) (c1 : Nat) (next : List (List Int)) (w : World) (hr0 : Kd.C (Kd.int .i64) w A0 p.length p) (hr1 : Kd.C (Kd.slice 3 (Kd.int .i64)) w A1 next.length next) (hn : nextP p.length next) (hp1 : p.length ≤ 1000000) :
    Calls Try.prog 50 #[.slice A0 p.length c0, .slice A1 next.length c1] w fun e w' => ∃ v, e = .returned v ∧ Kd.R (Kd.int .i64) 3 w' w.heap.size (fun _ => True) v (refineP p next) ∧ Below w.heap.size w w' := by
  have HA := Aside0.mk (fun i k (hi : i < p.length) (hk : k < p.length) W (hB : Below w.heap.size w W) => agree_walk A0 c0 p A1 c1 next i k W (Kd.C_below hr0 hB) (Kd.C_below hr1 hB) hn hp1 hi hk)
  have hb1 := len_le hr1
  have HN := Aside0.mk hn
  obtain ⟨g, hg⟩ : ∃ g : Nat → Nat → Bool, g = fun i k => decide (k ≤ i) && decide (agree p next i k) := ⟨_, rfl⟩
  have HG := Aside0.mk hg
  clear hr0 hr1 hn hg
  have hmk := print_make_of 22 3 (.int .i64 0) 8 Try.underlying22 info3 rfl (by decide) p.length (by omega)
  go_enter Try.func50, Try.ntmps50
  go_wp2
  go_loopw [5, 6] (fun out i wr => ∃ k : Nat, i = .int .i64 k ∧ Aside0 (k ≤ p.length ∧ Kd.R (Kd.slice 3 (Kd.int .i64)) 22 wr w.heap.size (fun _ => True) out (matB g p.length k) ∧ Below w.heap.size w wr)) (fun _ i _ => p.length - (intOf i).toNat)
  case atStart => exact ⟨0, rfl, Nat.zero_le _, Kd.R_nil _ _ _ _ _, Below.refl _ _⟩
  case round =>
    obtain ⟨i, rfl, HI⟩ := hrel
    have hil := HI.out.1
    by_cases hi : i < p.length
    · go_wp2
      obtain ⟨wo, hwo⟩ : ∃ wo : World, wo = wr := ⟨_, rfl⟩
      rw [← hwo] at HI ⊢
      clear hwo
      go_loopw [8] (fun k wq => ∃ (j : Nat), k = .int .i64 j ∧ Aside0 (j ≤ i + 1 ∧ Kd.R (Kd.int .i64) 3 wq wo.heap.size (fun _ => True) (.slice (some ⟨wo.heap.size, 0, none⟩) p.length p.length) (rowB (g i) p.length j) ∧ Below wo.heap.size wo wq)) (fun k _ => i + 1 - (intOf k).toNat)
      case atStart => exact ⟨0, rfl, Nat.zero_le _, by rw [rowB_zero]; exact R_made wo p.length (by omega), lit_below wo _⟩
      case round =>
        obtain ⟨j, rfl, HJ⟩ := hrel
        have hji := HJ.out.1
        by_cases hj : j ≤ i
        · have HB := Aside0.mk (HI.out.2.2.trans (HJ.out.2.2.mono HI.out.2.2.size))
          have hC := HA.out i j hi (by omega) wr HB.out
          have hjp : j < p.length := by omega
          have hge : g i j = decide (agree p next i j) := by rw [HG.out]; simp [hj]
          by_cases h1 : agree p next i j
          · rw [decide_eq_true h1] at hC hge
            have HC := Aside0.mk hC
            have HS := Aside0.mk (fun w1 (hB : Below wr.heap.size wr w1) => show (∃ v, w1.cell? ⟨wo.heap.size, j, none⟩ = some v) ∧ w1.frozen? ⟨wo.heap.size, j, none⟩ = false ∧ Kd.R (Kd.int .i64) 3 (w1.setCell ⟨wo.heap.size, j, none⟩ (.int .i64 1)) wo.heap.size (fun _ => True) (.slice (some ⟨wo.heap.size, 0, none⟩) p.length p.length) (rowB (g i) p.length (j + 1)) ∧ Below wo.heap.size wo (w1.setCell ⟨wo.heap.size, j, none⟩ (.int .i64 1)) by
              obtain ⟨g1, g2, g3, g4⟩ := put_int (w := w) (Kd.R_below HJ.out.2.1 hB) (rowB_length _ _ _) j hjp 1
              rw [rowB_hit _ _ _ hge] at g4
              exact ⟨g1, g2, g4, (HJ.out.2.2.trans (hB.mono HJ.out.2.2.size)).setCell g3 _⟩)
            clear h1 hge hC
            go_wp2_with (go_at_call 67; refine HC.out.mono ?_; rintro e w1 ⟨rfl, hB⟩; obtain ⟨⟨v9, hv9⟩, hf9, hR9, hB9⟩ := HS.out w1 hB; have HK := Aside0.mk (And.intro hR9 hB9); clear hR9 hB9 hB)
            go_roundw
            case rel => exact ⟨j + 1, by go_num, by omega, HK.out.1, HK.out.2⟩
            case measure => simp [intOf]; omega
          · rw [decide_eq_false h1] at hC hge
            have HC := Aside0.mk hC
            have HK := Aside0.mk (rowB_miss (g i) p.length j hge)
            have HS := Aside0.mk (fun w1 (hB : Below wr.heap.size wr w1) => And.intro (Kd.R_below HJ.out.2.1 hB) (HJ.out.2.2.trans (hB.mono HJ.out.2.2.size)))
            clear h1 hge hC
            go_wp2_with (go_at_call 67; refine HC.out.mono ?_; rintro e w1 ⟨rfl, hB⟩; have HK1 := Aside0.mk (HS.out w1 hB); clear hB)
            go_roundw
            case rel => exact ⟨j + 1, by go_num, by omega, by rw [← HK.out]; exact HK1.out.1, HK1.out.2⟩
            case measure => simp [intOf]; omega
        · have hj' : j = i + 1 := by omega
          have HU := Aside0.mk (show Kd.R (Kd.int .i64) 3 wr w.heap.size (fun k => True ∧ some k ≠ u5.ownBlock) (.slice (some ⟨wo.heap.size, 0, none⟩) p.length p.length) (rowB (g i) p.length p.length) ∧ Kd.R (Kd.slice 3 (Kd.int .i64)) 22 wr w.heap.size (fun _ => True) u5 (matB g p.length i) ∧ Below w.heap.size w wr by
            have h := HJ.out.2.1
            rw [hj', rowB_rest (g i) p.length (i + 1) (fun k h1 _ => by
              have h9 : decide (k ≤ i) = false := decide_eq_false (by omega)
              rw [HG.out]
              simp only [h9, Bool.false_and])] at h
            exact ⟨Kd.R_lower (Kd.R_newR h HI.out.2.1) HI.out.2.2.size, Kd.R_below HI.out.2.1 HJ.out.2.2, HI.out.2.2.trans (HJ.out.2.2.mono HI.out.2.2.size)⟩)
          have HS := Aside0.mk (matB_succ g p.length i)
          have HL := Aside0.mk (show (matB g p.length i).length ≤ 1000000 by rw [matB_length]; omega)
          clear hj'
          go_wp2_with (at_builtin; refine append_row (w0 := w) (W := wr) w.heap.size rfl (.tmp 31) (.tmp 33) rfl u5 (matB g p.length i) _ (rowB (g i) p.length p.length) rfl rfl HU.out.2.1 HU.out.1 HU.out.2.2 HU.out.2.2.size HL.out ?_; rintro v1 w1 hR1 hB1; rw [HS.out] at hR1; have HK := Aside0.mk (And.intro hR1 hB1); clear hR1 hB1)
          go_roundw
          case rel => exact ⟨i + 1, by go_num, by omega, HK.out.1, HK.out.2⟩
          case measure => simp [intOf]; omega
    · have hi' : i = p.length := by omega
      obtain ⟨A2, c2, hu, hc2, hC2⟩ := Kd.R_reads HI.out.2.1
      rw [hi', matB_length] at hu hC2
      subst hu
      have hnum := refnum_walk (fun i => (at_ p i, after p next i)) A2 c2 (matB g p.length p.length) wr (by rw [matB_length]; exact hC2) (by rw [matB_length]; omega) (matB_tells _ g p.length (fun i k hk _ => by
        rw [HG.out]
        simp only [decide_eq_true (show k ≤ i by omega), Bool.true_and, decide_eq_true_eq]
        unfold agree
        constructor
        · rintro ⟨h1, h2⟩
          exact Prod.ext h1 h2
        · intro h
          exact ⟨congrArg Prod.fst h, congrArg Prod.snd h⟩))
      rw [matB_length, ← HN.out.1, ← refine_numA] at hnum
      rw [HN.out.1] at hnum
      have HNN := Aside0.mk hnum
      clear hi' hC2 hnum
      go_wp2_with (go_at_call 43; refine HNN.out.mono ?_; rintro e w9 ⟨v, rfl, hR9, hB9⟩; have HD := Aside0.mk (And.intro (Kd.R_lower hR9 HI.out.2.2.size) (HI.out.2.2.trans (hB9.mono HI.out.2.2.size))); clear hR9 hB9)
      go_ret
      exact ⟨_, rfl, HD.out.1, HD.out.2⟩

/-- .. as a slice that is read. -/
theorem refRefineC_walk (A0 : Option Addr) (c0 : Nat) (p : List Int) (A1 : Option Addr) (c1 : Nat) (next : List (List Int)) (w : World) (hr0 : Kd.C (Kd.int .i64) w A0 p.length p) (hr1 : Kd.C (Kd.slice 3 (Kd.int .i64)) w A1 next.length next) (hn : nextP p.length next) (hp1 : p.length ≤ 1000000) :
    Calls Try.prog 50 #[.slice A0 p.length c0, .slice A1 next.length c1] w fun e w' => ∃ A c, e = .returned (.slice A p.length c) ∧ Kd.C (Kd.int .i64) w' A p.length (refineP p next) ∧ Below w.heap.size w w' := by
  refine (refRefine_walk A0 c0 p A1 c1 next w hr0 hr1 hn hp1).mono ?_
  rintro e w' ⟨v, rfl, hR, hB⟩
  obtain ⟨A, c, rfl, hC⟩ := r_read hR (by rw [refine_length, hn.1])
  exact ⟨A, c, rfl, hC, hB⟩

set_option maxRecDepth 100000 in
set_option maxHeartbeats 1000000 in
theorem refStable_walk (A0 : Option Addr) (c0 : Nat) (p : List Int) (A1 : Option Addr) (c1 : Nat) (next : List (List Int)) (w : World) (hr0 : Kd.C (Kd.int .i64) w A0 p.length p) (hr1 : Kd.C (Kd.slice 3 (Kd.int .i64)) w A1 next.length next) (hn : nextP p.length next) (hp : rightP p) :
    Calls Try.prog 51 #[.slice A0 p.length c0, .slice A1 next.length c1] w fun e w' => e = .returned (.bool (decide (countP (refineP p next) = countP p))) ∧ Below w.heap.size w w' := by
  have HR0 := Aside0.mk hr0
  have hp1 := hp.1
  have HP := Aside0.mk (refRefineC_walk A0 c0 p A1 c1 next w hr0 hr1 hn (by omega))
  have hrr := refine_right p next (by rw [hn.1]; exact hp1)
  have hrl : (refineP p next).length = p.length := by rw [refine_length, hn.1]
  obtain ⟨q, hq⟩ : ∃ q, q = refineP p next := ⟨_, rfl⟩
  rw [← hq] at HP hrr hrl ⊢
  have HC1 := Aside0.mk (fun A c W (hC : Kd.C (Kd.int .i64) W A p.length q) => (by
    have h := refCount_walk A c q W (by rw [hrl]; exact hC) hrr
    rw [hrl] at h
    exact h : Calls Try.prog 59 #[.slice A p.length c] W fun e w' => e = .returned (.int .i64 (countP q)) ∧ Below W.heap.size W w'))
  have HC2 := Aside0.mk (fun W hB => refCount_walk A0 c0 p W (Kd.C_below hr0 hB) hp)
  clear hr0 hr1 hn hp hq hrr hrl
  by_cases hc : countP q = countP p
  · have g1 : (countP q == countP p) = true := beq_iff_eq.mpr hc
    have HD := Aside0.mk (decide_eq_true hc)
    clear hc
    go_enter Try.func51, Try.ntmps51
    go_wp2_with (first
      | (go_at_call 50; refine HP.out.mono ?_; rintro e w1 ⟨A2, c2, rfl, hC, hB⟩; have HK := Aside0.mk (HC1.out A2 c2 w1 hC); have HB1 := Aside0.mk hB; clear hC hB HC1)
      | (go_at_call 59; refine HK.out.mono ?_; rintro e w2 ⟨rfl, hB⟩; have HB2 := Aside0.mk (HB1.out.trans (hB.mono HB1.out.size)); clear hB HK)
      | (go_at_call 59; refine (HC2.out w2 HB2.out).mono ?_; rintro e w3 ⟨rfl, hB⟩; have HB3 := Aside0.mk (HB2.out.trans (hB.mono HB2.out.size)); clear hB))
    go_ret
    exact ⟨by rw [HD.out]; rfl, HB3.out⟩
  · have g1 : (countP q == countP p) = false := beq_eq_false_iff_ne.mpr hc
    have HD := Aside0.mk (decide_eq_false hc)
    clear hc
    go_enter Try.func51, Try.ntmps51
    go_wp2_with (first
      | (go_at_call 50; refine HP.out.mono ?_; rintro e w1 ⟨A2, c2, rfl, hC, hB⟩; have HK := Aside0.mk (HC1.out A2 c2 w1 hC); have HB1 := Aside0.mk hB; clear hC hB HC1)
      | (go_at_call 59; refine HK.out.mono ?_; rintro e w2 ⟨rfl, hB⟩; have HB2 := Aside0.mk (HB1.out.trans (hB.mono HB1.out.size)); clear hB HK)
      | (go_at_call 59; refine (HC2.out w2 HB2.out).mono ?_; rintro e w3 ⟨rfl, hB⟩; have HB3 := Aside0.mk (HB2.out.trans (hB.mono HB2.out.size)); clear hB))
    go_ret
    exact ⟨by rw [HD.out]; rfl, HB3.out⟩

set_option maxRecDepth 100000 in
set_option maxHeartbeats 1000000 in
theorem refCoarsest_walk (A0 : Option Addr) (c0 : Nat) (p : List Int) (A1 : Option Addr) (c1 : Nat) (next : List (List Int)) (w : World) (hr0 : Kd.C (Kd.int .i64) w A0 p.length p) (hr1 : Kd.C (Kd.slice 3 (Kd.int .i64)) w A1 next.length next) (hn : nextP p.length next) (hp : rightP p) :
    Calls Try.prog 49 #[.slice A0 p.length c0, .slice A1 next.length c1] w fun e w' => ∃ (m : Nat) (A : Option Addr) (c : Nat), e = .returned (.tuple #[.slice A p.length c, .int .i64 m]) ∧ Stops p next m ∧ Kd.C (Kd.int .i64) w' A p.length (iterP p next m) ∧ Below w.heap.size w w' := by
  have HR0 := Aside0.mk hr0
  have HR1 := Aside0.mk hr1
  have HP := Aside0.mk hp
  have HN := Aside0.mk hn
  have hp1 := hp.1
  clear hr0 hr1 hp hn
  go_enter Try.func49, Try.ntmps49
  go_wp2
  go_loopg [0, 6] (p.length + 1) (fun gg now n wr => ∃ (m : Nat) (A : Option Addr) (c : Nat), now = .slice A p.length c ∧ n = .int .i64 m ∧ Aside0 (gg + m = p.length + 1 ∧ (∀ j, j < m → countP (iterP p next (j + 1)) ≠ countP (iterP p next j)) ∧ Kd.C (Kd.int .i64) wr A p.length (iterP p next m) ∧ Below w.heap.size w wr))
  case atStart => exact ⟨0, A0, c0, rfl, rfl, rfl, fun j hj => absurd hj (Nat.not_lt_zero j), HR0.out, Below.refl _ _⟩
  case round =>
    obtain ⟨m, A2, c2, rfl, rfl, HI⟩ := hrel
    have hir := iter_right HP.out HN.out.1 m
    have hle := iter_le HP.out HN.out.1 HI.out.2.1
    obtain ⟨now, hnow⟩ : ∃ l, l = iterP p next m := ⟨_, rfl⟩
    obtain ⟨nxt, hnxt⟩ : ∃ l, l = iterP p next (m + 1) := ⟨_, rfl⟩
    have hC := HI.out.2.2.1
    have hC1 := Kd.C_below HR1.out HI.out.2.2.2
    have hN2 : nextP (iterP p next m).length next := by rw [hir.2]; exact HN.out
    have hS := refStable_walk A2 c2 (iterP p next m) A1 c1 next wr (by rw [hir.2]; exact hC) hC1 hN2 hir.1
    rw [show refineP (iterP p next m) next = iterP p next (m + 1) from rfl, ← hnxt, hir.2, ← hnow] at hS
    have HRF := Aside0.mk (fun W (hB : Below wr.heap.size wr W) => (by
      have h := refRefineC_walk A2 c2 (iterP p next m) A1 c1 next W (by rw [hir.2]; exact Kd.C_below hC hB) (Kd.C_below hC1 hB) hN2 (by rw [hir.2]; omega)
      rw [show refineP (iterP p next m) next = iterP p next (m + 1) from rfl, ← hnxt, hir.2] at h
      exact h : Calls Try.prog 50 #[.slice A2 p.length c2, .slice A1 next.length c1] W fun e w' => ∃ A c, e = .returned (.slice A p.length c) ∧ Kd.C (Kd.int .i64) w' A p.length nxt ∧ Below W.heap.size W w'))
    have HG := Aside0.mk (show countP nxt ≠ countP now → ∀ j, j < m + 1 → countP (iterP p next (j + 1)) ≠ countP (iterP p next j) from fun hc j hj => by
        by_cases e : j = m
        · subst e; rw [← hnow, ← hnxt]; exact hc
        · exact HI.out.2.1 j (by omega))
    have HST := Aside0.mk (show countP nxt = countP now → Stops p next m from fun hc => ⟨by rw [← hnow, ← hnxt]; exact hc, HI.out.2.1⟩)
    have HGG := Aside0.mk HI.out.1
    have HIB := Aside0.mk HI.out.2.2.2
    have HIC := Aside0.mk HI.out.2.2.1
    have HNXT := Aside0.mk hnxt
    have HS := Aside0.mk hS
    clear hir hnow hnxt hC hC1 hN2 hS HI
    by_cases hc : countP nxt = countP now
    · rw [decide_eq_true hc] at HS
      have HH := Aside0.mk hc
      clear hc
      go_wp2_with (go_at_call 51; refine HS.out.mono ?_; rintro e w4 ⟨rfl, hB⟩; have HB4 := Aside0.mk hB; clear hB)
      go_ret2
      exact ⟨m, A2, c2, rfl, HST.out HH.out, Kd.C_below HIC.out HB4.out, HIB.out.trans (HB4.out.mono HIB.out.size)⟩
    · rw [decide_eq_false hc] at HS
      have HH := Aside0.mk hc
      clear hc
      go_wp2_with (first
        | (go_at_call 51; refine HS.out.mono ?_; rintro e w4 ⟨rfl, hB⟩; have HB4 := Aside0.mk hB; clear hB)
        | (go_at_call 50; refine (HRF.out w4 HB4.out).mono ?_; rintro e w5 ⟨A5, c5, rfl, hC5, hB5⟩; have HK := Aside0.mk (And.intro hC5 (HIB.out.trans ((HB4.out.trans (hB5.mono HB4.out.size)).mono HIB.out.size))); clear hC5 hB5))
      go_roundg (gk - 1)
      case rel =>
        have hgg := HGG.out
        refine ⟨m + 1, A5, c5, rfl, by go_num, by omega, HG.out HH.out, ?_, HK.out.2⟩
        rw [← HNXT.out]
        exact HK.out.1
      case measure => have := HGG.out; omega
end Go.Proofs.Ytboofecfmhbacaa
