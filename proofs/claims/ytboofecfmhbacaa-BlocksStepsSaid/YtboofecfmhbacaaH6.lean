/- The walks of the reference's agree, Refine, Stable, Coarsest. -/
import Derived.Test.YtboofecfmhbacaaH5
namespace Go.Proofs.Ytboofecfmhbacaa
open Go.RowKit Go.WideMaps Go.Maps Go.Proofs.YtboofecfmhbacaaW.PrintWords Go.Proofs.YtboofecfmhbacaaW.PrintLast Go.Proofs.YtboofecfmhbacaaW.PrintMore
set_option linter.unusedVariables false
set_option linter.unusedSimpArgs false

instance (p : List Int) (next : List (List Int)) (i j : Nat) : Decidable (agree p next i j) := inferInstanceAs (Decidable (_ ∧ _))

set_option maxRecDepth 100000 in
set_option maxHeartbeats 4000000 in
theorem agree_walk (A0 : Option Addr) (c0 : Nat) (p : List Int) (A1 : Option Addr) (c1 : Nat) (next : List (List Int)) (i k : Nat) (w : World) (hr0 : Kd.C (Kd.int .i64) w A0 p.length p) (hr1 : Kd.C (Kd.slice 3 (Kd.int .i64)) w A1 next.length next) (hn : nextP p.length next) (hp1 : p.length ≤ 1000000) (hi : i < p.length) (hk : k < p.length) :
    Calls Try.prog 67 #[.slice A0 p.length c0, .slice A1 next.length c1, .int .i64 i, .int .i64 k] w fun e w' => e = .returned (.bool (decide (agree p next i k))) ∧ Below w.heap.size w w' := by
  have HR0 := Aside0.mk hr0
  have hin : i < next.length := by rw [hn.1]; exact hi
  have hkn : k < next.length := by rw [hn.1]; exact hk
  obtain ⟨ad0, e0, hx0⟩ := ints_at hr0 i hi
  obtain ⟨ad0', e0', hx1⟩ := ints_at hr0 k hk
  subst e0
  obtain rfl : ad0 = ad0' := by injection e0'
  obtain ⟨ad1, A2, d2, e1, hx2, hd2, hD2⟩ := rows_at hr1 i hin
  obtain ⟨ad1', A3, d3, e1', hx3, hd3, hD3⟩ := rows_at hr1 k hkn
  subst e1
  obtain rfl : ad1 = ad1' := by injection e1'
  have HD2 := Aside0.mk hD2
  have HD3 := Aside0.mk hD3
  have HN := Aside0.mk hn
  have hl2 : next[i].length ≤ 64 := (hn.2 _ (List.getElem_mem hin)).1
  have hl3 : next[k].length ≤ 64 := (hn.2 _ (List.getElem_mem hkn)).1
  have HA := Aside0.mk (show agree p next i k ↔ p[i] = p[k] ∧ (next[i].map fun x => at_ p x.toNat) = (next[k].map fun x => at_ p x.toNat) by
    unfold agree
    rw [after_get p next i hin, after_get p next k hkn, at_get hi, at_get hk])
  clear hr0 hr1 hD2 hD3 hn e0' e1'
  by_cases hpp : p[i] = p[k]
  · have g1 : (p[i] == p[k]) = true := beq_iff_eq.mpr hpp
    have g2 : (p[i] != p[k]) = false := bne_eq_false_iff_eq.mpr hpp
    have HP := Aside0.mk hpp
    clear hpp
    by_cases hll : next[i].length = next[k].length
    · have g3 : ((next[i].length : Int) == (next[k].length : Int)) = true := beq_iff_eq.mpr (by omega)
      have g4 : ((next[i].length : Int) != (next[k].length : Int)) = false := bne_eq_false_iff_eq.mpr (by omega)
      have g5 : (next[i].length == next[k].length) = true := by simpa using hll
      have HX := Aside0.mk (And.intro hx2 hx3)
      have HLL := Aside0.mk hll
      clear hll
      go_enter Try.func67, Try.ntmps67
      go_wp2
      go_quiet (fail)
      go_wp2
      clear hx0 hx1 hx2 hx3 g1 g2 g3 g4 g5
      obtain ⟨f, hf⟩ : ∃ f : Int → Int, f = fun x => at_ p x.toNat := ⟨_, rfl⟩
      have HF := Aside0.mk hf
      rw [← hf] at HA
      clear hf
      go_loopw [9] (fun i' wr => ∃ j : Nat, i' = .int .i64 j ∧ Aside0 (j ≤ next[i].length ∧ (next[i].take j).map f = (next[k].take j).map f ∧ Below w.heap.size w wr)) (fun i' _ => next[i].length - (intOf i').toNat)
      case atStart => exact ⟨0, rfl, Nat.zero_le _, rfl, pw_below_drewN (Below.refl _ _) _⟩
      case round =>
        obtain ⟨j, rfl, HJ⟩ := hrel
        have hjl := HJ.out.1
        have hx2 := pw_cell_below HJ.out.2.2 HX.out.1
        have hx3 := pw_cell_below HJ.out.2.2 HX.out.2
        have HQB := Aside0.mk (fun m => pw_below_drewN HJ.out.2.2 m)
        by_cases hj : j < next[i].length
        · have hj3 : j < next[k].length := by rw [← HLL.out]; exact hj
          have hb2 := (HN.out.2 _ (List.getElem_mem hin)).2 next[i][j] (List.getElem_mem hj)
          have hb3 := (HN.out.2 _ (List.getElem_mem hkn)).2 next[k][j] (List.getElem_mem hj3)
          obtain ⟨b2, e2⟩ : ∃ b : Nat, next[i][j] = b := ⟨next[i][j].toNat, by omega⟩
          obtain ⟨b3, e3⟩ : ∃ b : Nat, next[k][j] = b := ⟨next[k][j].toNat, by omega⟩
          have hbp2 : b2 < p.length := by omega
          have hbp3 : b3 < p.length := by omega
          obtain ⟨ad2, e4, hx4⟩ := ints_at (Kd.C_below (Kd.C_below HD2.out (Below.refl _ _)) HJ.out.2.2) j hj
          obtain ⟨ad3, e5, hx5⟩ := ints_at (Kd.C_below HD3.out HJ.out.2.2) j hj3
          subst e4 e5
          rw [e2] at hx4
          rw [e3] at hx5
          obtain ⟨ad4, e6, hx6⟩ := ints_at (Kd.C_below HR0.out HJ.out.2.2) b2 hbp2
          obtain ⟨ad4', e6', hx7⟩ := ints_at (Kd.C_below HR0.out HJ.out.2.2) b3 hbp3
          obtain rfl : ad0 = ad4 := by injection e6
          obtain rfl : ad0 = ad4' := by injection e6'
          have hfb2 : f next[i][j] = p[b2] := by rw [HF.out, e2]; simp [at_get hbp2]
          have hfb3 : f next[k][j] = p[b3] := by rw [HF.out, e3]; simp [at_get hbp3]
          have ht2 := Num.take_succ next[i] j hj
          have ht3 := Num.take_succ next[k] j hj3
          by_cases hq : p[b2] = p[b3]
          · have g1 : (p[b2] == p[b3]) = true := beq_iff_eq.mpr hq
            have g2 : (p[b2] != p[b3]) = false := bne_eq_false_iff_eq.mpr hq
            have HK := Aside0.mk (show (next[i].take (j + 1)).map f = (next[k].take (j + 1)).map f by
              rw [ht2, ht3, List.map_append, List.map_append, HJ.out.2.1, List.map_singleton, List.map_singleton, hfb2, hfb3, hq])
            clear hq hfb2 hfb3 ht2 ht3 hb2 hb3 e2 e3 e6 e6'
            go_wp2
            go_quiet (fail)
            go_wp2
            go_roundw
            case rel => exact ⟨j + 1, by go_num, by omega, HK.out, HQB.out nq⟩
            case measure => simp [intOf]; omega
          · have g1 : (p[b2] == p[b3]) = false := beq_eq_false_iff_ne.mpr hq
            have g2 : (p[b2] != p[b3]) = true := bne_iff_ne.mpr hq
            have HD := Aside0.mk (decide_eq_false (p := agree p next i k) (fun h => by
              have h2 := (HA.out.1 h).2
              have h3 : (next[i].map f)[j]'(by simpa using hj) = (next[k].map f)[j]'(by simpa using hj3) := by simp only [h2]
              rw [List.getElem_map, List.getElem_map, hfb2, hfb3] at h3
              exact hq h3))
            clear hq hfb2 hfb3 ht2 ht3 hb2 hb3 e2 e3 e6 e6'
            go_wp2
            go_quiet (fail)
            go_wp2
            go_ret
            exact ⟨by rw [HD.out]; rfl, HQB.out nq⟩
        · have hj' : j = next[i].length := by omega
          have HD := Aside0.mk (decide_eq_true (p := agree p next i k) (HA.out.2 ⟨HP.out, by
            have h := HJ.out.2.1
            rw [hj', List.take_length, HLL.out, List.take_length] at h
            exact h⟩))
          clear hj'
          go_wp2
          go_ret
          exact ⟨by rw [HD.out]; rfl, HJ.out.2.2⟩
    · have g3 : ((next[i].length : Int) == (next[k].length : Int)) = false := beq_eq_false_iff_ne.mpr (by omega)
      have g4 : ((next[i].length : Int) != (next[k].length : Int)) = true := bne_iff_ne.mpr (by omega)
      have g5 : (next[i].length == next[k].length) = false := by simpa using hll
      have HD := Aside0.mk (decide_eq_false (p := agree p next i k) (fun h => by
        have h2 := congrArg List.length (HA.out.1 h).2
        simp at h2
        exact hll h2))
      clear hll
      go_enter Try.func67, Try.ntmps67
      go_wp2
      go_quiet (fail)
      go_wp2
      go_ret
      exact ⟨by rw [HD.out]; rfl, pw_below_drewN (Below.refl _ _) _⟩
  · have g1 : (p[i] == p[k]) = false := beq_eq_false_iff_ne.mpr hpp
    have g2 : (p[i] != p[k]) = true := bne_iff_ne.mpr hpp
    have HD := Aside0.mk (decide_eq_false (p := agree p next i k) (fun h => hpp (HA.out.1 h).1))
    clear hpp
    go_enter Try.func67, Try.ntmps67
    go_wp2
    go_quiet (fail)
    go_wp2
    go_ret
    exact ⟨by rw [HD.out]; rfl, pw_below_drewN (Below.refl _ _) _⟩
end Go.Proofs.Ytboofecfmhbacaa
