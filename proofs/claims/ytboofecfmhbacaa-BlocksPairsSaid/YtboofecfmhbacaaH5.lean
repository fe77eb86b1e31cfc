/- The walks of the reference's Right, Count, Next. -/
import Derived.Test.YtboofecfmhbacaaH3
import Derived.Test.YtboofecfmhbacaaPlain1
namespace Go.Proofs.Ytboofecfmhbacaa
open Go.RowKit Go.WideMaps Go.Maps Go.Proofs.YtboofecfmhbacaaW.PrintWords Go.Proofs.YtboofecfmhbacaaW.PrintLast Go.Proofs.YtboofecfmhbacaaW.PrintMore
set_option linter.unusedVariables false
set_option linter.unusedSimpArgs false

set_option maxRecDepth 100000 in
set_option maxHeartbeats 2000000 in
theorem refRight_walk (A0 : Option Addr) (c0 : Nat) (p : List Int) (w : World) (hr : Kd.C (Kd.int .i64) w A0 p.length p) (hn : p.length ≤ 1000000) :
    Calls Try.prog 47 #[.slice A0 p.length c0] w fun e w' => e = .returned (.bool (decide (rightP p))) ∧ Below w.heap.size w w' := by
  have HR := Aside0.mk hr
  clear hr
  by_cases hl : 1024 < p.length
  · have h1 : decide ((1024 : Int) < (p.length : Int)) = true := decide_eq_true (by omega)
    have HD := Aside0.mk (decide_eq_false (p := rightP p) (fun h => by have := h.1; omega))
    clear hl
    go_enter Try.func47, Try.ntmps47
    go_wp2
    go_ret
    exact ⟨by rw [HD.out]; rfl, Below.refl _ _⟩
  · have h1 : decide ((1024 : Int) < (p.length : Int)) = false := decide_eq_false (by omega)
    go_enter Try.func47, Try.ntmps47
    go_wp2
    go_loopw [3, 4] (fun n i wr => ∃ k : Nat, i = .int .i64 k ∧ n = .int .i64 (Num.firsts (p.take k)).length ∧ Aside0 (k ≤ p.length ∧ Num.num (p.take k) = p.take k ∧ Below w.heap.size w wr)) (fun _ i _ => p.length - (intOf i).toNat)
    case atStart => exact ⟨0, rfl, rfl, Nat.zero_le _, rfl, Below.refl _ _⟩
    case round =>
      obtain ⟨k, rfl, rfl, HI⟩ := hrel
      have hkl := HI.out.1
      have hfk : (Num.firsts (p.take k)).length ≤ k := by have := Num.length_firsts_le (p.take k); simp at this; omega
      by_cases hk : k < p.length
      · obtain ⟨ad, e1, hx1⟩ := ints_at (Kd.C_below HR.out HI.out.2.2) k hk
        subst e1
        have hstep := right_step HI.out.2.1 p[k]
        have hfirst := fun (h0 : 0 ≤ p[k]) (h1 : p[k] ≤ (Num.firsts (p.take k)).length) => firsts_step HI.out.2.1 h0 h1
        rw [← Num.take_succ p k hk] at hstep
        simp only [← Num.take_succ p k hk] at hfirst
        have hbad : ¬ (0 ≤ p[k] ∧ p[k] ≤ (Num.firsts (p.take k)).length) → decide (rightP p) = false := fun h => decide_eq_false fun hp => h (hstep.1 (by rw [num_take, hp.2]))
        have HB := Aside0.mk hbad
        have HS := Aside0.mk (fun h => hstep.2 h)
        have HF := Aside0.mk hfirst
        clear hstep hfirst hbad
        generalize p[k] = x at hx1 HB HS HF
        by_cases hx0 : x < 0
        · have g0 : decide (x < 0) = true := decide_eq_true hx0
          have HD := Aside0.mk (HB.out (by omega))
          clear hx0
          go_wp2
          go_ret
          exact ⟨by rw [HD.out]; rfl, HI.out.2.2⟩
        · have g0 : decide (x < 0) = false := decide_eq_false hx0
          by_cases hxn : ((Num.firsts (p.take k)).length : Int) < x
          · have g1 : decide (((Num.firsts (p.take k)).length : Int) < x) = true := decide_eq_true hxn
            have HD := Aside0.mk (HB.out (by omega))
            clear hx0 hxn
            go_wp2
            go_ret
            exact ⟨by rw [HD.out]; rfl, HI.out.2.2⟩
          · have g1 : decide (((Num.firsts (p.take k)).length : Int) < x) = false := decide_eq_false hxn
            have HK := Aside0.mk (HS.out ⟨by omega, by omega⟩)
            have hf := HF.out (by omega) (by omega)
            by_cases hxe : x = ((Num.firsts (p.take k)).length : Int)
            · have g2 : (x == ((Num.firsts (p.take k)).length : Int)) = true := beq_iff_eq.mpr hxe
              rw [if_pos hxe] at hf
              have HE := Aside0.mk hf
              clear hf hxe hx0 hxn
              go_wp2
              go_roundw
              case rel => exact ⟨k + 1, by go_num, by rw [HE.out]; go_num, by omega, HK.out, HI.out.2.2⟩
              case measure => simp [intOf]; omega
            · have g2 : (x == ((Num.firsts (p.take k)).length : Int)) = false := beq_eq_false_iff_ne.mpr hxe
              rw [if_neg hxe] at hf
              have HE := Aside0.mk hf
              clear hf hxe hx0 hxn
              go_wp2
              go_roundw
              case rel => exact ⟨k + 1, by go_num, by rw [HE.out], by omega, HK.out, HI.out.2.2⟩
              case measure => simp [intOf]; omega
      · have hk' : k = p.length := by omega
        have HD := Aside0.mk (show decide (rightP p) = true from decide_eq_true ⟨by omega, by have h := HI.out.2.1; rwa [hk', List.take_length] at h⟩)
        clear hk'
        go_wp2
        go_ret
        exact ⟨by rw [HD.out]; rfl, HI.out.2.2⟩

set_option maxRecDepth 100000 in
set_option maxHeartbeats 2000000 in
theorem refCount_walk (A0 : Option Addr) (c0 : Nat) (p : List Int) (w : World) (hr : Kd.C (Kd.int .i64) w A0 p.length p) (hp : rightP p) :
    Calls Try.prog 59 #[.slice A0 p.length c0] w fun e w' => e = .returned (.int .i64 (countP p)) ∧ Below w.heap.size w w' := by
  have HR := Aside0.mk hr
  have hn := hp.1
  have HP := Aside0.mk hp
  rw [right_count hp]
  clear hr hp
  go_enter Try.func59, Try.ntmps59
  go_wp2
  go_loopw [3, 4] (fun n i wr => ∃ k : Nat, i = .int .i64 k ∧ n = .int .i64 (Num.firsts (p.take k)).length ∧ Aside0 (k ≤ p.length ∧ Below w.heap.size w wr)) (fun _ i _ => p.length - (intOf i).toNat)
  case atStart => exact ⟨0, rfl, rfl, Nat.zero_le _, Below.refl _ _⟩
  case round =>
    obtain ⟨k, rfl, rfl, HI⟩ := hrel
    have hkl := HI.out.1
    have hfk : (Num.firsts (p.take k)).length ≤ k := by have := Num.length_firsts_le (p.take k); simp at this; omega
    by_cases hk : k < p.length
    · obtain ⟨ad, e1, hx1⟩ := ints_at (Kd.C_below HR.out HI.out.2) k hk
      subst e1
      have hpk : ∀ j, Num.num (p.take j) = p.take j := fun j => by rw [num_take, HP.out.2]
      have hstep := right_step (hpk k) p[k]
      rw [← Num.take_succ p k hk] at hstep
      obtain ⟨h0, h1⟩ := hstep.1 (hpk (k + 1))
      have hf := firsts_step (hpk k) h0 h1
      rw [← Num.take_succ p k hk] at hf
      clear hpk hstep
      generalize p[k] = x at hx1 h0 h1 hf
      by_cases hxe : x = ((Num.firsts (p.take k)).length : Int)
      · have g2 : decide (((Num.firsts (p.take k)).length : Int) ≤ x) = true := decide_eq_true (by omega)
        rw [if_pos hxe] at hf
        have HE := Aside0.mk hf
        have HX := Aside0.mk hxe
        have hx9 : x ≤ 1024 := by omega
        clear hf hxe h1
        go_wp2
        go_roundw
        case rel => exact ⟨k + 1, by go_num, by rw [HE.out, HX.out]; go_num, by omega, HI.out.2⟩
        case measure => simp [intOf]; omega
      · have g2 : decide (((Num.firsts (p.take k)).length : Int) ≤ x) = false := decide_eq_false (by omega)
        rw [if_neg hxe] at hf
        have HE := Aside0.mk hf
        clear hf hxe h1
        go_wp2
        go_roundw
        case rel => exact ⟨k + 1, by go_num, by rw [HE.out], by omega, HI.out.2⟩
        case measure => simp [intOf]; omega
    · have hk' : k = p.length := by omega
      have HD := Aside0.mk hk'
      clear hk'
      go_wp2
      go_ret
      exact ⟨by rw [HD.out, List.take_length]; rfl, HI.out.2⟩

set_option maxRecDepth 100000 in
set_option maxHeartbeats 2000000 in
theorem refNext_walk (n : Nat) (A0 : Option Addr) (c0 : Nat) (l : List (List Int)) (w : World) (hr : Kd.C (Kd.slice 3 (Kd.int .i64)) w A0 l.length l) (hn : n ≤ 1000000) :
    Calls Try.prog 48 #[.int .i64 n, .slice A0 l.length c0] w fun e w' => e = .returned (.bool (decide (nextP n l))) ∧ Below w.heap.size w w' := by
  have hb := len_le hr
  have HR := Aside0.mk hr
  clear hr
  by_cases hl : l.length = n
  · have h1 : ((l.length : Int) == (n : Int)) = true := beq_iff_eq.mpr (by omega)
    have h2 : ((l.length : Int) != (n : Int)) = false := bne_eq_false_iff_eq.mpr (by omega)
    have h3 : (l.length == n) = true := by simpa using hl
    have HL := Aside0.mk hl
    clear hl
    go_enter Try.func48, Try.ntmps48
    go_wp2
    clear h1 h2 h3
    go_loopw [5] (fun i wr => ∃ k : Nat, i = .int .i64 k ∧ Aside0 (k ≤ n ∧ (∀ x, x ∈ l.take k → x.length ≤ 64 ∧ ∀ y, y ∈ x → 0 ≤ y ∧ y < n) ∧ Below w.heap.size w wr)) (fun i _ => n - (intOf i).toNat)
    case atStart => exact ⟨0, rfl, Nat.zero_le _, fun x hx => by simp at hx, Below.refl _ _⟩
    case round =>
      obtain ⟨k, rfl, HI⟩ := hrel
      have hkl := HI.out.1
      by_cases hk : k < n
      · have hk2 : k < l.length := by rw [HL.out]; exact hk
        obtain ⟨ad, A1, d1, e1, hx1, hd1, hD1⟩ := rows_at (Kd.C_below HR.out HI.out.2.2) k hk2
        subst e1
        have HD1 := Aside0.mk hD1
        have hb1 := len_le hD1
        have HT := Aside0.mk (Num.take_succ l k hk2)
        have HM := Aside0.mk (List.getElem_mem hk2)
        clear hD1
        by_cases h64 : 64 < l[k].length
        · have g0 : decide ((64 : Int) < (l[k].length : Int)) = true := decide_eq_true (by omega)
          have HD := Aside0.mk (decide_eq_false (p := nextP n l) (fun h => by have := (h.2 _ HM.out).1; omega))
          clear h64
          go_wp2
          go_ret
          exact ⟨by rw [HD.out]; rfl, HI.out.2.2⟩
        · have g0 : decide ((64 : Int) < (l[k].length : Int)) = false := decide_eq_false (by omega)
          go_wp2
          obtain ⟨wo, hwo⟩ : ∃ wo : World, wo = wr := ⟨_, rfl⟩
          rw [← hwo] at HI HD1 hx1 ⊢
          clear hwo
          go_loopw [6] (fun i wq => ∃ j : Nat, i = .int .i64 j ∧ wq = wo ∧ Aside0 (j ≤ l[k].length ∧ ∀ y, y ∈ l[k].take j → 0 ≤ y ∧ y < n)) (fun i _ => l[k].length - (intOf i).toNat)
          case atStart => exact ⟨0, rfl, rfl, Nat.zero_le _, fun y hy => by simp at hy⟩
          case round =>
            obtain ⟨j, rfl, rfl, HJ⟩ := hrel
            have hjl := HJ.out.1
            by_cases hj : j < l[k].length
            · obtain ⟨ad2, e2, hx2⟩ := ints_at HD1.out j hj
              subst e2
              have HM2 := Aside0.mk (List.getElem_mem hj)
              have HT2 := Aside0.mk (Num.take_succ l[k] j hj)
              have hgood : 0 ≤ l[k][j] → l[k][j] < n → ∀ y, y ∈ l[k].take (j + 1) → 0 ≤ y ∧ y < n := fun h0 h1 y hy => by
                rw [HT2.out] at hy
                rcases List.mem_append.1 hy with hy | hy
                · exact HJ.out.2 y hy
                · rw [List.mem_singleton.1 hy]; exact ⟨h0, h1⟩
              have hbad : ¬ (0 ≤ l[k][j] ∧ l[k][j] < n) → decide (nextP n l) = false := fun h => decide_eq_false fun hp => h ((hp.2 _ HM.out).2 _ HM2.out)
              have HG := Aside0.mk hgood
              have HBD := Aside0.mk hbad
              clear hgood hbad
              generalize l[k][j] = x at hx2 HG HBD
              by_cases hx0 : x < 0
              · have g1 : decide (x < 0) = true := decide_eq_true hx0
                have HD := Aside0.mk (HBD.out (by omega))
                clear hx0
                go_wp2
                go_ret
                exact ⟨by rw [HD.out]; rfl, HI.out.2.2⟩
              · have g1 : decide (x < 0) = false := decide_eq_false hx0
                by_cases hxn : (n : Int) ≤ x
                · have g2 : decide ((n : Int) ≤ x) = true := decide_eq_true hxn
                  have HD := Aside0.mk (HBD.out (by omega))
                  clear hx0 hxn
                  go_wp2
                  go_ret
                  exact ⟨by rw [HD.out]; rfl, HI.out.2.2⟩
                · have g2 : decide ((n : Int) ≤ x) = false := decide_eq_false hxn
                  have HK := Aside0.mk (HG.out (by omega) (by omega))
                  clear hx0 hxn
                  go_wp2
                  go_roundw
                  case rel => exact ⟨j + 1, by go_num, by first | rfl | trivial, by omega, HK.out⟩
                  case measure => simp [intOf]; omega
            · have hj' : j = l[k].length := by omega
              have HK := Aside0.mk (show ∀ x, x ∈ l.take (k + 1) → x.length ≤ 64 ∧ ∀ y, y ∈ x → 0 ≤ y ∧ y < n from fun x hx => by
                rw [HT.out] at hx
                rcases List.mem_append.1 hx with hx | hx
                · exact HI.out.2.1 x hx
                · rw [List.mem_singleton.1 hx]
                  refine ⟨by omega, fun y hy => HJ.out.2 y ?_⟩
                  rw [hj', List.take_length]
                  exact hy)
              clear hj'
              go_wp2
              go_roundw
              case rel => exact ⟨k + 1, by go_num, by omega, HK.out, HI.out.2.2⟩
              case measure => simp [intOf]; omega
      · have hk' : k = l.length := by rw [HL.out]; omega
        have HD := Aside0.mk (show decide (nextP n l) = true from decide_eq_true ⟨HL.out, fun x hx => HI.out.2.1 x (by rw [hk', List.take_length]; exact hx)⟩)
        clear hk'
        go_wp2
        go_ret
        exact ⟨by rw [HD.out]; rfl, HI.out.2.2⟩
  · have h1 : ((l.length : Int) == (n : Int)) = false := beq_eq_false_iff_ne.mpr (by omega)
    have h2 : ((l.length : Int) != (n : Int)) = true := bne_iff_ne.mpr (by omega)
    have h3 : (l.length == n) = false := by simpa using hl
    have HD := Aside0.mk (decide_eq_false (p := nextP n l) (fun h => hl h.1))
    clear hl
    go_enter Try.func48, Try.ntmps48
    go_wp2
    go_ret
    exact ⟨by rw [HD.out]; rfl, Below.refl _ _⟩
end Go.Proofs.Ytboofecfmhbacaa
