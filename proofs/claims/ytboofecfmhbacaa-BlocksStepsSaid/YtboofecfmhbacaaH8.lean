/- The walk of the reference's Quotient. -/
import Derived.Test.YtboofecfmhbacaaH7
import Derived.Test.YtboofecfmhbacaaPlain2
namespace Go.Proofs.Ytboofecfmhbacaa
open Go.RowKit Go.WideMaps Go.Maps Go.Proofs.YtboofecfmhbacaaW.PrintWords Go.Proofs.YtboofecfmhbacaaW.PrintLast Go.Proofs.YtboofecfmhbacaaW.PrintMore
set_option linter.unusedVariables false
set_option linter.unusedSimpArgs false

set_option maxRecDepth 100000 in
set_option maxHeartbeats 4000000 in
theorem refQuotient_walk (A0 : Option Addr) (c0 : Nat) (p : List Int) (A1 : Option Addr) (c1 : Nat) (next : List (List Int)) (w : World) (hr0 : Kd.C (Kd.int .i64) w A0 p.length p) (hr1 : Kd.C (Kd.slice 3 (Kd.int .i64)) w A1 next.length next) (hn : nextP p.length next) (hp : rightP p) (hs : stableP p next) :
    Calls Try.prog 52 #[.slice A0 p.length c0, .slice A1 next.length c1] w fun e w' => ∃ v, e = .returned v ∧ Kd.R (Kd.slice 3 (Kd.int .i64)) 22 w' w.heap.size (fun _ => True) v (quotP p next) ∧ Below w.heap.size w w' := by
  obtain ⟨n, hcn⟩ : ∃ n : Nat, countP p = n := ⟨(countP p).toNat, by have := count_bounds hp; omega⟩
  have hn0 : n ≤ 1024 := by have := count_bounds hp; have := hp.1; omega
  have hn1 : p.length ≤ 1024 := hp.1
  have HR0 := Aside0.mk hr0
  have HR1 := Aside0.mk hr1
  have HN := Aside0.mk hn
  have HC := Aside0.mk (fun w1 (hB : Below w.heap.size w w1) => (show Calls Try.prog 59 #[.slice A0 p.length c0] w1 fun e w' => e = .returned (.int .i64 (n : Int)) ∧ Below w1.heap.size w1 w' by rw [← hcn]; exact refCount_walk A0 c0 p w1 (Kd.C_below hr0 hB) hp))
  have HQ := Aside0.mk (quotR_all hp hn.1 hs hcn)
  have HALL := Aside0.mk (fun (b : Nat) (hb : b < n) => (by
    obtain ⟨i, hi, e⟩ := right_all hp (b := (b : Int)) (by omega) (by omega)
    exact place_spec (p := p) (b := (b : Int)) (by rw [← e, at_get hi]; exact List.getElem_mem hi) : placeOf p (b : Int) < p.length ∧ at_ p (placeOf p (b : Int)) = (b : Int)))
  clear hr0 hr1 hn hp hs hcn
  go_enter Try.func52, Try.ntmps52
  go_wp2
  go_loopw [5, 6] (fun out b wr => ∃ k : Nat, b = .int .i64 k ∧ Aside0 (k ≤ n ∧ Kd.R (Kd.slice 3 (Kd.int .i64)) 22 wr w.heap.size (fun _ => True) out (quotR p next k) ∧ Below w.heap.size w wr)) (fun _ b _ => n - (intOf b).toNat)
  case atStart => exact ⟨0, rfl, Nat.zero_le _, Kd.R_nil _ _ _ _ _, Below.refl _ _⟩
  case round =>
    obtain ⟨b, rfl, HI⟩ := hrel
    have hbl := HI.out.1
    have HC0 := Aside0.mk (HC.out wr HI.out.2.2)
    by_cases hb : b < n
    · obtain ⟨hpl, hpe⟩ := HALL.out b hb
      obtain ⟨s, hs⟩ : ∃ s, s = placeOf p (b : Int) := ⟨_, rfl⟩
      have HS := Aside0.mk hs
      have HLEAST := Aside0.mk (fun j (hj : j < placeOf p (b : Int)) => (by
        intro e
        have hjl : j < p.length := by omega
        have h1 : (b : Int) ∈ p.take (j + 1) := by
          rw [List.mem_take_iff_getElem]
          exact ⟨j, by omega, by rw [← at_get hjl, e]⟩
        have h2 := List.idxOf_lt_length_of_mem h1
        have h3 : p.idxOf (b : Int) = (p.take (j + 1)).idxOf (b : Int) := Num.idxOf_prefix (List.take_prefix (j + 1) p) h1
        rw [List.length_take] at h2
        unfold placeOf at hj
        omega : at_ p j ≠ (b : Int)))
      rw [← hs] at hpl hpe HLEAST
      have HPE := Aside0.mk hpe
      have hsn : s < next.length := by rw [HN.out.1]; exact hpl
      clear hs hpe
      go_wp2_with (go_at_call 59; refine HC0.out.mono ?_; rintro e w1 ⟨rfl, hB⟩; have HB1 := Aside0.mk hB; clear hB)
      go_loopw [7] (fun i wr => ∃ k : Nat, i = .int .i64 k ∧ wr = w1 ∧ Aside0 (k ≤ s)) (fun i _ => s - (intOf i).toNat)
      case atStart => exact ⟨0, rfl, rfl, ⟨Nat.zero_le _⟩⟩
      case round =>
        obtain ⟨k, rfl, rfl, HJ⟩ := hrel
        have hks := HJ.out
        have HB := Aside0.mk (HI.out.2.2.trans (HB1.out.mono HI.out.2.2.size))
        have hkp : k < p.length := by omega
        obtain ⟨ad0, e0, hx0⟩ := ints_at (Kd.C_below HR0.out HB.out) k hkp
        subst e0
        rw [← at_get hkp] at hx0
        by_cases hk : k = s
        · subst hk
          rw [HPE.out] at hx0
          have g1 : ((b : Int) == (b : Int)) = true := by simp
          have g2 : ((b : Int) != (b : Int)) = false := by simp
          obtain ⟨ad1, A2, d2, e1, hx1, hd1, hD1⟩ := rows_at (Kd.C_below HR1.out HB.out) k hsn
          subst e1
          have HD1 := Aside0.mk hD1
          have hl64 : next[k].length ≤ 64 := (HN.out.2 _ (List.getElem_mem hsn)).1
          have HX1 := Aside0.mk hx1
          clear hD1
          go_wp2
          clear g1 g2 hx0 hx1
          obtain ⟨wo, hwo⟩ : ∃ wo : World, wo = wr := ⟨_, rfl⟩
          rw [← hwo] at HB HB1 HD1 HX1 ⊢
          clear hwo
          obtain ⟨f, hf⟩ : ∃ f : Int → Int, f = fun x => at_ p x.toNat := ⟨_, rfl⟩
          have HF := Aside0.mk hf
          clear hf
          go_loopw [8, 9] (fun l i wq => ∃ (t : Nat), i = .int .i64 t ∧ Aside0 (t ≤ next[k].length ∧ Kd.R (Kd.int .i64) 3 wq wo.heap.size (fun _ => True) l ((next[k].take t).map f) ∧ Below wo.heap.size wo wq)) (fun _ i _ => next[k].length - (intOf i).toNat)
          case atStart => exact ⟨0, rfl, Nat.zero_le _, by rw [List.take_zero]; exact Kd.R_nil _ _ _ _ _, Below.refl _ _⟩
          case round =>
            obtain ⟨t, rfl, HT⟩ := hrel
            have htl := HT.out.1
            have hx1 := pw_cell_below HT.out.2.2 HX1.out
            by_cases ht : t < next[k].length
            · have hxb := (HN.out.2 _ (List.getElem_mem hsn)).2 next[k][t] (List.getElem_mem ht)
              obtain ⟨y, hy⟩ : ∃ y : Nat, next[k][t] = y := ⟨next[k][t].toNat, by omega⟩
              have hyp : y < p.length := by omega
              have HFB := Aside0.mk (show (next[k].take t).map f ++ [p[y]] = (next[k].take (t + 1)).map f by
                rw [Num.take_succ _ t ht, List.map_append, List.map_singleton, hy, HF.out]; simp [at_get hyp])
              obtain ⟨adp, ep, hxp⟩ := ints_at (Kd.C_below HR0.out (HB.out.trans (HT.out.2.2.mono HB.out.size))) y hyp
              obtain rfl : ad0 = adp := by injection ep
              obtain ⟨adl, el, hxj⟩ := ints_at (Kd.C_below HD1.out HT.out.2.2) t ht
              subst el
              rw [hy] at hxj
              have HL := Aside0.mk (show ((next[k].take t).map f).length ≤ 1000000 by simp; omega)
              clear hy hxb ep
              go_wp2_with (at_builtin; refine append_int (w0 := wo) (W := wr) wo.heap.size rfl (.tmp 33) (.tmp 44) rfl _ ((next[k].take t).map f) p[y] rfl rfl HT.out.2.1 HT.out.2.2 HT.out.2.2.size HL.out ?_; rintro v1 w3 hR3 hB3; rw [HFB.out] at hR3; have HK := Aside0.mk (And.intro hR3 hB3); clear hR3 hB3)
              go_roundw
              case rel => exact ⟨t + 1, by go_num, by omega, HK.out.1, HK.out.2⟩
              case measure => simp [intOf]; omega
            · have ht' : t = next[k].length := by omega
              have HBO := Aside0.mk (HB1.out.trans (HT.out.2.2.mono HB1.out.size))
              have HU := Aside0.mk (show Kd.R (Kd.int .i64) 3 wr w.heap.size (fun k => True ∧ some k ≠ u5.ownBlock) u8 (after p next (placeOf p (b : Int))) ∧ Kd.R (Kd.slice 3 (Kd.int .i64)) 22 wr w.heap.size (fun _ => True) u5 (quotR p next b) ∧ Below w.heap.size w wr by
                have h := HT.out.2.1
                rw [ht', List.take_length, HF.out, ← after_get p next k hsn, HS.out] at h
                have hout := Kd.R_below HI.out.2.1 HB1.out
                exact ⟨Kd.R_lower (Kd.R_newR h hout) HB.out.size, Kd.R_below hout HT.out.2.2, HB.out.trans (HT.out.2.2.mono HB.out.size)⟩)
              have HSS := Aside0.mk (quotR_succ p next b)
              have HL := Aside0.mk (show (quotR p next b).length ≤ 1000000 by rw [quotR_length]; omega)
              obtain ⟨A8, c8, rfl⟩ := R_shape HU.out.1 rfl
              clear ht'
              go_wp2_with (at_builtin; refine append_row (w0 := w) (W := wr) w.heap.size rfl (.tmp 46) (.tmp 48) rfl u5 (quotR p next b) _ (after p next (placeOf p (b : Int))) rfl rfl HU.out.2.1 HU.out.1 HU.out.2.2 HU.out.2.2.size HL.out ?_; rintro v1 w3 hR3 hB3; rw [HSS.out] at hR3; have HK := Aside0.mk (And.intro hR3 hB3); clear hR3 hB3)
              go_roundw
              case rel => exact ⟨b + 1, by go_num, by omega, HK.out.1, HK.out.2⟩
              case measure => simp [intOf]; omega
        · have hne := HLEAST.out k (by omega)
          generalize at_ p k = x at hx0 hne
          have g1 : (x == (b : Int)) = false := beq_eq_false_iff_ne.mpr hne
          have g2 : (x != (b : Int)) = true := bne_iff_ne.mpr hne
          have hks2 : k + 1 ≤ s := by omega
          clear hne hk
          go_wp2
          go_roundw
          case rel => exact ⟨k + 1, by go_num, by first | rfl | trivial, ⟨hks2⟩⟩
          case measure => simp [intOf]; omega
    · have hb' : b = n := by omega
      have HD := Aside0.mk (show Kd.R (Kd.slice 3 (Kd.int .i64)) 22 wr w.heap.size (fun _ => True) u5 (quotP p next) by have h := HI.out.2.1; rwa [hb', HQ.out] at h)
      clear hb'
      go_wp2_with (go_at_call 59; refine HC0.out.mono ?_; rintro e w1 ⟨rfl, hB⟩; have HB1 := Aside0.mk hB; clear hB)
      go_ret
      exact ⟨_, rfl, Kd.R_below HD.out HB1.out, HI.out.2.2.trans (HB1.out.mono HI.out.2.2.size)⟩
end Go.Proofs.Ytboofecfmhbacaa
