/- The walks of the reference's Members, Finer, Meet. -/
import Derived.Test.YtboofecfmhbacaaH5
import Derived.Test.YtboofecfmhbacaaH10
namespace Go.Proofs.Ytboofecfmhbacaa
open Go.RowKit Go.WideMaps Go.Maps Go.Proofs.YtboofecfmhbacaaW.PrintWords Go.Proofs.YtboofecfmhbacaaW.PrintLast Go.Proofs.YtboofecfmhbacaaW.PrintMore
set_option linter.unusedVariables false
set_option linter.unusedSimpArgs false

theorem rowsP_succ (p : List Int) (b : Nat) : rowsP p b ++ [idxs p 0 (b : Int)] = rowsP p (b + 1) := by simp [rowsP, List.range_succ]

set_option maxRecDepth 100000 in
set_option maxHeartbeats 4000000 in
theorem refMembers_walk (A0 : Option Addr) (c0 : Nat) (p : List Int) (w : World) (hr0 : Kd.C (Kd.int .i64) w A0 p.length p) (hp : rightP p) :
    Calls Try.prog 60 #[.slice A0 p.length c0] w fun e w' => ∃ v, e = .returned v ∧ Kd.R (Kd.slice 3 (Kd.int .i64)) 22 w' w.heap.size (fun _ => True) v (membersP p) ∧ Below w.heap.size w w' := by
  obtain ⟨n, hcn⟩ : ∃ n : Nat, countP p = n := ⟨(countP p).toNat, by have := count_bounds hp; omega⟩
  have hn0 : n ≤ 1024 := by have := count_bounds hp; have := hp.1; omega
  have hn1 : p.length ≤ 1024 := hp.1
  have HR0 := Aside0.mk hr0
  have HC := Aside0.mk (fun w1 (hB : Below w.heap.size w w1) => (show Calls Try.prog 59 #[.slice A0 p.length c0] w1 fun e w' => e = .returned (.int .i64 (n : Int)) ∧ Below w1.heap.size w1 w' by rw [← hcn]; exact refCount_walk A0 c0 p w1 (Kd.C_below hr0 hB) hp))
  rw [show membersP p = rowsP p n by unfold membersP; rw [hcn, Int.toNat_natCast]]
  clear hr0 hp hcn
  go_enter Try.func60, Try.ntmps60
  go_wp2
  go_loopw [3, 4] (fun out b wr => ∃ k : Nat, b = .int .i64 k ∧ Aside0 (k ≤ n ∧ Kd.R (Kd.slice 3 (Kd.int .i64)) 22 wr w.heap.size (fun _ => True) out (rowsP p k) ∧ Below w.heap.size w wr)) (fun _ b _ => n - (intOf b).toNat)
  case atStart => exact ⟨0, rfl, Nat.zero_le _, Kd.R_nil _ _ _ _ _, Below.refl _ _⟩
  case round =>
    obtain ⟨b, rfl, HI⟩ := hrel
    have hbl := HI.out.1
    have HC0 := Aside0.mk (HC.out wr HI.out.2.2)
    by_cases hb : b < n
    · go_wp2_with (go_at_call 59; refine HC0.out.mono ?_; rintro e w1 ⟨rfl, hB⟩; have HB1 := Aside0.mk hB; clear hB)
      go_loopw [5, 6] (fun l i wq => ∃ (t : Nat), i = .int .i64 t ∧ Aside0 (t ≤ p.length ∧ Kd.R (Kd.int .i64) 3 wq w1.heap.size (fun _ => True) l (idxs (p.take t) 0 (b : Int)) ∧ Below w1.heap.size w1 wq)) (fun _ i _ => p.length - (intOf i).toNat)
      case atStart => exact ⟨0, rfl, Nat.zero_le _, by rw [List.take_zero]; exact Kd.R_nil _ _ _ _ _, Below.refl _ _⟩
      case round =>
        obtain ⟨t, rfl, HT⟩ := hrel
        have htl := HT.out.1
        by_cases ht : t < p.length
        · have HB := Aside0.mk (HI.out.2.2.trans ((HB1.out.trans (HT.out.2.2.mono HB1.out.size)).mono HI.out.2.2.size))
          obtain ⟨ad0, e0, hx0⟩ := ints_at (Kd.C_below HR0.out HB.out) t ht
          subst e0
          have hsn := idxs_snoc (p.take t) 0 p[t] (b : Int)
          rw [← Num.take_succ p t ht, List.length_take, Nat.min_eq_left htl, Nat.zero_add] at hsn
          have hil := idxs_length (p.take t) 0 (b : Int)
          have HL := Aside0.mk (show (idxs (p.take t) 0 (b : Int)).length ≤ 1000000 by rw [List.length_take] at hil; omega)
          by_cases hx : p[t] = (b : Int)
          · have g1 : (p[t] == (b : Int)) = true := beq_iff_eq.mpr hx
            rw [if_pos hx] at hsn
            rw [hx] at hx0
            have g2 : ((b : Int) == (b : Int)) = true := by simp
            have HS := Aside0.mk hsn
            clear hsn hx hil
            go_wp2_with (at_builtin; refine append_int (w0 := w1) (W := wr) w1.heap.size rfl (.tmp 25) (.tmp 27) rfl _ (idxs (p.take t) 0 (b : Int)) _ rfl rfl HT.out.2.1 HT.out.2.2 HT.out.2.2.size HL.out ?_; rintro v1 w3 hR3 hB3; rw [← HS.out] at hR3; have HK := Aside0.mk (And.intro hR3 hB3); clear hR3 hB3)
            go_roundw
            case rel => exact ⟨t + 1, by go_num, by omega, HK.out.1, HK.out.2⟩
            case measure => simp [intOf]; omega
          · have g1 : (p[t] == (b : Int)) = false := beq_eq_false_iff_ne.mpr hx
            rw [if_neg hx] at hsn
            have HS := Aside0.mk hsn
            clear hsn hx hil
            go_wp2
            go_roundw
            case rel => exact ⟨t + 1, by go_num, by omega, by rw [HS.out]; exact HT.out.2.1, HT.out.2.2⟩
            case measure => simp [intOf]; omega
        · have ht' : t = p.length := by omega
          have HB := Aside0.mk (HI.out.2.2.trans (HB1.out.mono HI.out.2.2.size))
          have HU := Aside0.mk (show Kd.R (Kd.int .i64) 3 wr w.heap.size (fun k => True ∧ some k ≠ u3.ownBlock) u5 (idxs p 0 (b : Int)) ∧ Kd.R (Kd.slice 3 (Kd.int .i64)) 22 wr w.heap.size (fun _ => True) u3 (rowsP p b) ∧ Below w.heap.size w wr by
            have h := HT.out.2.1
            rw [ht', List.take_length] at h
            have hout := Kd.R_below HI.out.2.1 HB1.out
            exact ⟨Kd.R_lower (Kd.R_newR h hout) HB.out.size, Kd.R_below hout HT.out.2.2, HB.out.trans (HT.out.2.2.mono HB.out.size)⟩)
          have HSS := Aside0.mk (rowsP_succ p b)
          have HL := Aside0.mk (show (rowsP p b).length ≤ 1000000 by rw [rowsP_length]; omega)
          obtain ⟨A8, c8, rfl⟩ := R_shape HU.out.1 rfl
          clear ht'
          go_wp2_with (at_builtin; refine append_row (w0 := w) (W := wr) w.heap.size rfl (.tmp 29) (.tmp 31) rfl u3 (rowsP p b) _ (idxs p 0 (b : Int)) rfl rfl HU.out.2.1 HU.out.1 HU.out.2.2 HU.out.2.2.size HL.out ?_; rintro v1 w3 hR3 hB3; rw [HSS.out] at hR3; have HK := Aside0.mk (And.intro hR3 hB3); clear hR3 hB3)
          go_roundw
          case rel => exact ⟨b + 1, by go_num, by omega, HK.out.1, HK.out.2⟩
          case measure => simp [intOf]; omega
    · have hb' : b = n := by omega
      have HD := Aside0.mk (show Kd.R (Kd.slice 3 (Kd.int .i64)) 22 wr w.heap.size (fun _ => True) u3 (rowsP p n) by have h := HI.out.2.1; rwa [hb'] at h)
      clear hb'
      go_wp2_with (go_at_call 59; refine HC0.out.mono ?_; rintro e w1 ⟨rfl, hB⟩; have HB1 := Aside0.mk hB; clear hB)
      go_ret
      exact ⟨_, rfl, Kd.R_below HD.out HB1.out, HI.out.2.2.trans (HB1.out.mono HI.out.2.2.size)⟩

set_option maxRecDepth 100000 in
set_option maxHeartbeats 4000000 in
theorem refMeet_walk (A0 : Option Addr) (c0 : Nat) (p : List Int) (A1 : Option Addr) (c1 : Nat) (q : List Int) (w : World) (hr0 : Kd.C (Kd.int .i64) w A0 p.length p) (hr1 : Kd.C (Kd.int .i64) w A1 q.length q) (hl : p.length = q.length) (hn : p.length ≤ 1000000) :
    Calls Try.prog 62 #[.slice A0 p.length c0, .slice A1 q.length c1] w fun e w' => ∃ v, e = .returned v ∧ Kd.R (Kd.int .i64) 3 w' w.heap.size (fun _ => True) v (meetP p q) ∧ Below w.heap.size w w' := by
  have HR := Aside0.mk hr0
  have HR1 := Aside0.mk hr1
  have HLL := Aside0.mk hl
  obtain ⟨g, hg⟩ : ∃ g : Nat → Nat → Bool, g = fun i k => (at_ p i == at_ p k) && (at_ q i == at_ q k) := ⟨_, rfl⟩
  have HG := Aside0.mk hg
  clear hr0 hr1 hg hl
  have hmk := print_make_of 22 3 (.int .i64 0) 8 Try.underlying22 info3 rfl (by decide) p.length (by omega)
  go_enter Try.func62, Try.ntmps62
  go_wp2
  go_loopw [5, 6] (fun out i wr => ∃ k : Nat, i = .int .i64 k ∧ Aside0 (k ≤ p.length ∧ Kd.R (Kd.slice 3 (Kd.int .i64)) 22 wr w.heap.size (fun _ => True) out (matB g p.length k) ∧ Below w.heap.size w wr)) (fun _ i _ => p.length - (intOf i).toNat)
  case atStart => exact ⟨0, rfl, Nat.zero_le _, Kd.R_nil _ _ _ _ _, Below.refl _ _⟩
  case round =>
    obtain ⟨i, rfl, HI⟩ := hrel
    have hil := HI.out.1
    by_cases hi : i < p.length
    · have hiq : i < q.length := by rw [← HLL.out]; exact hi
      go_wp2
      obtain ⟨wo, hwo⟩ : ∃ wo : World, wo = wr := ⟨_, rfl⟩
      rw [← hwo] at HI ⊢
      clear hwo
      go_loopw [8] (fun k wq => ∃ (j : Nat), k = .int .i64 j ∧ Aside0 (j ≤ p.length ∧ Kd.R (Kd.int .i64) 3 wq wo.heap.size (fun _ => True) (.slice (some ⟨wo.heap.size, 0, none⟩) p.length p.length) (rowB (g i) p.length j) ∧ Below wo.heap.size wo wq)) (fun k _ => p.length - (intOf k).toNat)
      case atStart => exact ⟨0, rfl, Nat.zero_le _, by rw [rowB_zero]; exact R_made wo p.length (by omega), lit_below wo _⟩
      case round =>
        obtain ⟨j, rfl, HJ⟩ := hrel
        have hjl := HJ.out.1
        by_cases hj : j < p.length
        · have hjq : j < q.length := by rw [← HLL.out]; exact hj
          have HB := Aside0.mk (HI.out.2.2.trans (HJ.out.2.2.mono HI.out.2.2.size))
          obtain ⟨ad, e1, hx1⟩ := ints_at (Kd.C_below HR.out HB.out) i hi
          obtain ⟨ad', e2, hx2⟩ := ints_at (Kd.C_below HR.out HB.out) j hj
          obtain ⟨bd, e3, hx3⟩ := ints_at (Kd.C_below HR1.out HB.out) i hiq
          obtain ⟨bd', e4, hx4⟩ := ints_at (Kd.C_below HR1.out HB.out) j hjq
          subst e1 e3
          obtain rfl : ad = ad' := by injection e2
          obtain rfl : bd = bd' := by injection e4
          rw [← at_get hi] at hx1
          rw [← at_get hj] at hx2
          rw [← at_get hiq] at hx3
          rw [← at_get hjq] at hx4
          have hge : g i j = ((at_ p i == at_ p j) && (at_ q i == at_ q j)) := by rw [HG.out]
          have HQ := Aside0.mk (fun m => Kd.R_drewN HJ.out.2.1 m)
          have HQB := Aside0.mk (fun m => pw_below_drewN HJ.out.2.2 m)
          obtain ⟨⟨v0, hv0⟩, hf0, -, -⟩ := put_int (w := w) HJ.out.2.1 (rowB_length _ _ _) j hj 1
          have HS := Aside0.mk (fun (hgt : g i j = true) m => show Kd.R (Kd.int .i64) 3 ((wr.drewN m).setCell ⟨wo.heap.size, j, none⟩ (.int .i64 1)) wo.heap.size (fun _ => True) (.slice (some ⟨wo.heap.size, 0, none⟩) p.length p.length) (rowB (g i) p.length (j + 1)) ∧ Below wo.heap.size wo ((wr.drewN m).setCell ⟨wo.heap.size, j, none⟩ (.int .i64 1)) by
              obtain ⟨-, -, h2, h3⟩ := put_int (w := w) (HQ.out m) (rowB_length _ _ _) j hj 1
              rw [rowB_hit _ _ _ hgt] at h3
              exact ⟨h3, (HQB.out m).setCell h2 _⟩)
          generalize at_ p i = y1 at hx1 hge
          generalize at_ p j = y2 at hx2 hge
          generalize at_ q i = y3 at hx3 hge
          generalize at_ q j = y4 at hx4 hge
          clear e2 e4
          by_cases h1 : y1 = y2
          · have g1 : (y1 == y2) = true := beq_iff_eq.mpr h1
            by_cases h2 : y3 = y4
            · have g2 : (y3 == y4) = true := beq_iff_eq.mpr h2
              have HE := Aside0.mk (show g i j = true by rw [hge, g1, g2]; rfl)
              clear h1 h2 hge
              go_wp2
              go_quiet (fail)
              go_wp2
              go_roundw
              case rel => exact ⟨j + 1, by go_num, by omega, (HS.out HE.out nq).1, (HS.out HE.out nq).2⟩
              case measure => simp [intOf]; omega
            · have g2 : (y3 == y4) = false := beq_eq_false_iff_ne.mpr h2
              have HK := Aside0.mk (rowB_miss (g i) p.length j (by rw [hge, g1, g2]; rfl))
              clear h1 h2 hge
              go_wp2
              go_quiet (fail)
              go_wp2
              go_roundw
              case rel => exact ⟨j + 1, by go_num, by omega, by rw [← HK.out]; exact HQ.out nq, HQB.out nq⟩
              case measure => simp [intOf]; omega
          · have g1 : (y1 == y2) = false := beq_eq_false_iff_ne.mpr h1
            have HK := Aside0.mk (rowB_miss (g i) p.length j (by rw [hge, g1]; rfl))
            clear h1 hge
            go_wp2
            go_quiet (fail)
            go_wp2
            go_roundw
            case rel => exact ⟨j + 1, by go_num, by omega, by rw [← HK.out]; exact HQ.out nq, HQB.out nq⟩
            case measure => simp [intOf]; omega
        · have hj' : j = p.length := by omega
          have HU := Aside0.mk (show Kd.R (Kd.int .i64) 3 wr w.heap.size (fun k => True ∧ some k ≠ u5.ownBlock) (.slice (some ⟨wo.heap.size, 0, none⟩) p.length p.length) (rowB (g i) p.length p.length) ∧ Kd.R (Kd.slice 3 (Kd.int .i64)) 22 wr w.heap.size (fun _ => True) u5 (matB g p.length i) ∧ Below w.heap.size w wr by
            have h := HJ.out.2.1
            rw [hj'] at h
            exact ⟨Kd.R_lower (Kd.R_newR h HI.out.2.1) HI.out.2.2.size, Kd.R_below HI.out.2.1 HJ.out.2.2, HI.out.2.2.trans (HJ.out.2.2.mono HI.out.2.2.size)⟩)
          have HS := Aside0.mk (matB_succ g p.length i)
          have HL := Aside0.mk (show (matB g p.length i).length ≤ 1000000 by rw [matB_length]; omega)
          clear hj'
          go_wp2_with (at_builtin; refine append_row (w0 := w) (W := wr) w.heap.size rfl (.tmp 47) (.tmp 49) rfl u5 (matB g p.length i) _ (rowB (g i) p.length p.length) rfl rfl HU.out.2.1 HU.out.1 HU.out.2.2 HU.out.2.2.size HL.out ?_; rintro v1 w1 hR1 hB1; rw [HS.out] at hR1; have HK := Aside0.mk (And.intro hR1 hB1); clear hR1 hB1)
          go_roundw
          case rel => exact ⟨i + 1, by go_num, by omega, HK.out.1, HK.out.2⟩
          case measure => simp [intOf]; omega
    · have hi' : i = p.length := by omega
      obtain ⟨A2, c2, hu, hc2, hC2⟩ := Kd.R_reads HI.out.2.1
      rw [hi', matB_length] at hu hC2
      subst hu
      have hnum := refnum_walk (fun k => [at_ p k, at_ q k]) A2 c2 (matB g p.length p.length) wr (by rw [matB_length]; exact hC2) (by rw [matB_length]; omega) (matB_tells _ g p.length (fun i k _ _ => by rw [HG.out]; simp))
      rw [matB_length, ← meet_numR rfl HLL.out.symm] at hnum
      have HN := Aside0.mk hnum
      clear hi' hC2 hnum
      go_wp2_with (go_at_call 43; refine HN.out.mono ?_; rintro e w9 ⟨v, rfl, hR9, hB9⟩; have HD := Aside0.mk (And.intro (Kd.R_lower hR9 HI.out.2.2.size) (HI.out.2.2.trans (hB9.mono HI.out.2.2.size))); clear hR9 hB9)
      go_ret
      exact ⟨_, rfl, HD.out.1, HD.out.2⟩

set_option maxRecDepth 100000 in
set_option maxHeartbeats 4000000 in
theorem refFiner_walk (A0 : Option Addr) (c0 : Nat) (p : List Int) (A1 : Option Addr) (c1 : Nat) (q : List Int) (w : World) (hr0 : Kd.C (Kd.int .i64) w A0 p.length p) (hr1 : Kd.C (Kd.int .i64) w A1 q.length q) (hp : PartN p.length p) (hq : PartN p.length q) :
    Calls Try.prog 61 #[.slice A0 p.length c0, .slice A1 q.length c1] w fun e w' => e = .returned (.bool (decide (finerP p q))) ∧ Below w.heap.size w w' := by
  have HR := Aside0.mk hr0
  have HR1 := Aside0.mk hr1
  have hn := hp.le
  have HLL := Aside0.mk hq.len
  have HF := Aside0.mk (finer_le hp hq)
  clear hr0 hr1 hp hq
  go_enter Try.func61, Try.ntmps61
  go_wp2
  go_loopw [5] (fun i wr => ∃ k : Nat, i = .int .i64 k ∧ Aside0 (k ≤ p.length ∧ (∀ a b, a < k → b < a → at_ p a = at_ p b → at_ q a = at_ q b) ∧ Below w.heap.size w wr)) (fun i _ => p.length - (intOf i).toNat)
  case atStart => exact ⟨0, rfl, Nat.zero_le _, fun a b h => absurd h (Nat.not_lt_zero a), Below.refl _ _⟩
  case round =>
    obtain ⟨i, rfl, HI⟩ := hrel
    have hil := HI.out.1
    by_cases hi : i < p.length
    · have hiq : i < q.length := by rw [HLL.out]; exact hi
      go_wp2
      obtain ⟨wo, hwo⟩ : ∃ wo : World, wo = wr := ⟨_, rfl⟩
      rw [← hwo] at HI ⊢
      clear hwo
      go_loopw [6] (fun k wq => ∃ (j : Nat), k = .int .i64 j ∧ Aside0 (j ≤ i ∧ (∀ b, b < j → at_ p i = at_ p b → at_ q i = at_ q b) ∧ Below w.heap.size w wq)) (fun k _ => i - (intOf k).toNat)
      case atStart => exact ⟨0, rfl, Nat.zero_le _, fun b h => absurd h (Nat.not_lt_zero b), HI.out.2.2⟩
      case round =>
        obtain ⟨j, rfl, HJ⟩ := hrel
        have hjl := HJ.out.1
        by_cases hj : j < i
        · have hjp : j < p.length := by omega
          have hjq : j < q.length := by rw [HLL.out]; exact hjp
          obtain ⟨ad, e1, hx1⟩ := ints_at (Kd.C_below HR.out HJ.out.2.2) i hi
          obtain ⟨ad', e2, hx2⟩ := ints_at (Kd.C_below HR.out HJ.out.2.2) j hjp
          obtain ⟨bd, e3, hx3⟩ := ints_at (Kd.C_below HR1.out HJ.out.2.2) i hiq
          obtain ⟨bd', e4, hx4⟩ := ints_at (Kd.C_below HR1.out HJ.out.2.2) j hjq
          subst e1 e3
          obtain rfl : ad = ad' := by injection e2
          obtain rfl : bd = bd' := by injection e4
          rw [← at_get hi] at hx1
          rw [← at_get hjp] at hx2
          rw [← at_get hiq] at hx3
          rw [← at_get hjq] at hx4
          have HQB := Aside0.mk (fun m => pw_below_drewN HJ.out.2.2 m)
          have hgood : (at_ p i = at_ p j → at_ q i = at_ q j) → ∀ b, b < j + 1 → at_ p i = at_ p b → at_ q i = at_ q b := fun h b hb e => by
            by_cases eb : b = j
            · subst eb; exact h e
            · exact HJ.out.2.1 b (by omega) e
          have hbad : at_ p i = at_ p j → at_ q i ≠ at_ q j → decide (finerP p q) = false := fun e h => decide_eq_false fun hf => h (HF.out.1 hf i j hi hjp e)
          generalize at_ p j = y2 at hx2 hgood hbad
          generalize at_ q j = y4 at hx4 hgood hbad
          obtain ⟨y1, hy1⟩ : ∃ y, y = at_ p i := ⟨_, rfl⟩
          obtain ⟨y3, hy3⟩ : ∃ y, y = at_ q i := ⟨_, rfl⟩
          rw [← hy1] at hx1
          rw [← hy3] at hx3
          have HGD := Aside0.mk hgood
          have HBD := Aside0.mk hbad
          have HY := Aside0.mk (And.intro hy1 hy3)
          clear e2 e4 hgood hbad hy1 hy3
          by_cases h1 : y1 = y2
          · have g1 : (y1 == y2) = true := beq_iff_eq.mpr h1
            by_cases h2 : y3 = y4
            · have g2 : (y3 == y4) = true := beq_iff_eq.mpr h2
              have g3 : (y3 != y4) = false := bne_eq_false_iff_eq.mpr h2
              have HE := Aside0.mk (HGD.out (fun _ => by rw [← HY.out.2]; exact h2))
              clear h1 h2
              go_wp2
              go_quiet (fail)
              go_wp2
              go_roundw
              case rel => exact ⟨j + 1, by go_num, by omega, HE.out, HQB.out nq⟩
              case measure => simp [intOf]; omega
            · have g2 : (y3 == y4) = false := beq_eq_false_iff_ne.mpr h2
              have g3 : (y3 != y4) = true := bne_iff_ne.mpr h2
              have HD := Aside0.mk (HBD.out (by rw [← HY.out.1]; exact h1) (by rw [← HY.out.2]; exact h2))
              clear h1 h2
              go_wp2
              go_quiet (fail)
              go_wp2
              go_ret
              exact ⟨by rw [HD.out]; rfl, HQB.out nq⟩
          · have g1 : (y1 == y2) = false := beq_eq_false_iff_ne.mpr h1
            have HE := Aside0.mk (HGD.out (fun e => absurd (by rw [HY.out.1]; exact e) h1))
            clear h1
            go_wp2
            go_quiet (fail)
            go_wp2
            go_roundw
            case rel => exact ⟨j + 1, by go_num, by omega, HE.out, HQB.out nq⟩
            case measure => simp [intOf]; omega
        · have hj' : j = i := by omega
          have HK := Aside0.mk (show ∀ a b, a < i + 1 → b < a → at_ p a = at_ p b → at_ q a = at_ q b from fun a b ha hb e => by
            by_cases ea : a = i
            · subst ea; exact HJ.out.2.1 b (by omega) e
            · exact HI.out.2.1 a b (by omega) hb e)
          clear hj'
          go_wp2
          go_roundw
          case rel => exact ⟨i + 1, by go_num, by omega, HK.out, HJ.out.2.2⟩
          case measure => simp [intOf]; omega
    · have hi' : i = p.length := by omega
      have HD := Aside0.mk (show decide (finerP p q) = true from decide_eq_true (HF.out.2 fun a b ha hb e => by
        rcases Nat.lt_trichotomy a b with h | h | h
        · exact (HI.out.2.1 b a (by omega) h e.symm).symm
        · rw [h]
        · exact HI.out.2.1 a b (by omega) h e))
      clear hi'
      go_wp2
      go_ret
      exact ⟨by rw [HD.out]; rfl, HI.out.2.2⟩
end Go.Proofs.Ytboofecfmhbacaa
