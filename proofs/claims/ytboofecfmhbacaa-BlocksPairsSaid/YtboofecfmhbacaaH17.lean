/- The walk of the reference's Join: labels that go from element to element. -/
import Derived.Test.YtboofecfmhbacaaH16
import Derived.Test.YtboofecfmhbacaaPlain4
namespace Go.Proofs.Ytboofecfmhbacaa
open Go.RowKit Go.WideMaps Go.Maps Go.Proofs.YtboofecfmhbacaaW.PrintWords Go.Proofs.YtboofecfmhbacaaW.PrintLast Go.Proofs.YtboofecfmhbacaaW.PrintMore
set_option linter.unusedVariables false
set_option linter.unusedSimpArgs false

/-- Elements that are in one block of p, or of q. -/
def Near (p q : List Int) (i k : Nat) : Prop := at_ p i = at_ p k ∨ at_ q i = at_ q k
/-- Labels: an element's is one that it is connected to, and none that is greater. -/
structure Lab (p q out : List Int) : Prop where
  len : out.length = p.length
  low : ∀ i, i < p.length → 0 ≤ at_ out i ∧ at_ out i ≤ i
  conn : ∀ i, i < p.length → Conn p q p.length i (at_ out i).toNat
theorem Lab.start (p q : List Int) : Lab p q (ids p.length) :=
  ⟨ids_length _, fun i hi => by rw [at_ids hi]; omega, fun i hi => by rw [at_ids hi, Int.toNat_natCast]; exact .refl hi⟩
theorem Lab.put {p q out : List Int} (h : Lab p q out) {i k : Nat} (hi : i < p.length) (hk : k < p.length) (hn : Near p q i k) (hlt : at_ out k < at_ out i) : Lab p q (out.set i (at_ out k)) := by
  refine ⟨by rw [List.length_set]; exact h.len, fun j hj => ?_, fun j hj => ?_⟩
  · by_cases e : i = j
    · subst e
      rw [at_set_self (by rw [h.len]; exact hi)]
      have h1 := h.low k hk
      have h2 := h.low i hi
      omega
    · rw [at_set_ne e]
      exact h.low j hj
  · by_cases e : i = j
    · subst e
      rw [at_set_self (by rw [h.len]; exact hi)]
      have h1 : Conn p q p.length i k := by
        rcases hn with hn | hn
        · exact .same hi hk hn
        · exact .tie hi hk hi hk hn
      exact h1.trans (h.conn k hk)
    · rw [at_set_ne e]
      exact h.conn j hj
/-- The labels' sum. -/
def sumT : List Int → Nat
  | [] => 0
  | x :: l => x.toNat + sumT l
theorem sumT_set : ∀ (l : List Int) (i : Nat) (x : Int) (h : i < l.length), 0 ≤ x → x < l[i] → sumT (l.set i x) < sumT l
  | [], i, x, h, _, _ => by simp at h
  | y :: l, 0, x, h, h0, h1 => by
    simp only [List.getElem_cons_zero] at h1
    simp only [List.set_cons_zero, sumT]
    omega
  | y :: l, i + 1, x, h, h0, h1 => by
    simp only [List.getElem_cons_succ] at h1
    simp only [List.set_cons_succ, sumT]
    have := sumT_set l i x (by simpa using h) h0 h1
    omega
theorem Lab.less {p q out : List Int} (h : Lab p q out) {i k : Nat} (hi : i < p.length) (hk : k < p.length) (hlt : at_ out k < at_ out i) : sumT (out.set i (at_ out k)) < sumT out := by
  have hl : i < out.length := by rw [h.len]; exact hi
  refine sumT_set out i _ hl (h.low k hk).1 ?_
  rw [← at_get hl]
  exact hlt
/-- Nothing is left to be done for element a. -/
def Shut (p q out : List Int) (a n : Nat) : Prop := ∀ c, c < n → Near p q a c → ¬ at_ out c < at_ out a
theorem Lab.done {p q out : List Int} (hp : rightP p) (h : Lab p q out) (hs : ∀ a, a < p.length → Shut p q out a p.length) : IsJoin p q (Num.num out) := by
  have hn := num_part h.len hp.1
  refine ⟨hn.right, hn.len, fun i j hi hj => ?_⟩
  rw [num_at h.len hi hj]
  constructor
  · intro e
    have h1 := h.conn i hi
    rw [e] at h1
    exact h1.trans (h.conn j hj).symm
  · intro e
    have hne : ∀ a b, a < p.length → b < p.length → Near p q a b → at_ out a = at_ out b := fun a b ha hb hn => by
      have h1 := hs a ha b hb hn
      have h2 := hs b hb a ha (by rcases hn with h | h; exact .inl h.symm; exact .inr h.symm)
      omega
    exact e.lift (at_ out) (fun a b ha hb e => hne a b ha hb (.inl e)) (fun a b ha hb _ _ e => hne a b ha hb (.inr e))
/-- What a pass keeps: nothing has been done yet, or the labels' sum has become less. -/
def Pass (p q out out' : List Int) (b : Bool) (P : Prop) : Prop := (b = false → out' = out ∧ P) ∧ (b = true → sumT out' < sumT out)

set_option maxRecDepth 100000 in
set_option maxHeartbeats 8000000 in
theorem refJoin_walk (A0 : Option Addr) (c0 : Nat) (p : List Int) (A1 : Option Addr) (c1 : Nat) (q : List Int) (w : World) (hr0 : Kd.C (Kd.int .i64) w A0 p.length p) (hr1 : Kd.C (Kd.int .i64) w A1 q.length q) (hp : rightP p) (hl : p.length = q.length) :
    Calls Try.prog 63 #[.slice A0 p.length c0, .slice A1 q.length c1] w fun e w' => ∃ v o, e = .returned v ∧ IsJoin p q o ∧ Kd.R (Kd.int .i64) 3 w' w.heap.size (fun _ => True) v o ∧ Below w.heap.size w w' := by
  have HR := Aside0.mk hr0
  have HR1 := Aside0.mk hr1
  have HP := Aside0.mk hp
  have HLL := Aside0.mk hl
  have hn := hp.1
  clear hr0 hr1 hp hl
  have hmk := print_make_of 22 3 (.int .i64 0) 8 Try.underlying22 info3 rfl (by decide) p.length (by omega)
  go_enter Try.func63, Try.ntmps63
  go_wp2
  go_loopw [6] (fun i wr => ∃ k : Nat, i = .int .i64 k ∧ Aside0 (k ≤ p.length ∧ Kd.R (Kd.int .i64) 3 wr w.heap.size (fun _ => True) (.slice (some ⟨w.heap.size, 0, none⟩) p.length p.length) (filled (ids p.length) k 0) ∧ Below w.heap.size w wr)) (fun i _ => p.length - (intOf i).toNat)
  case atStart => exact ⟨0, rfl, Nat.zero_le _, by rw [filled_zero, ids_length]; exact R_made w p.length (by omega), lit_below w _⟩
  case round =>
    obtain ⟨k, rfl, HI⟩ := hrel
    have hkl := HI.out.1
    by_cases hk : k < p.length
    · obtain ⟨⟨v0, hv0⟩, hf0, hg0, hS⟩ := put_int (w := w) HI.out.2.1 (by rw [filled_length _ _ _ (by rw [ids_length]; exact hkl), ids_length]) k hk (k : Int)
      have h2 := filled_set (ids p.length) k 0 (by rw [ids_length]; exact hk)
      rw [ids_get _ _ hk] at h2
      rw [h2] at hS
      have HS := Aside0.mk (And.intro hS (HI.out.2.2.setCell (p := ⟨w.heap.size, k, none⟩) hg0 (.int .i64 (k : Int))))
      clear hS h2 hg0
      go_wp2
      go_roundw
      case rel => exact ⟨k + 1, by go_num, by omega, HS.out.1, HS.out.2⟩
      case measure => simp [intOf]; omega
    · have hk' : k = p.length := by omega
      have HT := Aside0.mk (show Kd.R (Kd.int .i64) 3 wr w.heap.size (fun _ => True) (.slice (some ⟨w.heap.size, 0, none⟩) p.length p.length) (ids p.length) ∧ Below w.heap.size w wr by
        have h := HI.out.2.1
        rw [hk'] at h
        have h2 := filled_end (ids p.length) (0 : Int)
        rw [ids_length] at h2
        rw [h2] at h
        exact ⟨h, HI.out.2.2⟩)
      clear hk' HI
      go_wp2
      go_loopg [7] (sumT (ids p.length) + 1) (fun gg ch wr => ∃ (b : Bool) (out : List Int), ch = .bool b ∧ Aside0 (Lab p q out ∧ Kd.R (Kd.int .i64) 3 wr w.heap.size (fun _ => True) (.slice (some ⟨w.heap.size, 0, none⟩) p.length p.length) out ∧ Below w.heap.size w wr ∧ (b = false → ∀ a, a < p.length → Shut p q out a p.length) ∧ (b = true → sumT out < gg)))
      case atStart => exact ⟨true, _, rfl, Lab.start p q, HT.out.1, HT.out.2, fun h => by (cases h), fun _ => Nat.lt_succ_self _⟩
      case round =>
        obtain ⟨b, out, rfl, HI⟩ := hrel
        cases b with
        | false =>
          have HJ := Aside0.mk (HI.out.1.done HP.out (HI.out.2.2.2.1 rfl))
          obtain ⟨-, -, hC⟩ := R_len HI.out.2.1
          have hN := refInts_walk (some ⟨w.heap.size, 0, none⟩) p.length out wr (by rw [HI.out.1.len]; exact hC) (by rw [HI.out.1.len]; omega)
          rw [HI.out.1.len] at hN
          have HN := Aside0.mk hN
          clear hC hN
          go_wp2_with (go_at_call 21; refine HN.out.mono ?_; rintro e w9 ⟨v, rfl, hR9, hB9⟩; have HD := Aside0.mk (And.intro (Kd.R_lower hR9 HI.out.2.2.1.size) (HI.out.2.2.1.trans (hB9.mono HI.out.2.2.1.size))); clear hR9 hB9)
          go_ret
          exact ⟨_, _, rfl, HJ.out, HD.out.1, HD.out.2⟩
        | true =>
          go_wp2
          go_loopw [7, 8] (fun ch i wq => ∃ (b : Bool) (i' : Nat) (out' : List Int), ch = .bool b ∧ i = .int .i64 i' ∧ Aside0 (i' ≤ p.length ∧ Lab p q out' ∧ Kd.R (Kd.int .i64) 3 wq w.heap.size (fun _ => True) (.slice (some ⟨w.heap.size, 0, none⟩) p.length p.length) out' ∧ Below w.heap.size w wq ∧ Pass p q out out' b (∀ a, a < i' → Shut p q out a p.length))) (fun _ i _ => p.length - (intOf i).toNat)
          case atStart => exact ⟨false, 0, out, rfl, rfl, Nat.zero_le _, HI.out.1, HI.out.2.1, HI.out.2.2.1, fun _ => ⟨rfl, fun a ha => absurd ha (Nat.not_lt_zero a)⟩, fun h => by (cases h)⟩
          case round =>
            obtain ⟨b, i, out', rfl, rfl, HJ⟩ := hrel
            have hil := HJ.out.1
            by_cases hi : i < p.length
            · have hiq : i < q.length := by rw [← HLL.out]; exact hi
              go_wp2
              go_loopw [7, 9] (fun ch k wq => ∃ (b : Bool) (k' : Nat) (out' : List Int), ch = .bool b ∧ k = .int .i64 k' ∧ Aside0 (k' ≤ p.length ∧ Lab p q out' ∧ Kd.R (Kd.int .i64) 3 wq w.heap.size (fun _ => True) (.slice (some ⟨w.heap.size, 0, none⟩) p.length p.length) out' ∧ Below w.heap.size w wq ∧ Pass p q out out' b ((∀ a, a < i → Shut p q out a p.length) ∧ Shut p q out i k'))) (fun _ k _ => p.length - (intOf k).toNat)
              case atStart => exact ⟨b, 0, out', rfl, rfl, Nat.zero_le _, HJ.out.2.1, HJ.out.2.2.1, HJ.out.2.2.2.1, fun h => ⟨(HJ.out.2.2.2.2.1 h).1, (HJ.out.2.2.2.2.1 h).2, fun c hc => absurd hc (Nat.not_lt_zero c)⟩, HJ.out.2.2.2.2.2⟩
              case round =>

                obtain ⟨b, k, out', rfl, rfl, HK⟩ := hrel
                have hkl := HK.out.1
                by_cases hk : k < p.length
                · have hkq : k < q.length := by rw [← HLL.out]; exact hk
                  obtain ⟨ad, e1, hx1⟩ := ints_at (Kd.C_below HR.out HK.out.2.2.2.1) i hi
                  obtain ⟨ad', e2, hx2⟩ := ints_at (Kd.C_below HR.out HK.out.2.2.2.1) k hk
                  obtain ⟨bd, e3, hx3⟩ := ints_at (Kd.C_below HR1.out HK.out.2.2.2.1) i hiq
                  obtain ⟨bd', e4, hx4⟩ := ints_at (Kd.C_below HR1.out HK.out.2.2.2.1) k hkq
                  subst e1 e3
                  obtain rfl : ad = ad' := by injection e2
                  obtain rfl : bd = bd' := by injection e4
                  rw [← at_get hi] at hx1
                  rw [← at_get hk] at hx2
                  rw [← at_get hiq] at hx3
                  rw [← at_get hkq] at hx4
                  have hol := HK.out.2.1.len
                  obtain ⟨hx5, hf5, hx6⟩ : wr.cell? ⟨w.heap.size, i, none⟩ = some (.int .i64 (at_ out' i)) ∧ wr.frozen? ⟨w.heap.size, i, none⟩ = false ∧ wr.cell? ⟨w.heap.size, k, none⟩ = some (.int .i64 (at_ out' k)) := by
                    have hR := HK.out.2.2.1
                    rw [← hol] at hR
                    have h1 := Kd.R_cell (d := (0 : Int)) hR (i : Int) (by omega) (by omega)
                    have h2 := Kd.R_cell (d := (0 : Int)) hR (k : Int) (by omega) (by omega)
                    rw [Int.toNat_natCast] at h1 h2
                    exact ⟨h1.1, h1.2, h2.1⟩
                  have HQB := Aside0.mk (fun m => pw_below_drewN HK.out.2.2.2.1 m)
                  have HQ := Aside0.mk (fun m => Kd.R_drewN HK.out.2.2.1 m)
                  have HPUT := Aside0.mk (fun (hn : Near p q i k) (hlt : at_ out' k < at_ out' i) m => show Lab p q (out'.set i (at_ out' k)) ∧ Kd.R (Kd.int .i64) 3 ((wr.drewN m).setCell ⟨w.heap.size, i, none⟩ (.int .i64 (at_ out' k))) w.heap.size (fun _ => True) (.slice (some ⟨w.heap.size, 0, none⟩) p.length p.length) (out'.set i (at_ out' k)) ∧ Below w.heap.size w ((wr.drewN m).setCell ⟨w.heap.size, i, none⟩ (.int .i64 (at_ out' k))) ∧ Pass p q out (out'.set i (at_ out' k)) true ((∀ a, a < i → Shut p q out a p.length) ∧ Shut p q out i (k + 1)) from by
                    obtain ⟨-, -, h2, h3⟩ := put_int (w := w) (HQ.out m) hol i hi (at_ out' k)
                    refine ⟨HK.out.2.1.put hi hk hn hlt, h3, (HQB.out m).setCell h2 _, fun h => by (cases h), fun _ => ?_⟩
                    have hless := HK.out.2.1.less hi hk hlt
                    cases b with
                    | false => rw [(HK.out.2.2.2.2.1 rfl).1] at hless ⊢; exact hless
                    | true => exact Nat.lt_trans hless (HK.out.2.2.2.2.2 rfl))
                  have HKEEP := Aside0.mk (fun (hno : Near p q i k → ¬ at_ out' k < at_ out' i) => show Pass p q out out' b ((∀ a, a < i → Shut p q out a p.length) ∧ Shut p q out i (k + 1)) from ⟨fun h => by
                    obtain ⟨h1, h2, h3⟩ := HK.out.2.2.2.2.1 h
                    refine ⟨h1, h2, fun c hc hn => ?_⟩
                    by_cases e : c = k
                    · subst e
                      rw [← h1]
                      exact hno hn
                    · exact h3 c (by omega) hn, HK.out.2.2.2.2.2⟩)
                  unfold Near at HPUT HKEEP
                  generalize at_ p k = y2 at hx2 HPUT HKEEP
                  generalize at_ q k = y4 at hx4 HPUT HKEEP
                  generalize at_ p i = y1 at hx1 HPUT HKEEP
                  generalize at_ q i = y3 at hx3 HPUT HKEEP
                  generalize at_ out' i = o1 at hx5 HPUT HKEEP
                  generalize at_ out' k = o2 at hx6 HPUT HKEEP
                  clear e2 e4 hol
                  by_cases h1 : y1 = y2
                  · have g1 : (y1 == y2) = true := beq_iff_eq.mpr h1
                    by_cases hlt : o2 < o1
                    · have g5 : decide (o2 < o1) = true := decide_eq_true hlt
                      have HE := Aside0.mk (HPUT.out (.inl h1) hlt)
                      clear h1 hlt
                      go_wp2
                      go_quiet (fail)
                      go_wp2
                      go_roundw
                      case rel => exact ⟨true, k + 1, _, rfl, by go_num, by omega, (HE.out nq).1, (HE.out nq).2.1, (HE.out nq).2.2.1, (HE.out nq).2.2.2⟩
                      case measure => simp [intOf]; omega
                    · have g5 : decide (o2 < o1) = false := decide_eq_false hlt
                      have HE := Aside0.mk (HKEEP.out (fun _ => hlt))
                      clear h1 hlt
                      go_wp2
                      go_quiet (fail)
                      go_wp2
                      go_roundw
                      case rel => exact ⟨b, k + 1, out', rfl, by go_num, by omega, HK.out.2.1, HQ.out nq, HQB.out nq, HE.out⟩
                      case measure => simp [intOf]; omega
                  · have g1 : (y1 == y2) = false := beq_eq_false_iff_ne.mpr h1
                    by_cases h2 : y3 = y4
                    · have g2 : (y3 == y4) = true := beq_iff_eq.mpr h2
                      by_cases hlt : o2 < o1
                      · have g5 : decide (o2 < o1) = true := decide_eq_true hlt
                        have HE := Aside0.mk (HPUT.out (.inr h2) hlt)
                        clear h1 h2 hlt
                        go_wp2
                        go_quiet (fail)
                        go_wp2
                        go_roundw
                        case rel => exact ⟨true, k + 1, _, rfl, by go_num, by omega, (HE.out nq).1, (HE.out nq).2.1, (HE.out nq).2.2.1, (HE.out nq).2.2.2⟩
                        case measure => simp [intOf]; omega
                      · have g5 : decide (o2 < o1) = false := decide_eq_false hlt
                        have HE := Aside0.mk (HKEEP.out (fun _ => hlt))
                        clear h1 h2 hlt
                        go_wp2
                        go_quiet (fail)
                        go_wp2
                        go_roundw
                        case rel => exact ⟨b, k + 1, out', rfl, by go_num, by omega, HK.out.2.1, HQ.out nq, HQB.out nq, HE.out⟩
                        case measure => simp [intOf]; omega
                    · have g2 : (y3 == y4) = false := beq_eq_false_iff_ne.mpr h2
                      have HE := Aside0.mk (HKEEP.out (fun h => absurd h (by rintro (h | h); exact h1 h; exact h2 h)))
                      clear h1 h2
                      go_wp2
                      go_quiet (fail)
                      go_wp2
                      go_roundw
                      case rel => exact ⟨b, k + 1, out', rfl, by go_num, by omega, HK.out.2.1, HQ.out nq, HQB.out nq, HE.out⟩
                      case measure => simp [intOf]; omega
                · have hk' : k = p.length := by omega
                  have HX := Aside0.mk (show Pass p q out out' b (∀ a, a < i + 1 → Shut p q out a p.length) from ⟨fun h => by
                    obtain ⟨h1, h2, h3⟩ := HK.out.2.2.2.2.1 h
                    refine ⟨h1, fun a ha => ?_⟩
                    by_cases e : a = i
                    · subst e; rw [← hk']; exact h3
                    · exact h2 a (by omega), HK.out.2.2.2.2.2⟩)
                  clear hk'
                  go_wp2
                  go_roundw
                  case rel => exact ⟨b, i + 1, out', rfl, by go_num, by omega, HK.out.2.1, HK.out.2.2.1, HK.out.2.2.2.1, HX.out⟩
                  case measure => simp [intOf]; omega
            · have hi' : i = p.length := by omega
              have HX := Aside0.mk (show (b = false → ∀ a, a < p.length → Shut p q out' a p.length) ∧ (b = true → sumT out' < gk - 1) from ⟨fun h => by
                obtain ⟨h1, h2⟩ := HJ.out.2.2.2.2.1 h
                rw [h1, ← hi']
                rw [← hi'] at h2
                exact h2, fun h => by
                have h1 := HJ.out.2.2.2.2.2 h
                have h2 := HI.out.2.2.2.2 (by simp)
                omega⟩)
              have HGK := Aside0.mk (HI.out.2.2.2.2 (by simp))
              clear hi'
              go_wp2
              go_roundg (gk - 1)
              case rel => exact ⟨b, out', rfl, HJ.out.2.1, HJ.out.2.2.1, HJ.out.2.2.2.1, HX.out.1, HX.out.2⟩
              case measure => have := HGK.out; omega
end Go.Proofs.Ytboofecfmhbacaa
