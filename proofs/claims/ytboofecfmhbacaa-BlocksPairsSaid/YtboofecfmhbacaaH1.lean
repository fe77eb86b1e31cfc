/- The walks of the reference's numbered. -/
import Derived.Test.YtboofecfmhbacaaG15
namespace Go.Proofs.Ytboofecfmhbacaa
open Go.RowKit Go.WideMaps Go.Maps Go.Proofs.YtboofecfmhbacaaW.PrintWords Go.Proofs.YtboofecfmhbacaaW.PrintLast Go.Proofs.YtboofecfmhbacaaW.PrintMore
set_option linter.unusedVariables false
set_option linter.unusedSimpArgs false

section
variable {ops : Array Oper} {rest : List Oper} {o : Oper} {a : Act} {Q : Exit → Act → World → Prop}
/-- append(v, x) of a whole number to a row of the call's own. -/
theorem append_int {w0 W : World} (base : Nat) (hgd : o.guard = none) (s x : Operand) (ho : o.op = .call { callee := .builtin .append, args := #[s, x], argTypes := #[22, 22] })
    (v : Value) (xs : List Int) (p : Int) (hs : a.eval s = v) (hx : a.eval x = .slice (some ⟨W.heap.size, 0, none⟩) 1 1) (HO : Kd.R (Kd.int .i64) 3 W base (fun _ => True) v xs) (HB : Below base w0 W) (hbase : base ≤ W.heap.size) (hl : xs.length ≤ 1000000)
    (h : ∀ v1 w1, Kd.R (Kd.int .i64) 3 w1 base (fun _ => True) v1 (xs ++ [p]) → Below base w0 w1 → wpList Try.prog ops Q rest (a.put o.dst v1) w1) :
    wpList Try.prog ops Q (o :: rest) a (W.alloc (.cells #[.int .i64 p] 3)) :=
  Kd.R_append (Kd.int .i64) (w0 := w0) (W := W) base hgd s x 22 3 (.int .i64 0) 8 ho Try.underlying22 info3 rfl (by decide) (by decide) v xs p [.int .i64 p] (fun _ => True) (fun k => True ∧ some k ≠ v.ownBlock) hs hx rfl (fun _ h => h) (fun _ _ => trivial) HO HB hbase (by omega) (fun v1 w1 h1 h2 _ _ => h v1 w1 h1 h2)
/-- append(v, x) of a list that has been made since. -/
theorem append_row {w0 W : World} (base : Nat) (hgd : o.guard = none) (s x : Operand) (ho : o.op = .call { callee := .builtin .append, args := #[s, x], argTypes := #[36, 36] })
    (v : Value) (xs : List (List Int)) (u : Value) (p : List Int) (hs : a.eval s = v) (hx : a.eval x = .slice (some ⟨W.heap.size, 0, none⟩) 1 1) (HO : Kd.R (Kd.slice 3 (Kd.int .i64)) 22 W base (fun _ => True) v xs) (HU : Kd.R (Kd.int .i64) 3 W base (fun k => True ∧ some k ≠ v.ownBlock) u p) (HB : Below base w0 W) (hbase : base ≤ W.heap.size) (hl : xs.length ≤ 1000000)
    (h : ∀ v1 w1, Kd.R (Kd.slice 3 (Kd.int .i64)) 22 w1 base (fun _ => True) v1 (xs ++ [p]) → Below base w0 w1 → wpList Try.prog ops Q rest (a.put o.dst v1) w1) :
    wpList Try.prog ops Q (o :: rest) a (W.alloc (.cells #[u] 22)) :=
  Kd.R_append (Kd.slice 3 (Kd.int .i64)) (w0 := w0) (W := W) base hgd s x 36 22 (.slice none 0 0) 24 ho Try.underlying36 info22 rfl (by decide) (by decide) v xs p [u] (fun _ => True) (fun k => True ∧ some k ≠ v.ownBlock) hs hx ⟨_, rfl, HU⟩ (fun _ h => h) (fun _ _ => trivial) HO HB hbase (by omega) (fun v1 w1 h1 h2 _ _ => h v1 w1 h1 h2)
end

theorem numR_succ {α : Type} [DecidableEq α] (f : Nat → α) (i : Nat) : numR (i + 1) f = numR i f ++ [if f i ∈ (List.range i).map f then Num.spot (Num.firsts ((List.range i).map f)) (f i) else ((Num.firsts ((List.range i).map f)).length : Int)] := by
  unfold numR
  rw [List.range_succ, List.map_append, List.map_singleton, num_snoc]
theorem firstsR_succ {α : Type} [DecidableEq α] (f : Nat → α) (i : Nat) : Num.firsts ((List.range (i + 1)).map f) = if f i ∈ (List.range i).map f then Num.firsts ((List.range i).map f) else Num.firsts ((List.range i).map f) ++ [f i] := by
  rw [List.range_succ, List.map_append, List.map_singleton, Num.firsts_snoc]
  by_cases h : f i ∈ (List.range i).map f
  · rw [if_pos h, if_pos ((Num.mem_firsts _ _).2 h)]
  · rw [if_neg h, if_neg (fun h' => h ((Num.mem_firsts _ _).1 h'))]
theorem take_map_range {α : Type} (f : Nat → α) (n i : Nat) (hi : i ≤ n) : ((List.range n).map f).take i = (List.range i).map f := by
  rw [← List.map_take, List.take_range, Nat.min_eq_left hi]
theorem mem_keys {α : Type} (f : Nat → α) (i : Nat) (x : α) : x ∈ (List.range i).map f ↔ ∃ k, k < i ∧ f k = x := by simp

set_option maxRecDepth 100000 in
set_option maxHeartbeats 4000000 in
theorem refnum_walk {α : Type} [DecidableEq α] (f : Nat → α) (A0 : Option Addr) (c0 : Nat) (M : List (List Int)) (w : World) (hr : Kd.C (Kd.slice 3 (Kd.int .i64)) w A0 M.length M) (hn : M.length ≤ 1000000)
    (hM : ∀ i (hi : i < M.length) k, k < i → ∃ h : k < M[i].length, M[i][k] = 1 ↔ f i = f k) :
    Calls Try.prog 43 #[.slice A0 M.length c0] w fun e w' => ∃ v, e = .returned v ∧ Kd.R (Kd.int .i64) 3 w' w.heap.size (fun _ => True) v (numR M.length f) ∧ Below w.heap.size w w' := by
  have HR := Aside0.mk hr
  have HM := Aside0.mk hM
  clear hr hM
  go_enter Try.func43, Try.ntmps43
  go_wp2
  go_loopw [3, 4, 5] (fun out n i wr => ∃ k : Nat, i = .int .i64 k ∧ n = .int .i64 (Num.firsts ((List.range k).map f)).length ∧ Aside0 (k ≤ M.length ∧ Kd.R (Kd.int .i64) 3 wr w.heap.size (fun _ => True) out (numR k f) ∧ Below w.heap.size w wr)) (fun _ _ i _ => M.length - (intOf i).toNat)
  case atStart => exact ⟨0, rfl, rfl, Nat.zero_le _, Kd.R_nil _ _ _ _ _, Below.refl _ _⟩
  case round =>
    obtain ⟨i, rfl, rfl, HI⟩ := hrel
    have hil := HI.out.1
    have hfi : (Num.firsts ((List.range i).map f)).length ≤ i := by have := Num.length_firsts_le ((List.range i).map f); simpa using this
    by_cases hi : i < M.length
    · obtain ⟨ad0, A1, d1, e0, hx0, hd1, hD1⟩ := rows_at (Kd.C_below HR.out HI.out.2.2) i hi
      subst e0
      have HD1 := Aside0.mk hD1
      obtain ⟨A2, c2, hu, hc2, hC2⟩ := Kd.R_reads HI.out.2.1
      rw [numR_length] at hu hC2
      subst hu
      have HC2 := Aside0.mk hC2
      have HX0 := Aside0.mk hx0
      clear hD1 hC2 hc2 hx0
      go_wp2
      obtain ⟨wo, hwo⟩ : ∃ wo : World, wo = wr := ⟨_, rfl⟩
      rw [← hwo] at HI HD1 HC2 HX0 ⊢
      clear hwo
      go_loopw [6, 7] (fun b k wq => ∃ (j : Nat) (x : Int), k = .int .i64 j ∧ b = .int .i64 x ∧ wq = wo ∧ Aside0 (j ≤ i ∧ ((x = -1 ∧ ∀ k, k < j → f k ≠ f i) ∨ (0 ≤ x ∧ f i ∈ (List.range i).map f ∧ x = Num.spot (Num.firsts ((List.range i).map f)) (f i))))) (fun _ k _ => i - (intOf k).toNat)
      case atStart => exact ⟨0, -1, rfl, rfl, rfl, Nat.zero_le _, .inl ⟨rfl, fun k hk => absurd hk (Nat.not_lt_zero k)⟩⟩
      case round =>
        obtain ⟨j, x, rfl, rfl, rfl, HJ⟩ := hrel
        have hji := HJ.out.1
        have hx0 := HX0.out
        rcases HJ.out.2 with ⟨hx, hno⟩ | ⟨hx, hmem, hsp⟩
        · subst hx
          by_cases hj : j < i
          · obtain ⟨hjl, hiff⟩ := HM.out i hi j hj
            obtain ⟨ad1, e1, hx1⟩ := ints_at HD1.out j hjl
            subst e1
            by_cases h1 : M[i][j] = 1
            · have hb : (M[i][j] == 1) = true := beq_iff_eq.mpr h1
              rw [h1] at hx1
              obtain ⟨ad2, e2, hx2⟩ := ints_at (l := numR i f) (by rw [numR_length]; exact HC2.out) j (by rw [numR_length]; exact hj)
              subst e2
              have hf : f i = f j := hiff.1 h1
              have hsp : (numR i f)[j]'(by rw [numR_length]; exact hj) = Num.spot (Num.firsts ((List.range i).map f)) (f i) := by
                rw [hf, ← numR_at i f hj, at_get (by rw [numR_length]; exact hj)]
              have HP := Aside0.mk (show (j + 1 ≤ i ∧ (((numR i f)[j]'(by rw [numR_length]; exact hj) = -1 ∧ ∀ k, k < j + 1 → f k ≠ f i) ∨ (0 ≤ (numR i f)[j]'(by rw [numR_length]; exact hj) ∧ f i ∈ (List.range i).map f ∧ (numR i f)[j]'(by rw [numR_length]; exact hj) = Num.spot (Num.firsts ((List.range i).map f)) (f i)))) from
                ⟨hj, .inr ⟨by rw [hsp]; unfold Num.spot; omega, (mem_keys f i _).2 ⟨j, hj, hf.symm⟩, hsp⟩⟩)
              clear hiff hno h1 hf hsp
              go_wp2
              go_roundw
              case rel => exact ⟨j + 1, _, by go_num, rfl, by first | rfl | trivial, HP⟩
              case measure => simp [intOf]; omega
            · have hb : (M[i][j] == 1) = false := beq_eq_false_iff_ne.mpr h1
              have HP := Aside0.mk (show j + 1 ≤ i ∧ (((-1 : Int) = -1 ∧ ∀ k, k < j + 1 → f k ≠ f i) ∨ (0 ≤ (-1 : Int) ∧ f i ∈ (List.range i).map f ∧ -1 = Num.spot (Num.firsts ((List.range i).map f)) (f i))) from
                ⟨hj, .inl ⟨rfl, fun k hk => by
                  by_cases e : k = j
                  · subst e; exact fun e2 => h1 (hiff.2 e2.symm)
                  · exact hno k (by omega)⟩⟩)
              clear hiff hno h1
              go_wp2
              go_roundw
              case rel => exact ⟨j + 1, -1, by go_num, rfl, by first | rfl | trivial, HP⟩
              case measure => simp [intOf]; omega
          · have hnm : f i ∉ (List.range i).map f := by
              rw [mem_keys]
              rintro ⟨k, hk, e⟩
              exact hno k (by omega) e
            have HS := Aside0.mk (show numR i f ++ [((Num.firsts ((List.range i).map f)).length : Int)] = numR (i + 1) f by rw [numR_succ, if_neg hnm])
            have HF := Aside0.mk (show (Num.firsts ((List.range i).map f)).length + 1 = (Num.firsts ((List.range (i + 1)).map f)).length by rw [firstsR_succ, if_neg hnm]; simp)
            have HL := Aside0.mk (show (numR i f).length ≤ 1000000 by rw [numR_length]; omega)
            clear hno hnm
            go_wp2_with (at_builtin; refine append_int (w0 := w) (W := wr) w.heap.size rfl (.tmp 40) (.tmp 42) rfl _ (numR i f) _ rfl rfl HI.out.2.1 HI.out.2.2 HI.out.2.2.size HL.out ?_; rintro v1 w1 hR1 hB1; rw [HS.out] at hR1; have HK := Aside0.mk (And.intro hR1 hB1); clear hR1 hB1)
            go_roundw
            case rel => exact ⟨i + 1, by go_num, by rw [← HF.out]; go_num, by omega, HK.out.1, HK.out.2⟩
            case measure => simp [intOf]; omega
        · have h9 : decide (x < 0) = false := decide_eq_false (by omega)
          have HS := Aside0.mk (show numR i f ++ [x] = numR (i + 1) f by rw [numR_succ, if_pos hmem, hsp])
          have HF := Aside0.mk (show (Num.firsts ((List.range i).map f)).length = (Num.firsts ((List.range (i + 1)).map f)).length by rw [firstsR_succ, if_pos hmem])
          have HL := Aside0.mk (show (numR i f).length ≤ 1000000 by rw [numR_length]; omega)
          clear hmem hsp
          by_cases hj : j < i
          · go_wp2_with (at_builtin; refine append_int (w0 := w) (W := wr) w.heap.size rfl (.tmp 40) (.tmp 42) rfl _ (numR i f) _ rfl rfl HI.out.2.1 HI.out.2.2 HI.out.2.2.size HL.out ?_; rintro v1 w1 hR1 hB1; rw [HS.out] at hR1; have HK := Aside0.mk (And.intro hR1 hB1); clear hR1 hB1)
            go_roundw
            case rel => exact ⟨i + 1, by go_num, by rw [← HF.out], by omega, HK.out.1, HK.out.2⟩
            case measure => simp [intOf]; omega
          · go_wp2_with (at_builtin; refine append_int (w0 := w) (W := wr) w.heap.size rfl (.tmp 40) (.tmp 42) rfl _ (numR i f) _ rfl rfl HI.out.2.1 HI.out.2.2 HI.out.2.2.size HL.out ?_; rintro v1 w1 hR1 hB1; rw [HS.out] at hR1; have HK := Aside0.mk (And.intro hR1 hB1); clear hR1 hB1)
            go_roundw
            case rel => exact ⟨i + 1, by go_num, by rw [← HF.out], by omega, HK.out.1, HK.out.2⟩
            case measure => simp [intOf]; omega
    · have hi' : i = M.length := by omega
      have HD := Aside0.mk (show Kd.R (Kd.int .i64) 3 wr w.heap.size (fun _ => True) u3 (numR M.length f) by have h := HI.out.2.1; rwa [hi'] at h)
      clear hi'
      go_wp2
      go_ret
      exact ⟨_, rfl, HD.out, HI.out.2.2⟩
end Go.Proofs.Ytboofecfmhbacaa
