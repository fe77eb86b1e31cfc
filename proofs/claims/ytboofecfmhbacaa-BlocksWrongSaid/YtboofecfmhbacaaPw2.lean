/- Texts packed into one: H1, H2, H3, Plain1, H5, G16, G17, G18, H4, Plain2, Plain3, H10, H16, Plain4, H17, H18, H6, H7, H8. -/
import Derived.Test.YtboofecfmhbacaaPw1
import Derived.OpenShut
import Derived.Deep.RegionLaw
import Derived.Deep.RegionWith
/- The walks of the reference's numbered. -/
namespace Go.Proofs.Ytboofecfmhbacaa
open Go.RowKit Go.WideMaps Go.Maps Go.Proofs.YtboofecfmhbacaaW.PrintWords Go.Proofs.YtboofecfmhbacaaW.PrintLast Go.Proofs.YtboofecfmhbacaaW.PrintMore
set_option linter.unusedVariables false
set_option linter.unusedSimpArgs false

section
variable {ops : Array Oper} {rest : List Oper} {o : Oper} {a : Act} {Q : Exit → Act → World → Prop}
/-- append(v, x) of a whole number to a row of the call's own. -/
theorem append_int {w0 W : World} (base : Nat) (hgd : o.guard = none) (s x : Operand) (ho : o.op = .call { callee := .builtin .append, args := #[s, x], argTypes := #[22, 22] })
    (v : Value) (xs : List Int) (p : Int) (hs : a.eval s = v) (hx : a.eval x = .slice (some ⟨W.heap.size, 0, none⟩) 1 1) (HO : Kd.R (Kd.int .i64) 3 W base (fun _ => True) v xs) (HB : Below base w0 W) (hbase : base ≤ W.heap.size) (hl : xs.length ≤ 1000000)
    (h : ∀ v1 w1, Kd.R (Kd.int .i64) 3 w1 base (fun _ => True) v1 (xs ++ [p]) → Below base w0 w1 → wpList Try.prog ops Q rest (a.put o.dst v1) w1) :
    wpList Try.prog ops Q (o :: rest) a (W.alloc (.cells #[.int .i64 p] 3)) :=
  Kd.R_append (Kd.int .i64) (w0 := w0) (W := W) base hgd s x 22 3 (.int .i64 0) 8 ho Try.underlying22 info3 rfl (by decide) (by decide) v xs p [.int .i64 p] (fun _ => True) (fun k => True ∧ some k ≠ v.ownBlock) hs hx rfl (fun _ h => h) (fun _ _ => trivial) HO HB hbase (by omega) (fun v1 w1 h1 h2 _ _ => h v1 w1 h1 h2)
/-- append(v, x) of a list that has been made since. -/
theorem append_row {w0 W : World} (base : Nat) (hgd : o.guard = none) (s x : Operand) (ho : o.op = .call { callee := .builtin .append, args := #[s, x], argTypes := #[36, 36] })
    (v : Value) (xs : List (List Int)) (u : Value) (p : List Int) (hs : a.eval s = v) (hx : a.eval x = .slice (some ⟨W.heap.size, 0, none⟩) 1 1) (HO : Kd.R (Kd.slice 3 (Kd.int .i64)) 22 W base (fun _ => True) v xs) (HU : Kd.R (Kd.int .i64) 3 W base (fun k => True ∧ some k ≠ v.ownBlock) u p) (HB : Below base w0 W) (hbase : base ≤ W.heap.size) (hl : xs.length ≤ 1000000)
    (h : ∀ v1 w1, Kd.R (Kd.slice 3 (Kd.int .i64)) 22 w1 base (fun _ => True) v1 (xs ++ [p]) → Below base w0 w1 → wpList Try.prog ops Q rest (a.put o.dst v1) w1) :
    wpList Try.prog ops Q (o :: rest) a (W.alloc (.cells #[u] 22)) :=
  Kd.R_append (Kd.slice 3 (Kd.int .i64)) (w0 := w0) (W := W) base hgd s x 36 22 (.slice none 0 0) 24 ho Try.underlying36 info22 rfl (by decide) (by decide) v xs p [u] (fun _ => True) (fun k => True ∧ some k ≠ v.ownBlock) hs hx ⟨_, rfl, HU⟩ (fun _ h => h) (fun _ _ => trivial) HO HB hbase (by omega) (fun v1 w1 h1 h2 _ _ => h v1 w1 h1 h2)
end

theorem numR_succ {α : Type} [DecidableEq α] (f : Nat → α) (i : Nat) : numR (i + 1) f = numR i f ++ [if f i ∈ (List.range i).map f then Num.spot (Num.firsts ((List.range i).map f)) (f i) else ((Num.firsts ((List.range i).map f)).length : Int)] := by
  unfold numR
  rw [List.range_succ, List.map_append, List.map_singleton, num_snoc]
theorem firstsR_succ {α : Type} [DecidableEq α] (f : Nat → α) (i : Nat) : Num.firsts ((List.range (i + 1)).map f) = if f i ∈ (List.range i).map f then Num.firsts ((List.range i).map f) else Num.firsts ((List.range i).map f) ++ [f i] := by
  rw [List.range_succ, List.map_append, List.map_singleton, Num.firsts_snoc]
  by_cases h : f i ∈ (List.range i).map f
  · rw [if_pos h, if_pos ((Num.mem_firsts _ _).2 h)]
  · rw [if_neg h, if_neg (fun h' => h ((Num.mem_firsts _ _).1 h'))]
theorem take_map_range {α : Type} (f : Nat → α) (n i : Nat) (hi : i ≤ n) : ((List.range n).map f).take i = (List.range i).map f := by
  rw [← List.map_take, List.take_range, Nat.min_eq_left hi]
theorem mem_keys {α : Type} (f : Nat → α) (i : Nat) (x : α) : x ∈ (List.range i).map f ↔ ∃ k, k < i ∧ f k = x := by simp

set_option maxRecDepth 100000 in
set_option maxHeartbeats 4000000 in
theorem refnum_walk {α : Type} [DecidableEq α] (f : Nat → α) (A0 : Option Addr) (c0 : Nat) (M : List (List Int)) (w : World) (hr : Kd.C (Kd.slice 3 (Kd.int .i64)) w A0 M.length M) (hn : M.length ≤ 1000000)
    (hM : ∀ i (hi : i < M.length) k, k < i → ∃ h : k < M[i].length, M[i][k] = 1 ↔ f i = f k) :
    Calls Try.prog 43 #[.slice A0 M.length c0] w fun e w' => ∃ v, e = .returned v ∧ Kd.R (Kd.int .i64) 3 w' w.heap.size (fun _ => True) v (numR M.length f) ∧ Below w.heap.size w w' := by
  have HR := Aside0.mk hr
  have HM := Aside0.mk hM
  clear hr hM
  go_enter Try.func43, Try.ntmps43
  go_wp2
  go_loopw [3, 4, 5] (fun out n i wr => ∃ k : Nat, i = .int .i64 k ∧ n = .int .i64 (Num.firsts ((List.range k).map f)).length ∧ Aside0 (k ≤ M.length ∧ Kd.R (Kd.int .i64) 3 wr w.heap.size (fun _ => True) out (numR k f) ∧ Below w.heap.size w wr)) (fun _ _ i _ => M.length - (intOf i).toNat)
  case atStart => exact ⟨0, rfl, rfl, Nat.zero_le _, Kd.R_nil _ _ _ _ _, Below.refl _ _⟩
  case round =>
    obtain ⟨i, rfl, rfl, HI⟩ := hrel
    have hil := HI.out.1
    have hfi : (Num.firsts ((List.range i).map f)).length ≤ i := by have := Num.length_firsts_le ((List.range i).map f); simpa using this
    by_cases hi : i < M.length
    · obtain ⟨ad0, A1, d1, e0, hx0, hd1, hD1⟩ := rows_at (Kd.C_below HR.out HI.out.2.2) i hi
      subst e0
      have HD1 := Aside0.mk hD1
      obtain ⟨A2, c2, hu, hc2, hC2⟩ := Kd.R_reads HI.out.2.1
      rw [numR_length] at hu hC2
      subst hu
      have HC2 := Aside0.mk hC2
      have HX0 := Aside0.mk hx0
      clear hD1 hC2 hc2 hx0
      go_wp2
      obtain ⟨wo, hwo⟩ : ∃ wo : World, wo = wr := ⟨_, rfl⟩
      rw [← hwo] at HI HD1 HC2 HX0 ⊢
      clear hwo
      go_loopw [6, 7] (fun b k wq => ∃ (j : Nat) (x : Int), k = .int .i64 j ∧ b = .int .i64 x ∧ wq = wo ∧ Aside0 (j ≤ i ∧ ((x = -1 ∧ ∀ k, k < j → f k ≠ f i) ∨ (0 ≤ x ∧ f i ∈ (List.range i).map f ∧ x = Num.spot (Num.firsts ((List.range i).map f)) (f i))))) (fun _ k _ => i - (intOf k).toNat)
      case atStart => exact ⟨0, -1, rfl, rfl, rfl, Nat.zero_le _, .inl ⟨rfl, fun k hk => absurd hk (Nat.not_lt_zero k)⟩⟩
      case round =>
        obtain ⟨j, x, rfl, rfl, rfl, HJ⟩ := hrel
        have hji := HJ.out.1
        have hx0 := HX0.out
        rcases HJ.out.2 with ⟨hx, hno⟩ | ⟨hx, hmem, hsp⟩
        · subst hx
          by_cases hj : j < i
          · obtain ⟨hjl, hiff⟩ := HM.out i hi j hj
            obtain ⟨ad1, e1, hx1⟩ := ints_at HD1.out j hjl
            subst e1
            by_cases h1 : M[i][j] = 1
            · have hb : (M[i][j] == 1) = true := beq_iff_eq.mpr h1
              rw [h1] at hx1
              obtain ⟨ad2, e2, hx2⟩ := ints_at (l := numR i f) (by rw [numR_length]; exact HC2.out) j (by rw [numR_length]; exact hj)
              subst e2
              have hf : f i = f j := hiff.1 h1
              have hsp : (numR i f)[j]'(by rw [numR_length]; exact hj) = Num.spot (Num.firsts ((List.range i).map f)) (f i) := by
                rw [hf, ← numR_at i f hj, at_get (by rw [numR_length]; exact hj)]
              have HP := Aside0.mk (show (j + 1 ≤ i ∧ (((numR i f)[j]'(by rw [numR_length]; exact hj) = -1 ∧ ∀ k, k < j + 1 → f k ≠ f i) ∨ (0 ≤ (numR i f)[j]'(by rw [numR_length]; exact hj) ∧ f i ∈ (List.range i).map f ∧ (numR i f)[j]'(by rw [numR_length]; exact hj) = Num.spot (Num.firsts ((List.range i).map f)) (f i)))) from
                ⟨hj, .inr ⟨by rw [hsp]; unfold Num.spot; omega, (mem_keys f i _).2 ⟨j, hj, hf.symm⟩, hsp⟩⟩)
              clear hiff hno h1 hf hsp
              go_wp2
              go_roundw
              case rel => exact ⟨j + 1, _, by go_num, rfl, by first | rfl | trivial, HP⟩
              case measure => simp [intOf]; omega
            · have hb : (M[i][j] == 1) = false := beq_eq_false_iff_ne.mpr h1
              have HP := Aside0.mk (show j + 1 ≤ i ∧ (((-1 : Int) = -1 ∧ ∀ k, k < j + 1 → f k ≠ f i) ∨ (0 ≤ (-1 : Int) ∧ f i ∈ (List.range i).map f ∧ -1 = Num.spot (Num.firsts ((List.range i).map f)) (f i))) from
                ⟨hj, .inl ⟨rfl, fun k hk => by
                  by_cases e : k = j
                  · subst e; exact fun e2 => h1 (hiff.2 e2.symm)
                  · exact hno k (by omega)⟩⟩)
              clear hiff hno h1
              go_wp2
              go_roundw
              case rel => exact ⟨j + 1, -1, by go_num, rfl, by first | rfl | trivial, HP⟩
              case measure => simp [intOf]; omega
          · have hnm : f i ∉ (List.range i).map f := by
              rw [mem_keys]
              rintro ⟨k, hk, e⟩
              exact hno k (by omega) e
            have HS := Aside0.mk (show numR i f ++ [((Num.firsts ((List.range i).map f)).length : Int)] = numR (i + 1) f by rw [numR_succ, if_neg hnm])
            have HF := Aside0.mk (show (Num.firsts ((List.range i).map f)).length + 1 = (Num.firsts ((List.range (i + 1)).map f)).length by rw [firstsR_succ, if_neg hnm]; simp)
            have HL := Aside0.mk (show (numR i f).length ≤ 1000000 by rw [numR_length]; omega)
            clear hno hnm
            go_wp2_with (at_builtin; refine append_int (w0 := w) (W := wr) w.heap.size rfl (.tmp 40) (.tmp 42) rfl _ (numR i f) _ rfl rfl HI.out.2.1 HI.out.2.2 HI.out.2.2.size HL.out ?_; rintro v1 w1 hR1 hB1; rw [HS.out] at hR1; have HK := Aside0.mk (And.intro hR1 hB1); clear hR1 hB1)
            go_roundw
            case rel => exact ⟨i + 1, by go_num, by rw [← HF.out]; go_num, by omega, HK.out.1, HK.out.2⟩
            case measure => simp [intOf]; omega
        · have h9 : decide (x < 0) = false := decide_eq_false (by omega)
          have HS := Aside0.mk (show numR i f ++ [x] = numR (i + 1) f by rw [numR_succ, if_pos hmem, hsp])
          have HF := Aside0.mk (show (Num.firsts ((List.range i).map f)).length = (Num.firsts ((List.range (i + 1)).map f)).length by rw [firstsR_succ, if_pos hmem])
          have HL := Aside0.mk (show (numR i f).length ≤ 1000000 by rw [numR_length]; omega)
          clear hmem hsp
          by_cases hj : j < i
          · go_wp2_with (at_builtin; refine append_int (w0 := w) (W := wr) w.heap.size rfl (.tmp 40) (.tmp 42) rfl _ (numR i f) _ rfl rfl HI.out.2.1 HI.out.2.2 HI.out.2.2.size HL.out ?_; rintro v1 w1 hR1 hB1; rw [HS.out] at hR1; have HK := Aside0.mk (And.intro hR1 hB1); clear hR1 hB1)
            go_roundw
            case rel => exact ⟨i + 1, by go_num, by rw [← HF.out], by omega, HK.out.1, HK.out.2⟩
            case measure => simp [intOf]; omega
          · go_wp2_with (at_builtin; refine append_int (w0 := w) (W := wr) w.heap.size rfl (.tmp 40) (.tmp 42) rfl _ (numR i f) _ rfl rfl HI.out.2.1 HI.out.2.2 HI.out.2.2.size HL.out ?_; rintro v1 w1 hR1 hB1; rw [HS.out] at hR1; have HK := Aside0.mk (And.intro hR1 hB1); clear hR1 hB1)
            go_roundw
            case rel => exact ⟨i + 1, by go_num, by rw [← HF.out], by omega, HK.out.1, HK.out.2⟩
            case measure => simp [intOf]; omega
    · have hi' : i = M.length := by omega
      have HD := Aside0.mk (show Kd.R (Kd.int .i64) 3 wr w.heap.size (fun _ => True) u3 (numR M.length f) by have h := HI.out.2.1; rwa [hi'] at h)
      clear hi'
      go_wp2
      go_ret
      exact ⟨_, rfl, HD.out, HI.out.2.2⟩
end Go.Proofs.Ytboofecfmhbacaa

/- The walks of the reference's Ints and Texts. -/
namespace Go.Proofs.Ytboofecfmhbacaa
open Go.RowKit Go.WideMaps Go.Maps Go.Proofs.YtboofecfmhbacaaW.PrintWords Go.Proofs.YtboofecfmhbacaaW.PrintLast Go.Proofs.YtboofecfmhbacaaW.PrintMore
set_option linter.unusedVariables false
set_option linter.unusedSimpArgs false

/-- A row of a relation, as far as it has been told. -/
def rowB (g : Nat → Bool) (n j : Nat) : List Int := (List.range n).map fun k => if k < j ∧ g k = true then 1 else 0
theorem rowB_length (g : Nat → Bool) (n j : Nat) : (rowB g n j).length = n := by simp [rowB]
theorem rowB_get (g : Nat → Bool) (n j k : Nat) (h : k < n) : (rowB g n j)[k]'(by rw [rowB_length]; exact h) = if k < j ∧ g k = true then 1 else 0 := by simp [rowB]
theorem rowB_zero (g : Nat → Bool) (n : Nat) : rowB g n 0 = List.replicate n 0 := by
  apply List.ext_getElem
  · simp [rowB]
  · intro i h1 h2
    simp [rowB]
theorem rowB_hit (g : Nat → Bool) (n j : Nat) (h : g j = true) : (rowB g n j).set j 1 = rowB g n (j + 1) := by
  apply List.ext_getElem
  · simp [rowB]
  · intro i h1 h2
    have hi : i < n := by simpa [rowB] using h2
    rw [List.getElem_set, rowB_get _ _ _ _ hi]
    by_cases e : j = i
    · subst e
      simp [h, rowB]
    · rw [if_neg e, rowB_get _ _ _ _ hi]
      have : i < j ↔ i < j + 1 := by omega
      simp [this]
theorem rowB_miss (g : Nat → Bool) (n j : Nat) (h : g j = false) : rowB g n j = rowB g n (j + 1) := by
  apply List.ext_getElem
  · simp [rowB]
  · intro i h1 h2
    have hi : i < n := by simpa [rowB] using h1
    rw [rowB_get _ _ _ _ hi, rowB_get _ _ _ _ hi]
    by_cases e : i = j
    · subst e; simp [h]
    · have : i < j ↔ i < j + 1 := by omega
      simp [this]
/-- A relation's first i rows. -/
def matB (g : Nat → Nat → Bool) (n i : Nat) : List (List Int) := (List.range i).map fun i => rowB (g i) n n
theorem matB_length (g : Nat → Nat → Bool) (n i : Nat) : (matB g n i).length = i := by simp [matB]
theorem matB_succ (g : Nat → Nat → Bool) (n i : Nat) : matB g n i ++ [rowB (g i) n n] = matB g n (i + 1) := by simp [matB, List.range_succ]
theorem matB_tells {α : Type} [DecidableEq α] (f : Nat → α) (g : Nat → Nat → Bool) (n : Nat) (hg : ∀ i k, k < i → i < n → (g i k = true ↔ f i = f k)) : ∀ i (hi : i < (matB g n n).length) k, k < i → ∃ h : k < (matB g n n)[i].length, (matB g n n)[i][k] = 1 ↔ f i = f k := by
  intro i hi k hk
  have hin : i < n := by simpa [matB] using hi
  have e : (matB g n n)[i] = rowB (g i) n n := by simp [matB]
  rw [e]
  refine ⟨by rw [rowB_length]; omega, ?_⟩
  rw [rowB_get _ _ _ _ (by omega), ← hg i k hk hin]
  have : k < n := by omega
  by_cases h : g i k = true <;> simp [h, this]
/-- row[k] = 1 in a row that has been made since. -/
theorem put_int {w wr : World} {base g n c : Nat} {xs : List Int} (h : Kd.R (Kd.int .i64) 3 wr base (fun _ => True) (.slice (some ⟨g, 0, none⟩) n c) xs) (hl : xs.length = n) (k : Nat) (hk : k < n) (x : Int) :
    (∃ v, wr.cell? ⟨g, k, none⟩ = some v) ∧ wr.frozen? ⟨g, k, none⟩ = false ∧ base ≤ g ∧ Kd.R (Kd.int .i64) 3 (wr.setCell ⟨g, k, none⟩ (.int .i64 x)) base (fun _ => True) (.slice (some ⟨g, 0, none⟩) n c) (xs.set k x) := by
  subst hl
  have h1 := Kd.R_cell (d := (0 : Int)) h (k : Int) (by omega) (by omega)
  have h2 := Kd.R_put h (k : Int) x
  simp only [Int.toNat_natCast] at h1 h2
  exact ⟨⟨_, h1.1⟩, h1.2, Kd.R_base h g rfl, h2.1⟩
theorem R_made (W : World) (n : Nat) (hn : n ≤ 9223372036854775807) : Kd.R (Kd.int .i64) 3 (W.alloc (.cells (madeCells #[.int .i64 0] n) 3)) W.heap.size (fun _ => True) (.slice (some ⟨W.heap.size, 0, none⟩) n n) (List.replicate n 0) := by
  have h := own_made_of (enc := Value.int .i64) (d := (0 : Int)) W W.heap.size 3 n (Nat.le_refl _) hn
  exact Kd.R_of_own (h1 := fun _ => rfl) (enc := Value.int .i64) (by rw [List.length_replicate]; exact h) (fun _ _ => trivial)

set_option maxRecDepth 100000 in
set_option maxHeartbeats 4000000 in
theorem refInts_walk (A0 : Option Addr) (c0 : Nat) (l : List Int) (w : World) (hr : Kd.C (Kd.int .i64) w A0 l.length l) (hn : l.length ≤ 1000000) :
    Calls Try.prog 21 #[.slice A0 l.length c0] w fun e w' => ∃ v, e = .returned v ∧ Kd.R (Kd.int .i64) 3 w' w.heap.size (fun _ => True) v (Num.num l) ∧ Below w.heap.size w w' := by
  have HR := Aside0.mk hr
  obtain ⟨g, hg⟩ : ∃ g : Nat → Nat → Bool, g = fun i k => l.getD i 0 == l.getD k 0 := ⟨_, rfl⟩
  have HG := Aside0.mk hg
  clear hr hg
  have hmk := print_make_of 22 3 (.int .i64 0) 8 Try.underlying22 info3 rfl (by decide) l.length (by omega)
  go_enter Try.func21, Try.ntmps21
  go_wp2
  go_loopw [3, 4] (fun out i wr => ∃ k : Nat, i = .int .i64 k ∧ Aside0 (k ≤ l.length ∧ Kd.R (Kd.slice 3 (Kd.int .i64)) 22 wr w.heap.size (fun _ => True) out (matB g l.length k) ∧ Below w.heap.size w wr)) (fun _ i _ => l.length - (intOf i).toNat)
  case atStart => exact ⟨0, rfl, Nat.zero_le _, Kd.R_nil _ _ _ _ _, Below.refl _ _⟩
  case round =>
    obtain ⟨i, rfl, HI⟩ := hrel
    have hil := HI.out.1
    by_cases hi : i < l.length
    · go_wp2
      obtain ⟨wo, hwo⟩ : ∃ wo : World, wo = wr := ⟨_, rfl⟩
      rw [← hwo] at HI ⊢
      clear hwo
      go_loopw [6] (fun k wq => ∃ (j : Nat), k = .int .i64 j ∧ Aside0 (j ≤ l.length ∧ Kd.R (Kd.int .i64) 3 wq wo.heap.size (fun _ => True) (.slice (some ⟨wo.heap.size, 0, none⟩) l.length l.length) (rowB (g i) l.length j) ∧ Below wo.heap.size wo wq)) (fun k _ => l.length - (intOf k).toNat)
      case atStart => exact ⟨0, rfl, Nat.zero_le _, by rw [rowB_zero]; exact R_made wo l.length (by omega), lit_below wo _⟩
      case round =>
        obtain ⟨j, rfl, HJ⟩ := hrel
        have hjl := HJ.out.1
        by_cases hj : j < l.length
        · have HB := Aside0.mk (HI.out.2.2.trans (HJ.out.2.2.mono HI.out.2.2.size))
          obtain ⟨ad, e1, hx1⟩ := ints_at (Kd.C_below HR.out HB.out) i hi
          obtain ⟨ad', e2, hx2⟩ := ints_at (Kd.C_below HR.out HB.out) j hj
          subst e1
          obtain rfl : ad = ad' := by injection e2
          have hge : g i j = (l[i] == l[j]) := by rw [HG.out]; simp [List.getD_eq_getElem?_getD, List.getElem?_eq_getElem hi, List.getElem?_eq_getElem hj]
          have HQ := Aside0.mk (fun m => Kd.R_drewN HJ.out.2.1 m)
          have HQB := Aside0.mk (fun m => pw_below_drewN HJ.out.2.2 m)
          by_cases h1 : l[i] = l[j]
          · have hb : (l[i] == l[j]) = true := beq_iff_eq.mpr h1
            obtain ⟨⟨v0, hv0⟩, hf0, -, -⟩ := put_int (w := w) HJ.out.2.1 (rowB_length _ _ _) j hj 1
            rw [hb] at hge
            have HS := Aside0.mk (fun m => show Kd.R (Kd.int .i64) 3 ((wr.drewN m).setCell ⟨wo.heap.size, j, none⟩ (.int .i64 1)) wo.heap.size (fun _ => True) (.slice (some ⟨wo.heap.size, 0, none⟩) l.length l.length) (rowB (g i) l.length (j + 1)) ∧ Below wo.heap.size wo ((wr.drewN m).setCell ⟨wo.heap.size, j, none⟩ (.int .i64 1)) by
              obtain ⟨-, -, h2, h3⟩ := put_int (w := w) (HQ.out m) (rowB_length _ _ _) j hj 1
              rw [rowB_hit _ _ _ hge] at h3
              exact ⟨h3, (HQB.out m).setCell h2 _⟩)
            clear h1 hge
            go_wp2
            go_quiet (fail)
            go_wp2
            go_roundw
            case rel => exact ⟨j + 1, by go_num, by omega, (HS.out nq).1, (HS.out nq).2⟩
            case measure => simp [intOf]; omega
          · have hb : (l[i] == l[j]) = false := beq_eq_false_iff_ne.mpr h1
            rw [hb] at hge
            have HK := Aside0.mk (rowB_miss (g i) l.length j hge)
            clear h1 hge
            go_wp2
            go_quiet (fail)
            go_wp2
            go_roundw
            case rel => exact ⟨j + 1, by go_num, by omega, by rw [← HK.out]; exact HQ.out nq, HQB.out nq⟩
            case measure => simp [intOf]; omega
        · have hj' : j = l.length := by omega
          have HU := Aside0.mk (show Kd.R (Kd.int .i64) 3 wr w.heap.size (fun k => True ∧ some k ≠ u3.ownBlock) (.slice (some ⟨wo.heap.size, 0, none⟩) l.length l.length) (rowB (g i) l.length l.length) ∧ Kd.R (Kd.slice 3 (Kd.int .i64)) 22 wr w.heap.size (fun _ => True) u3 (matB g l.length i) ∧ Below w.heap.size w wr by
            have h := HJ.out.2.1
            rw [hj'] at h
            exact ⟨Kd.R_lower (Kd.R_newR h HI.out.2.1) HI.out.2.2.size, Kd.R_below HI.out.2.1 HJ.out.2.2, HI.out.2.2.trans (HJ.out.2.2.mono HI.out.2.2.size)⟩)
          have HS := Aside0.mk (matB_succ g l.length i)
          have HL := Aside0.mk (show (matB g l.length i).length ≤ 1000000 by rw [matB_length]; omega)
          clear hj'
          go_wp2_with (at_builtin; refine append_row (w0 := w) (W := wr) w.heap.size rfl (.tmp 34) (.tmp 36) rfl u3 (matB g l.length i) _ (rowB (g i) l.length l.length) rfl rfl HU.out.2.1 HU.out.1 HU.out.2.2 HU.out.2.2.size HL.out ?_; rintro v1 w1 hR1 hB1; rw [HS.out] at hR1; have HK := Aside0.mk (And.intro hR1 hB1); clear hR1 hB1)
          go_roundw
          case rel => exact ⟨i + 1, by go_num, by omega, HK.out.1, HK.out.2⟩
          case measure => simp [intOf]; omega
    · have hi' : i = l.length := by omega
      obtain ⟨A2, c2, hu, hc2, hC2⟩ := Kd.R_reads HI.out.2.1
      rw [hi', matB_length] at hu hC2
      subst hu
      have hnum := refnum_walk (fun k => l.getD k 0) A2 c2 (matB g l.length l.length) wr (by rw [matB_length]; exact hC2) (by rw [matB_length]; omega) (matB_tells _ g l.length (fun i k _ _ => by rw [HG.out]; simp))
      rw [matB_length, ← num_numR l 0] at hnum
      have HN := Aside0.mk hnum
      clear hi' hC2 hnum
      go_wp2_with (go_at_call 43; refine HN.out.mono ?_; rintro e w9 ⟨v, rfl, hR9, hB9⟩; have HD := Aside0.mk (And.intro (Kd.R_lower hR9 HI.out.2.2.size) (HI.out.2.2.trans (hB9.mono HI.out.2.2.size))); clear hR9 hB9)
      go_ret
      exact ⟨_, rfl, HD.out.1, HD.out.2⟩
end Go.Proofs.Ytboofecfmhbacaa

/- The walk of the reference's Texts. -/
namespace Go.Proofs.Ytboofecfmhbacaa
open Go.RowKit Go.WideMaps Go.Maps Go.Proofs.YtboofecfmhbacaaW.PrintWords Go.Proofs.YtboofecfmhbacaaW.PrintLast Go.Proofs.YtboofecfmhbacaaW.PrintMore
set_option linter.unusedVariables false
set_option linter.unusedSimpArgs false

section
open Num
variable {α : Type} [DecidableEq α]
/-- Where a key is met first. -/
def placeOf (l : List α) (x : α) : Nat := l.idxOf x
/-- Where each of the first i keys is met first. -/
def metAt (l : List α) (d : α) (i : Nat) : List Int := (List.range i).map fun j => ((placeOf l (l.getD j d) : Nat) : Int)
theorem metAt_length (l : List α) (d : α) (i : Nat) : (metAt l d i).length = i := by simp [metAt]
theorem metAt_succ (l : List α) (d : α) (i : Nat) : metAt l d (i + 1) = metAt l d i ++ [((placeOf l (l.getD i d) : Nat) : Int)] := by simp [metAt, List.range_succ]
theorem metAt_num (l : List α) (d : α) : Num.num (metAt l d l.length) = Num.num l := by
  rw [num_numR l d]
  unfold numR metAt
  refine (num_congr (fun j => ((placeOf l (l.getD j d) : Nat) : Int)) (fun j => l.getD j d) (List.range l.length) ?_).1
  intro a ha b hb
  have ha' := List.mem_range.1 ha
  have hb' := List.mem_range.1 hb
  have e1 : l.getD a d = l[a] := by simp [List.getD_eq_getElem?_getD, List.getElem?_eq_getElem ha']
  have e2 : l.getD b d = l[b] := by simp [List.getD_eq_getElem?_getD, List.getElem?_eq_getElem hb']
  rw [e1, e2]
  unfold placeOf
  constructor
  · intro h
    have h1 : l[l.idxOf l[a]]'(List.idxOf_lt_length_of_mem (List.getElem_mem ha')) = l[a] := List.getElem_idxOf _
    have h2 : l[l.idxOf l[b]]'(List.idxOf_lt_length_of_mem (List.getElem_mem hb')) = l[b] := List.getElem_idxOf _
    have h3 : l.idxOf l[a] = l.idxOf l[b] := by omega
    rw [← h1, ← h2]
    simp only [h3]
  · intro h
    rw [h]
theorem idxOf_least (l : List α) (x : α) (a : Nat) (ha : a < l.length) (hx : l[a] = x) (hno : ∀ k (h : k < a), l[k]'(by omega) ≠ x) : placeOf l x = a := by
  unfold placeOf
  have hm : x ∈ l := by rw [← hx]; exact List.getElem_mem ha
  have h1 := List.idxOf_lt_length_of_mem hm
  have h2 : l[l.idxOf x] = x := List.getElem_idxOf h1
  rcases Nat.lt_trichotomy (l.idxOf x) a with h | h | h
  · exact absurd h2 (hno _ h)
  · exact h
  · exfalso
    have h3 : l.idxOf x ≤ a := by
      have : x ∈ l.take (a + 1) := by
        rw [← hx, List.mem_take_iff_getElem]
        exact ⟨a, by omega, rfl⟩
      have h4 := List.idxOf_lt_length_of_mem this
      have h5 := idxOf_prefix (List.take_prefix (a + 1) l) this
      rw [List.length_take] at h4
      omega
    omega
end

theorem str_eq {a b : ByteArray} (h : a = b) : (a.toList == b.toList) = true := by subst h; exact beq_self_eq_true _
theorem str_ne {a b : ByteArray} (h : a ≠ b) : (a.toList == b.toList) = false := beq_eq_false_iff_ne.mpr fun e => h (by
  rw [ByteArray.toList_eq, ByteArray.toList_eq] at e
  exact Go.WideShapes.bytes_inj e)
set_option maxRecDepth 100000 in
set_option maxHeartbeats 4000000 in
theorem refTexts_walk (A0 : Option Addr) (c0 : Nat) (l : List ByteArray) (w : World) (hr : Kd.C Kd.string w A0 l.length l) (hn : l.length ≤ 1000000) :
    Calls Try.prog 22 #[.slice A0 l.length c0] w fun e w' => ∃ v, e = .returned v ∧ Kd.R (Kd.int .i64) 3 w' w.heap.size (fun _ => True) v (Num.num l) ∧ Below w.heap.size w w' := by
  have HR := Aside0.mk hr
  clear hr
  go_enter Try.func22, Try.ntmps22
  go_wp2
  go_loopw [3, 4] (fun out i wr => ∃ k : Nat, i = .int .i64 k ∧ Aside0 (k ≤ l.length ∧ Kd.R (Kd.int .i64) 3 wr w.heap.size (fun _ => True) out (metAt l ByteArray.empty k) ∧ Below w.heap.size w wr)) (fun _ i _ => l.length - (intOf i).toNat)
  case atStart => exact ⟨0, rfl, Nat.zero_le _, Kd.R_nil _ _ _ _ _, Below.refl _ _⟩
  case round =>
    obtain ⟨i, rfl, HI⟩ := hrel
    have hil := HI.out.1
    by_cases hi : i < l.length
    · go_wp2
      obtain ⟨wo, hwo⟩ : ∃ wo : World, wo = wr := ⟨_, rfl⟩
      rw [← hwo] at HI ⊢
      clear hwo
      go_loopw [5, 6] (fun a k wq => ∃ (x : Int) (m b : Nat), k = .int .i64 x ∧ a = .int .i64 b ∧ Aside0 (x = (m : Int) - 1 ∧ m ≤ i + 1 ∧ (∃ hb : b ≤ i, l[b] = l[i] ∧ ∀ k (h1 : m ≤ k) (h2 : k < b), l[k]'(by omega) ≠ l[i]) ∧ Below wo.heap.size wo wq)) (fun _ k _ => (intOf k + 1).toNat)
      case atStart => exact ⟨_, i + 1, i, rfl, rfl, by omega, Nat.le_refl _, ⟨Nat.le_refl _, rfl, fun k h1 h2 => by omega⟩, Below.refl _ _⟩
      case round =>
        obtain ⟨x, m, b, rfl, rfl, HJ⟩ := hrel
        obtain ⟨hx, hmi, ⟨hb, hbe, hbn⟩, hB⟩ := HJ.out
        cases m with
        | zero =>
          obtain rfl : x = -1 := by omega
          have hidx := idxOf_least l l[i] b (by omega) hbe (fun k h => hbn k (by omega) h)
          have HS := Aside0.mk (show metAt l ByteArray.empty i ++ [((b : Nat) : Int)] = metAt l ByteArray.empty (i + 1) by
            rw [metAt_succ, show l.getD i ByteArray.empty = l[i] by simp [List.getD_eq_getElem?_getD, List.getElem?_eq_getElem hi], hidx])
          have HK := Aside0.mk (And.intro (Kd.R_below HI.out.2.1 hB) (HI.out.2.2.trans (hB.mono HI.out.2.2.size)))
          have HL := Aside0.mk (show (metAt l ByteArray.empty i).length ≤ 1000000 by rw [metAt_length]; omega)
          clear hx hmi hbe hbn hB hidx
          go_wp2_with (at_builtin; refine append_int (w0 := w) (W := wr) w.heap.size rfl (.tmp 29) (.tmp 31) rfl _ (metAt l ByteArray.empty i) _ rfl rfl HK.out.1 HK.out.2 HK.out.2.size HL.out ?_; rintro v1 w1 hR1 hB1; rw [HS.out] at hR1; have HD := Aside0.mk (And.intro hR1 hB1); clear hR1 hB1)
          go_roundw
          case rel => exact ⟨i + 1, by go_num, by omega, HD.out.1, HD.out.2⟩
          case measure => simp [intOf]; omega
        | succ j =>
          obtain rfl : x = (j : Int) := by omega
          have HB := Aside0.mk (HI.out.2.2.trans (hB.mono HI.out.2.2.size))
          have hji : j < l.length := by omega
          obtain ⟨ad, e1, hx1⟩ := strs_at (Kd.C_below HR.out HB.out) i hi
          obtain ⟨ad', e2, hx2⟩ := strs_at (Kd.C_below HR.out HB.out) j hji
          subst e1
          obtain rfl : ad = ad' := by injection e2
          have HQB := Aside0.mk (fun m => pw_below_drewN hB m)
          by_cases h1 : l[j] = l[i]
          · have hb1 := str_eq h1
            have HK := Aside0.mk (show ∃ hb : j ≤ i, l[j] = l[i] ∧ ∀ k (h1 : j ≤ k) (h2 : k < j), l[k]'(by omega) ≠ l[i] from ⟨by omega, h1, fun k h1 h2 => by omega⟩)
            have hmi2 : j ≤ i + 1 := by omega
            clear h1 hx hmi hbe hbn hB
            go_wp2
            go_quiet (fail)
            go_wp2
            go_roundw
            case rel => exact ⟨(j : Int) - 1, j, j, by go_num, rfl, rfl, hmi2, HK.out, HQB.out nq⟩
            case measure => simp [intOf]
          · have hb1 := str_ne h1
            have HK := Aside0.mk (show ∃ hb : b ≤ i, l[b] = l[i] ∧ ∀ k (h1 : j ≤ k) (h2 : k < b), l[k]'(by omega) ≠ l[i] from ⟨hb, hbe, fun k h3 h4 => by
              by_cases e : k = j
              · subst e; exact h1
              · exact hbn k (by omega) h4⟩)
            have hmi2 : j ≤ i + 1 := by omega
            clear h1 hx hmi hbe hbn hB
            go_wp2
            go_quiet (fail)
            go_wp2
            go_roundw
            case rel => exact ⟨(j : Int) - 1, j, b, by go_num, rfl, rfl, hmi2, HK.out, HQB.out nq⟩
            case measure => simp [intOf]
    · have hi' : i = l.length := by omega
      obtain ⟨A2, c2, hu, hc2, hC2⟩ := Kd.R_reads HI.out.2.1
      rw [hi'] at hu hC2
      subst hu
      have hnum := refInts_walk A2 c2 (metAt l ByteArray.empty l.length) wr hC2 (by rw [metAt_length]; omega)
      rw [metAt_num] at hnum
      rw [metAt_length] at hnum ⊢
      have HN := Aside0.mk hnum
      clear hi' hC2 hnum
      go_wp2_with (go_at_call 21; refine HN.out.mono ?_; rintro e w9 ⟨v, rfl, hR9, hB9⟩; have HD := Aside0.mk (And.intro (Kd.R_lower hR9 HI.out.2.2.size) (HI.out.2.2.trans (hB9.mono HI.out.2.2.size))); clear hR9 hB9)
      go_ret
      exact ⟨_, rfl, HD.out.1, HD.out.2⟩
end Go.Proofs.Ytboofecfmhbacaa

/- What makes a list a partition, element by element. Plain Lean. -/
namespace Go.Proofs.Ytboofecfmhbacaa
open Num
theorem num_take {α : Type} [DecidableEq α] (l : List α) (i : Nat) : num (l.take i) = (num l).take i := by
  unfold num
  rw [← List.map_take]
  refine List.map_congr_left fun k hk => ?_
  unfold spot
  rw [idxOf_prefix (take_prefix l i) ((mem_firsts _ _).2 hk)]
theorem mem_ids (n : Nat) (x : Int) : x ∈ ids n ↔ 0 ≤ x ∧ x < n := by
  unfold ids
  rw [List.mem_map]
  constructor
  · rintro ⟨i, hi, rfl⟩
    have := List.mem_range.1 hi
    omega
  · rintro ⟨h0, h1⟩
    exact ⟨x.toNat, List.mem_range.2 (by omega), by omega⟩
theorem ids_succ (n : Nat) : ids (n + 1) = ids n ++ [(n : Int)] := by simp [ids, List.range_succ]
theorem nodup_ids (n : Nat) : (ids n).Nodup := by
  induction n with
  | zero => exact List.nodup_nil
  | succ n ih =>
    rw [ids_succ, List.nodup_append]
    refine ⟨ih, by simp, ?_⟩
    intro a ha b hb
    have h1 := (mem_ids n a).1 ha
    have h2 : b = (n : Int) := by simpa using hb
    omega
theorem spot_ids (n : Nat) (x : Int) (h0 : 0 ≤ x) (h1 : x < n) : spot (ids n) x = x := by
  obtain ⟨j, rfl⟩ := Int.eq_ofNat_of_zero_le h0
  have hj : j < n := by omega
  have h2 := (nodup_ids n).idxOf_getElem j (by rw [ids_length]; exact hj)
  rw [ids_get n j hj] at h2
  unfold spot
  rw [h2]
theorem right_firsts (a : List Int) : num a = a → firsts a = ids (firsts a).length := by
  refine list_snoc (P := fun a => num a = a → firsts a = ids (firsts a).length) (fun _ => rfl) ?_ a
  intro l x ih h
  rw [num_snoc] at h
  obtain ⟨h1, h2⟩ := List.append_inj' h rfl
  have h2 : (if x ∈ l then spot (firsts l) x else ((firsts l).length : Int)) = x := by simpa using h2
  have h3 := ih h1
  rw [firsts_snoc]
  by_cases hx : x ∈ l
  · rw [if_pos ((mem_firsts _ _).2 hx)]
    exact h3
  · rw [if_neg hx] at h2
    rw [if_neg (fun h => hx ((mem_firsts _ _).1 h)), List.length_append, List.length_singleton, ids_succ, ← h3, h2]
theorem mem_right {a : List Int} (ha : num a = a) (x : Int) : x ∈ a ↔ 0 ≤ x ∧ x < (firsts a).length := by
  rw [← mem_ids, ← right_firsts a ha, mem_firsts]
theorem right_step {a : List Int} (ha : num a = a) (x : Int) : num (a ++ [x]) = a ++ [x] ↔ 0 ≤ x ∧ x ≤ (firsts a).length := by
  rw [num_snoc, ha]
  have h0 : (a ++ [if x ∈ a then spot (firsts a) x else ((firsts a).length : Int)] = a ++ [x]) ↔ (if x ∈ a then spot (firsts a) x else ((firsts a).length : Int)) = x := by simp
  rw [h0]
  by_cases hx : x ∈ a
  · have h1 := (mem_right ha x).1 hx
    rw [if_pos hx, right_firsts a ha, spot_ids _ _ h1.1 h1.2]
    rw [← right_firsts a ha]
    exact ⟨fun _ => ⟨h1.1, by omega⟩, fun _ => rfl⟩
  · have h1 : ¬ (0 ≤ x ∧ x < (firsts a).length) := fun h => hx ((mem_right ha x).2 h)
    rw [if_neg hx]
    omega
theorem firsts_step {a : List Int} (ha : num a = a) {x : Int} (h0 : 0 ≤ x) (h1 : x ≤ (firsts a).length) : (firsts (a ++ [x])).length = if x = (firsts a).length then (firsts a).length + 1 else (firsts a).length := by
  rw [firsts_snoc]
  by_cases hx : x ∈ a
  · have h2 := (mem_right ha x).1 hx
    rw [if_pos ((mem_firsts _ _).2 hx), if_neg (by omega)]
  · have h2 : ¬ (0 ≤ x ∧ x < (firsts a).length) := fun h => hx ((mem_right ha x).2 h)
    rw [if_neg (fun h => hx ((mem_firsts _ _).1 h)), if_pos (by omega)]
    simp
theorem right_count {p : List Int} (hp : rightP p) : countP p = (firsts p).length := by
  have := count_num p
  rwa [hp.2] at this
/-- Every number below the count is one of a partition's blocks. -/
theorem right_all {p : List Int} (hp : rightP p) {b : Int} (h0 : 0 ≤ b) (h1 : b < countP p) : ∃ i, i < p.length ∧ at_ p i = b := by
  rw [right_count hp] at h1
  obtain ⟨i, hi, e⟩ := List.mem_iff_getElem.1 ((mem_right hp.2 b).2 ⟨h0, h1⟩)
  exact ⟨i, hi, by rw [at_get hi, e]⟩
end Go.Proofs.Ytboofecfmhbacaa

/- The walks of the reference's Right, Count, Next. -/
namespace Go.Proofs.Ytboofecfmhbacaa
open Go.RowKit Go.WideMaps Go.Maps Go.Proofs.YtboofecfmhbacaaW.PrintWords Go.Proofs.YtboofecfmhbacaaW.PrintLast Go.Proofs.YtboofecfmhbacaaW.PrintMore
set_option linter.unusedVariables false
set_option linter.unusedSimpArgs false

set_option maxRecDepth 100000 in
set_option maxHeartbeats 2000000 in
theorem refRight_walk (A0 : Option Addr) (c0 : Nat) (p : List Int) (w : World) (hr : Kd.C (Kd.int .i64) w A0 p.length p) (hn : p.length ≤ 1000000) :
    Calls Try.prog 47 #[.slice A0 p.length c0] w fun e w' => e = .returned (.bool (decide (rightP p))) ∧ Below w.heap.size w w' := by
  have HR := Aside0.mk hr
  clear hr
  by_cases hl : 1024 < p.length
  · have h1 : decide ((1024 : Int) < (p.length : Int)) = true := decide_eq_true (by omega)
    have HD := Aside0.mk (decide_eq_false (p := rightP p) (fun h => by have := h.1; omega))
    clear hl
    go_enter Try.func47, Try.ntmps47
    go_wp2
    go_ret
    exact ⟨by rw [HD.out]; rfl, Below.refl _ _⟩
  · have h1 : decide ((1024 : Int) < (p.length : Int)) = false := decide_eq_false (by omega)
    go_enter Try.func47, Try.ntmps47
    go_wp2
    go_loopw [3, 4] (fun n i wr => ∃ k : Nat, i = .int .i64 k ∧ n = .int .i64 (Num.firsts (p.take k)).length ∧ Aside0 (k ≤ p.length ∧ Num.num (p.take k) = p.take k ∧ Below w.heap.size w wr)) (fun _ i _ => p.length - (intOf i).toNat)
    case atStart => exact ⟨0, rfl, rfl, Nat.zero_le _, rfl, Below.refl _ _⟩
    case round =>
      obtain ⟨k, rfl, rfl, HI⟩ := hrel
      have hkl := HI.out.1
      have hfk : (Num.firsts (p.take k)).length ≤ k := by have := Num.length_firsts_le (p.take k); simp at this; omega
      by_cases hk : k < p.length
      · obtain ⟨ad, e1, hx1⟩ := ints_at (Kd.C_below HR.out HI.out.2.2) k hk
        subst e1
        have hstep := right_step HI.out.2.1 p[k]
        have hfirst := fun (h0 : 0 ≤ p[k]) (h1 : p[k] ≤ (Num.firsts (p.take k)).length) => firsts_step HI.out.2.1 h0 h1
        rw [← Num.take_succ p k hk] at hstep
        simp only [← Num.take_succ p k hk] at hfirst
        have hbad : ¬ (0 ≤ p[k] ∧ p[k] ≤ (Num.firsts (p.take k)).length) → decide (rightP p) = false := fun h => decide_eq_false fun hp => h (hstep.1 (by rw [num_take, hp.2]))
        have HB := Aside0.mk hbad
        have HS := Aside0.mk (fun h => hstep.2 h)
        have HF := Aside0.mk hfirst
        clear hstep hfirst hbad
        generalize p[k] = x at hx1 HB HS HF
        by_cases hx0 : x < 0
        · have g0 : decide (x < 0) = true := decide_eq_true hx0
          have HD := Aside0.mk (HB.out (by omega))
          clear hx0
          go_wp2
          go_ret
          exact ⟨by rw [HD.out]; rfl, HI.out.2.2⟩
        · have g0 : decide (x < 0) = false := decide_eq_false hx0
          by_cases hxn : ((Num.firsts (p.take k)).length : Int) < x
          · have g1 : decide (((Num.firsts (p.take k)).length : Int) < x) = true := decide_eq_true hxn
            have HD := Aside0.mk (HB.out (by omega))
            clear hx0 hxn
            go_wp2
            go_ret
            exact ⟨by rw [HD.out]; rfl, HI.out.2.2⟩
          · have g1 : decide (((Num.firsts (p.take k)).length : Int) < x) = false := decide_eq_false hxn
            have HK := Aside0.mk (HS.out ⟨by omega, by omega⟩)
            have hf := HF.out (by omega) (by omega)
            by_cases hxe : x = ((Num.firsts (p.take k)).length : Int)
            · have g2 : (x == ((Num.firsts (p.take k)).length : Int)) = true := beq_iff_eq.mpr hxe
              rw [if_pos hxe] at hf
              have HE := Aside0.mk hf
              clear hf hxe hx0 hxn
              go_wp2
              go_roundw
              case rel => exact ⟨k + 1, by go_num, by rw [HE.out]; go_num, by omega, HK.out, HI.out.2.2⟩
              case measure => simp [intOf]; omega
            · have g2 : (x == ((Num.firsts (p.take k)).length : Int)) = false := beq_eq_false_iff_ne.mpr hxe
              rw [if_neg hxe] at hf
              have HE := Aside0.mk hf
              clear hf hxe hx0 hxn
              go_wp2
              go_roundw
              case rel => exact ⟨k + 1, by go_num, by rw [HE.out], by omega, HK.out, HI.out.2.2⟩
              case measure => simp [intOf]; omega
      · have hk' : k = p.length := by omega
        have HD := Aside0.mk (show decide (rightP p) = true from decide_eq_true ⟨by omega, by have h := HI.out.2.1; rwa [hk', List.take_length] at h⟩)
        clear hk'
        go_wp2
        go_ret
        exact ⟨by rw [HD.out]; rfl, HI.out.2.2⟩

set_option maxRecDepth 100000 in
set_option maxHeartbeats 2000000 in
theorem refCount_walk (A0 : Option Addr) (c0 : Nat) (p : List Int) (w : World) (hr : Kd.C (Kd.int .i64) w A0 p.length p) (hp : rightP p) :
    Calls Try.prog 59 #[.slice A0 p.length c0] w fun e w' => e = .returned (.int .i64 (countP p)) ∧ Below w.heap.size w w' := by
  have HR := Aside0.mk hr
  have hn := hp.1
  have HP := Aside0.mk hp
  rw [right_count hp]
  clear hr hp
  go_enter Try.func59, Try.ntmps59
  go_wp2
  go_loopw [3, 4] (fun n i wr => ∃ k : Nat, i = .int .i64 k ∧ n = .int .i64 (Num.firsts (p.take k)).length ∧ Aside0 (k ≤ p.length ∧ Below w.heap.size w wr)) (fun _ i _ => p.length - (intOf i).toNat)
  case atStart => exact ⟨0, rfl, rfl, Nat.zero_le _, Below.refl _ _⟩
  case round =>
    obtain ⟨k, rfl, rfl, HI⟩ := hrel
    have hkl := HI.out.1
    have hfk : (Num.firsts (p.take k)).length ≤ k := by have := Num.length_firsts_le (p.take k); simp at this; omega
    by_cases hk : k < p.length
    · obtain ⟨ad, e1, hx1⟩ := ints_at (Kd.C_below HR.out HI.out.2) k hk
      subst e1
      have hpk : ∀ j, Num.num (p.take j) = p.take j := fun j => by rw [num_take, HP.out.2]
      have hstep := right_step (hpk k) p[k]
      rw [← Num.take_succ p k hk] at hstep
      obtain ⟨h0, h1⟩ := hstep.1 (hpk (k + 1))
      have hf := firsts_step (hpk k) h0 h1
      rw [← Num.take_succ p k hk] at hf
      clear hpk hstep
      generalize p[k] = x at hx1 h0 h1 hf
      by_cases hxe : x = ((Num.firsts (p.take k)).length : Int)
      · have g2 : decide (((Num.firsts (p.take k)).length : Int) ≤ x) = true := decide_eq_true (by omega)
        rw [if_pos hxe] at hf
        have HE := Aside0.mk hf
        have HX := Aside0.mk hxe
        have hx9 : x ≤ 1024 := by omega
        clear hf hxe h1
        go_wp2
        go_roundw
        case rel => exact ⟨k + 1, by go_num, by rw [HE.out, HX.out]; go_num, by omega, HI.out.2⟩
        case measure => simp [intOf]; omega
      · have g2 : decide (((Num.firsts (p.take k)).length : Int) ≤ x) = false := decide_eq_false (by omega)
        rw [if_neg hxe] at hf
        have HE := Aside0.mk hf
        clear hf hxe h1
        go_wp2
        go_roundw
        case rel => exact ⟨k + 1, by go_num, by rw [HE.out], by omega, HI.out.2⟩
        case measure => simp [intOf]; omega
    · have hk' : k = p.length := by omega
      have HD := Aside0.mk hk'
      clear hk'
      go_wp2
      go_ret
      exact ⟨by rw [HD.out, List.take_length]; rfl, HI.out.2⟩

set_option maxRecDepth 100000 in
set_option maxHeartbeats 2000000 in
theorem refNext_walk (n : Nat) (A0 : Option Addr) (c0 : Nat) (l : List (List Int)) (w : World) (hr : Kd.C (Kd.slice 3 (Kd.int .i64)) w A0 l.length l) (hn : n ≤ 1000000) :
    Calls Try.prog 48 #[.int .i64 n, .slice A0 l.length c0] w fun e w' => e = .returned (.bool (decide (nextP n l))) ∧ Below w.heap.size w w' := by
  have hb := len_le hr
  have HR := Aside0.mk hr
  clear hr
  by_cases hl : l.length = n
  · have h1 : ((l.length : Int) == (n : Int)) = true := beq_iff_eq.mpr (by omega)
    have h2 : ((l.length : Int) != (n : Int)) = false := bne_eq_false_iff_eq.mpr (by omega)
    have h3 : (l.length == n) = true := by simpa using hl
    have HL := Aside0.mk hl
    clear hl
    go_enter Try.func48, Try.ntmps48
    go_wp2
    clear h1 h2 h3
    go_loopw [5] (fun i wr => ∃ k : Nat, i = .int .i64 k ∧ Aside0 (k ≤ n ∧ (∀ x, x ∈ l.take k → x.length ≤ 64 ∧ ∀ y, y ∈ x → 0 ≤ y ∧ y < n) ∧ Below w.heap.size w wr)) (fun i _ => n - (intOf i).toNat)
    case atStart => exact ⟨0, rfl, Nat.zero_le _, fun x hx => by simp at hx, Below.refl _ _⟩
    case round =>
      obtain ⟨k, rfl, HI⟩ := hrel
      have hkl := HI.out.1
      by_cases hk : k < n
      · have hk2 : k < l.length := by rw [HL.out]; exact hk
        obtain ⟨ad, A1, d1, e1, hx1, hd1, hD1⟩ := rows_at (Kd.C_below HR.out HI.out.2.2) k hk2
        subst e1
        have HD1 := Aside0.mk hD1
        have hb1 := len_le hD1
        have HT := Aside0.mk (Num.take_succ l k hk2)
        have HM := Aside0.mk (List.getElem_mem hk2)
        clear hD1
        by_cases h64 : 64 < l[k].length
        · have g0 : decide ((64 : Int) < (l[k].length : Int)) = true := decide_eq_true (by omega)
          have HD := Aside0.mk (decide_eq_false (p := nextP n l) (fun h => by have := (h.2 _ HM.out).1; omega))
          clear h64
          go_wp2
          go_ret
          exact ⟨by rw [HD.out]; rfl, HI.out.2.2⟩
        · have g0 : decide ((64 : Int) < (l[k].length : Int)) = false := decide_eq_false (by omega)
          go_wp2
          obtain ⟨wo, hwo⟩ : ∃ wo : World, wo = wr := ⟨_, rfl⟩
          rw [← hwo] at HI HD1 hx1 ⊢
          clear hwo
          go_loopw [6] (fun i wq => ∃ j : Nat, i = .int .i64 j ∧ wq = wo ∧ Aside0 (j ≤ l[k].length ∧ ∀ y, y ∈ l[k].take j → 0 ≤ y ∧ y < n)) (fun i _ => l[k].length - (intOf i).toNat)
          case atStart => exact ⟨0, rfl, rfl, Nat.zero_le _, fun y hy => by simp at hy⟩
          case round =>
            obtain ⟨j, rfl, rfl, HJ⟩ := hrel
            have hjl := HJ.out.1
            by_cases hj : j < l[k].length
            · obtain ⟨ad2, e2, hx2⟩ := ints_at HD1.out j hj
              subst e2
              have HM2 := Aside0.mk (List.getElem_mem hj)
              have HT2 := Aside0.mk (Num.take_succ l[k] j hj)
              have hgood : 0 ≤ l[k][j] → l[k][j] < n → ∀ y, y ∈ l[k].take (j + 1) → 0 ≤ y ∧ y < n := fun h0 h1 y hy => by
                rw [HT2.out] at hy
                rcases List.mem_append.1 hy with hy | hy
                · exact HJ.out.2 y hy
                · rw [List.mem_singleton.1 hy]; exact ⟨h0, h1⟩
              have hbad : ¬ (0 ≤ l[k][j] ∧ l[k][j] < n) → decide (nextP n l) = false := fun h => decide_eq_false fun hp => h ((hp.2 _ HM.out).2 _ HM2.out)
              have HG := Aside0.mk hgood
              have HBD := Aside0.mk hbad
              clear hgood hbad
              generalize l[k][j] = x at hx2 HG HBD
              by_cases hx0 : x < 0
              · have g1 : decide (x < 0) = true := decide_eq_true hx0
                have HD := Aside0.mk (HBD.out (by omega))
                clear hx0
                go_wp2
                go_ret
                exact ⟨by rw [HD.out]; rfl, HI.out.2.2⟩
              · have g1 : decide (x < 0) = false := decide_eq_false hx0
                by_cases hxn : (n : Int) ≤ x
                · have g2 : decide ((n : Int) ≤ x) = true := decide_eq_true hxn
                  have HD := Aside0.mk (HBD.out (by omega))
                  clear hx0 hxn
                  go_wp2
                  go_ret
                  exact ⟨by rw [HD.out]; rfl, HI.out.2.2⟩
                · have g2 : decide ((n : Int) ≤ x) = false := decide_eq_false hxn
                  have HK := Aside0.mk (HG.out (by omega) (by omega))
                  clear hx0 hxn
                  go_wp2
                  go_roundw
                  case rel => exact ⟨j + 1, by go_num, by first | rfl | trivial, by omega, HK.out⟩
                  case measure => simp [intOf]; omega
            · have hj' : j = l[k].length := by omega
              have HK := Aside0.mk (show ∀ x, x ∈ l.take (k + 1) → x.length ≤ 64 ∧ ∀ y, y ∈ x → 0 ≤ y ∧ y < n from fun x hx => by
                rw [HT.out] at hx
                rcases List.mem_append.1 hx with hx | hx
                · exact HI.out.2.1 x hx
                · rw [List.mem_singleton.1 hx]
                  refine ⟨by omega, fun y hy => HJ.out.2 y ?_⟩
                  rw [hj', List.take_length]
                  exact hy)
              clear hj'
              go_wp2
              go_roundw
              case rel => exact ⟨k + 1, by go_num, by omega, HK.out, HI.out.2.2⟩
              case measure => simp [intOf]; omega
      · have hk' : k = l.length := by rw [HL.out]; omega
        have HD := Aside0.mk (show decide (nextP n l) = true from decide_eq_true ⟨HL.out, fun x hx => HI.out.2.1 x (by rw [hk', List.take_length]; exact hx)⟩)
        clear hk'
        go_wp2
        go_ret
        exact ⟨by rw [HD.out]; rfl, HI.out.2.2⟩
  · have h1 : ((l.length : Int) == (n : Int)) = false := beq_eq_false_iff_ne.mpr (by omega)
    have h2 : ((l.length : Int) != (n : Int)) = true := bne_iff_ne.mpr (by omega)
    have h3 : (l.length == n) = false := by simpa using hl
    have HD := Aside0.mk (decide_eq_false (p := nextP n l) (fun h => hl h.1))
    clear hl
    go_enter Try.func48, Try.ntmps48
    go_wp2
    go_ret
    exact ⟨by rw [HD.out]; rfl, Below.refl _ _⟩
end Go.Proofs.Ytboofecfmhbacaa

/- The walks of the laws' helpers Made, two. -/
namespace Go.Proofs.Ytboofecfmhbacaa
open Go.RowKit Go.WideMaps Go.Maps Go.Proofs.YtboofecfmhbacaaW.PrintWords Go.Proofs.YtboofecfmhbacaaW.PrintLast Go.Proofs.YtboofecfmhbacaaW.PrintMore
attribute [local go_sem] max_two min_two max_three min_three
set_option linter.unusedVariables false
set_option linter.unusedSimpArgs false

theorem info5 : (Try.prog.info? 5).map (fun i => (i.zero, i.size, i.bytes)) = some (some (.int .u8 0), 1, 1) := by kernel_rfl
/-- l[:n] of numbers. -/
theorem cut_ints {t e : TypeId} {k : IntKind} {z : Value} {bytes : Nat} (ht : Try.prog.underlying t = some (.slice e)) (hi : (Try.prog.info? e).map (fun i => (i.zero, i.size, i.bytes)) = some (some z, 1, bytes)) (A : Option Addr) (c : Nat) (l : List Int) (n : Nat) (hn : n ≤ l.length) (hc : l.length ≤ c) :
    (∀ W : World, (Instr.slice t (.slice A l.length c) none (some (.int .i64 (n : Int))) none).run Try.prog W = .ok (.slice A n c) W) ∧ ∀ w : World, Kd.C (Kd.int k) w A l.length l → Kd.C (Kd.int k) w A n (l.take n) := by
  obtain ⟨i0, hi, hzz⟩ := Option.map_eq_some_iff.1 hi
  simp only [Prod.mk.injEq] at hzz
  have h := print_take_of (P := Try.prog) (Value.int k) (0 : Int) t e .i64 ht hi hzz.2.1 A c l (n : Int) (by omega) (by omega) hc
  rw [Int.toNat_natCast, List.length_take, Nat.min_eq_left hn] at h
  exact ⟨h.1, fun w hC => Kd.C_of_reads (h1 := fun _ => rfl) (h.2.1 w (Kd.reads_of_C hC))⟩

set_option maxRecDepth 100000 in
set_option maxHeartbeats 2000000 in
theorem made_walk (A0 : Option Addr) (c0 : Nat) (l : List Int) (w : World) (hr : Kd.C (Kd.int .u8) w A0 l.length l) (hw : ∀ y ∈ l, (Lit.int .u8 y).wf = true) (hc : l.length ≤ c0) :
    Calls Try.prog 25 #[.slice A0 l.length c0] w fun e w' => ∃ v p, e = .returned v ∧ rightP p ∧ p.length = min l.length 30 ∧ Kd.R (Kd.int .i64) 3 w' w.heap.size (fun _ => True) v p ∧ Below w.heap.size w w' := by
  have hb := len_le hr
  obtain ⟨n, hn⟩ : ∃ n, n = min l.length 30 := ⟨_, rfl⟩
  obtain ⟨hcut, hC⟩ := cut_ints (k := .u8) Try.underlying39 info5 A0 c0 l n (by omega) hc
  have HR := Aside0.mk (hC w hr)
  have HW := Aside0.mk (fun y (hy : y ∈ l.take n) => hw y (List.mem_of_mem_take hy))
  have hl : (l.take n).length = n := by rw [List.length_take]; omega
  have hn30 : n ≤ 30 := by omega
  have HN := Aside0.mk hn
  generalize l.take n = q at HR HW hl
  have HL := Aside0.mk hl
  have hmn : Builtin.min2 (.int .i64 (l.length : Int)) (.int .i64 30) = pure (.int .i64 (n : Int)) := by
    rw [min2_int]
    by_cases h : (30 : Int) < (l.length : Int)
    · rw [if_pos h, show ((n : Nat) : Int) = 30 by omega]
    · rw [if_neg h, show ((n : Nat) : Int) = (l.length : Int) by omega]
  rw [← hn]
  clear hr hw hC hn hl
  go_enter Try.func25, Try.ntmps25
  go_wp2
  clear hmn
  go_loopw [3, 4, 14] (fun out m i wr => ∃ (k : Nat) (p : List Int), i = .int .i64 k ∧ m = .int .i64 (Num.firsts p).length ∧ Aside0 (k ≤ n ∧ p.length = k ∧ Num.num p = p ∧ Kd.R (Kd.int .i64) 3 wr w.heap.size (fun _ => True) out p ∧ Below w.heap.size w wr)) (fun _ _ i _ => n - (intOf i).toNat)
  case atStart => exact ⟨0, [], rfl, rfl, Nat.zero_le _, rfl, rfl, Kd.R_nil _ _ _ _ _, Below.refl _ _⟩
  case round =>
    obtain ⟨k, p, rfl, rfl, HI⟩ := hrel
    have hkl := HI.out.1
    have hfk : (Num.firsts p).length ≤ k := by have := Num.length_firsts_le p; have := HI.out.2.1; omega
    by_cases hk : k < n
    · obtain ⟨ad, e1, hx1⟩ := ints_at (l := q) (by rw [HL.out]; exact Kd.C_below HR.out HI.out.2.2.2.2) k (by rw [HL.out]; exact hk)
      subst e1
      have hx0 := HW.out _ (List.getElem_mem (l := q) (n := k) (by rw [HL.out]; exact hk))
      obtain ⟨x, hx⟩ : ∃ x : Nat, q[k]'(by rw [HL.out]; exact hk) = x ∧ x ≤ 255 := ⟨(q[k]'(by rw [HL.out]; exact hk)).toNat, by have := Go.bounds_u8 hx0; omega⟩
      rw [hx.1] at hx1
      have hx2 := hx.2
      clear hx hx0
      generalize hm : (Num.firsts p).length = m at hfk
      have HM := Aside0.mk hm
      clear hm
      have hy0 : 0 ≤ (x : Int) % ((m : Int) + 1) := Int.emod_nonneg _ (by omega)
      have hy1 : (x : Int) % ((m : Int) + 1) < (m : Int) + 1 := Int.emod_lt_of_pos _ (by omega)
      have HS := Aside0.mk ((right_step HI.out.2.2.1 ((x : Int) % ((m : Int) + 1))).2 ⟨hy0, by rw [HM.out]; omega⟩)
      have HF := Aside0.mk (firsts_step HI.out.2.2.1 hy0 (by rw [HM.out]; omega))
      have HLP := Aside0.mk (show p.length ≤ 1000000 by have := HI.out.2.1; omega)
      by_cases hym : (x : Int) % ((m : Int) + 1) = (m : Int)
      · have g1 : ((x : Int) % ((m : Int) + 1) == (m : Int)) = true := beq_iff_eq.mpr hym
        have HE := Aside0.mk (show (Num.firsts (p ++ [(x : Int) % ((m : Int) + 1)])).length = m + 1 by rw [HF.out, HM.out, if_pos hym])
        clear hym hy0 hy1
        go_wp2_with (at_builtin; refine append_int (w0 := w) (W := wr) w.heap.size rfl (.tmp 28) (.tmp 30) rfl _ p _ rfl rfl HI.out.2.2.2.1 HI.out.2.2.2.2 HI.out.2.2.2.2.size HLP.out ?_; rintro v1 w1 hR1 hB1; have HK := Aside0.mk (And.intro hR1 hB1); clear hR1 hB1)
        go_roundw
        case rel => exact ⟨k + 1, _, by go_num, by rw [HE.out]; go_num, by omega, by rw [List.length_append, HI.out.2.1]; rfl, HS.out, HK.out.1, HK.out.2⟩
        case measure => simp [intOf]; omega
      · have g1 : ((x : Int) % ((m : Int) + 1) == (m : Int)) = false := beq_eq_false_iff_ne.mpr hym
        have HE := Aside0.mk (show (Num.firsts (p ++ [(x : Int) % ((m : Int) + 1)])).length = m by rw [HF.out, HM.out, if_neg hym])
        clear hym hy0 hy1
        go_wp2_with (at_builtin; refine append_int (w0 := w) (W := wr) w.heap.size rfl (.tmp 28) (.tmp 30) rfl _ p _ rfl rfl HI.out.2.2.2.1 HI.out.2.2.2.2 HI.out.2.2.2.2.size HLP.out ?_; rintro v1 w1 hR1 hB1; have HK := Aside0.mk (And.intro hR1 hB1); clear hR1 hB1)
        go_roundw
        case rel => exact ⟨k + 1, _, by go_num, by rw [HE.out], by omega, by rw [List.length_append, HI.out.2.1]; rfl, HS.out, HK.out.1, HK.out.2⟩
        case measure => simp [intOf]; omega
    · have hk' : k = n := by omega
      have HP := Aside0.mk (show rightP p from ⟨by have := HI.out.2.1; omega, HI.out.2.2.1⟩)
      have HPL := Aside0.mk (show p.length = n by rw [HI.out.2.1]; exact hk')
      clear hk'
      go_wp2
      go_ret
      exact ⟨_, p, rfl, HP.out, HPL.out, HI.out.2.2.2.1, HI.out.2.2.2.2⟩
end Go.Proofs.Ytboofecfmhbacaa

/- The walk of the laws' helper Follows. -/
namespace Go.Proofs.Ytboofecfmhbacaa
open Go.RowKit Go.WideMaps Go.Maps Go.Proofs.YtboofecfmhbacaaW.PrintWords Go.Proofs.YtboofecfmhbacaaW.PrintLast Go.Proofs.YtboofecfmhbacaaW.PrintMore
set_option linter.unusedVariables false
set_option linter.unusedSimpArgs false

/-- The lists that Follows has made so far: element i has k tries behind it. -/
def Few (n : Nat) (ls : List (List Int)) (i k : Nat) : Prop := ∀ b (h : b < ls.length), (∀ y ∈ ls[b], 0 ≤ y ∧ y < n) ∧ ls[b].length ≤ (if b < i then 3 else if b = i then k else 0)
theorem Few.start (n : Nat) : Few n (List.replicate n []) 0 0 := fun b h => by simp
theorem Few.skip {n : Nat} {ls : List (List Int)} {i k : Nat} (h : Few n ls i k) : Few n ls i (k + 1) := fun b hb => ⟨(h b hb).1, by
  have := (h b hb).2
  split at this <;> split <;> try omega
  · split at this <;> split <;> omega⟩
theorem Few.next {n : Nat} {ls : List (List Int)} {i : Nat} (h : Few n ls i 3) : Few n ls (i + 1) 0 := fun b hb => ⟨(h b hb).1, by
  have h2 := (h b hb).2
  by_cases h3 : b < i
  · rw [if_pos h3] at h2; rw [if_pos (by omega)]; exact h2
  · rw [if_neg h3] at h2
    by_cases h4 : b = i
    · rw [if_pos h4] at h2; rw [if_pos (by omega)]; exact h2
    · rw [if_neg h4] at h2; rw [if_neg (by omega)]; split <;> omega⟩
theorem Few.put {n : Nat} {ls : List (List Int)} {i k : Nat} (h : Few n ls i k) (hi : i < ls.length) {y : Int} (h0 : 0 ≤ y) (h1 : y < n) : Few n (ls.set i (ls[i] ++ [y])) i (k + 1) := fun b hb => by
  have hb' : b < ls.length := by simpa using hb
  by_cases e : b = i
  · subst e
    rw [List.getElem_set_self]
    refine ⟨fun z hz => ?_, ?_⟩
    · rcases List.mem_append.1 hz with hz | hz
      · exact (h b hb').1 z hz
      · rw [List.mem_singleton.1 hz]; exact ⟨h0, h1⟩
    · have := (h b hb').2
      simp at this ⊢
      omega
  · rw [List.getElem_set_ne (Ne.symm e)]
    exact h.skip b hb'
theorem Few.done {n : Nat} {ls : List (List Int)} (h : Few n ls n 0) (hl : ls.length = n) : nextP n ls := by
  refine ⟨hl, fun l hm => ?_⟩
  obtain ⟨b, hb, rfl⟩ := List.mem_iff_getElem.1 hm
  have h2 := h b hb
  rw [if_pos (by omega)] at h2
  exact ⟨by omega, h2.1⟩

set_option maxRecDepth 100000 in
set_option maxHeartbeats 4000000 in
theorem follows_walk (n : Nat) (A0 : Option Addr) (c0 : Nat) (l : List Int) (w : World) (hr : Kd.C (Kd.int .u8) w A0 l.length l) (hw : ∀ y ∈ l, (Lit.int .u8 y).wf = true) (hn : n ≤ 30) :
    Calls Try.prog 26 #[.int .i64 n, .slice A0 l.length c0] w fun e w' => ∃ v next, e = .returned v ∧ nextP n next ∧ Kd.R (Kd.slice 3 (Kd.int .i64)) 22 w' w.heap.size (fun _ => True) v next ∧ Below w.heap.size w w' := by
  have hb := len_le hr
  have HR := Aside0.mk hr
  have HW := Aside0.mk hw
  have hmk := print_make_of 36 22 (.slice none 0 0) 24 Try.underlying36 info22 rfl (by decide) n (by omega)
  clear hr hw
  go_enter Try.func26, Try.ntmps26
  go_wp2
  go_loopw [13] (fun i wr => ∃ (k : Nat) (vs : List Value) (ls : List (List Int)), i = .int .i64 k ∧ Aside0 (k ≤ n ∧ Rows w w.heap.size wr (some ⟨w.heap.size, 0, none⟩) n n vs ls ∧ Few n ls k 0)) (fun i _ => n - (intOf i).toNat)
  case atStart => exact ⟨0, _, _, rfl, Nat.zero_le _, Rows.made w w w.heap.size n (Below.refl _ _) (Nat.le_refl _) (by omega), Few.start n⟩
  case round =>
    obtain ⟨i, vs, ls, rfl, HI⟩ := hrel
    have hil := HI.out.1
    by_cases hi : i < n
    · go_wp2
      go_loopw [16] (fun k wr => ∃ (j : Nat) (vs : List Value) (ls : List (List Int)), k = .int .i64 j ∧ Aside0 (j ≤ 3 ∧ Rows w w.heap.size wr (some ⟨w.heap.size, 0, none⟩) n n vs ls ∧ Few n ls i j)) (fun k _ => 3 - (intOf k).toNat)
      case atStart => exact ⟨0, vs, ls, rfl, by omega, HI.out.2.1, HI.out.2.2⟩
      case round =>
        clear HI vs ls
        obtain ⟨j, vs, ls, rfl, HJ⟩ := hrel
        have hjl := HJ.out.1
        by_cases hj : j < 3
        · by_cases hx : 3 * i + j < l.length
          · obtain ⟨ad, e1, hx1⟩ := ints_at (Kd.C_below HR.out HJ.out.2.1.below) (3 * i + j) hx
            subst e1
            have hxw := Go.bounds_u8 (HW.out _ (List.getElem_mem hx))
            obtain ⟨x, hxe⟩ : ∃ x : Nat, l[3 * i + j] = x := ⟨l[3 * i + j].toNat, by omega⟩
            have hx255 : x ≤ 255 := by omega
            rw [hxe] at hx1
            have g0 : decide ((3 : Int) * (i : Int) + (j : Int) < (l.length : Int)) = true := decide_eq_true (by omega)
            clear hxe hxw
            by_cases h200 : x < 200
            · have g1 : decide ((x : Int) < 200) = true := decide_eq_true (by omega)
              obtain ⟨hc, hf⟩ := HJ.out.2.1.cell i hi
              have hb1 : i < vs.length := by rw [HJ.out.2.1.vlen]; exact hi
              have hb2 : i < ls.length := by rw [HJ.out.2.1.len]; exact hi
              have hO := HJ.out.2.1.inner i hi hb1 hb2
              obtain ⟨A4, c4, hv4⟩ := own_shape hO
              have hy0 : 0 ≤ (x : Int) % (n : Int) := Int.emod_nonneg _ (by omega)
              have hy1 : (x : Int) % (n : Int) < (n : Int) := Int.emod_lt_of_pos _ (by omega)
              have HF := Aside0.mk (HJ.out.2.2.put hb2 hy0 hy1)
              have hll := (HJ.out.2.2 i hb2).2
              rw [if_neg (Nat.lt_irrefl i), if_pos rfl] at hll
              have HL := Aside0.mk (show (ls[i].length + 1) * 8 ≤ 140737488355328 by omega)
              have HO := Aside0.mk (show Kd.R (Kd.int .i64) 3 wr.drew w.heap.size (fun _ => True) vs[i] ls[i] from Kd.R_drew (Kd.R_of_own (h1 := fun _ => rfl) (enc := Value.int .i64) hO (fun _ _ => trivial)))
              have HRD := Aside0.mk (HJ.out.2.1.lift (below_drew (Below.refl wr.heap.size wr)) HJ.out.2.1.below.size)
              rw [hv4] at hc
              have HV := Aside0.mk hv4
              have hn0 : ¬ n = 0 := by omega
              have hwr : IntKind.i64.wrap (x : Int) = (x : Int) := by rw [IntKind.wrap_i64]; omega
              have htm : (x : Int).tmod (n : Int) = (x : Int) % (n : Int) := Int.tmod_eq_emod_of_nonneg (by omega)
              have hq1 : (0 : Int) ≤ 3 * (i : Int) + (j : Int) := by omega
              have hq2 : (3 : Int) * (i : Int) + (j : Int) < (l.length : Int) := by omega
              have hq3 : ((3 : Int) * (i : Int) + (j : Int)).toNat = 3 * i + j := by omega
              have hcA : ∀ o, (wr.alloc o).cell? ⟨w.heap.size, i, none⟩ = some (.slice A4 ls[i].length c4) := fun o => pw_cell_below (lit_below wr o) hc
              have hxA : ∀ o, (wr.alloc o).cell? (ad.add (3 * i + j)) = some (.int .u8 (x : Int)) := fun o => pw_cell_below (lit_below wr o) hx1
              clear hO hv4 hy0 hy1 hll
              go_wp2
              go_region_law (refine Kd.R_append_step (Kd.int .i64) (w0 := w) (W := wr.drew) w.heap.size (by rfl) (.tmp 39) (.tmp 47) 22 3 (.int .i64 0) 8 rfl Try.underlying22 info3 rfl (by decide) (by decide) (.slice A4 ls[i].length c4) ls[i] _ [.int .i64 ((x : Int) % (n : Int))] (fun _ => True) _ rfl rfl rfl (fun _ h => h) (fun _ _ => trivial) (by rw [← HV.out]; exact HO.out) HRD.out.below HRD.out.below.size HL.out ?_; rintro v1 w3 hR3 hB3 hg hat; rw [← HV.out] at hg hat; obtain ⟨⟨v9, hc9⟩, hf9, hrows⟩ := HRD.out.append i hi hb1 hb2 (Kd.own_of_R hR3) hB3 hg hat; obtain ⟨A5, c5, rfl⟩ := R_shape (n := ls[i].length + 1) hR3 (by simp); have HK := Aside0.mk hrows; clear hR3 hB3 hg hat hrows)
              all_goals
                go_wp2
                go_roundw
                case rel => exact ⟨j + 1, _, _, by go_num, by omega, HK.out, HF.out⟩
                case measure => simp [intOf]; omega
            · have g1 : decide ((x : Int) < 200) = false := decide_eq_false (by omega)
              go_wp2
              go_roundw
              case rel => exact ⟨j + 1, vs, ls, by go_num, by omega, HJ.out.2.1, HJ.out.2.2.skip⟩
              case measure => simp [intOf]; omega
          · have g0 : decide ((3 : Int) * (i : Int) + (j : Int) < (l.length : Int)) = false := decide_eq_false (by omega)
            go_wp2
            go_roundw
            case rel => exact ⟨j + 1, vs, ls, by go_num, by omega, HJ.out.2.1, HJ.out.2.2.skip⟩
            case measure => simp [intOf]; omega
        · have hj' : j = 3 := by omega
          have HF := Aside0.mk (show Few n ls (i + 1) 0 from (by have h := HJ.out.2.2; rw [hj'] at h; exact h.next))
          clear hj'
          go_wp2
          go_roundw
          case rel => exact ⟨i + 1, _, _, by go_num, by omega, HJ.out.2.1, HF.out⟩
          case measure => simp [intOf]; omega
    · have hi' : i = n := by omega
      have HD := Aside0.mk (show Kd.R (Kd.slice 3 (Kd.int .i64)) 22 wr w.heap.size (fun _ => True) (.slice (some ⟨w.heap.size, 0, none⟩) n n) ls ∧ nextP n ls from ⟨HI.out.2.1.done, (by have h := HI.out.2.2; rw [hi'] at h; exact h.done HI.out.2.1.len)⟩)
      clear hi'
      go_wp2
      go_ret
      exact ⟨_, _, rfl, HD.out.2, HD.out.1, HI.out.2.1.below⟩
end Go.Proofs.Ytboofecfmhbacaa

/- The walk of the laws' helper two. -/
namespace Go.Proofs.Ytboofecfmhbacaa
open Go.RowKit Go.WideMaps Go.Maps Go.Proofs.YtboofecfmhbacaaW.PrintWords Go.Proofs.YtboofecfmhbacaaW.PrintLast Go.Proofs.YtboofecfmhbacaaW.PrintMore
attribute [local go_sem] max_two min_two max_three min_three
set_option linter.unusedVariables false
set_option linter.unusedSimpArgs false

theorem madeC_walk (A0 : Option Addr) (c0 : Nat) (l : List Int) (w : World) (hr : Kd.C (Kd.int .u8) w A0 l.length l) (hw : ∀ y ∈ l, (Lit.int .u8 y).wf = true) (hc : l.length ≤ c0) :
    Calls Try.prog 25 #[.slice A0 l.length c0] w fun e w' => ∃ (A : Option Addr) (c : Nat) (p : List Int), e = .returned (.slice A p.length c) ∧ rightP p ∧ p.length = min l.length 30 ∧ Kd.C (Kd.int .i64) w' A p.length p ∧ Below w.heap.size w w' := by
  refine (made_walk A0 c0 l w hr hw hc).mono ?_
  rintro e w' ⟨v, p, rfl, hp, hl, hR, hB⟩
  obtain ⟨A, c, rfl, hC⟩ := r_read hR rfl
  exact ⟨A, c, p, rfl, hp, hl, hC, hB⟩
theorem madeN_walk (A0 : Option Addr) (c0 n : Nat) (l : List Int) (w : World) (hl : l.length = n) (hr : Kd.C (Kd.int .u8) w A0 n l) (hw : ∀ y ∈ l, (Lit.int .u8 y).wf = true) (hc : n ≤ c0) (hn : n ≤ 30) :
    Calls Try.prog 25 #[.slice A0 n c0] w fun e w' => ∃ (A : Option Addr) (c : Nat) (p : List Int), e = .returned (.slice A n c) ∧ rightP p ∧ p.length = n ∧ Kd.C (Kd.int .i64) w' A n p ∧ Below w.heap.size w w' := by
  subst hl
  refine (madeC_walk A0 c0 l w hr hw hc).mono ?_
  rintro e w' ⟨A, c, p, rfl, hp, hpl, hC, hB⟩
  have : p.length = l.length := by omega
  rw [this] at hC ⊢
  exact ⟨A, c, p, rfl, hp, this, hC, hB⟩
theorem followsC_walk (n : Nat) (A0 : Option Addr) (c0 : Nat) (l : List Int) (w : World) (hr : Kd.C (Kd.int .u8) w A0 l.length l) (hw : ∀ y ∈ l, (Lit.int .u8 y).wf = true) (hn : n ≤ 30) :
    Calls Try.prog 26 #[.int .i64 n, .slice A0 l.length c0] w fun e w' => ∃ (A : Option Addr) (c : Nat) (next : List (List Int)), e = .returned (.slice A next.length c) ∧ nextP n next ∧ Kd.C (Kd.slice 3 (Kd.int .i64)) w' A next.length next ∧ Below w.heap.size w w' := by
  refine (follows_walk n A0 c0 l w hr hw hn).mono ?_
  rintro e w' ⟨v, next, rfl, hN, hR, hB⟩
  obtain ⟨A, c, rfl, hC⟩ := r_read hR rfl
  exact ⟨A, c, next, rfl, hN, hC, hB⟩

theorem min2_nat (a b : Nat) : Builtin.min2 (.int .i64 (a : Int)) (.int .i64 (b : Int)) = pure (.int .i64 ((min a b : Nat) : Int)) := by
  rw [min2_int]
  by_cases h : (b : Int) < (a : Int)
  · rw [if_pos h, show ((min a b : Nat) : Int) = (b : Int) by omega]
  · rw [if_neg h, show ((min a b : Nat) : Int) = (a : Int) by omega]
theorem min2_c (a : Nat) : Builtin.min2 (.int .i64 (a : Int)) (.int .i64 30) = pure (.int .i64 ((min a 30 : Nat) : Int)) := min2_nat a 30

set_option maxRecDepth 100000 in
set_option maxHeartbeats 2000000 in
theorem two_walk (A0 : Option Addr) (c0 : Nat) (k : List Int) (A1 : Option Addr) (c1 : Nat) (l : List Int) (w : World) (hr0 : Kd.C (Kd.int .u8) w A0 k.length k) (hw0 : ∀ y ∈ k, (Lit.int .u8 y).wf = true) (hc0 : k.length ≤ c0) (hr1 : Kd.C (Kd.int .u8) w A1 l.length l) (hw1 : ∀ y ∈ l, (Lit.int .u8 y).wf = true) (hc1 : l.length ≤ c1) :
    Calls Try.prog 33 #[.slice A0 k.length c0, .slice A1 l.length c1] w fun e w' => ∃ (n : Nat) (A : Option Addr) (c : Nat) (p : List Int) (A' : Option Addr) (c' : Nat) (q : List Int), e = .returned (.tuple #[.slice A n c, .slice A' n c']) ∧ n ≤ 30 ∧ rightP p ∧ p.length = n ∧ Kd.C (Kd.int .i64) w' A n p ∧ rightP q ∧ q.length = n ∧ Kd.C (Kd.int .i64) w' A' n q ∧ Below w.heap.size w w' := by
  have hb0 := len_le hr0
  have hb1 := len_le hr1
  obtain ⟨n, hn⟩ : ∃ n, n = min (min k.length l.length) 30 := ⟨_, rfl⟩
  obtain ⟨hcut0, hC0⟩ := cut_ints (k := .u8) Try.underlying39 info5 A0 c0 k n (by omega) hc0
  obtain ⟨hcut1, hC1⟩ := cut_ints (k := .u8) Try.underlying39 info5 A1 c1 l n (by omega) hc1
  have hm1 := min2_nat k.length l.length
  have hm2 := min2_c (min k.length l.length)
  rw [← hn] at hm2
  have hn30 : n ≤ 30 := by omega
  have M0 := Aside0.mk (fun W (hB : Below w.heap.size w W) => madeN_walk A0 c0 n (k.take n) W (by rw [List.length_take]; omega) (Kd.C_below (hC0 w hr0) hB) (fun y hy => hw0 y (List.mem_of_mem_take hy)) (by omega) hn30)
  have M1 := Aside0.mk (fun W (hB : Below w.heap.size w W) => madeN_walk A1 c1 n (l.take n) W (by rw [List.length_take]; omega) (Kd.C_below (hC1 w hr1) hB) (fun y hy => hw1 y (List.mem_of_mem_take hy)) (by omega) hn30)
  generalize min k.length l.length = m at hm1 hm2
  clear hr0 hr1 hw0 hw1 hC0 hC1 hn
  go_enter Try.func33, Try.ntmps33
  go_wp2
  go_region_with (first
    | (go_at_call 25; refine (M0.out w.drew (below_drew (Below.refl _ _))).mono ?_; rintro e w1 ⟨A2, c2, p, rfl, hp, hpl, hC, hB⟩; have HP := Aside0.mk (And.intro hp (And.intro hpl (And.intro hC ((below_drew (Below.refl w.heap.size w)).trans hB)))); clear hp hpl hC hB M0)
    | (go_at_call 25; refine (M1.out w1 HP.out.2.2.2).mono ?_; rintro e w2 ⟨A3, c3, q, rfl, hq, hql, hC, hB⟩; have HQ := Aside0.mk (And.intro hq (And.intro hql (And.intro hC (And.intro (Kd.C_below HP.out.2.2.1 hB) (HP.out.2.2.2.trans (hB.mono HP.out.2.2.2.size)))))); clear hq hql hC hB))
  all_goals
    go_wp2
    go_ret2
    exact ⟨n, _, _, p, _, _, q, rfl, hn30, HP.out.1, HP.out.2.1, HQ.out.2.2.2.1, HQ.out.1, HQ.out.2.1, HQ.out.2.2.1, HQ.out.2.2.2.2⟩
end Go.Proofs.Ytboofecfmhbacaa

/- The walk of the law BlocksKeys. -/
namespace Go.Proofs.Ytboofecfmhbacaa
open Go.RowKit Go.WideMaps Go.Maps Go.Proofs.YtboofecfmhbacaaW.PrintWords Go.Proofs.YtboofecfmhbacaaW.PrintLast Go.Proofs.YtboofecfmhbacaaW.PrintMore
set_option linter.unusedVariables false
set_option linter.unusedSimpArgs false

theorem str_nne {a b : ByteArray} (h : a = b) : (a.toList != b.toList) = false := by subst h; simp
set_option maxRecDepth 100000 in
set_option maxHeartbeats 1000000 in
/-- slices.Equal of two slices that hold the same strings. -/
theorem sameStr_walk (A0 : Option Addr) (c0 : Nat) (l : List ByteArray) (A1 : Option Addr) (c1 : Nat) (w : World) (hr0 : Kd.C Kd.string w A0 l.length l) (hr1 : Kd.C Kd.string w A1 l.length l) :
    Calls Try.prog 20 #[.slice A0 l.length c0, .slice A1 l.length c1] w fun e w' => e = .returned (.bool true) ∧ Below w.heap.size w w' := by
  have HR0 := Aside0.mk hr0
  have HR1 := Aside0.mk hr1
  have hb := len_le hr0
  clear hr0 hr1
  go_enter Try.func20, Try.ntmps20
  go_wp2
  go_loopw [13] (fun i wr => ∃ k : Nat, i = .int .i64 k ∧ Aside0 (k ≤ l.length ∧ Below w.heap.size w wr)) (fun i _ => l.length - (intOf i).toNat)
  case atStart => exact ⟨0, rfl, ⟨Nat.zero_le _, Below.refl _ _⟩⟩
  case round =>
    obtain ⟨k, rfl, HI⟩ := hrel
    have hkl := HI.out.1
    by_cases hk : k < l.length
    · obtain ⟨ad0, e0, hx0⟩ := strs_at (Kd.C_below HR0.out HI.out.2) k hk
      obtain ⟨ad1, e1, hx1⟩ := strs_at (Kd.C_below HR1.out HI.out.2) k hk
      subst e0 e1
      have h1 := str_eq (rfl : l[k] = l[k])
      have h2 := str_nne (rfl : l[k] = l[k])
      go_wp2
      go_quiet (fail)
      go_wp2
      go_roundw
      case rel => exact ⟨k + 1, by go_num, ⟨by omega, pw_below_drewN HI.out.2 _⟩⟩
      case measure => simp [intOf]; omega
    · go_wp2
      go_ret
      exact ⟨rfl, HI.out.2⟩

/-- Is a number of keys one that the law leaves out? -/
def longB (n : Nat) : Bool := (decide (60 < n) && decide (n ≤ 1024)) || decide (1100 ≤ n)
set_option maxRecDepth 100000 in
set_option maxHeartbeats 1000000 in
theorem long_walk (n : Nat) (w : World) (hb : n ≤ 9223372036854775807) : Calls Try.prog 13 #[.int .i64 n] w fun e w' => e = .returned (.bool (longB n)) ∧ Below w.heap.size w w' := by
  unfold longB
  by_cases h1 : 60 < n <;> by_cases h2 : n ≤ 1024 <;> by_cases h3 : 1100 ≤ n <;> first | omega | skip
  all_goals
    have g1 : decide ((60 : Int) < (n : Int)) = decide (60 < n) := by simp; omega
    have g2 : decide ((n : Int) ≤ (1024 : Int)) = decide (n ≤ 1024) := by simp; omega
    have g3 : decide ((1100 : Int) ≤ (n : Int)) = decide (1100 ≤ n) := by simp; omega
    simp only [h1, h2, h3, decide_true, decide_false] at g1 g2 g3 ⊢
    go_enter Try.func13, Try.ntmps13
    go_wp2
    go_ret
    exact ⟨rfl, Below.refl _ _⟩

theorem cloneC_walk (A0 : Option Addr) (c0 : Nat) (l : List Int) (w : World) (hr : Kd.C (Kd.int .i64) w A0 l.length l) (hl : l.length ≤ 1000000) :
    Calls Try.prog 15 #[.slice A0 l.length c0] w fun e w' => ∃ A c, e = .returned (.slice A l.length c) ∧ Kd.C (Kd.int .i64) w' A l.length l ∧ Below w.heap.size w w' := by
  refine (clone_walk A0 c0 l w hr (by omega)).mono ?_
  rintro e w' ⟨v, rfl, hR, hB⟩
  obtain ⟨A, c, rfl, hC⟩ := r_read hR rfl
  exact ⟨A, c, rfl, hC, hB⟩
theorem cloneSC_walk (A0 : Option Addr) (c0 : Nat) (l : List ByteArray) (w : World) (hr : Kd.C Kd.string w A0 l.length l) (hl : l.length ≤ 1000000) :
    Calls Try.prog 16 #[.slice A0 l.length c0] w fun e w' => ∃ A c, e = .returned (.slice A l.length c) ∧ Kd.C Kd.string w' A l.length l ∧ Below w.heap.size w w' := by
  refine (clone_str_walk A0 c0 l w hr (by omega)).mono ?_
  rintro e w' ⟨v, rfl, hR, hB⟩
  obtain ⟨A, c, rfl, hC⟩ := r_read hR rfl
  exact ⟨A, c, rfl, hC, hB⟩
theorem refIntsC_walk (A0 : Option Addr) (c0 : Nat) (l : List Int) (w : World) (hr : Kd.C (Kd.int .i64) w A0 l.length l) (hn : l.length ≤ 1000000) :
    Calls Try.prog 21 #[.slice A0 l.length c0] w fun e w' => ∃ A c, e = .returned (.slice A l.length c) ∧ Kd.C (Kd.int .i64) w' A l.length (Num.num l) ∧ Below w.heap.size w w' := by
  refine (refInts_walk A0 c0 l w hr hn).mono ?_
  rintro e w' ⟨v, rfl, hR, hB⟩
  obtain ⟨A, c, rfl, hC⟩ := r_read hR (Num.num_length l)
  exact ⟨A, c, rfl, hC, hB⟩
theorem refTextsC_walk (A0 : Option Addr) (c0 : Nat) (l : List ByteArray) (w : World) (hr : Kd.C Kd.string w A0 l.length l) (hn : l.length ≤ 1000000) :
    Calls Try.prog 22 #[.slice A0 l.length c0] w fun e w' => ∃ A c, e = .returned (.slice A l.length c) ∧ Kd.C (Kd.int .i64) w' A l.length (Num.num l) ∧ Below w.heap.size w w' := by
  refine (refTexts_walk A0 c0 l w hr hn).mono ?_
  rintro e w' ⟨v, rfl, hR, hB⟩
  obtain ⟨A, c, rfl, hC⟩ := r_read hR (Num.num_length l)
  exact ⟨A, c, rfl, hC, hB⟩
/-- slices.Equal of two slices that hold the same numbers. -/
theorem sameN_walk (A0 : Option Addr) (c0 n : Nat) (l : List Int) (A1 : Option Addr) (c1 : Nat) (w : World) (hn : l.length = n) (hr0 : Kd.C (Kd.int .i64) w A0 n l) (hr1 : Kd.C (Kd.int .i64) w A1 n l) :
    Calls Try.prog 19 #[.slice A0 n c0, .slice A1 n c1] w fun e w' => e = .returned (.bool true) ∧ Below w.heap.size w w' := by
  subst hn
  refine (equal_walk A0 c0 l A1 c1 l w hr0 hr1).mono ?_
  rintro e w' ⟨rfl, hB⟩
  exact ⟨by simp, hB⟩
theorem same_walk (A0 : Option Addr) (c0 : Nat) (l : List Int) (A1 : Option Addr) (c1 : Nat) (w : World) (hr0 : Kd.C (Kd.int .i64) w A0 l.length l) (hr1 : Kd.C (Kd.int .i64) w A1 l.length l) :
    Calls Try.prog 19 #[.slice A0 l.length c0, .slice A1 l.length c1] w fun e w' => e = .returned (.bool true) ∧ Below w.heap.size w w' := sameN_walk A0 c0 l.length l A1 c1 w rfl hr0 hr1

set_option maxRecDepth 100000 in
set_option maxHeartbeats 4000000 in
theorem blocksKeys_walk (A0 : Option Addr) (c0 : Nat) (l : List Int) (A1 : Option Addr) (c1 : Nat) (s : List ByteArray) (w : World) (hr0 : Kd.C (Kd.int .i64) w A0 l.length l) (hw0 : Wf l) (hr1 : Kd.C Kd.string w A1 s.length s) (hw1 : ∀ x ∈ s, x.size ≤ maxLen) :
    Calls Try.prog 3 #[.slice A0 l.length c0, .slice A1 s.length c1] w fun e w' => e = .returned (.bool true) ∧ Below w.heap.size w w' := by
  have HB_0 := Aside0.mk (Below.refl w.heap.size w)
  have hb0 := len_le hr0
  have hb1 := len_le hr1
  have HW0 := Aside0.mk hw0
  have HW1 := Aside0.mk hw1
  have HL0 := Aside0.mk (fun W => long_walk l.length W hb0)
  have HL1 := Aside0.mk (fun W => long_walk s.length W hb1)
  cases g0 : longB l.length with
  | true =>
    rw [g0] at HL0
    clear g0 hr0 hr1 hw0 hw1
    go_enter Try.func3, Try.ntmps3
    go_wp2_with (first
      | (go_at_call 13; refine (HL0.out w).mono ?_; rintro e w1 ⟨rfl, hB⟩; have HB_1 := Aside0.mk (HB_0.out.trans (hB.mono HB_0.out.size)); clear hB HB_0)
      | (go_at_call 14; refine (awake_walk w1).mono ?_; rintro e w2 ⟨rfl, hB⟩; have HB_2 := Aside0.mk (HB_1.out.trans (hB.mono HB_1.out.size)); clear hB HB_1))
    go_ret
    exact ⟨rfl, HB_2.out⟩
  | false =>
    rw [g0] at HL0
    cases g1 : longB s.length with
    | true =>
      rw [g1] at HL1
      clear g0 g1 hr0 hr1 hw0 hw1
      go_enter Try.func3, Try.ntmps3
      go_wp2_with (first
        | (go_at_call 13; refine (HL0.out w).mono ?_; rintro e w1 ⟨rfl, hB⟩; have HB_1 := Aside0.mk (HB_0.out.trans (hB.mono HB_0.out.size)); clear HL0; clear hB HB_0)
        | (go_at_call 13; refine (HL1.out w1).mono ?_; rintro e w2 ⟨rfl, hB⟩; have HB_2 := Aside0.mk (HB_1.out.trans (hB.mono HB_1.out.size)); clear hB HB_1)
        | (go_at_call 14; refine (awake_walk w2).mono ?_; rintro e w3 ⟨rfl, hB⟩; have HB_3 := Aside0.mk (HB_2.out.trans (hB.mono HB_2.out.size)); clear hB HB_2))
      go_ret
      exact ⟨rfl, HB_3.out⟩
    | false =>
      rw [g1] at HL1
      have n0 : l.length < 1100 := by
        simp only [longB, Bool.or_eq_false_iff, decide_eq_false_iff_not] at g0; omega
      have n1 : s.length < 1100 := by
        simp only [longB, Bool.or_eq_false_iff, decide_eq_false_iff_not] at g1; omega
      have FA_0 := Aside0.mk hr0
      have FB_0 := Aside0.mk hr1
      have HOI := Aside0.mk (fun A c W hC => ofInt_walk A c l W hC hw0)
      have HOS := Aside0.mk (fun A c W hC => ofString_walk A c s W hC hw1)
      clear g0 g1 hr0 hr1 hw0 hw1
      by_cases h0 : 1024 < l.length
      · have t0 : decide ((1024 : Int) < (l.length : Int)) = true := decide_eq_true (by omega)
        simp only [if_pos h0] at HOI
        by_cases h1 : 1024 < s.length
        · have t1 : decide ((1024 : Int) < (s.length : Int)) = true := decide_eq_true (by omega)
          simp only [if_pos h1] at HOS
          go_enter Try.func3, Try.ntmps3
          go_wp2_with (first
            | (go_at_call 13; refine (HL0.out w).mono ?_; rintro e w1 ⟨rfl, hB⟩; have FA_1 := Aside0.mk (Kd.C_below FA_0.out hB); have FB_1 := Aside0.mk (Kd.C_below FB_0.out hB); have HB_1 := Aside0.mk (HB_0.out.trans (hB.mono HB_0.out.size)); clear HL0; clear hB HB_0 FA_0 FB_0)
            | (go_at_call 13; refine (HL1.out w1).mono ?_; rintro e w2 ⟨rfl, hB⟩; have FA_2 := Aside0.mk (Kd.C_below FA_1.out hB); have FB_2 := Aside0.mk (Kd.C_below FB_1.out hB); have HB_2 := Aside0.mk (HB_1.out.trans (hB.mono HB_1.out.size)); clear hB HB_1 FA_1 FB_1)
            | (go_at_call 15; refine (cloneC_walk A0 c0 l w2 FA_2.out (by omega)).mono ?_; rintro e w3 ⟨A2, c2, rfl, hC, hB⟩; have FP_3 := Aside0.mk (hC); have FA_3 := Aside0.mk (Kd.C_below FA_2.out hB); have FB_3 := Aside0.mk (Kd.C_below FB_2.out hB); have HB_3 := Aside0.mk (HB_2.out.trans (hB.mono HB_2.out.size)); clear hC; clear hB HB_2 FA_2 FB_2)
            | (go_at_call 16; refine (cloneSC_walk A1 c1 s w3 FB_3.out (by omega)).mono ?_; rintro e w4 ⟨A3, c3, rfl, hC, hB⟩; have FQ_4 := Aside0.mk (hC); have FA_4 := Aside0.mk (Kd.C_below FA_3.out hB); have FB_4 := Aside0.mk (Kd.C_below FB_3.out hB); have FP_4 := Aside0.mk (Kd.C_below FP_3.out hB); have HB_4 := Aside0.mk (HB_3.out.trans (hB.mono HB_3.out.size)); clear hC; clear hB HB_3 FA_3 FB_3 FP_3)
            | (go_at_call 17; refine ((HOI.out A2 c2 w4 FP_4.out)).mono ?_; rintro e w5 ⟨v8, rfl, hR, hB⟩; have FA_5 := Aside0.mk (Kd.C_below FA_4.out hB); have FB_5 := Aside0.mk (Kd.C_below FB_4.out hB); have FP_5 := Aside0.mk (Kd.C_below FP_4.out hB); have FQ_5 := Aside0.mk (Kd.C_below FQ_4.out hB); have HB_5 := Aside0.mk (HB_4.out.trans (hB.mono HB_4.out.size)); obtain ⟨A8, c8, rfl, -⟩ := r_read hR (n := 0) rfl; clear hR HOI; clear hB HB_4 FA_4 FB_4 FP_4 FQ_4)
            | (go_at_call 18; refine ((HOS.out A3 c3 w5 FQ_5.out)).mono ?_; rintro e w6 ⟨v9, rfl, hR, hB⟩; have FA_6 := Aside0.mk (Kd.C_below FA_5.out hB); have FB_6 := Aside0.mk (Kd.C_below FB_5.out hB); have FP_6 := Aside0.mk (Kd.C_below FP_5.out hB); have FQ_6 := Aside0.mk (Kd.C_below FQ_5.out hB); have HB_6 := Aside0.mk (HB_5.out.trans (hB.mono HB_5.out.size)); obtain ⟨A9, c9, rfl, -⟩ := r_read hR (n := 0) rfl; clear hR HOS; clear hB HB_5 FA_5 FB_5 FP_5 FQ_5)
            | (go_at_call 19; refine (same_walk A2 c2 l A0 c0 w6 FP_6.out FA_6.out).mono ?_; rintro e w7 ⟨rfl, hB⟩; have FA_7 := Aside0.mk (Kd.C_below FA_6.out hB); have FB_7 := Aside0.mk (Kd.C_below FB_6.out hB); have FQ_7 := Aside0.mk (Kd.C_below FQ_6.out hB); have HB_7 := Aside0.mk (HB_6.out.trans (hB.mono HB_6.out.size)); clear hB HB_6 FA_6 FB_6 FP_6 FQ_6)
            | (go_at_call 20; refine (sameStr_walk A3 c3 s A1 c1 w7 FQ_7.out FB_7.out).mono ?_; rintro e w8 ⟨rfl, hB⟩; have FA_8 := Aside0.mk (Kd.C_below FA_7.out hB); have FB_8 := Aside0.mk (Kd.C_below FB_7.out hB); have HB_8 := Aside0.mk (HB_7.out.trans (hB.mono HB_7.out.size)); clear hB HB_7 FA_7 FB_7 FQ_7)
            | (go_at_call 14; refine (awake_walk w8).mono ?_; rintro e w9 ⟨rfl, hB⟩; have FA_9 := Aside0.mk (Kd.C_below FA_8.out hB); have FB_9 := Aside0.mk (Kd.C_below FB_8.out hB); have HB_9 := Aside0.mk (HB_8.out.trans (hB.mono HB_8.out.size)); clear hB HB_8 FA_8 FB_8))
          go_ret
          exact ⟨rfl, HB_9.out⟩
        · have t1 : decide ((1024 : Int) < (s.length : Int)) = false := decide_eq_false (by omega)
          simp only [if_neg h1] at HOS
          go_enter Try.func3, Try.ntmps3
          go_wp2_with (first
            | (go_at_call 13; refine (HL0.out w).mono ?_; rintro e w1 ⟨rfl, hB⟩; have FA_1 := Aside0.mk (Kd.C_below FA_0.out hB); have FB_1 := Aside0.mk (Kd.C_below FB_0.out hB); have HB_1 := Aside0.mk (HB_0.out.trans (hB.mono HB_0.out.size)); clear HL0; clear hB HB_0 FA_0 FB_0)
            | (go_at_call 13; refine (HL1.out w1).mono ?_; rintro e w2 ⟨rfl, hB⟩; have FA_2 := Aside0.mk (Kd.C_below FA_1.out hB); have FB_2 := Aside0.mk (Kd.C_below FB_1.out hB); have HB_2 := Aside0.mk (HB_1.out.trans (hB.mono HB_1.out.size)); clear hB HB_1 FA_1 FB_1)
            | (go_at_call 15; refine (cloneC_walk A0 c0 l w2 FA_2.out (by omega)).mono ?_; rintro e w3 ⟨A2, c2, rfl, hC, hB⟩; have FP_3 := Aside0.mk (hC); have FA_3 := Aside0.mk (Kd.C_below FA_2.out hB); have FB_3 := Aside0.mk (Kd.C_below FB_2.out hB); have HB_3 := Aside0.mk (HB_2.out.trans (hB.mono HB_2.out.size)); clear hC; clear hB HB_2 FA_2 FB_2)
            | (go_at_call 16; refine (cloneSC_walk A1 c1 s w3 FB_3.out (by omega)).mono ?_; rintro e w4 ⟨A3, c3, rfl, hC, hB⟩; have FQ_4 := Aside0.mk (hC); have FA_4 := Aside0.mk (Kd.C_below FA_3.out hB); have FB_4 := Aside0.mk (Kd.C_below FB_3.out hB); have FP_4 := Aside0.mk (Kd.C_below FP_3.out hB); have HB_4 := Aside0.mk (HB_3.out.trans (hB.mono HB_3.out.size)); clear hC; clear hB HB_3 FA_3 FB_3 FP_3)
            | (go_at_call 17; refine ((HOI.out A2 c2 w4 FP_4.out)).mono ?_; rintro e w5 ⟨v8, rfl, hR, hB⟩; have FA_5 := Aside0.mk (Kd.C_below FA_4.out hB); have FB_5 := Aside0.mk (Kd.C_below FB_4.out hB); have FP_5 := Aside0.mk (Kd.C_below FP_4.out hB); have FQ_5 := Aside0.mk (Kd.C_below FQ_4.out hB); have HB_5 := Aside0.mk (HB_4.out.trans (hB.mono HB_4.out.size)); obtain ⟨A8, c8, rfl, -⟩ := r_read hR (n := 0) rfl; clear hR HOI; clear hB HB_4 FA_4 FB_4 FP_4 FQ_4)
            | (go_at_call 18; refine ((HOS.out A3 c3 w5 FQ_5.out)).mono ?_; rintro e w6 ⟨v9, rfl, hR, hB⟩; have FA_6 := Aside0.mk (Kd.C_below FA_5.out hB); have FB_6 := Aside0.mk (Kd.C_below FB_5.out hB); have FP_6 := Aside0.mk (Kd.C_below FP_5.out hB); have FQ_6 := Aside0.mk (Kd.C_below FQ_5.out hB); have HB_6 := Aside0.mk (HB_5.out.trans (hB.mono HB_5.out.size)); obtain ⟨A9, c9, rfl, hC9⟩ := r_read hR (Num.num_length s); have F9_6 := Aside0.mk hC9; clear hR hC9 HOS; clear hB HB_5 FA_5 FB_5 FP_5 FQ_5)
            | (go_at_call 19; refine (same_walk A2 c2 l A0 c0 w6 FP_6.out FA_6.out).mono ?_; rintro e w7 ⟨rfl, hB⟩; have FA_7 := Aside0.mk (Kd.C_below FA_6.out hB); have FB_7 := Aside0.mk (Kd.C_below FB_6.out hB); have FQ_7 := Aside0.mk (Kd.C_below FQ_6.out hB); have F9_7 := Aside0.mk (Kd.C_below F9_6.out hB); have HB_7 := Aside0.mk (HB_6.out.trans (hB.mono HB_6.out.size)); clear hB HB_6 FA_6 FB_6 FP_6 FQ_6 F9_6)
            | (go_at_call 20; refine (sameStr_walk A3 c3 s A1 c1 w7 FQ_7.out FB_7.out).mono ?_; rintro e w8 ⟨rfl, hB⟩; have FA_8 := Aside0.mk (Kd.C_below FA_7.out hB); have FB_8 := Aside0.mk (Kd.C_below FB_7.out hB); have F9_8 := Aside0.mk (Kd.C_below F9_7.out hB); have HB_8 := Aside0.mk (HB_7.out.trans (hB.mono HB_7.out.size)); clear hB HB_7 FA_7 FB_7 FQ_7 F9_7)
            | (go_at_call 22; refine (refTextsC_walk A1 c1 s w8 FB_8.out (by omega)).mono ?_; rintro e w9 ⟨A11, c11, rfl, hC, hB⟩; have FY_9 := Aside0.mk (hC); have FA_9 := Aside0.mk (Kd.C_below FA_8.out hB); have FB_9 := Aside0.mk (Kd.C_below FB_8.out hB); have F9_9 := Aside0.mk (Kd.C_below F9_8.out hB); have HB_9 := Aside0.mk (HB_8.out.trans (hB.mono HB_8.out.size)); clear hC; clear hB HB_8 FA_8 FB_8 F9_8)
            | (go_at_call 19; refine (sameN_walk A9 c9 s.length (Num.num s) A11 c11 w9 (Num.num_length s) F9_9.out FY_9.out).mono ?_; rintro e w10 ⟨rfl, hB⟩; have FA_10 := Aside0.mk (Kd.C_below FA_9.out hB); have FB_10 := Aside0.mk (Kd.C_below FB_9.out hB); have HB_10 := Aside0.mk (HB_9.out.trans (hB.mono HB_9.out.size)); clear hB HB_9 FA_9 FB_9 F9_9 FY_9)
            | (go_at_call 14; refine (awake_walk w10).mono ?_; rintro e w11 ⟨rfl, hB⟩; have FA_11 := Aside0.mk (Kd.C_below FA_10.out hB); have FB_11 := Aside0.mk (Kd.C_below FB_10.out hB); have HB_11 := Aside0.mk (HB_10.out.trans (hB.mono HB_10.out.size)); clear hB HB_10 FA_10 FB_10))
          go_ret
          exact ⟨rfl, HB_11.out⟩
      · have t0 : decide ((1024 : Int) < (l.length : Int)) = false := decide_eq_false (by omega)
        simp only [if_neg h0] at HOI
        by_cases h1 : 1024 < s.length
        · have t1 : decide ((1024 : Int) < (s.length : Int)) = true := decide_eq_true (by omega)
          simp only [if_pos h1] at HOS
          go_enter Try.func3, Try.ntmps3
          go_wp2_with (first
            | (go_at_call 13; refine (HL0.out w).mono ?_; rintro e w1 ⟨rfl, hB⟩; have FA_1 := Aside0.mk (Kd.C_below FA_0.out hB); have FB_1 := Aside0.mk (Kd.C_below FB_0.out hB); have HB_1 := Aside0.mk (HB_0.out.trans (hB.mono HB_0.out.size)); clear HL0; clear hB HB_0 FA_0 FB_0)
            | (go_at_call 13; refine (HL1.out w1).mono ?_; rintro e w2 ⟨rfl, hB⟩; have FA_2 := Aside0.mk (Kd.C_below FA_1.out hB); have FB_2 := Aside0.mk (Kd.C_below FB_1.out hB); have HB_2 := Aside0.mk (HB_1.out.trans (hB.mono HB_1.out.size)); clear hB HB_1 FA_1 FB_1)
            | (go_at_call 15; refine (cloneC_walk A0 c0 l w2 FA_2.out (by omega)).mono ?_; rintro e w3 ⟨A2, c2, rfl, hC, hB⟩; have FP_3 := Aside0.mk (hC); have FA_3 := Aside0.mk (Kd.C_below FA_2.out hB); have FB_3 := Aside0.mk (Kd.C_below FB_2.out hB); have HB_3 := Aside0.mk (HB_2.out.trans (hB.mono HB_2.out.size)); clear hC; clear hB HB_2 FA_2 FB_2)
            | (go_at_call 16; refine (cloneSC_walk A1 c1 s w3 FB_3.out (by omega)).mono ?_; rintro e w4 ⟨A3, c3, rfl, hC, hB⟩; have FQ_4 := Aside0.mk (hC); have FA_4 := Aside0.mk (Kd.C_below FA_3.out hB); have FB_4 := Aside0.mk (Kd.C_below FB_3.out hB); have FP_4 := Aside0.mk (Kd.C_below FP_3.out hB); have HB_4 := Aside0.mk (HB_3.out.trans (hB.mono HB_3.out.size)); clear hC; clear hB HB_3 FA_3 FB_3 FP_3)
            | (go_at_call 17; refine ((HOI.out A2 c2 w4 FP_4.out)).mono ?_; rintro e w5 ⟨v8, rfl, hR, hB⟩; have FA_5 := Aside0.mk (Kd.C_below FA_4.out hB); have FB_5 := Aside0.mk (Kd.C_below FB_4.out hB); have FP_5 := Aside0.mk (Kd.C_below FP_4.out hB); have FQ_5 := Aside0.mk (Kd.C_below FQ_4.out hB); have HB_5 := Aside0.mk (HB_4.out.trans (hB.mono HB_4.out.size)); obtain ⟨A8, c8, rfl, hC8⟩ := r_read hR (Num.num_length l); have F8_5 := Aside0.mk hC8; clear hR hC8 HOI; clear hB HB_4 FA_4 FB_4 FP_4 FQ_4)
            | (go_at_call 18; refine ((HOS.out A3 c3 w5 FQ_5.out)).mono ?_; rintro e w6 ⟨v9, rfl, hR, hB⟩; have FA_6 := Aside0.mk (Kd.C_below FA_5.out hB); have FB_6 := Aside0.mk (Kd.C_below FB_5.out hB); have FP_6 := Aside0.mk (Kd.C_below FP_5.out hB); have FQ_6 := Aside0.mk (Kd.C_below FQ_5.out hB); have F8_6 := Aside0.mk (Kd.C_below F8_5.out hB); have HB_6 := Aside0.mk (HB_5.out.trans (hB.mono HB_5.out.size)); obtain ⟨A9, c9, rfl, -⟩ := r_read hR (n := 0) rfl; clear hR HOS; clear hB HB_5 FA_5 FB_5 FP_5 FQ_5 F8_5)
            | (go_at_call 19; refine (same_walk A2 c2 l A0 c0 w6 FP_6.out FA_6.out).mono ?_; rintro e w7 ⟨rfl, hB⟩; have FA_7 := Aside0.mk (Kd.C_below FA_6.out hB); have FB_7 := Aside0.mk (Kd.C_below FB_6.out hB); have FQ_7 := Aside0.mk (Kd.C_below FQ_6.out hB); have F8_7 := Aside0.mk (Kd.C_below F8_6.out hB); have HB_7 := Aside0.mk (HB_6.out.trans (hB.mono HB_6.out.size)); clear hB HB_6 FA_6 FB_6 FP_6 FQ_6 F8_6)
            | (go_at_call 20; refine (sameStr_walk A3 c3 s A1 c1 w7 FQ_7.out FB_7.out).mono ?_; rintro e w8 ⟨rfl, hB⟩; have FA_8 := Aside0.mk (Kd.C_below FA_7.out hB); have FB_8 := Aside0.mk (Kd.C_below FB_7.out hB); have F8_8 := Aside0.mk (Kd.C_below F8_7.out hB); have HB_8 := Aside0.mk (HB_7.out.trans (hB.mono HB_7.out.size)); clear hB HB_7 FA_7 FB_7 FQ_7 F8_7)
            | (go_at_call 21; refine (refIntsC_walk A0 c0 l w8 FA_8.out (by omega)).mono ?_; rintro e w9 ⟨A10, c10, rfl, hC, hB⟩; have FX_9 := Aside0.mk (hC); have FA_9 := Aside0.mk (Kd.C_below FA_8.out hB); have FB_9 := Aside0.mk (Kd.C_below FB_8.out hB); have F8_9 := Aside0.mk (Kd.C_below F8_8.out hB); have HB_9 := Aside0.mk (HB_8.out.trans (hB.mono HB_8.out.size)); clear hC; clear hB HB_8 FA_8 FB_8 F8_8)
            | (go_at_call 19; refine (sameN_walk A8 c8 l.length (Num.num l) A10 c10 w9 (Num.num_length l) F8_9.out FX_9.out).mono ?_; rintro e w10 ⟨rfl, hB⟩; have FA_10 := Aside0.mk (Kd.C_below FA_9.out hB); have FB_10 := Aside0.mk (Kd.C_below FB_9.out hB); have HB_10 := Aside0.mk (HB_9.out.trans (hB.mono HB_9.out.size)); clear hB HB_9 FA_9 FB_9 F8_9 FX_9)
            | (go_at_call 14; refine (awake_walk w10).mono ?_; rintro e w11 ⟨rfl, hB⟩; have FA_11 := Aside0.mk (Kd.C_below FA_10.out hB); have FB_11 := Aside0.mk (Kd.C_below FB_10.out hB); have HB_11 := Aside0.mk (HB_10.out.trans (hB.mono HB_10.out.size)); clear hB HB_10 FA_10 FB_10))
          go_ret
          exact ⟨rfl, HB_11.out⟩
        · have t1 : decide ((1024 : Int) < (s.length : Int)) = false := decide_eq_false (by omega)
          simp only [if_neg h1] at HOS
          go_enter Try.func3, Try.ntmps3
          go_wp2_with (first
            | (go_at_call 13; refine (HL0.out w).mono ?_; rintro e w1 ⟨rfl, hB⟩; have FA_1 := Aside0.mk (Kd.C_below FA_0.out hB); have FB_1 := Aside0.mk (Kd.C_below FB_0.out hB); have HB_1 := Aside0.mk (HB_0.out.trans (hB.mono HB_0.out.size)); clear HL0; clear hB HB_0 FA_0 FB_0)
            | (go_at_call 13; refine (HL1.out w1).mono ?_; rintro e w2 ⟨rfl, hB⟩; have FA_2 := Aside0.mk (Kd.C_below FA_1.out hB); have FB_2 := Aside0.mk (Kd.C_below FB_1.out hB); have HB_2 := Aside0.mk (HB_1.out.trans (hB.mono HB_1.out.size)); clear hB HB_1 FA_1 FB_1)
            | (go_at_call 15; refine (cloneC_walk A0 c0 l w2 FA_2.out (by omega)).mono ?_; rintro e w3 ⟨A2, c2, rfl, hC, hB⟩; have FP_3 := Aside0.mk (hC); have FA_3 := Aside0.mk (Kd.C_below FA_2.out hB); have FB_3 := Aside0.mk (Kd.C_below FB_2.out hB); have HB_3 := Aside0.mk (HB_2.out.trans (hB.mono HB_2.out.size)); clear hC; clear hB HB_2 FA_2 FB_2)
            | (go_at_call 16; refine (cloneSC_walk A1 c1 s w3 FB_3.out (by omega)).mono ?_; rintro e w4 ⟨A3, c3, rfl, hC, hB⟩; have FQ_4 := Aside0.mk (hC); have FA_4 := Aside0.mk (Kd.C_below FA_3.out hB); have FB_4 := Aside0.mk (Kd.C_below FB_3.out hB); have FP_4 := Aside0.mk (Kd.C_below FP_3.out hB); have HB_4 := Aside0.mk (HB_3.out.trans (hB.mono HB_3.out.size)); clear hC; clear hB HB_3 FA_3 FB_3 FP_3)
            | (go_at_call 17; refine ((HOI.out A2 c2 w4 FP_4.out)).mono ?_; rintro e w5 ⟨v8, rfl, hR, hB⟩; have FA_5 := Aside0.mk (Kd.C_below FA_4.out hB); have FB_5 := Aside0.mk (Kd.C_below FB_4.out hB); have FP_5 := Aside0.mk (Kd.C_below FP_4.out hB); have FQ_5 := Aside0.mk (Kd.C_below FQ_4.out hB); have HB_5 := Aside0.mk (HB_4.out.trans (hB.mono HB_4.out.size)); obtain ⟨A8, c8, rfl, hC8⟩ := r_read hR (Num.num_length l); have F8_5 := Aside0.mk hC8; clear hR hC8 HOI; clear hB HB_4 FA_4 FB_4 FP_4 FQ_4)
            | (go_at_call 18; refine ((HOS.out A3 c3 w5 FQ_5.out)).mono ?_; rintro e w6 ⟨v9, rfl, hR, hB⟩; have FA_6 := Aside0.mk (Kd.C_below FA_5.out hB); have FB_6 := Aside0.mk (Kd.C_below FB_5.out hB); have FP_6 := Aside0.mk (Kd.C_below FP_5.out hB); have FQ_6 := Aside0.mk (Kd.C_below FQ_5.out hB); have F8_6 := Aside0.mk (Kd.C_below F8_5.out hB); have HB_6 := Aside0.mk (HB_5.out.trans (hB.mono HB_5.out.size)); obtain ⟨A9, c9, rfl, hC9⟩ := r_read hR (Num.num_length s); have F9_6 := Aside0.mk hC9; clear hR hC9 HOS; clear hB HB_5 FA_5 FB_5 FP_5 FQ_5 F8_5)
            | (go_at_call 19; refine (same_walk A2 c2 l A0 c0 w6 FP_6.out FA_6.out).mono ?_; rintro e w7 ⟨rfl, hB⟩; have FA_7 := Aside0.mk (Kd.C_below FA_6.out hB); have FB_7 := Aside0.mk (Kd.C_below FB_6.out hB); have FQ_7 := Aside0.mk (Kd.C_below FQ_6.out hB); have F8_7 := Aside0.mk (Kd.C_below F8_6.out hB); have F9_7 := Aside0.mk (Kd.C_below F9_6.out hB); have HB_7 := Aside0.mk (HB_6.out.trans (hB.mono HB_6.out.size)); clear hB HB_6 FA_6 FB_6 FP_6 FQ_6 F8_6 F9_6)
            | (go_at_call 20; refine (sameStr_walk A3 c3 s A1 c1 w7 FQ_7.out FB_7.out).mono ?_; rintro e w8 ⟨rfl, hB⟩; have FA_8 := Aside0.mk (Kd.C_below FA_7.out hB); have FB_8 := Aside0.mk (Kd.C_below FB_7.out hB); have F8_8 := Aside0.mk (Kd.C_below F8_7.out hB); have F9_8 := Aside0.mk (Kd.C_below F9_7.out hB); have HB_8 := Aside0.mk (HB_7.out.trans (hB.mono HB_7.out.size)); clear hB HB_7 FA_7 FB_7 FQ_7 F8_7 F9_7)
            | (go_at_call 21; refine (refIntsC_walk A0 c0 l w8 FA_8.out (by omega)).mono ?_; rintro e w9 ⟨A10, c10, rfl, hC, hB⟩; have FX_9 := Aside0.mk (hC); have FA_9 := Aside0.mk (Kd.C_below FA_8.out hB); have FB_9 := Aside0.mk (Kd.C_below FB_8.out hB); have F8_9 := Aside0.mk (Kd.C_below F8_8.out hB); have F9_9 := Aside0.mk (Kd.C_below F9_8.out hB); have HB_9 := Aside0.mk (HB_8.out.trans (hB.mono HB_8.out.size)); clear hC; clear hB HB_8 FA_8 FB_8 F8_8 F9_8)
            | (go_at_call 19; refine (sameN_walk A8 c8 l.length (Num.num l) A10 c10 w9 (Num.num_length l) F8_9.out FX_9.out).mono ?_; rintro e w10 ⟨rfl, hB⟩; have FA_10 := Aside0.mk (Kd.C_below FA_9.out hB); have FB_10 := Aside0.mk (Kd.C_below FB_9.out hB); have F9_10 := Aside0.mk (Kd.C_below F9_9.out hB); have HB_10 := Aside0.mk (HB_9.out.trans (hB.mono HB_9.out.size)); clear hB HB_9 FA_9 FB_9 F8_9 F9_9 FX_9)
            | (go_at_call 22; refine (refTextsC_walk A1 c1 s w10 FB_10.out (by omega)).mono ?_; rintro e w11 ⟨A11, c11, rfl, hC, hB⟩; have FY_11 := Aside0.mk (hC); have FA_11 := Aside0.mk (Kd.C_below FA_10.out hB); have FB_11 := Aside0.mk (Kd.C_below FB_10.out hB); have F9_11 := Aside0.mk (Kd.C_below F9_10.out hB); have HB_11 := Aside0.mk (HB_10.out.trans (hB.mono HB_10.out.size)); clear hC; clear hB HB_10 FA_10 FB_10 F9_10)
            | (go_at_call 19; refine (sameN_walk A9 c9 s.length (Num.num s) A11 c11 w11 (Num.num_length s) F9_11.out FY_11.out).mono ?_; rintro e w12 ⟨rfl, hB⟩; have FA_12 := Aside0.mk (Kd.C_below FA_11.out hB); have FB_12 := Aside0.mk (Kd.C_below FB_11.out hB); have HB_12 := Aside0.mk (HB_11.out.trans (hB.mono HB_11.out.size)); clear hB HB_11 FA_11 FB_11 F9_11 FY_11)
            | (go_at_call 14; refine (awake_walk w12).mono ?_; rintro e w13 ⟨rfl, hB⟩; have FA_13 := Aside0.mk (Kd.C_below FA_12.out hB); have FB_13 := Aside0.mk (Kd.C_below FB_12.out hB); have HB_13 := Aside0.mk (HB_12.out.trans (hB.mono HB_12.out.size)); clear hB HB_12 FA_12 FB_12))
          go_ret
          exact ⟨rfl, HB_13.out⟩
end Go.Proofs.Ytboofecfmhbacaa

/- Quotients. Plain Lean. -/
namespace Go.Proofs.Ytboofecfmhbacaa
theorem stable_after {p : List Int} {next : List (List Int)} (hn : next.length = p.length) (hs : stableP p next) {i j : Nat} (hi : i < p.length) (hj : j < p.length) (h : at_ p i = at_ p j) : after p next i = after p next j := by
  have h1 := refine_iff p next (show i < next.length by omega) (show j < next.length by omega)
  rw [show refineP p next = p from hs] at h1
  exact (h1.1 h).2
theorem stable_count {p : List Int} {next : List (List Int)} (hp : rightP p) (hn : next.length = p.length) : stableP p next ↔ countP (refineP p next) = countP p := by
  constructor
  · intro h
    rw [show refineP p next = p from h]
  · intro h
    have hl : (refineP p next).length = p.length := by rw [refine_length, hn]
    exact count_same (refine_right p next (by rw [hn]; exact hp.1)) hp hl (refine_finer p next) h.symm
/-- What Quotient has put down for the last elements. -/
theorem quotF_get {p : List Int} {next : List (List Int)} (hp : rightP p) (hn : next.length = p.length) (hs : stableP p next) {n : Nat} (hcn : countP p = n) : ∀ k, k ≤ p.length → ∀ i, p.length - k ≤ i → i < p.length → (quotF p next n k)[(at_ p i).toNat]? = some (after p next i) := by
  intro k
  induction k with
  | zero => intro _ i h1 h2; omega
  | succ k ih =>
    intro hk i h1 h2
    have hb := at_bounds hp h2
    have hlt : at_ p i < n := by rw [← hcn, at_get h2]; exact lt_count _ (List.getElem_mem h2)
    rw [quotF]
    by_cases e : at_ p (p.length - 1 - k) = at_ p i
    · rw [e, List.getElem?_set_self (by rw [quotF_length]; omega)]
      rw [stable_after hn hs (by omega) h2 e]
    · have hne : (at_ p (p.length - 1 - k)).toNat ≠ (at_ p i).toNat := by
        have := at_bounds hp (show p.length - 1 - k < p.length by omega)
        omega
      rw [List.getElem?_set_ne hne]
      exact ih (by omega) i (by
        rcases Nat.lt_or_ge i (p.length - k) with h3 | h3
        · exact absurd (by rw [show p.length - 1 - k = i by omega]) e
        · exact h3) h2
theorem quot_get {p : List Int} {next : List (List Int)} (hp : rightP p) (hn : next.length = p.length) (hs : stableP p next) {i : Nat} (hi : i < p.length) : (quotP p next)[(at_ p i).toNat]? = some (after p next i) := by
  obtain ⟨n, hcn⟩ : ∃ n : Nat, countP p = n := ⟨(countP p).toNat, by have := count_bounds hp; omega⟩
  unfold quotP
  rw [hcn, Int.toNat_natCast]
  exact quotF_get hp hn hs hcn _ (Nat.le_refl _) i (by omega) hi
theorem quot_length (p : List Int) (next : List (List Int)) : (quotP p next).length = (countP p).toNat := quotF_length _ _ _ _
/-- What the reference's Quotient puts down for the first b blocks. -/
def quotR (p : List Int) (next : List (List Int)) (b : Nat) : List (List Int) := (List.range b).map fun (b : Nat) => after p next (placeOf p (b : Int))
theorem quotR_length (p : List Int) (next : List (List Int)) (b : Nat) : (quotR p next b).length = b := by simp [quotR]
theorem quotR_succ (p : List Int) (next : List (List Int)) (b : Nat) : quotR p next b ++ [after p next (placeOf p (b : Int))] = quotR p next (b + 1) := by simp [quotR, List.range_succ]
theorem place_spec {p : List Int} {b : Int} (h : b ∈ p) : placeOf p b < p.length ∧ at_ p (placeOf p b) = b := by
  have h1 : placeOf p b < p.length := List.idxOf_lt_length_of_mem h
  refine ⟨h1, ?_⟩
  rw [at_get h1]
  exact List.getElem_idxOf h1
theorem quotR_all {p : List Int} {next : List (List Int)} (hp : rightP p) (hn : next.length = p.length) (hs : stableP p next) {n : Nat} (hcn : countP p = n) : quotR p next n = quotP p next := by
  apply List.ext_getElem
  · rw [quotR_length, quot_length, hcn]; rfl
  · intro b h1 h2
    have hb : b < n := by rwa [quotR_length] at h1
    obtain ⟨i, hi, e⟩ := right_all hp (b := (b : Int)) (by omega) (by omega)
    have hm : (b : Int) ∈ p := by rw [← e, at_get hi]; exact List.getElem_mem hi
    obtain ⟨g1, g2⟩ := place_spec hm
    have h3 := quot_get hp hn hs g1
    rw [g2, Int.toNat_natCast, List.getElem?_eq_getElem h2] at h3
    have h4 : (quotR p next n)[b] = after p next (placeOf p (b : Int)) := by simp [quotR]
    rw [h4]
    exact (Option.some.inj h3).symm
end Go.Proofs.Ytboofecfmhbacaa

/- Partitions as a lattice; refining, and the coarsest stable partition. Plain Lean. -/
namespace Go.Proofs.Ytboofecfmhbacaa
set_option linter.unusedVariables false
/-- p puts together no more than q, on n elements. -/
def leP (n : Nat) (p q : List Int) : Prop := ∀ i j, i < n → j < n → at_ p i = at_ p j → at_ q i = at_ q j
theorem leP.refl (n : Nat) (p : List Int) : leP n p p := fun _ _ _ _ h => h
theorem leP.trans {n : Nat} {p q r : List Int} (h : leP n p q) (h' : leP n q r) : leP n p r := fun i j hi hj e => h' i j hi hj (h i j hi hj e)
theorem leP.antisymm {n : Nat} {p q : List Int} (hp : rightP p) (hq : rightP q) (hpl : p.length = n) (hql : q.length = n) (h : leP n p q) (h' : leP n q p) : p = q :=
  right_ext hp hq (by omega) fun i j hi hj => ⟨h i j (by omega) (by omega), h' i j (by omega) (by omega)⟩
theorem meet_numR {n : Nat} {p q : List Int} (hp : p.length = n) (hq : q.length = n) : meetP p q = numR n (fun i => [at_ p i, at_ q i]) := by
  unfold meetP numR
  congr 1
  apply List.ext_getElem
  · rw [zip2_length p q (by omega)]; simp [hp]
  · intro i h1 h2
    have hi : i < n := by simpa using h2
    rw [zip2_get p q i (by omega) (by omega)]
    simp [at_get (show i < p.length by omega), at_get (show i < q.length by omega)]
theorem meet_right {n : Nat} {p q : List Int} (hp : p.length = n) (hq : q.length = n) (hn : n ≤ 1024) : rightP (meetP p q) ∧ (meetP p q).length = n := by
  rw [meet_numR hp hq]
  exact ⟨numR_right _ _ hn, numR_length _ _⟩
theorem meet_iff {n : Nat} {p q : List Int} (hp : p.length = n) (hq : q.length = n) {i j : Nat} (hi : i < n) (hj : j < n) : at_ (meetP p q) i = at_ (meetP p q) j ↔ at_ p i = at_ p j ∧ at_ q i = at_ q j := by
  rw [meet_numR hp hq, numR_iff _ _ hi hj]
  simp
theorem meet_le {n : Nat} {p q : List Int} (hp : p.length = n) (hq : q.length = n) : leP n (meetP p q) p ∧ leP n (meetP p q) q :=
  ⟨fun _ _ hi hj e => ((meet_iff hp hq hi hj).1 e).1, fun _ _ hi hj e => ((meet_iff hp hq hi hj).1 e).2⟩
theorem le_meet {n : Nat} {p q x : List Int} (hp : p.length = n) (hq : q.length = n) (h1 : leP n x p) (h2 : leP n x q) : leP n x (meetP p q) :=
  fun i j hi hj e => (meet_iff hp hq hi hj).2 ⟨h1 i j hi hj e, h2 i j hi hj e⟩
/-- A partition of n elements. -/
structure PartN (n : Nat) (p : List Int) : Prop where
  right : rightP p
  len : p.length = n
theorem PartN.le {n : Nat} {p : List Int} (h : PartN n p) : n ≤ 1024 := by have := h.right.1; have := h.len; omega
theorem PartN.meet {n : Nat} {p q : List Int} (hp : PartN n p) (hq : PartN n q) : PartN n (meetP p q) := by
  have h := meet_right hp.len hq.len hp.le
  exact ⟨h.1, h.2⟩
theorem PartN.eq {n : Nat} {p q : List Int} (hp : PartN n p) (hq : PartN n q) (h : leP n p q) (h' : leP n q p) : p = q := leP.antisymm hp.right hq.right hp.len hq.len h h'
theorem finer_le {n : Nat} {p q : List Int} (hp : PartN n p) (hq : PartN n q) : finerP p q ↔ leP n p q := by
  constructor
  · intro h
    have := (meet_le hp.len hq.len).2
    rwa [show meetP p q = p from h] at this
  · intro h
    exact (hp.meet hq).eq hp (meet_le hp.len hq.len).1 (le_meet hp.len hq.len (leP.refl n p) h)
theorem meet_comm {n : Nat} {p q : List Int} (hp : PartN n p) (hq : PartN n q) : meetP q p = meetP p q :=
  (hq.meet hp).eq (hp.meet hq) (le_meet hp.len hq.len (meet_le hq.len hp.len).2 (meet_le hq.len hp.len).1) (le_meet hq.len hp.len (meet_le hp.len hq.len).2 (meet_le hp.len hq.len).1)
theorem meet_assoc {n : Nat} {p q r : List Int} (hp : PartN n p) (hq : PartN n q) (hr : PartN n r) : meetP p (meetP q r) = meetP (meetP p q) r := by
  have hpq := hp.meet hq
  have hqr := hq.meet hr
  have a1 := meet_le hp.len hqr.len
  have a2 := meet_le hq.len hr.len
  have b1 := meet_le hpq.len hr.len
  have b2 := meet_le hp.len hq.len
  exact (hp.meet hqr).eq (hpq.meet hr) (le_meet hpq.len hr.len (le_meet hp.len hq.len a1.1 (a1.2.trans a2.1)) (a1.2.trans a2.2)) (le_meet hp.len hqr.len (b1.1.trans b2.1) (le_meet hq.len hr.len (b1.1.trans b2.2) b1.2))

open Classical in
theorem join_exists {n : Nat} {p : List Int} (q : List Int) (hp : PartN n p) : ∃ o, IsJoin p q o := by
  refine ⟨numR p.length (fun i => fun j => Conn p q p.length i j), numR_right _ _ hp.right.1, numR_length _ _, fun i j hi hj => ?_⟩
  rw [numR_iff _ _ hi hj]
  constructor
  · intro h
    have h2 := congrFun h j
    exact h2.mpr (Conn.refl hj)
  · intro h
    funext m
    exact propext ⟨fun h3 => h.symm.trans h3, fun h3 => h.trans h3⟩
theorem IsJoin.part {n : Nat} {p q o : List Int} (hp : PartN n p) (h : IsJoin p q o) : PartN n o := ⟨h.1, by rw [h.2.1, hp.len]⟩
theorem IsJoin.ge {n : Nat} {p q o : List Int} (hp : PartN n p) (h : IsJoin p q o) : leP n p o ∧ leP n q o := by
  have hl := hp.len
  subst hl
  exact ⟨fun i j hi hj e => (h.2.2 i j hi hj).2 (.same hi hj e), fun i j hi hj e => (h.2.2 i j hi hj).2 (.tie hi hj hi hj e)⟩
theorem IsJoin.least {n : Nat} {p q o x : List Int} (hp : PartN n p) (h : IsJoin p q o) (h1 : leP n p x) (h2 : leP n q x) : leP n o x := by
  have hl := hp.len
  subst hl
  intro i j hi hj e
  exact ((h.2.2 i j hi hj).1 e).lift (at_ x) (fun a b ha hb e => h1 a b ha hb e) (fun a b ha hb _ _ e => h2 a b ha hb e)
/-- What lies between is the join. -/
theorem IsJoin.of {n : Nat} {p q o : List Int} (hp : PartN n p) (ho : PartN n o) (h1 : leP n p o) (h2 : leP n q o) (h3 : ∀ x, leP n p x → leP n q x → leP n o x) : IsJoin p q o := by
  obtain ⟨o', h'⟩ := join_exists q hp
  have e : o = o' := ho.eq (h'.part hp) (h3 o' (h'.ge hp).1 (h'.ge hp).2) (h'.least hp h1 h2)
  rw [e]
  exact h'
theorem IsJoin.comm {n : Nat} {p q o : List Int} (hp : PartN n p) (hq : PartN n q) (h : IsJoin p q o) : IsJoin q p o :=
  .of hq (h.part hp) (h.ge hp).2 (h.ge hp).1 fun x h1 h2 => h.least hp h2 h1
theorem IsJoin.assoc {n : Nat} {p q r o f g : List Int} (hp : PartN n p) (hq : PartN n q) (ho : IsJoin p q o) (hf : IsJoin o r f) (hg : IsJoin q r g) : IsJoin p g f := by
  have hpo := ho.part hp
  have hgq := hg.part hq
  refine .of hp (hf.part hpo) ((ho.ge hp).1.trans (hf.ge hpo).1) (hg.least hq ((ho.ge hp).2.trans (hf.ge hpo).1) (hf.ge hpo).2) fun x h1 h2 => ?_
  exact hf.least hpo (ho.least hp h1 ((hg.ge hq).1.trans h2)) ((hg.ge hq).2.trans h2)
theorem meet_join {n : Nat} {p q o : List Int} (hp : PartN n p) (h : IsJoin p q o) : meetP p o = p :=
  (hp.meet (h.part hp)).eq hp (meet_le hp.len (h.part hp).len).1 (le_meet hp.len (h.part hp).len (leP.refl n p) (h.ge hp).1)
theorem join_meet {n : Nat} {p q : List Int} (hp : PartN n p) (hq : PartN n q) : IsJoin p (meetP p q) p :=
  .of hp hp (leP.refl n p) (meet_le hp.len hq.len).1 fun x h1 _ => h1
theorem finer_join {n : Nat} {p q o : List Int} (hp : PartN n p) (hq : PartN n q) (h : IsJoin p q o) : finerP p q ↔ o = q := by
  rw [finer_le hp hq]
  constructor
  · intro h1
    exact (h.part hp).eq hq (h.least hp h1 (leP.refl n q)) (h.ge hp).2
  · intro h1
    rw [← h1]
    exact (h.ge hp).1

/-! #### refining -/
theorem PartN.refine {n : Nat} {p : List Int} {next : List (List Int)} (hp : PartN n p) (hn : next.length = n) : PartN n (refineP p next) := ⟨refine_right p next (by rw [hn]; exact hp.le), by rw [refine_length, hn]⟩
theorem refine_le {n : Nat} {p : List Int} {next : List (List Int)} (hn : next.length = n) : leP n (refineP p next) p := fun i j hi hj e => ((refine_iff p next (by omega) (by omega)).1 e).1
/-- What is put together by p of lists that are in bounds is so by a coarser q. -/
theorem after_le {n : Nat} {p q : List Int} {next : List (List Int)} (hn : nextP n next) (h : leP n p q) {i j : Nat} (hi : i < n) (hj : j < n) (e : after p next i = after p next j) : after q next i = after q next j := by
  have hb : ∀ i, i < n → ∀ x ∈ nx next i, 0 ≤ x ∧ x < n := by
    intro i hi x hx
    have hin : i < next.length := by rw [hn.1]; exact hi
    have hx' : x ∈ next[i] := by simpa [nx, List.getD_eq_getElem?_getD, List.getElem?_eq_getElem hin] using hx
    exact (hn.2 _ (List.getElem_mem hin)).2 x hx'
  have h1 := hb i hi
  have h2 := hb j hj
  unfold after at e ⊢
  generalize nx next i = a at e h1
  generalize nx next j = b at e h2
  induction a generalizing b with
  | nil =>
    cases b with
    | nil => rfl
    | cons y b => simp at e
  | cons x a ih =>
    cases b with
    | nil => simp at e
    | cons y b =>
      rw [List.map_cons, List.map_cons] at e ⊢
      injection e with e1 e2
      have hx := h1 x (List.mem_cons_self ..)
      have hy := h2 y (List.mem_cons_self ..)
      rw [h x.toNat y.toNat (by omega) (by omega) e1, ih (fun z hz => h1 z (List.mem_cons_of_mem _ hz)) b e2 (fun z hz => h2 z (List.mem_cons_of_mem _ hz))]
theorem refine_mono {n : Nat} {p q : List Int} {next : List (List Int)} (hn : nextP n next) (h : leP n p q) : leP n (refineP p next) (refineP q next) := by
  intro i j hi hj e
  have hl := hn.1
  have h1 := (refine_iff p next (show i < next.length by omega) (show j < next.length by omega)).1 e
  exact (refine_iff q next (show i < next.length by omega) (show j < next.length by omega)).2 ⟨h i j hi hj h1.1, after_le hn h hi hj h1.2⟩
/-- A stable partition that is finer than q is finer than what q refines to. -/
theorem stable_le {n : Nat} {s q : List Int} {next : List (List Int)} (hn : nextP n next) (hs : stableP s next) (h : leP n s q) : leP n s (refineP q next) := by
  have := refine_mono hn h
  rwa [show refineP s next = s from hs] at this
theorem stable_iter {n : Nat} {s q : List Int} {next : List (List Int)} (hn : nextP n next) (hs : stableP s next) (h : leP n s q) : ∀ m, leP n s (iterP q next m)
  | 0 => h
  | m + 1 => stable_le hn hs (stable_iter hn hs h m)
theorem iter_le' {n : Nat} {q : List Int} {next : List (List Int)} (hn : next.length = n) : ∀ m, leP n (iterP q next m) q
  | 0 => leP.refl n q
  | m + 1 => (refine_le hn).trans (iter_le' hn m)
theorem PartN.iter {n : Nat} {p : List Int} {next : List (List Int)} (hp : PartN n p) (hn : next.length = n) (m : Nat) : PartN n (iterP p next m) := by
  have h := iter_right hp.right (by rw [hn, hp.len]) m
  exact ⟨h.1, by rw [h.2, hp.len]⟩
theorem stops_stable {p : List Int} {next : List (List Int)} {m : Nat} (hp : rightP p) (hn : next.length = p.length) (h : Stops p next m) : stableP (iterP p next m) next := by
  have hi := iter_right hp hn m
  exact (stable_count hi.1 (by rw [hi.2, hn])).2 h.1
theorem stops_zero {p : List Int} {next : List (List Int)} (hp : rightP p) (hn : next.length = p.length) (h : stableP p next) : Stops p next 0 := ⟨(stable_count hp hn).1 h, fun j hj => absurd hj (Nat.not_lt_zero j)⟩
theorem refine_count {n : Nat} {p : List Int} {next : List (List Int)} (hp : PartN n p) (hn : next.length = n) : countP p ≤ countP (refineP p next) := by
  have hr := hp.refine hn
  exact count_mono hr.right hp.right (by rw [hr.len, hp.len]) (by rw [finerB, hr.len]; exact refine_le hn)
theorem right_discrete {n N : Nat} {p e : List Int} (he : rightP e) (hl : e.length = N) (h : ∀ i j, i < N → j < N → at_ e i = at_ e j → i = j) : countP e = N := by
  have h1 : countP e = (Num.firsts e).length := right_count he
  rw [h1]
  have h2 : ∀ m, m ≤ N → (Num.firsts (e.take m)).length = m := by
    intro m
    induction m with
    | zero => intro _; rfl
    | succ m ih =>
      intro hm
      have hml : m < e.length := by omega
      rw [Num.take_succ e m hml, Num.firsts_snoc]
      have hno : e[m] ∉ Num.firsts (e.take m) := by
        rw [Num.mem_firsts, List.mem_take_iff_getElem]
        rintro ⟨i, hi, e1⟩
        have := h i m (by omega) (by omega) (by rw [at_get (by omega), at_get hml]; exact e1)
        omega
      rw [if_neg hno, List.length_append, ih (by omega)]
      rfl
  have h3 := h2 N (Nat.le_refl _)
  rw [← hl, List.take_length] at h3
  rw [h3, hl]
end Go.Proofs.Ytboofecfmhbacaa

/- The contracts of package blocks at partitions of n elements, as the laws use them. -/
namespace Go.Proofs.Ytboofecfmhbacaa
open Go.RowKit Go.WideMaps Go.Maps Go.Proofs.YtboofecfmhbacaaW.PrintWords Go.Proofs.YtboofecfmhbacaaW.PrintLast Go.Proofs.YtboofecfmhbacaaW.PrintMore
set_option linter.unusedVariables false
set_option linter.unusedSimpArgs false

theorem rightN (A0 : Option Addr) (c0 n : Nat) (p : List Int) (w : World) (hp : PartN n p) (hr0 : Kd.C (Kd.int .i64) w A0 n p) : Calls Try.prog 37 #[.slice A0 n c0] w fun e w' => e = .returned (.bool true) ∧ Below w.heap.size w w' := by
  have hl := hp.len
  subst hl
  have h := right_walk A0 c0 p w hr0 hp.right.small.wf
  rwa [decide_eq_true hp.right] at h
theorem countN (A0 : Option Addr) (c0 n : Nat) (p : List Int) (w : World) (hp : PartN n p) (hr0 : Kd.C (Kd.int .i64) w A0 n p) (m : Nat) (hm : countP p = m) : Calls Try.prog 34 #[.slice A0 n c0] w fun e w' => e = .returned (.tuple #[.int .i64 m, .int .i64 0]) ∧ Below w.heap.size w w' := by
  have hl := hp.len
  subst hl
  have h := countOf_walk A0 c0 p w hr0 hp.right.small.wf
  rwa [if_pos hp.right, if_pos hp.right, hm] at h
theorem ofN (A0 : Option Addr) (c0 n : Nat) (p : List Int) (w : World) (hl : p.length = n) (hn : n ≤ 1024) (hw : Wf p) (hr0 : Kd.C (Kd.int .i64) w A0 n p) (r : List Int) (he : Num.num p = r) : Calls Try.prog 17 #[.slice A0 n c0] w fun e w' => ∃ A c, e = .returned (.tuple #[.slice A n c, .int .i64 0]) ∧ Kd.C (Kd.int .i64) w' A n r ∧ Below w.heap.size w w' := by
  subst hl he
  refine (ofInt_walk A0 c0 p w hr0 hw).mono ?_
  rintro e w' ⟨v, rfl, hR, hB⟩
  rw [if_neg (by omega)] at hR ⊢
  obtain ⟨A, c, rfl, hC⟩ := r_read hR (Num.num_length p)
  exact ⟨A, c, rfl, hC, hB⟩
theorem meetN (A0 : Option Addr) (c0 n : Nat) (p : List Int) (A1 : Option Addr) (c1 : Nat) (q : List Int) (w : World) (hp : PartN n p) (hr0 : Kd.C (Kd.int .i64) w A0 n p) (hq : PartN n q) (hr1 : Kd.C (Kd.int .i64) w A1 n q) (r : List Int) (he : meetP p q = r) : Calls Try.prog 30 #[.slice A0 n c0, .slice A1 n c1] w fun e w' => ∃ A c, e = .returned (.tuple #[.slice A n c, .int .i64 0]) ∧ Kd.C (Kd.int .i64) w' A n r ∧ Below w.heap.size w w' := by
  have hml := (hp.meet hq).len
  have hl := hp.len
  have hl2 := hq.len
  subst hl he
  have h := meet_yes A0 c0 p A1 c1 q w hr0 (by rw [hl2]; exact hr1) hp.right hq.right hl2.symm
  rw [hl2] at h
  refine h.mono ?_
  rintro e w' ⟨v, rfl, hR, hB⟩
  obtain ⟨A, c, rfl, hC⟩ := r_read hR hml
  exact ⟨A, c, rfl, hC, hB⟩
theorem joinN (A0 : Option Addr) (c0 n : Nat) (p : List Int) (A1 : Option Addr) (c1 : Nat) (q : List Int) (w : World) (hp : PartN n p) (hr0 : Kd.C (Kd.int .i64) w A0 n p) (hq : PartN n q) (hr1 : Kd.C (Kd.int .i64) w A1 n q) (o : List Int) (ho : IsJoin p q o) : Calls Try.prog 31 #[.slice A0 n c0, .slice A1 n c1] w fun e w' => ∃ A c, e = .returned (.tuple #[.slice A n c, .int .i64 0]) ∧ Kd.C (Kd.int .i64) w' A n o ∧ Below w.heap.size w w' := by
  have hol := (ho.part hp).len
  have hl := hp.len
  have hl2 := hq.len
  subst hl
  have h := join_yes A0 c0 p A1 c1 q w hr0 (by rw [hl2]; exact hr1) hp.right hq.right hl2.symm
  rw [hl2] at h
  refine h.mono ?_
  rintro e w' ⟨v, l, rfl, hJ, hR, hB⟩
  rw [hJ.one ho] at hR
  obtain ⟨A, c, rfl, hC⟩ := r_read hR hol
  exact ⟨A, c, rfl, hC, hB⟩
theorem finerN (A0 : Option Addr) (c0 n : Nat) (p : List Int) (A1 : Option Addr) (c1 : Nat) (q : List Int) (w : World) (hp : PartN n p) (hr0 : Kd.C (Kd.int .i64) w A0 n p) (hq : PartN n q) (hr1 : Kd.C (Kd.int .i64) w A1 n q) (b : Bool) (hb : decide (finerP p q) = b) : Calls Try.prog 32 #[.slice A0 n c0, .slice A1 n c1] w fun e w' => e = .returned (.tuple #[.bool b, .int .i64 0]) ∧ Below w.heap.size w w' := by
  have hl := hp.len
  have hl2 := hq.len
  subst hl hb
  have h := finer_yes A0 c0 p A1 c1 q w hr0 (by rw [hl2]; exact hr1) hp.right hq.right hl2.symm
  rwa [hl2] at h
theorem refineN (A0 : Option Addr) (c0 n : Nat) (p : List Int) (A1 : Option Addr) (c1 N : Nat) (next : List (List Int)) (w : World) (hp : PartN n p) (hr0 : Kd.C (Kd.int .i64) w A0 n p) (hn : nextP n next) (hN : next.length = N) (hr1 : Kd.C (Kd.slice 3 (Kd.int .i64)) w A1 N next) (r : List Int) (he : refineP p next = r) : Calls Try.prog 35 #[.slice A0 n c0, .slice A1 N c1] w fun e w' => ∃ A c, e = .returned (.tuple #[.slice A n c, .int .i64 0]) ∧ Kd.C (Kd.int .i64) w' A n r ∧ Below w.heap.size w w' := by
  have hl := hp.len
  subst hl hN he
  refine (refineOf_yes A0 c0 p A1 c1 next w hr0 hr1 hp.right hn).mono ?_
  rintro e w' ⟨v, rfl, hR, hB⟩
  obtain ⟨A, c, rfl, hC⟩ := r_read hR (by rw [refine_length, hn.1])
  exact ⟨A, c, rfl, hC, hB⟩
theorem stableN (A0 : Option Addr) (c0 n : Nat) (p : List Int) (A1 : Option Addr) (c1 N : Nat) (next : List (List Int)) (w : World) (hp : PartN n p) (hr0 : Kd.C (Kd.int .i64) w A0 n p) (hn : nextP n next) (hN : next.length = N) (hr1 : Kd.C (Kd.slice 3 (Kd.int .i64)) w A1 N next) (b : Bool) (hb : decide (stableP p next) = b) : Calls Try.prog 29 #[.slice A0 n c0, .slice A1 N c1] w fun e w' => e = .returned (.tuple #[.bool b, .int .i64 0]) ∧ Below w.heap.size w w' := by
  have hl := hp.len
  subst hl hN hb
  exact stable_yes A0 c0 p A1 c1 next w hr0 hr1 hp.right hn
theorem coarsestN (A0 : Option Addr) (c0 n : Nat) (p : List Int) (A1 : Option Addr) (c1 N : Nat) (next : List (List Int)) (w : World) (hp : PartN n p) (hr0 : Kd.C (Kd.int .i64) w A0 n p) (hn : nextP n next) (hN : next.length = N) (hr1 : Kd.C (Kd.slice 3 (Kd.int .i64)) w A1 N next) (m : Nat) (hm : Stops p next m) (r : List Int) (he : iterP p next m = r) : Calls Try.prog 27 #[.slice A0 n c0, .slice A1 N c1] w fun e w' => ∃ A c, e = .returned (.tuple #[.slice A n c, .int .i64 m, .int .i64 0]) ∧ Kd.C (Kd.int .i64) w' A n r ∧ Below w.heap.size w w' := by
  have hl := hp.len
  subst hl hN he
  refine (coarsest_yes A0 c0 p A1 c1 next w hr0 hr1 hp.right hn).mono ?_
  rintro e w' ⟨m', v, rfl, hS, hR, hB⟩
  obtain rfl := stops_one hS hm
  obtain ⟨A, c, rfl, hC⟩ := r_read hR ((iter_right hp.right hn.1 m').2)
  exact ⟨A, c, rfl, hC, hB⟩
theorem quotientN (A0 : Option Addr) (c0 n : Nat) (p : List Int) (A1 : Option Addr) (c1 N : Nat) (next : List (List Int)) (w : World) (hp : PartN n p) (hr0 : Kd.C (Kd.int .i64) w A0 n p) (hn : nextP n next) (hN : next.length = N) (hr1 : Kd.C (Kd.slice 3 (Kd.int .i64)) w A1 N next) (hs : stableP p next) (m : Nat) (hm : countP p = m) : Calls Try.prog 28 #[.slice A0 n c0, .slice A1 N c1] w fun e w' => ∃ A c, e = .returned (.tuple #[.slice A m c, .int .i64 0]) ∧ Kd.C (Kd.slice 3 (Kd.int .i64)) w' A m (quotP p next) ∧ Below w.heap.size w w' := by
  have hl := hp.len
  subst hl hN
  refine (quotient_yes A0 c0 p A1 c1 next w hr0 hr1 hp.right hn hs).mono ?_
  rintro e w' ⟨v, rfl, hR, hB⟩
  obtain ⟨A, c, rfl, hC⟩ := r_read hR (by rw [quot_length, hm])
  exact ⟨A, c, rfl, hC, hB⟩
theorem splitN (A0 : Option Addr) (c0 n : Nat) (p : List Int) (A1 : Option Addr) (c1 N : Nat) (next : List (List Int)) (w : World) (hp : PartN n p) (hr0 : Kd.C (Kd.int .i64) w A0 n p) (hn : nextP n next) (hN : next.length = N) (hr1 : Kd.C (Kd.slice 3 (Kd.int .i64)) w A1 N next) (hs : ¬ stableP p next) : Calls Try.prog 28 #[.slice A0 n c0, .slice A1 N c1] w fun e w' => e = .returned (.tuple #[.slice none 0 0, .int .i64 62]) ∧ Below w.heap.size w w' := by
  have hl := hp.len
  subst hl hN
  exact quotient_split A0 c0 p A1 c1 next w hr0 hr1 hp.right hn hs
theorem membersN (A0 : Option Addr) (c0 n : Nat) (p : List Int) (w : World) (hp : PartN n p) (hr0 : Kd.C (Kd.int .i64) w A0 n p) (m : Nat) (hm : countP p = m) : Calls Try.prog 36 #[.slice A0 n c0] w fun e w' => ∃ A c, e = .returned (.tuple #[.slice A m c, .int .i64 0]) ∧ Kd.C (Kd.slice 3 (Kd.int .i64)) w' A m (membersP p) ∧ Below w.heap.size w w' := by
  have hl := hp.len
  subst hl
  refine (members_yes A0 c0 p w hr0 hp.right).mono ?_
  rintro e w' ⟨v, rfl, hR, hB⟩
  obtain ⟨A, c, rfl, hC⟩ := r_read hR (by unfold membersP; rw [rowsP_length, hm])
  exact ⟨A, c, rfl, hC, hB⟩
theorem makeN (A0 : Option Addr) (c0 : Nat) (l : List Int) (w : World) (hr : Kd.C (Kd.int .u8) w A0 l.length l) (hw : ∀ y ∈ l, (Lit.int .u8 y).wf = true) (hc : l.length ≤ c0) :
    Calls Try.prog 25 #[.slice A0 l.length c0] w fun e w' => ∃ (n : Nat) (A : Option Addr) (c : Nat) (p : List Int), e = .returned (.slice A n c) ∧ n ≤ 30 ∧ PartN n p ∧ Kd.C (Kd.int .i64) w' A n p ∧ Below w.heap.size w w' := by
  refine (madeC_walk A0 c0 l w hr hw hc).mono ?_
  rintro e w' ⟨A, c, p, rfl, hp, hpl, hC, hB⟩
  exact ⟨p.length, A, c, p, rfl, by omega, ⟨hp, rfl⟩, hC, hB⟩
theorem nextN (n : Nat) (A0 : Option Addr) (c0 : Nat) (l : List Int) (w : World) (hr : Kd.C (Kd.int .u8) w A0 l.length l) (hw : ∀ y ∈ l, (Lit.int .u8 y).wf = true) (hn : n ≤ 30) :
    Calls Try.prog 26 #[.int .i64 n, .slice A0 l.length c0] w fun e w' => ∃ (A : Option Addr) (c : Nat) (next : List (List Int)), e = .returned (.slice A n c) ∧ nextP n next ∧ Kd.C (Kd.slice 3 (Kd.int .i64)) w' A n next ∧ Below w.heap.size w w' := by
  refine (followsC_walk n A0 c0 l w hr hw hn).mono ?_
  rintro e w' ⟨A, c, next, rfl, hN, hC, hB⟩
  rw [hN.1] at hC ⊢
  exact ⟨A, c, next, rfl, hN, hC, hB⟩
theorem twoN (A0 : Option Addr) (c0 : Nat) (k : List Int) (A1 : Option Addr) (c1 : Nat) (l : List Int) (w : World) (hr0 : Kd.C (Kd.int .u8) w A0 k.length k) (hw0 : ∀ y ∈ k, (Lit.int .u8 y).wf = true) (hc0 : k.length ≤ c0) (hr1 : Kd.C (Kd.int .u8) w A1 l.length l) (hw1 : ∀ y ∈ l, (Lit.int .u8 y).wf = true) (hc1 : l.length ≤ c1) :
    Calls Try.prog 33 #[.slice A0 k.length c0, .slice A1 l.length c1] w fun e w' => ∃ (n : Nat) (A : Option Addr) (c : Nat) (p : List Int) (A' : Option Addr) (c' : Nat) (q : List Int), e = .returned (.tuple #[.slice A n c, .slice A' n c']) ∧ n ≤ 30 ∧ PartN n p ∧ Kd.C (Kd.int .i64) w' A n p ∧ PartN n q ∧ Kd.C (Kd.int .i64) w' A' n q ∧ Below w.heap.size w w' := by
  refine (two_walk A0 c0 k A1 c1 l w hr0 hw0 hc0 hr1 hw1 hc1).mono ?_
  rintro e w' ⟨n, A, c, p, A', c', q, rfl, hn, hp, hpl, hC, hq, hql, hC', hB⟩
  exact ⟨n, A, c, p, A', c', q, rfl, hn, ⟨hp, hpl⟩, hC, ⟨hq, hql⟩, hC', hB⟩
end Go.Proofs.Ytboofecfmhbacaa

/- The walks of the reference's Members, Finer, Meet. -/
namespace Go.Proofs.Ytboofecfmhbacaa
open Go.RowKit Go.WideMaps Go.Maps Go.Proofs.YtboofecfmhbacaaW.PrintWords Go.Proofs.YtboofecfmhbacaaW.PrintLast Go.Proofs.YtboofecfmhbacaaW.PrintMore
set_option linter.unusedVariables false
set_option linter.unusedSimpArgs false

theorem rowsP_succ (p : List Int) (b : Nat) : rowsP p b ++ [idxs p 0 (b : Int)] = rowsP p (b + 1) := by simp [rowsP, List.range_succ]

set_option maxRecDepth 100000 in
set_option maxHeartbeats 4000000 in
theorem refMembers_walk (A0 : Option Addr) (c0 : Nat) (p : List Int) (w : World) (hr0 : Kd.C (Kd.int .i64) w A0 p.length p) (hp : rightP p) :
    Calls Try.prog 60 #[.slice A0 p.length c0] w fun e w' => ∃ v, e = .returned v ∧ Kd.R (Kd.slice 3 (Kd.int .i64)) 22 w' w.heap.size (fun _ => True) v (membersP p) ∧ Below w.heap.size w w' := by
  obtain ⟨n, hcn⟩ : ∃ n : Nat, countP p = n := ⟨(countP p).toNat, by have := count_bounds hp; omega⟩
  have hn0 : n ≤ 1024 := by have := count_bounds hp; have := hp.1; omega
  have hn1 : p.length ≤ 1024 := hp.1
  have HR0 := Aside0.mk hr0
  have HC := Aside0.mk (fun w1 (hB : Below w.heap.size w w1) => (show Calls Try.prog 59 #[.slice A0 p.length c0] w1 fun e w' => e = .returned (.int .i64 (n : Int)) ∧ Below w1.heap.size w1 w' by rw [← hcn]; exact refCount_walk A0 c0 p w1 (Kd.C_below hr0 hB) hp))
  rw [show membersP p = rowsP p n by unfold membersP; rw [hcn, Int.toNat_natCast]]
  clear hr0 hp hcn
  go_enter Try.func60, Try.ntmps60
  go_wp2
  go_loopw [3, 4] (fun out b wr => ∃ k : Nat, b = .int .i64 k ∧ Aside0 (k ≤ n ∧ Kd.R (Kd.slice 3 (Kd.int .i64)) 22 wr w.heap.size (fun _ => True) out (rowsP p k) ∧ Below w.heap.size w wr)) (fun _ b _ => n - (intOf b).toNat)
  case atStart => exact ⟨0, rfl, Nat.zero_le _, Kd.R_nil _ _ _ _ _, Below.refl _ _⟩
  case round =>
    obtain ⟨b, rfl, HI⟩ := hrel
    have hbl := HI.out.1
    have HC0 := Aside0.mk (HC.out wr HI.out.2.2)
    by_cases hb : b < n
    · go_wp2_with (go_at_call 59; refine HC0.out.mono ?_; rintro e w1 ⟨rfl, hB⟩; have HB1 := Aside0.mk hB; clear hB)
      go_loopw [5, 6] (fun l i wq => ∃ (t : Nat), i = .int .i64 t ∧ Aside0 (t ≤ p.length ∧ Kd.R (Kd.int .i64) 3 wq w1.heap.size (fun _ => True) l (idxs (p.take t) 0 (b : Int)) ∧ Below w1.heap.size w1 wq)) (fun _ i _ => p.length - (intOf i).toNat)
      case atStart => exact ⟨0, rfl, Nat.zero_le _, by rw [List.take_zero]; exact Kd.R_nil _ _ _ _ _, Below.refl _ _⟩
      case round =>
        obtain ⟨t, rfl, HT⟩ := hrel
        have htl := HT.out.1
        by_cases ht : t < p.length
        · have HB := Aside0.mk (HI.out.2.2.trans ((HB1.out.trans (HT.out.2.2.mono HB1.out.size)).mono HI.out.2.2.size))
          obtain ⟨ad0, e0, hx0⟩ := ints_at (Kd.C_below HR0.out HB.out) t ht
          subst e0
          have hsn := idxs_snoc (p.take t) 0 p[t] (b : Int)
          rw [← Num.take_succ p t ht, List.length_take, Nat.min_eq_left htl, Nat.zero_add] at hsn
          have hil := idxs_length (p.take t) 0 (b : Int)
          have HL := Aside0.mk (show (idxs (p.take t) 0 (b : Int)).length ≤ 1000000 by rw [List.length_take] at hil; omega)
          by_cases hx : p[t] = (b : Int)
          · have g1 : (p[t] == (b : Int)) = true := beq_iff_eq.mpr hx
            rw [if_pos hx] at hsn
            rw [hx] at hx0
            have g2 : ((b : Int) == (b : Int)) = true := by simp
            have HS := Aside0.mk hsn
            clear hsn hx hil
            go_wp2_with (at_builtin; refine append_int (w0 := w1) (W := wr) w1.heap.size rfl (.tmp 25) (.tmp 27) rfl _ (idxs (p.take t) 0 (b : Int)) _ rfl rfl HT.out.2.1 HT.out.2.2 HT.out.2.2.size HL.out ?_; rintro v1 w3 hR3 hB3; rw [← HS.out] at hR3; have HK := Aside0.mk (And.intro hR3 hB3); clear hR3 hB3)
            go_roundw
            case rel => exact ⟨t + 1, by go_num, by omega, HK.out.1, HK.out.2⟩
            case measure => simp [intOf]; omega
          · have g1 : (p[t] == (b : Int)) = false := beq_eq_false_iff_ne.mpr hx
            rw [if_neg hx] at hsn
            have HS := Aside0.mk hsn
            clear hsn hx hil
            go_wp2
            go_roundw
            case rel => exact ⟨t + 1, by go_num, by omega, by rw [HS.out]; exact HT.out.2.1, HT.out.2.2⟩
            case measure => simp [intOf]; omega
        · have ht' : t = p.length := by omega
          have HB := Aside0.mk (HI.out.2.2.trans (HB1.out.mono HI.out.2.2.size))
          have HU := Aside0.mk (show Kd.R (Kd.int .i64) 3 wr w.heap.size (fun k => True ∧ some k ≠ u3.ownBlock) u5 (idxs p 0 (b : Int)) ∧ Kd.R (Kd.slice 3 (Kd.int .i64)) 22 wr w.heap.size (fun _ => True) u3 (rowsP p b) ∧ Below w.heap.size w wr by
            have h := HT.out.2.1
            rw [ht', List.take_length] at h
            have hout := Kd.R_below HI.out.2.1 HB1.out
            exact ⟨Kd.R_lower (Kd.R_newR h hout) HB.out.size, Kd.R_below hout HT.out.2.2, HB.out.trans (HT.out.2.2.mono HB.out.size)⟩)
          have HSS := Aside0.mk (rowsP_succ p b)
          have HL := Aside0.mk (show (rowsP p b).length ≤ 1000000 by rw [rowsP_length]; omega)
          obtain ⟨A8, c8, rfl⟩ := R_shape HU.out.1 rfl
          clear ht'
          go_wp2_with (at_builtin; refine append_row (w0 := w) (W := wr) w.heap.size rfl (.tmp 29) (.tmp 31) rfl u3 (rowsP p b) _ (idxs p 0 (b : Int)) rfl rfl HU.out.2.1 HU.out.1 HU.out.2.2 HU.out.2.2.size HL.out ?_; rintro v1 w3 hR3 hB3; rw [HSS.out] at hR3; have HK := Aside0.mk (And.intro hR3 hB3); clear hR3 hB3)
          go_roundw
          case rel => exact ⟨b + 1, by go_num, by omega, HK.out.1, HK.out.2⟩
          case measure => simp [intOf]; omega
    · have hb' : b = n := by omega
      have HD := Aside0.mk (show Kd.R (Kd.slice 3 (Kd.int .i64)) 22 wr w.heap.size (fun _ => True) u3 (rowsP p n) by have h := HI.out.2.1; rwa [hb'] at h)
      clear hb'
      go_wp2_with (go_at_call 59; refine HC0.out.mono ?_; rintro e w1 ⟨rfl, hB⟩; have HB1 := Aside0.mk hB; clear hB)
      go_ret
      exact ⟨_, rfl, Kd.R_below HD.out HB1.out, HI.out.2.2.trans (HB1.out.mono HI.out.2.2.size)⟩

set_option maxRecDepth 100000 in
set_option maxHeartbeats 4000000 in
theorem refMeet_walk (A0 : Option Addr) (c0 : Nat) (p : List Int) (A1 : Option Addr) (c1 : Nat) (q : List Int) (w : World) (hr0 : Kd.C (Kd.int .i64) w A0 p.length p) (hr1 : Kd.C (Kd.int .i64) w A1 q.length q) (hl : p.length = q.length) (hn : p.length ≤ 1000000) :
    Calls Try.prog 62 #[.slice A0 p.length c0, .slice A1 q.length c1] w fun e w' => ∃ v, e = .returned v ∧ Kd.R (Kd.int .i64) 3 w' w.heap.size (fun _ => True) v (meetP p q) ∧ Below w.heap.size w w' := by
  have HR := Aside0.mk hr0
  have HR1 := Aside0.mk hr1
  have HLL := Aside0.mk hl
  obtain ⟨g, hg⟩ : ∃ g : Nat → Nat → Bool, g = fun i k => (at_ p i == at_ p k) && (at_ q i == at_ q k) := ⟨_, rfl⟩
  have HG := Aside0.mk hg
  clear hr0 hr1 hg hl
  have hmk := print_make_of 22 3 (.int .i64 0) 8 Try.underlying22 info3 rfl (by decide) p.length (by omega)
  go_enter Try.func62, Try.ntmps62
  go_wp2
  go_loopw [5, 6] (fun out i wr => ∃ k : Nat, i = .int .i64 k ∧ Aside0 (k ≤ p.length ∧ Kd.R (Kd.slice 3 (Kd.int .i64)) 22 wr w.heap.size (fun _ => True) out (matB g p.length k) ∧ Below w.heap.size w wr)) (fun _ i _ => p.length - (intOf i).toNat)
  case atStart => exact ⟨0, rfl, Nat.zero_le _, Kd.R_nil _ _ _ _ _, Below.refl _ _⟩
  case round =>
    obtain ⟨i, rfl, HI⟩ := hrel
    have hil := HI.out.1
    by_cases hi : i < p.length
    · have hiq : i < q.length := by rw [← HLL.out]; exact hi
      go_wp2
      obtain ⟨wo, hwo⟩ : ∃ wo : World, wo = wr := ⟨_, rfl⟩
      rw [← hwo] at HI ⊢
      clear hwo
      go_loopw [8] (fun k wq => ∃ (j : Nat), k = .int .i64 j ∧ Aside0 (j ≤ p.length ∧ Kd.R (Kd.int .i64) 3 wq wo.heap.size (fun _ => True) (.slice (some ⟨wo.heap.size, 0, none⟩) p.length p.length) (rowB (g i) p.length j) ∧ Below wo.heap.size wo wq)) (fun k _ => p.length - (intOf k).toNat)
      case atStart => exact ⟨0, rfl, Nat.zero_le _, by rw [rowB_zero]; exact R_made wo p.length (by omega), lit_below wo _⟩
      case round =>
        obtain ⟨j, rfl, HJ⟩ := hrel
        have hjl := HJ.out.1
        by_cases hj : j < p.length
        · have hjq : j < q.length := by rw [← HLL.out]; exact hj
          have HB := Aside0.mk (HI.out.2.2.trans (HJ.out.2.2.mono HI.out.2.2.size))
          obtain ⟨ad, e1, hx1⟩ := ints_at (Kd.C_below HR.out HB.out) i hi
          obtain ⟨ad', e2, hx2⟩ := ints_at (Kd.C_below HR.out HB.out) j hj
          obtain ⟨bd, e3, hx3⟩ := ints_at (Kd.C_below HR1.out HB.out) i hiq
          obtain ⟨bd', e4, hx4⟩ := ints_at (Kd.C_below HR1.out HB.out) j hjq
          subst e1 e3
          obtain rfl : ad = ad' := by injection e2
          obtain rfl : bd = bd' := by injection e4
          rw [← at_get hi] at hx1
          rw [← at_get hj] at hx2
          rw [← at_get hiq] at hx3
          rw [← at_get hjq] at hx4
          have hge : g i j = ((at_ p i == at_ p j) && (at_ q i == at_ q j)) := by rw [HG.out]
          have HQ := Aside0.mk (fun m => Kd.R_drewN HJ.out.2.1 m)
          have HQB := Aside0.mk (fun m => pw_below_drewN HJ.out.2.2 m)
          obtain ⟨⟨v0, hv0⟩, hf0, -, -⟩ := put_int (w := w) HJ.out.2.1 (rowB_length _ _ _) j hj 1
          have HS := Aside0.mk (fun (hgt : g i j = true) m => show Kd.R (Kd.int .i64) 3 ((wr.drewN m).setCell ⟨wo.heap.size, j, none⟩ (.int .i64 1)) wo.heap.size (fun _ => True) (.slice (some ⟨wo.heap.size, 0, none⟩) p.length p.length) (rowB (g i) p.length (j + 1)) ∧ Below wo.heap.size wo ((wr.drewN m).setCell ⟨wo.heap.size, j, none⟩ (.int .i64 1)) by
              obtain ⟨-, -, h2, h3⟩ := put_int (w := w) (HQ.out m) (rowB_length _ _ _) j hj 1
              rw [rowB_hit _ _ _ hgt] at h3
              exact ⟨h3, (HQB.out m).setCell h2 _⟩)
          generalize at_ p i = y1 at hx1 hge
          generalize at_ p j = y2 at hx2 hge
          generalize at_ q i = y3 at hx3 hge
          generalize at_ q j = y4 at hx4 hge
          clear e2 e4
          by_cases h1 : y1 = y2
          · have g1 : (y1 == y2) = true := beq_iff_eq.mpr h1
            by_cases h2 : y3 = y4
            · have g2 : (y3 == y4) = true := beq_iff_eq.mpr h2
              have HE := Aside0.mk (show g i j = true by rw [hge, g1, g2]; rfl)
              clear h1 h2 hge
              go_wp2
              go_quiet (fail)
              go_wp2
              go_roundw
              case rel => exact ⟨j + 1, by go_num, by omega, (HS.out HE.out nq).1, (HS.out HE.out nq).2⟩
              case measure => simp [intOf]; omega
            · have g2 : (y3 == y4) = false := beq_eq_false_iff_ne.mpr h2
              have HK := Aside0.mk (rowB_miss (g i) p.length j (by rw [hge, g1, g2]; rfl))
              clear h1 h2 hge
              go_wp2
              go_quiet (fail)
              go_wp2
              go_roundw
              case rel => exact ⟨j + 1, by go_num, by omega, by rw [← HK.out]; exact HQ.out nq, HQB.out nq⟩
              case measure => simp [intOf]; omega
          · have g1 : (y1 == y2) = false := beq_eq_false_iff_ne.mpr h1
            have HK := Aside0.mk (rowB_miss (g i) p.length j (by rw [hge, g1]; rfl))
            clear h1 hge
            go_wp2
            go_quiet (fail)
            go_wp2
            go_roundw
            case rel => exact ⟨j + 1, by go_num, by omega, by rw [← HK.out]; exact HQ.out nq, HQB.out nq⟩
            case measure => simp [intOf]; omega
        · have hj' : j = p.length := by omega
          have HU := Aside0.mk (show Kd.R (Kd.int .i64) 3 wr w.heap.size (fun k => True ∧ some k ≠ u5.ownBlock) (.slice (some ⟨wo.heap.size, 0, none⟩) p.length p.length) (rowB (g i) p.length p.length) ∧ Kd.R (Kd.slice 3 (Kd.int .i64)) 22 wr w.heap.size (fun _ => True) u5 (matB g p.length i) ∧ Below w.heap.size w wr by
            have h := HJ.out.2.1
            rw [hj'] at h
            exact ⟨Kd.R_lower (Kd.R_newR h HI.out.2.1) HI.out.2.2.size, Kd.R_below HI.out.2.1 HJ.out.2.2, HI.out.2.2.trans (HJ.out.2.2.mono HI.out.2.2.size)⟩)
          have HS := Aside0.mk (matB_succ g p.length i)
          have HL := Aside0.mk (show (matB g p.length i).length ≤ 1000000 by rw [matB_length]; omega)
          clear hj'
          go_wp2_with (at_builtin; refine append_row (w0 := w) (W := wr) w.heap.size rfl (.tmp 47) (.tmp 49) rfl u5 (matB g p.length i) _ (rowB (g i) p.length p.length) rfl rfl HU.out.2.1 HU.out.1 HU.out.2.2 HU.out.2.2.size HL.out ?_; rintro v1 w1 hR1 hB1; rw [HS.out] at hR1; have HK := Aside0.mk (And.intro hR1 hB1); clear hR1 hB1)
          go_roundw
          case rel => exact ⟨i + 1, by go_num, by omega, HK.out.1, HK.out.2⟩
          case measure => simp [intOf]; omega
    · have hi' : i = p.length := by omega
      obtain ⟨A2, c2, hu, hc2, hC2⟩ := Kd.R_reads HI.out.2.1
      rw [hi', matB_length] at hu hC2
      subst hu
      have hnum := refnum_walk (fun k => [at_ p k, at_ q k]) A2 c2 (matB g p.length p.length) wr (by rw [matB_length]; exact hC2) (by rw [matB_length]; omega) (matB_tells _ g p.length (fun i k _ _ => by rw [HG.out]; simp))
      rw [matB_length, ← meet_numR rfl HLL.out.symm] at hnum
      have HN := Aside0.mk hnum
      clear hi' hC2 hnum
      go_wp2_with (go_at_call 43; refine HN.out.mono ?_; rintro e w9 ⟨v, rfl, hR9, hB9⟩; have HD := Aside0.mk (And.intro (Kd.R_lower hR9 HI.out.2.2.size) (HI.out.2.2.trans (hB9.mono HI.out.2.2.size))); clear hR9 hB9)
      go_ret
      exact ⟨_, rfl, HD.out.1, HD.out.2⟩

set_option maxRecDepth 100000 in
set_option maxHeartbeats 4000000 in
theorem refFiner_walk (A0 : Option Addr) (c0 : Nat) (p : List Int) (A1 : Option Addr) (c1 : Nat) (q : List Int) (w : World) (hr0 : Kd.C (Kd.int .i64) w A0 p.length p) (hr1 : Kd.C (Kd.int .i64) w A1 q.length q) (hp : PartN p.length p) (hq : PartN p.length q) :
    Calls Try.prog 61 #[.slice A0 p.length c0, .slice A1 q.length c1] w fun e w' => e = .returned (.bool (decide (finerP p q))) ∧ Below w.heap.size w w' := by
  have HR := Aside0.mk hr0
  have HR1 := Aside0.mk hr1
  have hn := hp.le
  have HLL := Aside0.mk hq.len
  have HF := Aside0.mk (finer_le hp hq)
  clear hr0 hr1 hp hq
  go_enter Try.func61, Try.ntmps61
  go_wp2
  go_loopw [5] (fun i wr => ∃ k : Nat, i = .int .i64 k ∧ Aside0 (k ≤ p.length ∧ (∀ a b, a < k → b < a → at_ p a = at_ p b → at_ q a = at_ q b) ∧ Below w.heap.size w wr)) (fun i _ => p.length - (intOf i).toNat)
  case atStart => exact ⟨0, rfl, Nat.zero_le _, fun a b h => absurd h (Nat.not_lt_zero a), Below.refl _ _⟩
  case round =>
    obtain ⟨i, rfl, HI⟩ := hrel
    have hil := HI.out.1
    by_cases hi : i < p.length
    · have hiq : i < q.length := by rw [HLL.out]; exact hi
      go_wp2
      obtain ⟨wo, hwo⟩ : ∃ wo : World, wo = wr := ⟨_, rfl⟩
      rw [← hwo] at HI ⊢
      clear hwo
      go_loopw [6] (fun k wq => ∃ (j : Nat), k = .int .i64 j ∧ Aside0 (j ≤ i ∧ (∀ b, b < j → at_ p i = at_ p b → at_ q i = at_ q b) ∧ Below w.heap.size w wq)) (fun k _ => i - (intOf k).toNat)
      case atStart => exact ⟨0, rfl, Nat.zero_le _, fun b h => absurd h (Nat.not_lt_zero b), HI.out.2.2⟩
      case round =>
        obtain ⟨j, rfl, HJ⟩ := hrel
        have hjl := HJ.out.1
        by_cases hj : j < i
        · have hjp : j < p.length := by omega
          have hjq : j < q.length := by rw [HLL.out]; exact hjp
          obtain ⟨ad, e1, hx1⟩ := ints_at (Kd.C_below HR.out HJ.out.2.2) i hi
          obtain ⟨ad', e2, hx2⟩ := ints_at (Kd.C_below HR.out HJ.out.2.2) j hjp
          obtain ⟨bd, e3, hx3⟩ := ints_at (Kd.C_below HR1.out HJ.out.2.2) i hiq
          obtain ⟨bd', e4, hx4⟩ := ints_at (Kd.C_below HR1.out HJ.out.2.2) j hjq
          subst e1 e3
          obtain rfl : ad = ad' := by injection e2
          obtain rfl : bd = bd' := by injection e4
          rw [← at_get hi] at hx1
          rw [← at_get hjp] at hx2
          rw [← at_get hiq] at hx3
          rw [← at_get hjq] at hx4
          have HQB := Aside0.mk (fun m => pw_below_drewN HJ.out.2.2 m)
          have hgood : (at_ p i = at_ p j → at_ q i = at_ q j) → ∀ b, b < j + 1 → at_ p i = at_ p b → at_ q i = at_ q b := fun h b hb e => by
            by_cases eb : b = j
            · subst eb; exact h e
            · exact HJ.out.2.1 b (by omega) e
          have hbad : at_ p i = at_ p j → at_ q i ≠ at_ q j → decide (finerP p q) = false := fun e h => decide_eq_false fun hf => h (HF.out.1 hf i j hi hjp e)
          generalize at_ p j = y2 at hx2 hgood hbad
          generalize at_ q j = y4 at hx4 hgood hbad
          obtain ⟨y1, hy1⟩ : ∃ y, y = at_ p i := ⟨_, rfl⟩
          obtain ⟨y3, hy3⟩ : ∃ y, y = at_ q i := ⟨_, rfl⟩
          rw [← hy1] at hx1
          rw [← hy3] at hx3
          have HGD := Aside0.mk hgood
          have HBD := Aside0.mk hbad
          have HY := Aside0.mk (And.intro hy1 hy3)
          clear e2 e4 hgood hbad hy1 hy3
          by_cases h1 : y1 = y2
          · have g1 : (y1 == y2) = true := beq_iff_eq.mpr h1
            by_cases h2 : y3 = y4
            · have g2 : (y3 == y4) = true := beq_iff_eq.mpr h2
              have g3 : (y3 != y4) = false := bne_eq_false_iff_eq.mpr h2
              have HE := Aside0.mk (HGD.out (fun _ => by rw [← HY.out.2]; exact h2))
              clear h1 h2
              go_wp2
              go_quiet (fail)
              go_wp2
              go_roundw
              case rel => exact ⟨j + 1, by go_num, by omega, HE.out, HQB.out nq⟩
              case measure => simp [intOf]; omega
            · have g2 : (y3 == y4) = false := beq_eq_false_iff_ne.mpr h2
              have g3 : (y3 != y4) = true := bne_iff_ne.mpr h2
              have HD := Aside0.mk (HBD.out (by rw [← HY.out.1]; exact h1) (by rw [← HY.out.2]; exact h2))
              clear h1 h2
              go_wp2
              go_quiet (fail)
              go_wp2
              go_ret
              exact ⟨by rw [HD.out]; rfl, HQB.out nq⟩
          · have g1 : (y1 == y2) = false := beq_eq_false_iff_ne.mpr h1
            have HE := Aside0.mk (HGD.out (fun e => absurd (by rw [HY.out.1]; exact e) h1))
            clear h1
            go_wp2
            go_quiet (fail)
            go_wp2
            go_roundw
            case rel => exact ⟨j + 1, by go_num, by omega, HE.out, HQB.out nq⟩
            case measure => simp [intOf]; omega
        · have hj' : j = i := by omega
          have HK := Aside0.mk (show ∀ a b, a < i + 1 → b < a → at_ p a = at_ p b → at_ q a = at_ q b from fun a b ha hb e => by
            by_cases ea : a = i
            · subst ea; exact HJ.out.2.1 b (by omega) e
            · exact HI.out.2.1 a b (by omega) hb e)
          clear hj'
          go_wp2
          go_roundw
          case rel => exact ⟨i + 1, by go_num, by omega, HK.out, HJ.out.2.2⟩
          case measure => simp [intOf]; omega
    · have hi' : i = p.length := by omega
      have HD := Aside0.mk (show decide (finerP p q) = true from decide_eq_true (HF.out.2 fun a b ha hb e => by
        rcases Nat.lt_trichotomy a b with h | h | h
        · exact (HI.out.2.1 b a (by omega) h e.symm).symm
        · rw [h]
        · exact HI.out.2.1 a b (by omega) h e))
      clear hi'
      go_wp2
      go_ret
      exact ⟨by rw [HD.out]; rfl, HI.out.2.2⟩
end Go.Proofs.Ytboofecfmhbacaa

/- A coarsest stable partition's quotient can be put together no more. Plain Lean. -/
namespace Go.Proofs.Ytboofecfmhbacaa
set_option linter.unusedVariables false
theorem map_le (f g : Int → Int) (P : Int → Prop) (h : ∀ x y, P x → P y → f x = f y → g x = g y) : ∀ (a b : List Int), (∀ x ∈ a, P x) → (∀ x ∈ b, P x) → a.map f = b.map f → a.map g = b.map g
  | [], [], _, _, _ => rfl
  | [], _ :: _, _, _, e => by simp at e
  | _ :: _, [], _, _, e => by simp at e
  | x :: a, y :: b, ha, hb, e => by
    rw [List.map_cons, List.map_cons] at e ⊢
    injection e with e1 e2
    rw [h x y (ha x (List.mem_cons_self ..)) (hb y (List.mem_cons_self ..)) e1, map_le f g P h a b (fun z hz => ha z (List.mem_cons_of_mem _ hz)) (fun z hz => hb z (List.mem_cons_of_mem _ hz)) e2]
theorem nx_bounds {n : Nat} {next : List (List Int)} (hn : nextP n next) {i : Nat} (hi : i < n) : (nx next i).length ≤ 64 ∧ ∀ x ∈ nx next i, 0 ≤ x ∧ x < n := by
  have hin : i < next.length := by rw [hn.1]; exact hi
  have e : nx next i = next[i] := by simp [nx, List.getD_eq_getElem?_getD, List.getElem?_eq_getElem hin]
  rw [e]
  exact hn.2 _ (List.getElem_mem hin)
theorem quot_nx {n : Nat} {c : List Int} {next : List (List Int)} (hc : PartN n c) (hn : nextP n next) (hs : stableP c next) {i : Nat} (hi : i < n) : nx (quotP c next) (at_ c i).toNat = after c next i := by
  have h := quot_get hc.right (by rw [hn.1, hc.len]) hs (show i < c.length by rw [hc.len]; exact hi)
  simp [nx, List.getD_eq_getElem?_getD, h]
theorem block_lt {n N : Nat} {c : List Int} (hc : PartN n c) (hN : countP c = N) {i : Nat} (hi : i < n) : 0 ≤ at_ c i ∧ at_ c i < N := by
  have hl : i < c.length := by rw [hc.len]; exact hi
  refine ⟨(at_bounds hc.right hl).1, ?_⟩
  rw [← hN, at_get hl]
  exact lt_count _ (List.getElem_mem hl)
theorem quot_next {n N : Nat} {c : List Int} {next : List (List Int)} (hc : PartN n c) (hn : nextP n next) (hs : stableP c next) (hN : countP c = N) : nextP N (quotP c next) := by
  have hl : (quotP c next).length = N := by rw [quot_length, hN, Int.toNat_natCast]
  refine ⟨hl, fun l hm => ?_⟩
  obtain ⟨b, hb, rfl⟩ := List.mem_iff_getElem.1 hm
  obtain ⟨i, hi, e⟩ := right_all hc.right (b := (b : Int)) (by omega) (by omega)
  have hi' : i < n := by rw [← hc.len]; exact hi
  have h1 := quot_nx hc hn hs hi'
  rw [e, Int.toNat_natCast] at h1
  have h2 : nx (quotP c next) b = (quotP c next)[b] := by simp [nx, List.getD_eq_getElem?_getD, List.getElem?_eq_getElem hb]
  rw [← h2, h1]
  have h3 := nx_bounds hn hi'
  refine ⟨by unfold after; rw [List.length_map]; exact h3.1, fun x hx => ?_⟩
  unfold after at hx
  obtain ⟨y, hy, rfl⟩ := List.mem_map.1 hx
  have := h3.2 y hy
  exact block_lt hc hN (by omega)
theorem num_part {N : Nat} {fs : List Int} (hl : fs.length = N) (hN : N ≤ 1024) : PartN N (Num.num fs) := by
  have e := num_numR fs 0
  rw [e, hl]
  exact ⟨numR_right _ _ hN, numR_length _ _⟩
theorem num_at {N : Nat} {fs : List Int} (hl : fs.length = N) {a b : Nat} (ha : a < N) (hb : b < N) : at_ (Num.num fs) a = at_ (Num.num fs) b ↔ at_ fs a = at_ fs b := by
  have e := num_numR fs 0
  rw [e, hl]
  exact numR_iff N _ ha hb
theorem stable_of {n : Nat} {r : List Int} {next : List (List Int)} (hr : PartN n r) (hn : next.length = n) (h : ∀ i j, i < n → j < n → at_ r i = at_ r j → after r next i = after r next j) : stableP r next :=
  (hr.refine hn).eq hr (refine_le hn) fun i j hi hj e => (refine_iff r next (by omega) (by omega)).2 ⟨e, h i j hi hj e⟩
theorem quotient_discrete {n N : Nat} {p c fs E : List Int} {next : List (List Int)} (hp : PartN n p) (hc : PartN n c) (hn : nextP n next) (hs : stableP c next) (hco : ∀ s, PartN n s → stableP s next → leP n s p → leP n s c) (hN : countP c = N)
    (hfl : fs.length = N) (hfp : ∀ i, i < n → at_ fs (at_ c i).toNat = at_ p i) (hE : PartN N E) (hEs : stableP E (quotP c next)) (hEle : leP N E (Num.num fs)) : countP E = N := by
  have hb : ∀ {i}, i < n → (at_ c i).toNat < N := fun hi => by have := block_lt hc hN hi; omega
  have hrp : PartN n (numR n fun i => at_ E (at_ c i).toNat) := ⟨numR_right _ _ hc.le, numR_length _ _⟩
  have hri : ∀ {i j}, i < n → j < n → (at_ (numR n fun i => at_ E (at_ c i).toNat) i = at_ (numR n fun i => at_ E (at_ c i).toNat) j ↔ at_ E (at_ c i).toNat = at_ E (at_ c j).toNat) := fun hi hj => numR_iff n _ hi hj
  generalize (numR n fun i => at_ E (at_ c i).toNat) = r at hrp hri
  have hle : leP n r p := fun i j hi hj e => by
    rw [← hfp i hi, ← hfp j hj]
    exact (num_at hfl (hb hi) (hb hj)).1 (hEle _ _ (hb hi) (hb hj) ((hri hi hj).1 e))
  have hst : stableP r next := by
    refine stable_of hrp hn.1 fun i j hi hj e => ?_
    have hQ := quot_next hc hn hs hN
    have h1 := stable_after (by rw [hQ.1, hE.len]) hEs (show (at_ c i).toNat < E.length by rw [hE.len]; exact hb hi) (show (at_ c j).toNat < E.length by rw [hE.len]; exact hb hj) ((hri hi hj).1 e)
    unfold after at h1
    rw [quot_nx hc hn hs hi, quot_nx hc hn hs hj] at h1
    unfold after at h1 ⊢
    rw [List.map_map, List.map_map] at h1
    refine map_le _ _ (fun x => 0 ≤ x ∧ x < n) (fun x y hx hy e => ?_) _ _ (nx_bounds hn hi).2 (nx_bounds hn hj).2 h1
    exact (hri (by omega) (by omega)).2 e
  have hrc := hco r hrp hst hle
  refine right_discrete (n := n) (p := p) hE.right hE.len fun a b ha hb' e => ?_
  obtain ⟨i, hi, e1⟩ := right_all hc.right (b := (a : Int)) (by omega) (by omega)
  obtain ⟨j, hj, e2⟩ := right_all hc.right (b := (b : Int)) (by omega) (by omega)
  have hi' : i < n := by rw [← hc.len]; exact hi
  have hj' : j < n := by rw [← hc.len]; exact hj
  have h := hrc i j hi' hj' ((hri hi' hj').2 (by rw [e1, e2, Int.toNat_natCast, Int.toNat_natCast]; exact e))
  omega
end Go.Proofs.Ytboofecfmhbacaa

/- The walk of the reference's Join: labels that go from element to element. -/
namespace Go.Proofs.Ytboofecfmhbacaa
open Go.RowKit Go.WideMaps Go.Maps Go.Proofs.YtboofecfmhbacaaW.PrintWords Go.Proofs.YtboofecfmhbacaaW.PrintLast Go.Proofs.YtboofecfmhbacaaW.PrintMore
set_option linter.unusedVariables false
set_option linter.unusedSimpArgs false

/-- Elements that are in one block of p, or of q. -/
def Near (p q : List Int) (i k : Nat) : Prop := at_ p i = at_ p k ∨ at_ q i = at_ q k
/-- Labels: an element's is one that it is connected to, and none that is greater. -/
structure Lab (p q out : List Int) : Prop where
  len : out.length = p.length
  low : ∀ i, i < p.length → 0 ≤ at_ out i ∧ at_ out i ≤ i
  conn : ∀ i, i < p.length → Conn p q p.length i (at_ out i).toNat
theorem Lab.start (p q : List Int) : Lab p q (ids p.length) :=
  ⟨ids_length _, fun i hi => by rw [at_ids hi]; omega, fun i hi => by rw [at_ids hi, Int.toNat_natCast]; exact .refl hi⟩
theorem Lab.put {p q out : List Int} (h : Lab p q out) {i k : Nat} (hi : i < p.length) (hk : k < p.length) (hn : Near p q i k) (hlt : at_ out k < at_ out i) : Lab p q (out.set i (at_ out k)) := by
  refine ⟨by rw [List.length_set]; exact h.len, fun j hj => ?_, fun j hj => ?_⟩
  · by_cases e : i = j
    · subst e
      rw [at_set_self (by rw [h.len]; exact hi)]
      have h1 := h.low k hk
      have h2 := h.low i hi
      omega
    · rw [at_set_ne e]
      exact h.low j hj
  · by_cases e : i = j
    · subst e
      rw [at_set_self (by rw [h.len]; exact hi)]
      have h1 : Conn p q p.length i k := by
        rcases hn with hn | hn
        · exact .same hi hk hn
        · exact .tie hi hk hi hk hn
      exact h1.trans (h.conn k hk)
    · rw [at_set_ne e]
      exact h.conn j hj
/-- The labels' sum. -/
def sumT : List Int → Nat
  | [] => 0
  | x :: l => x.toNat + sumT l
theorem sumT_set : ∀ (l : List Int) (i : Nat) (x : Int) (h : i < l.length), 0 ≤ x → x < l[i] → sumT (l.set i x) < sumT l
  | [], i, x, h, _, _ => by simp at h
  | y :: l, 0, x, h, h0, h1 => by
    simp only [List.getElem_cons_zero] at h1
    simp only [List.set_cons_zero, sumT]
    omega
  | y :: l, i + 1, x, h, h0, h1 => by
    simp only [List.getElem_cons_succ] at h1
    simp only [List.set_cons_succ, sumT]
    have := sumT_set l i x (by simpa using h) h0 h1
    omega
theorem Lab.less {p q out : List Int} (h : Lab p q out) {i k : Nat} (hi : i < p.length) (hk : k < p.length) (hlt : at_ out k < at_ out i) : sumT (out.set i (at_ out k)) < sumT out := by
  have hl : i < out.length := by rw [h.len]; exact hi
  refine sumT_set out i _ hl (h.low k hk).1 ?_
  rw [← at_get hl]
  exact hlt
/-- Nothing is left to be done for element a. -/
def Shut (p q out : List Int) (a n : Nat) : Prop := ∀ c, c < n → Near p q a c → ¬ at_ out c < at_ out a
theorem Lab.done {p q out : List Int} (hp : rightP p) (h : Lab p q out) (hs : ∀ a, a < p.length → Shut p q out a p.length) : IsJoin p q (Num.num out) := by
  have hn := num_part h.len hp.1
  refine ⟨hn.right, hn.len, fun i j hi hj => ?_⟩
  rw [num_at h.len hi hj]
  constructor
  · intro e
    have h1 := h.conn i hi
    rw [e] at h1
    exact h1.trans (h.conn j hj).symm
  · intro e
    have hne : ∀ a b, a < p.length → b < p.length → Near p q a b → at_ out a = at_ out b := fun a b ha hb hn => by
      have h1 := hs a ha b hb hn
      have h2 := hs b hb a ha (by rcases hn with h | h; exact .inl h.symm; exact .inr h.symm)
      omega
    exact e.lift (at_ out) (fun a b ha hb e => hne a b ha hb (.inl e)) (fun a b ha hb _ _ e => hne a b ha hb (.inr e))
/-- What a pass keeps: nothing has been done yet, or the labels' sum has become less. -/
def Pass (p q out out' : List Int) (b : Bool) (P : Prop) : Prop := (b = false → out' = out ∧ P) ∧ (b = true → sumT out' < sumT out)

set_option maxRecDepth 100000 in
set_option maxHeartbeats 8000000 in
theorem refJoin_walk (A0 : Option Addr) (c0 : Nat) (p : List Int) (A1 : Option Addr) (c1 : Nat) (q : List Int) (w : World) (hr0 : Kd.C (Kd.int .i64) w A0 p.length p) (hr1 : Kd.C (Kd.int .i64) w A1 q.length q) (hp : rightP p) (hl : p.length = q.length) :
    Calls Try.prog 63 #[.slice A0 p.length c0, .slice A1 q.length c1] w fun e w' => ∃ v o, e = .returned v ∧ IsJoin p q o ∧ Kd.R (Kd.int .i64) 3 w' w.heap.size (fun _ => True) v o ∧ Below w.heap.size w w' := by
  have HR := Aside0.mk hr0
  have HR1 := Aside0.mk hr1
  have HP := Aside0.mk hp
  have HLL := Aside0.mk hl
  have hn := hp.1
  clear hr0 hr1 hp hl
  have hmk := print_make_of 22 3 (.int .i64 0) 8 Try.underlying22 info3 rfl (by decide) p.length (by omega)
  go_enter Try.func63, Try.ntmps63
  go_wp2
  go_loopw [6] (fun i wr => ∃ k : Nat, i = .int .i64 k ∧ Aside0 (k ≤ p.length ∧ Kd.R (Kd.int .i64) 3 wr w.heap.size (fun _ => True) (.slice (some ⟨w.heap.size, 0, none⟩) p.length p.length) (filled (ids p.length) k 0) ∧ Below w.heap.size w wr)) (fun i _ => p.length - (intOf i).toNat)
  case atStart => exact ⟨0, rfl, Nat.zero_le _, by rw [filled_zero, ids_length]; exact R_made w p.length (by omega), lit_below w _⟩
  case round =>
    obtain ⟨k, rfl, HI⟩ := hrel
    have hkl := HI.out.1
    by_cases hk : k < p.length
    · obtain ⟨⟨v0, hv0⟩, hf0, hg0, hS⟩ := put_int (w := w) HI.out.2.1 (by rw [filled_length _ _ _ (by rw [ids_length]; exact hkl), ids_length]) k hk (k : Int)
      have h2 := filled_set (ids p.length) k 0 (by rw [ids_length]; exact hk)
      rw [ids_get _ _ hk] at h2
      rw [h2] at hS
      have HS := Aside0.mk (And.intro hS (HI.out.2.2.setCell (p := ⟨w.heap.size, k, none⟩) hg0 (.int .i64 (k : Int))))
      clear hS h2 hg0
      go_wp2
      go_roundw
      case rel => exact ⟨k + 1, by go_num, by omega, HS.out.1, HS.out.2⟩
      case measure => simp [intOf]; omega
    · have hk' : k = p.length := by omega
      have HT := Aside0.mk (show Kd.R (Kd.int .i64) 3 wr w.heap.size (fun _ => True) (.slice (some ⟨w.heap.size, 0, none⟩) p.length p.length) (ids p.length) ∧ Below w.heap.size w wr by
        have h := HI.out.2.1
        rw [hk'] at h
        have h2 := filled_end (ids p.length) (0 : Int)
        rw [ids_length] at h2
        rw [h2] at h
        exact ⟨h, HI.out.2.2⟩)
      clear hk' HI
      go_wp2
      go_loopg [7] (sumT (ids p.length) + 1) (fun gg ch wr => ∃ (b : Bool) (out : List Int), ch = .bool b ∧ Aside0 (Lab p q out ∧ Kd.R (Kd.int .i64) 3 wr w.heap.size (fun _ => True) (.slice (some ⟨w.heap.size, 0, none⟩) p.length p.length) out ∧ Below w.heap.size w wr ∧ (b = false → ∀ a, a < p.length → Shut p q out a p.length) ∧ (b = true → sumT out < gg)))
      case atStart => exact ⟨true, _, rfl, Lab.start p q, HT.out.1, HT.out.2, fun h => by (cases h), fun _ => Nat.lt_succ_self _⟩
      case round =>
        obtain ⟨b, out, rfl, HI⟩ := hrel
        cases b with
        | false =>
          have HJ := Aside0.mk (HI.out.1.done HP.out (HI.out.2.2.2.1 rfl))
          obtain ⟨-, -, hC⟩ := R_len HI.out.2.1
          have hN := refInts_walk (some ⟨w.heap.size, 0, none⟩) p.length out wr (by rw [HI.out.1.len]; exact hC) (by rw [HI.out.1.len]; omega)
          rw [HI.out.1.len] at hN
          have HN := Aside0.mk hN
          clear hC hN
          go_wp2_with (go_at_call 21; refine HN.out.mono ?_; rintro e w9 ⟨v, rfl, hR9, hB9⟩; have HD := Aside0.mk (And.intro (Kd.R_lower hR9 HI.out.2.2.1.size) (HI.out.2.2.1.trans (hB9.mono HI.out.2.2.1.size))); clear hR9 hB9)
          go_ret
          exact ⟨_, _, rfl, HJ.out, HD.out.1, HD.out.2⟩
        | true =>
          go_wp2
          go_loopw [7, 8] (fun ch i wq => ∃ (b : Bool) (i' : Nat) (out' : List Int), ch = .bool b ∧ i = .int .i64 i' ∧ Aside0 (i' ≤ p.length ∧ Lab p q out' ∧ Kd.R (Kd.int .i64) 3 wq w.heap.size (fun _ => True) (.slice (some ⟨w.heap.size, 0, none⟩) p.length p.length) out' ∧ Below w.heap.size w wq ∧ Pass p q out out' b (∀ a, a < i' → Shut p q out a p.length))) (fun _ i _ => p.length - (intOf i).toNat)
          case atStart => exact ⟨false, 0, out, rfl, rfl, Nat.zero_le _, HI.out.1, HI.out.2.1, HI.out.2.2.1, fun _ => ⟨rfl, fun a ha => absurd ha (Nat.not_lt_zero a)⟩, fun h => by (cases h)⟩
          case round =>
            obtain ⟨b, i, out', rfl, rfl, HJ⟩ := hrel
            have hil := HJ.out.1
            by_cases hi : i < p.length
            · have hiq : i < q.length := by rw [← HLL.out]; exact hi
              go_wp2
              go_loopw [7, 9] (fun ch k wq => ∃ (b : Bool) (k' : Nat) (out' : List Int), ch = .bool b ∧ k = .int .i64 k' ∧ Aside0 (k' ≤ p.length ∧ Lab p q out' ∧ Kd.R (Kd.int .i64) 3 wq w.heap.size (fun _ => True) (.slice (some ⟨w.heap.size, 0, none⟩) p.length p.length) out' ∧ Below w.heap.size w wq ∧ Pass p q out out' b ((∀ a, a < i → Shut p q out a p.length) ∧ Shut p q out i k'))) (fun _ k _ => p.length - (intOf k).toNat)
              case atStart => exact ⟨b, 0, out', rfl, rfl, Nat.zero_le _, HJ.out.2.1, HJ.out.2.2.1, HJ.out.2.2.2.1, fun h => ⟨(HJ.out.2.2.2.2.1 h).1, (HJ.out.2.2.2.2.1 h).2, fun c hc => absurd hc (Nat.not_lt_zero c)⟩, HJ.out.2.2.2.2.2⟩
              case round =>

                obtain ⟨b, k, out', rfl, rfl, HK⟩ := hrel
                have hkl := HK.out.1
                by_cases hk : k < p.length
                · have hkq : k < q.length := by rw [← HLL.out]; exact hk
                  obtain ⟨ad, e1, hx1⟩ := ints_at (Kd.C_below HR.out HK.out.2.2.2.1) i hi
                  obtain ⟨ad', e2, hx2⟩ := ints_at (Kd.C_below HR.out HK.out.2.2.2.1) k hk
                  obtain ⟨bd, e3, hx3⟩ := ints_at (Kd.C_below HR1.out HK.out.2.2.2.1) i hiq
                  obtain ⟨bd', e4, hx4⟩ := ints_at (Kd.C_below HR1.out HK.out.2.2.2.1) k hkq
                  subst e1 e3
                  obtain rfl : ad = ad' := by injection e2
                  obtain rfl : bd = bd' := by injection e4
                  rw [← at_get hi] at hx1
                  rw [← at_get hk] at hx2
                  rw [← at_get hiq] at hx3
                  rw [← at_get hkq] at hx4
                  have hol := HK.out.2.1.len
                  obtain ⟨hx5, hf5, hx6⟩ : wr.cell? ⟨w.heap.size, i, none⟩ = some (.int .i64 (at_ out' i)) ∧ wr.frozen? ⟨w.heap.size, i, none⟩ = false ∧ wr.cell? ⟨w.heap.size, k, none⟩ = some (.int .i64 (at_ out' k)) := by
                    have hR := HK.out.2.2.1
                    rw [← hol] at hR
                    have h1 := Kd.R_cell (d := (0 : Int)) hR (i : Int) (by omega) (by omega)
                    have h2 := Kd.R_cell (d := (0 : Int)) hR (k : Int) (by omega) (by omega)
                    rw [Int.toNat_natCast] at h1 h2
                    exact ⟨h1.1, h1.2, h2.1⟩
                  have HQB := Aside0.mk (fun m => pw_below_drewN HK.out.2.2.2.1 m)
                  have HQ := Aside0.mk (fun m => Kd.R_drewN HK.out.2.2.1 m)
                  have HPUT := Aside0.mk (fun (hn : Near p q i k) (hlt : at_ out' k < at_ out' i) m => show Lab p q (out'.set i (at_ out' k)) ∧ Kd.R (Kd.int .i64) 3 ((wr.drewN m).setCell ⟨w.heap.size, i, none⟩ (.int .i64 (at_ out' k))) w.heap.size (fun _ => True) (.slice (some ⟨w.heap.size, 0, none⟩) p.length p.length) (out'.set i (at_ out' k)) ∧ Below w.heap.size w ((wr.drewN m).setCell ⟨w.heap.size, i, none⟩ (.int .i64 (at_ out' k))) ∧ Pass p q out (out'.set i (at_ out' k)) true ((∀ a, a < i → Shut p q out a p.length) ∧ Shut p q out i (k + 1)) from by
                    obtain ⟨-, -, h2, h3⟩ := put_int (w := w) (HQ.out m) hol i hi (at_ out' k)
                    refine ⟨HK.out.2.1.put hi hk hn hlt, h3, (HQB.out m).setCell h2 _, fun h => by (cases h), fun _ => ?_⟩
                    have hless := HK.out.2.1.less hi hk hlt
                    cases b with
                    | false => rw [(HK.out.2.2.2.2.1 rfl).1] at hless ⊢; exact hless
                    | true => exact Nat.lt_trans hless (HK.out.2.2.2.2.2 rfl))
                  have HKEEP := Aside0.mk (fun (hno : Near p q i k → ¬ at_ out' k < at_ out' i) => show Pass p q out out' b ((∀ a, a < i → Shut p q out a p.length) ∧ Shut p q out i (k + 1)) from ⟨fun h => by
                    obtain ⟨h1, h2, h3⟩ := HK.out.2.2.2.2.1 h
                    refine ⟨h1, h2, fun c hc hn => ?_⟩
                    by_cases e : c = k
                    · subst e
                      rw [← h1]
                      exact hno hn
                    · exact h3 c (by omega) hn, HK.out.2.2.2.2.2⟩)
                  unfold Near at HPUT HKEEP
                  generalize at_ p k = y2 at hx2 HPUT HKEEP
                  generalize at_ q k = y4 at hx4 HPUT HKEEP
                  generalize at_ p i = y1 at hx1 HPUT HKEEP
                  generalize at_ q i = y3 at hx3 HPUT HKEEP
                  generalize at_ out' i = o1 at hx5 HPUT HKEEP
                  generalize at_ out' k = o2 at hx6 HPUT HKEEP
                  clear e2 e4 hol
                  by_cases h1 : y1 = y2
                  · have g1 : (y1 == y2) = true := beq_iff_eq.mpr h1
                    by_cases hlt : o2 < o1
                    · have g5 : decide (o2 < o1) = true := decide_eq_true hlt
                      have HE := Aside0.mk (HPUT.out (.inl h1) hlt)
                      clear h1 hlt
                      go_wp2
                      go_quiet (fail)
                      go_wp2
                      go_roundw
                      case rel => exact ⟨true, k + 1, _, rfl, by go_num, by omega, (HE.out nq).1, (HE.out nq).2.1, (HE.out nq).2.2.1, (HE.out nq).2.2.2⟩
                      case measure => simp [intOf]; omega
                    · have g5 : decide (o2 < o1) = false := decide_eq_false hlt
                      have HE := Aside0.mk (HKEEP.out (fun _ => hlt))
                      clear h1 hlt
                      go_wp2
                      go_quiet (fail)
                      go_wp2
                      go_roundw
                      case rel => exact ⟨b, k + 1, out', rfl, by go_num, by omega, HK.out.2.1, HQ.out nq, HQB.out nq, HE.out⟩
                      case measure => simp [intOf]; omega
                  · have g1 : (y1 == y2) = false := beq_eq_false_iff_ne.mpr h1
                    by_cases h2 : y3 = y4
                    · have g2 : (y3 == y4) = true := beq_iff_eq.mpr h2
                      by_cases hlt : o2 < o1
                      · have g5 : decide (o2 < o1) = true := decide_eq_true hlt
                        have HE := Aside0.mk (HPUT.out (.inr h2) hlt)
                        clear h1 h2 hlt
                        go_wp2
                        go_quiet (fail)
                        go_wp2
                        go_roundw
                        case rel => exact ⟨true, k + 1, _, rfl, by go_num, by omega, (HE.out nq).1, (HE.out nq).2.1, (HE.out nq).2.2.1, (HE.out nq).2.2.2⟩
                        case measure => simp [intOf]; omega
                      · have g5 : decide (o2 < o1) = false := decide_eq_false hlt
                        have HE := Aside0.mk (HKEEP.out (fun _ => hlt))
                        clear h1 h2 hlt
                        go_wp2
                        go_quiet (fail)
                        go_wp2
                        go_roundw
                        case rel => exact ⟨b, k + 1, out', rfl, by go_num, by omega, HK.out.2.1, HQ.out nq, HQB.out nq, HE.out⟩
                        case measure => simp [intOf]; omega
                    · have g2 : (y3 == y4) = false := beq_eq_false_iff_ne.mpr h2
                      have HE := Aside0.mk (HKEEP.out (fun h => absurd h (by rintro (h | h); exact h1 h; exact h2 h)))
                      clear h1 h2
                      go_wp2
                      go_quiet (fail)
                      go_wp2
                      go_roundw
                      case rel => exact ⟨b, k + 1, out', rfl, by go_num, by omega, HK.out.2.1, HQ.out nq, HQB.out nq, HE.out⟩
                      case measure => simp [intOf]; omega
                · have hk' : k = p.length := by omega
                  have HX := Aside0.mk (show Pass p q out out' b (∀ a, a < i + 1 → Shut p q out a p.length) from ⟨fun h => by
                    obtain ⟨h1, h2, h3⟩ := HK.out.2.2.2.2.1 h
                    refine ⟨h1, fun a ha => ?_⟩
                    by_cases e : a = i
                    · subst e; rw [← hk']; exact h3
                    · exact h2 a (by omega), HK.out.2.2.2.2.2⟩)
                  clear hk'
                  go_wp2
                  go_roundw
                  case rel => exact ⟨b, i + 1, out', rfl, by go_num, by omega, HK.out.2.1, HK.out.2.2.1, HK.out.2.2.2.1, HX.out⟩
                  case measure => simp [intOf]; omega
            · have hi' : i = p.length := by omega
              have HX := Aside0.mk (show (b = false → ∀ a, a < p.length → Shut p q out' a p.length) ∧ (b = true → sumT out' < gk - 1) from ⟨fun h => by
                obtain ⟨h1, h2⟩ := HJ.out.2.2.2.2.1 h
                rw [h1, ← hi']
                rw [← hi'] at h2
                exact h2, fun h => by
                have h1 := HJ.out.2.2.2.2.2 h
                have h2 := HI.out.2.2.2.2 (by simp)
                omega⟩)
              have HGK := Aside0.mk (HI.out.2.2.2.2 (by simp))
              clear hi'
              go_wp2
              go_roundg (gk - 1)
              case rel => exact ⟨b, out', rfl, HJ.out.2.1, HJ.out.2.2.1, HJ.out.2.2.2.1, HX.out.1, HX.out.2⟩
              case measure => have := HGK.out; omega
end Go.Proofs.Ytboofecfmhbacaa

/- The walks of the laws' helper pairs, and of BlocksPairs. -/
namespace Go.Proofs.Ytboofecfmhbacaa
open Go.RowKit Go.WideMaps Go.Maps Go.Proofs.YtboofecfmhbacaaW.PrintWords Go.Proofs.YtboofecfmhbacaaW.PrintLast Go.Proofs.YtboofecfmhbacaaW.PrintMore
set_option linter.unusedVariables false
set_option linter.unusedSimpArgs false

/-- A row of rows of whole numbers, all of them the call's own: what they hold is not told. -/
structure Mess (w : World) (base : Nat) (A : Option Addr) (n c : Nat) (vs : List Value) : Prop where
  outer : w.ownsRow base 22 1 (.slice A n c) n vs
  inner : ∀ v ∈ vs, ∃ xs : List Int, w.ownsRow base 3 1 v xs.length (encs (Value.int .i64) xs)
theorem Mess.of_R {w : World} {base : Nat} {A : Option Addr} {n c : Nat} {rows : List (List Int)} (h : Kd.R (Kd.slice 3 (Kd.int .i64)) 22 w base (fun _ => True) (.slice A n c) rows) (hn : rows.length = n) : ∃ vs, Mess w base A n c vs := by
  subst hn
  obtain ⟨h0, inner, ho, hr⟩ := h
  refine ⟨inner, ho, fun v hv => ?_⟩
  obtain ⟨j, hj, rfl⟩ := List.mem_iff_getElem.1 hv
  have hjl : j < rows.length := by have := hr.1; simp [Kd.slice] at this; omega
  have h2 := hr.2 j _ (List.getElem?_eq_getElem hjl)
  obtain ⟨v, he, hR⟩ := h2
  have h3 : (inner.drop (j * 1)).take 1 = [v] := he
  rw [Nat.mul_one, List.drop_eq_getElem_cons hj] at h3
  have h4 : inner[j] = v := by
    have h5 := congrArg List.head? h3
    rw [List.take_succ_cons] at h5
    exact Option.some.inj h5
  rw [h4]
  exact ⟨_, Kd.own_of_R hR⟩
theorem Mess.lift {w w1 : World} {base : Nat} {A : Option Addr} {n c : Nat} {vs : List Value} (h : Mess w base A n c vs) (hB : Below w.heap.size w w1) : Mess w1 base A n c vs :=
  ⟨own_move h.outer fun k hk => hB.block k (own_lt h.outer k hk), fun v hv => by
    obtain ⟨xs, hx⟩ := h.inner v hv
    exact ⟨xs, own_move hx fun k hk => hB.block k (own_lt hx k hk)⟩⟩
theorem Mess.len {w : World} {base : Nat} {A : Option Addr} {n c : Nat} {vs : List Value} (h : Mess w base A n c vs) : vs.length = n := by have := h.outer.1; omega
/-- The j-th row, as a slice. -/
theorem Mess.at_ {w : World} {base : Nat} {A : Option Addr} {n c : Nat} {vs : List Value} (h : Mess w base A n c vs) (j : Nat) (hj : j < n) : ∃ ad B k d, A = some ad ∧ w.cell? (ad.add j) = some (.slice B k d) ∧ (.slice B k d) ∈ vs ∧ k ≤ 9223372036854775807 := by
  have hl := h.len
  obtain ⟨xs, hx⟩ := h.inner vs[j] (List.getElem_mem (by omega))
  obtain ⟨B, d, e⟩ := own_shape hx
  rcases h.outer.2 with ⟨h1, h2⟩ | ⟨g, cap, cur, h1, h2, h3, h4⟩
  · omega
  · injection h1 with h5 h6 h7
    subst h5
    have hc := h.outer.cells (g := g) rfl j vs[j] (by simp [List.getElem?_eq_getElem (show j < vs.length by omega)])
    refine ⟨_, B, xs.length, d, rfl, by rw [hc, e], by rw [← e]; exact List.getElem_mem (by omega), ?_⟩
    have hR : Kd.R (Kd.int .i64) 3 w base (fun _ => True) _ xs := Kd.R_of_own (h1 := fun _ => rfl) (enc := Value.int .i64) hx (fun _ _ => trivial)
    rw [e] at hR
    exact (R_len hR).2.2.2.1
/-- A number is put into one of the rows. -/
theorem Mess.store {w : World} {base : Nat} {A : Option Addr} {n c : Nat} {vs : List Value} (h : Mess w base A n c vs) {B : Option Addr} {k d : Nat} (hm : (.slice B k d) ∈ vs) (i : Nat) (hi : i < k) (x : Int) :
    ∃ g, B = some ⟨g, 0, none⟩ ∧ base ≤ g ∧ (∃ v, w.cell? ⟨g, i, none⟩ = some v) ∧ w.frozen? ⟨g, i, none⟩ = false ∧ Mess (w.setCell ⟨g, i, none⟩ (.int .i64 x)) base A n c vs := by
  obtain ⟨xs, hx⟩ := h.inner _ hm
  have hR : Kd.R (Kd.int .i64) 3 w base (fun _ => True) (.slice B k d) xs := Kd.R_of_own (h1 := fun _ => rfl) (enc := Value.int .i64) hx (fun _ _ => trivial)
  obtain ⟨hl, -, -⟩ := R_len hR
  obtain ⟨g, hg, hgb, -⟩ := R_addr hR (by omega)
  subst hg
  subst hl
  obtain ⟨h1, h2, h3, h4⟩ := put_int (w := w) hR rfl i hi x
  refine ⟨g, rfl, hgb, h1, h2, ?_, fun v hv => ?_⟩
  · have hst := hx.stored i (.int .i64 x)
    refine h.outer.kept hst.2 ?_
    rcases own_type_ne h.outer hx (by decide) with h5 | h5
    · exact .inl h5
    · exact .inr h5
  · obtain ⟨ys, hy⟩ := h.inner v hv
    have hst := hx.stored i (.int .i64 x)
    by_cases e : v.ownBlock = some g
    · rcases hy.2 with ⟨h5, h6⟩ | ⟨g', cap, cur, h5, _⟩
      · rw [h5] at e
        simp [Value.ownBlock] at e
      · have hgg : g' = g := by
          rw [h5] at e
          simpa [Value.ownBlock] using e
        subst hgg
        rw [h5] at hy ⊢
        have h7 := (hy.stored i (.int .i64 x)).1
        rw [show (encs (Value.int .i64) ys).set i (.int .i64 x) = encs (Value.int .i64) (ys.set i x) by simp [encs, List.map_set]] at h7
        exact ⟨ys.set i x, by rw [List.length_set]; exact h7⟩
    · refine ⟨ys, hy.kept hst.2 ?_⟩
      cases hv2 : v.ownBlock with
      | none => exact .inl rfl
      | some k' => exact .inr (by rw [← hv2]; exact e)

theorem sameRows2_walk (A0 : Option Addr) (c0 n : Nat) (l : List (List Int)) (A1 : Option Addr) (c1 : Nat) (w : World) (hn : l.length = n) (hr0 : Kd.C (Kd.slice 3 (Kd.int .i64)) w A0 n l) (hr1 : Kd.C (Kd.slice 3 (Kd.int .i64)) w A1 n l) :
    Calls Try.prog 40 #[.slice A0 n c0, .slice A1 n c1] w fun e w' => e = .returned (.bool true) ∧ Below w.heap.size w w' := by
  subst hn
  refine (lists_walk A0 c0 l A1 c1 l w hr0 hr1).mono ?_
  rintro e w' ⟨rfl, hB⟩
  exact ⟨by simp, hB⟩
theorem lit_two (W : World) (base : Nat) (okp : Nat → Prop) (u v : Value) (xs ys : List Int) (hu : Kd.R (Kd.int .i64) 3 W base okp u xs) (hv : Kd.R (Kd.int .i64) 3 W base okp v ys) :
    ReadsRow ((Kd.slice 3 (Kd.int .i64)).M (W.alloc (.cells #[u, v] 22)) base okp) 1 (W.alloc (.cells #[u, v] 22)) (some ⟨W.heap.size, 0, none⟩) 2 [xs, ys] := by
  have h0 := World.ownsRow_lit (base := W.heap.size) (e := 22) (size := 1) W #[u, v] 2 (Nat.le_refl _) (by decide) (by simp)
  refine ⟨rfl, by decide, fun _ => ⟨_, rfl, fun j p hj => ?_⟩⟩
  match j, hj with
  | 0, hj =>
    have hp : xs = p := by simpa using hj
    subst hp
    refine ⟨[u], rfl, ⟨u, rfl, Kd.R_alloc hu _⟩, fun i z hz => ?_⟩
    cases i with
    | zero =>
      have hz' : u = z := by simpa using hz
      subst hz'
      have := h0.cells rfl 0 u (by simp)
      simpa using this
    | succ i => simp at hz
  | 1, hj =>
    have hp : ys = p := by simpa using hj
    subst hp
    refine ⟨[v], rfl, ⟨v, rfl, Kd.R_alloc hv _⟩, fun i z hz => ?_⟩
    cases i with
    | zero =>
      have hz' : v = z := by simpa using hz
      subst hz'
      have := h0.cells rfl 1 v (by simp)
      simpa using this
    | succ i => simp at hz
  | j + 2, hj => simp at hj

theorem nob32 (A0 : Option Addr) (c0 : Nat) (p : List Int) (A1 : Option Addr) (c1 : Nat) (q : List Int) (w : World) (hr0 : Kd.C (Kd.int .i64) w A0 p.length p) (hr1 : Kd.C (Kd.int .i64) w A1 q.length q) (hw0 : Wf p) (hw1 : Wf q) (E : Int) (hE : bothE p q = E) (h0 : E ≠ 0) : Calls Try.prog 32 #[.slice A0 p.length c0, .slice A1 q.length c1] w fun e w' => e = .returned (.tuple #[.bool false, .int .i64 E]) ∧ Below w.heap.size w w' := by
  subst hE
  exact finer_no A0 c0 p A1 c1 q w hr0 hr1 hw0 hw1 h0

theorem nob30 (A0 : Option Addr) (c0 : Nat) (p : List Int) (A1 : Option Addr) (c1 : Nat) (q : List Int) (w : World) (hr0 : Kd.C (Kd.int .i64) w A0 p.length p) (hr1 : Kd.C (Kd.int .i64) w A1 q.length q) (hw0 : Wf p) (hw1 : Wf q) (E : Int) (hE : bothE p q = E) (h0 : E ≠ 0) : Calls Try.prog 30 #[.slice A0 p.length c0, .slice A1 q.length c1] w fun e w' => e = .returned (.tuple #[.slice none 0 0, .int .i64 E]) ∧ Below w.heap.size w w' := by
  subst hE
  exact meet_no A0 c0 p A1 c1 q w hr0 hr1 hw0 hw1 h0

theorem nob31 (A0 : Option Addr) (c0 : Nat) (p : List Int) (A1 : Option Addr) (c1 : Nat) (q : List Int) (w : World) (hr0 : Kd.C (Kd.int .i64) w A0 p.length p) (hr1 : Kd.C (Kd.int .i64) w A1 q.length q) (hw0 : Wf p) (hw1 : Wf q) (E : Int) (hE : bothE p q = E) (h0 : E ≠ 0) : Calls Try.prog 31 #[.slice A0 p.length c0, .slice A1 q.length c1] w fun e w' => e = .returned (.tuple #[.slice none 0 0, .int .i64 E]) ∧ Below w.heap.size w w' := by
  subst hE
  exact join_no A0 c0 p A1 c1 q w hr0 hr1 hw0 hw1 h0

theorem countNo (A0 : Option Addr) (c0 : Nat) (p : List Int) (w : World) (hr0 : Kd.C (Kd.int .i64) w A0 p.length p) (hw0 : Wf p) (hp : ¬ rightP p) : Calls Try.prog 34 #[.slice A0 p.length c0] w fun e w' => e = .returned (.tuple #[.int .i64 0, .int .i64 60]) ∧ Below w.heap.size w w' := by
  have h := countOf_walk A0 c0 p w hr0 hw0
  rwa [if_neg hp, if_neg hp] at h
theorem rightB (A0 : Option Addr) (c0 : Nat) (p : List Int) (w : World) (hr0 : Kd.C (Kd.int .i64) w A0 p.length p) (hw0 : Wf p) (b : Bool) (hb : decide (rightP p) = b) : Calls Try.prog 37 #[.slice A0 p.length c0] w fun e w' => e = .returned (.bool b) ∧ Below w.heap.size w w' := by
  subst hb
  exact right_walk A0 c0 p w hr0 hw0
theorem refRightB (A0 : Option Addr) (c0 : Nat) (p : List Int) (w : World) (hr0 : Kd.C (Kd.int .i64) w A0 p.length p) (hn : p.length ≤ 1000000) (b : Bool) (hb : decide (rightP p) = b) : Calls Try.prog 47 #[.slice A0 p.length c0] w fun e w' => e = .returned (.bool b) ∧ Below w.heap.size w w' := by
  subst hb
  exact refRight_walk A0 c0 p w hr0 hn
theorem refCountB (A0 : Option Addr) (c0 : Nat) (p : List Int) (w : World) (hr0 : Kd.C (Kd.int .i64) w A0 p.length p) (hp : rightP p) (N : Nat) (hN : countP p = N) : Calls Try.prog 59 #[.slice A0 p.length c0] w fun e w' => e = .returned (.int .i64 N) ∧ Below w.heap.size w w' := by
  rw [← hN]
  exact refCount_walk A0 c0 p w hr0 hp
theorem refMembersB (A0 : Option Addr) (c0 : Nat) (p : List Int) (w : World) (hr0 : Kd.C (Kd.int .i64) w A0 p.length p) (hp : rightP p) (N : Nat) (hN : countP p = N) : Calls Try.prog 60 #[.slice A0 p.length c0] w fun e w' => ∃ A c, e = .returned (.slice A N c) ∧ Kd.C (Kd.slice 3 (Kd.int .i64)) w' A N (membersP p) ∧ Below w.heap.size w w' := by
  refine (refMembers_walk A0 c0 p w hr0 hp).mono ?_
  rintro e w' ⟨v, rfl, hR, hB⟩
  obtain ⟨A, c, rfl, hC⟩ := r_read hR (by unfold membersP; rw [rowsP_length, hN, Int.toNat_natCast])
  exact ⟨A, c, rfl, hC, hB⟩

set_option maxRecDepth 100000 in
set_option maxHeartbeats 8000000 in
theorem pairs_no (A0 : Option Addr) (c0 : Nat) (p : List Int) (A1 : Option Addr) (c1 : Nat) (q : List Int) (w : World) (hr0 : Kd.C (Kd.int .i64) w A0 p.length p) (hr1 : Kd.C (Kd.int .i64) w A1 q.length q) (hw0 : Wf p) (hw1 : Wf q) (hp1 : p.length ≤ 1000) (hq1 : q.length ≤ 1000) (hno : ¬ (rightP p ∧ rightP q ∧ p.length = q.length)) :
    Calls Try.prog 38 #[.slice A0 p.length c0, .slice A1 q.length c1] w fun e w' => e = .returned (.bool true) ∧ Below w.heap.size w w' := by
  have HB_0 := Aside0.mk (Below.refl w.heap.size w)
  have FA_0 := Aside0.mk hr0
  have FB_0 := Aside0.mk hr1
  have HW0 := Aside0.mk hw0
  have HW1 := Aside0.mk hw1
  clear hr0 hr1 hw0 hw1
  by_cases hp : rightP p
  · obtain ⟨N, hcn⟩ : ∃ N : Nat, countP p = N := ⟨(countP p).toNat, by have := count_bounds hp; omega⟩
    have hN1 : N ≤ 1000 := by have := (count_bounds hp).2; omega
    have HRB := Aside0.mk (decide_eq_true hp)
    have HPN := Aside0.mk (PartN.mk hp rfl : PartN p.length p)
    have HCN := Aside0.mk hcn
    have HML := Aside0.mk (show (membersP p).length = N by unfold membersP; rw [rowsP_length, hcn, Int.toNat_natCast])
    by_cases hq : rightP q
    · have hl : p.length ≠ q.length := fun h => hno ⟨hp, hq, h⟩
      have HRQ := Aside0.mk (decide_eq_true hq)
      have HE := Aside0.mk (show bothE p q = 2 by simp [bothE, hp, hq, hl])
      have g1 : ((p.length : Int) == (q.length : Int)) = false := beq_eq_false_iff_ne.mpr (by omega)
      have g2 : ((p.length : Int) != (q.length : Int)) = true := bne_iff_ne.mpr (by omega)
      have g3 : (p.length == q.length) = false := by simpa using hl
      clear hno hp hq hcn hl
      go_enter Try.func38, Try.ntmps38
      go_wp2_with (first
        | (go_at_call 15; refine (cloneC_walk A0 c0 p w FA_0.out (by omega)).mono ?_; rintro e w1 ⟨A2, c2, rfl, hC, hB⟩; have FP_1 := Aside0.mk (hC); have FA_1 := Aside0.mk (Kd.C_below FA_0.out hB); have FB_1 := Aside0.mk (Kd.C_below FB_0.out hB); have HB_1 := Aside0.mk (HB_0.out.trans (hB.mono HB_0.out.size)); clear hC; clear hB HB_0 FA_0 FB_0)
        | (go_at_call 15; refine (cloneC_walk A1 c1 q w1 FB_1.out (by omega)).mono ?_; rintro e w2 ⟨A3, c3, rfl, hC, hB⟩; have FQ_2 := Aside0.mk (hC); have FA_2 := Aside0.mk (Kd.C_below FA_1.out hB); have FB_2 := Aside0.mk (Kd.C_below FB_1.out hB); have FP_2 := Aside0.mk (Kd.C_below FP_1.out hB); have HB_2 := Aside0.mk (HB_1.out.trans (hB.mono HB_1.out.size)); clear hC; clear hB HB_1 FA_1 FB_1 FP_1)
        | (go_at_call 32; refine (nob32 A2 c2 p A3 c3 q w2 FP_2.out FQ_2.out HW0.out HW1.out _ HE.out (by decide)).mono ?_; rintro e w3 ⟨rfl, hB⟩; have FA_3 := Aside0.mk (Kd.C_below FA_2.out hB); have FB_3 := Aside0.mk (Kd.C_below FB_2.out hB); have FP_3 := Aside0.mk (Kd.C_below FP_2.out hB); have FQ_3 := Aside0.mk (Kd.C_below FQ_2.out hB); have HB_3 := Aside0.mk (HB_2.out.trans (hB.mono HB_2.out.size)); clear hB HB_2 FA_2 FB_2 FP_2 FQ_2)
        | (go_at_call 30; refine (nob30 A2 c2 p A3 c3 q w3 FP_3.out FQ_3.out HW0.out HW1.out _ HE.out (by decide)).mono ?_; rintro e w4 ⟨rfl, hB⟩; have FA_4 := Aside0.mk (Kd.C_below FA_3.out hB); have FB_4 := Aside0.mk (Kd.C_below FB_3.out hB); have FP_4 := Aside0.mk (Kd.C_below FP_3.out hB); have FQ_4 := Aside0.mk (Kd.C_below FQ_3.out hB); have HB_4 := Aside0.mk (HB_3.out.trans (hB.mono HB_3.out.size)); clear hB HB_3 FA_3 FB_3 FP_3 FQ_3)
        | (go_at_call 31; refine (nob31 A2 c2 p A3 c3 q w4 FP_4.out FQ_4.out HW0.out HW1.out _ HE.out (by decide)).mono ?_; rintro e w5 ⟨rfl, hB⟩; have FA_5 := Aside0.mk (Kd.C_below FA_4.out hB); have FB_5 := Aside0.mk (Kd.C_below FB_4.out hB); have FP_5 := Aside0.mk (Kd.C_below FP_4.out hB); have FQ_5 := Aside0.mk (Kd.C_below FQ_4.out hB); have HB_5 := Aside0.mk (HB_4.out.trans (hB.mono HB_4.out.size)); clear hB HB_4 FA_4 FB_4 FP_4 FQ_4)
        | (go_at_call 34; refine (countN A2 c2 p.length p w5 HPN.out FP_5.out N HCN.out).mono ?_; rintro e w6 ⟨rfl, hB⟩; have FA_6 := Aside0.mk (Kd.C_below FA_5.out hB); have FB_6 := Aside0.mk (Kd.C_below FB_5.out hB); have FP_6 := Aside0.mk (Kd.C_below FP_5.out hB); have FQ_6 := Aside0.mk (Kd.C_below FQ_5.out hB); have HB_6 := Aside0.mk (HB_5.out.trans (hB.mono HB_5.out.size)); clear hB HB_5 FA_5 FB_5 FP_5 FQ_5)
        | (go_at_call 36; refine (membersN A2 c2 p.length p w6 HPN.out FP_6.out N HCN.out).mono ?_; rintro e w7 ⟨A4, c4, rfl, hC, hB⟩; have FL_7 := Aside0.mk (hC); have FA_7 := Aside0.mk (Kd.C_below FA_6.out hB); have FB_7 := Aside0.mk (Kd.C_below FB_6.out hB); have FP_7 := Aside0.mk (Kd.C_below FP_6.out hB); have FQ_7 := Aside0.mk (Kd.C_below FQ_6.out hB); have HB_7 := Aside0.mk (HB_6.out.trans (hB.mono HB_6.out.size)); clear hC; clear hB HB_6 FA_6 FB_6 FP_6 FQ_6)
        | (go_at_call 19; refine (same_walk A2 c2 p A0 c0 w7 FP_7.out FA_7.out).mono ?_; rintro e w8 ⟨rfl, hB⟩; have FA_8 := Aside0.mk (Kd.C_below FA_7.out hB); have FB_8 := Aside0.mk (Kd.C_below FB_7.out hB); have FP_8 := Aside0.mk (Kd.C_below FP_7.out hB); have FQ_8 := Aside0.mk (Kd.C_below FQ_7.out hB); have FL_8 := Aside0.mk (Kd.C_below FL_7.out hB); have HB_8 := Aside0.mk (HB_7.out.trans (hB.mono HB_7.out.size)); clear hB HB_7 FA_7 FB_7 FP_7 FQ_7 FL_7)
        | (go_at_call 19; refine (same_walk A3 c3 q A1 c1 w8 FQ_8.out FB_8.out).mono ?_; rintro e w9 ⟨rfl, hB⟩; have FA_9 := Aside0.mk (Kd.C_below FA_8.out hB); have FB_9 := Aside0.mk (Kd.C_below FB_8.out hB); have FP_9 := Aside0.mk (Kd.C_below FP_8.out hB); have FQ_9 := Aside0.mk (Kd.C_below FQ_8.out hB); have FL_9 := Aside0.mk (Kd.C_below FL_8.out hB); have HB_9 := Aside0.mk (HB_8.out.trans (hB.mono HB_8.out.size)); clear hB HB_8 FA_8 FB_8 FP_8 FQ_8 FL_8)
        | (go_at_call 37; refine (rightB A2 c2 p w9 FP_9.out HW0.out _ HRB.out).mono ?_; rintro e w10 ⟨rfl, hB⟩; have FA_10 := Aside0.mk (Kd.C_below FA_9.out hB); have FB_10 := Aside0.mk (Kd.C_below FB_9.out hB); have FP_10 := Aside0.mk (Kd.C_below FP_9.out hB); have FQ_10 := Aside0.mk (Kd.C_below FQ_9.out hB); have FL_10 := Aside0.mk (Kd.C_below FL_9.out hB); have HB_10 := Aside0.mk (HB_9.out.trans (hB.mono HB_9.out.size)); clear hB HB_9 FA_9 FB_9 FP_9 FQ_9 FL_9)
        | (go_at_call 47; refine (refRightB A0 c0 p w10 FA_10.out (by omega) _ HRB.out).mono ?_; rintro e w11 ⟨rfl, hB⟩; have FA_11 := Aside0.mk (Kd.C_below FA_10.out hB); have FB_11 := Aside0.mk (Kd.C_below FB_10.out hB); have FP_11 := Aside0.mk (Kd.C_below FP_10.out hB); have FQ_11 := Aside0.mk (Kd.C_below FQ_10.out hB); have FL_11 := Aside0.mk (Kd.C_below FL_10.out hB); have HB_11 := Aside0.mk (HB_10.out.trans (hB.mono HB_10.out.size)); clear hB HB_10 FA_10 FB_10 FP_10 FQ_10 FL_10)
        | (go_at_call 47; refine (refRightB A0 c0 p w11 FA_11.out (by omega) _ HRB.out).mono ?_; rintro e w12 ⟨rfl, hB⟩; have FA_12 := Aside0.mk (Kd.C_below FA_11.out hB); have FB_12 := Aside0.mk (Kd.C_below FB_11.out hB); have FP_12 := Aside0.mk (Kd.C_below FP_11.out hB); have FQ_12 := Aside0.mk (Kd.C_below FQ_11.out hB); have FL_12 := Aside0.mk (Kd.C_below FL_11.out hB); have HB_12 := Aside0.mk (HB_11.out.trans (hB.mono HB_11.out.size)); clear hB HB_11 FA_11 FB_11 FP_11 FQ_11 FL_11)
        | (go_at_call 59; refine (refCountB A0 c0 p w12 FA_12.out HPN.out.right N HCN.out).mono ?_; rintro e w13 ⟨rfl, hB⟩; have FA_13 := Aside0.mk (Kd.C_below FA_12.out hB); have FB_13 := Aside0.mk (Kd.C_below FB_12.out hB); have FP_13 := Aside0.mk (Kd.C_below FP_12.out hB); have FQ_13 := Aside0.mk (Kd.C_below FQ_12.out hB); have FL_13 := Aside0.mk (Kd.C_below FL_12.out hB); have HB_13 := Aside0.mk (HB_12.out.trans (hB.mono HB_12.out.size)); clear hB HB_12 FA_12 FB_12 FP_12 FQ_12 FL_12)
        | (go_at_call 60; refine (refMembersB A0 c0 p w13 FA_13.out HPN.out.right N HCN.out).mono ?_; rintro e w14 ⟨A5, c5, rfl, hC, hB⟩; have FM_14 := Aside0.mk (hC); have FA_14 := Aside0.mk (Kd.C_below FA_13.out hB); have FB_14 := Aside0.mk (Kd.C_below FB_13.out hB); have FP_14 := Aside0.mk (Kd.C_below FP_13.out hB); have FQ_14 := Aside0.mk (Kd.C_below FQ_13.out hB); have FL_14 := Aside0.mk (Kd.C_below FL_13.out hB); have HB_14 := Aside0.mk (HB_13.out.trans (hB.mono HB_13.out.size)); clear hC; clear hB HB_13 FA_13 FB_13 FP_13 FQ_13 FL_13)
        | (go_at_call 40; refine (sameRows2_walk A4 c4 N (membersP p) A5 c5 w14 HML.out FL_14.out FM_14.out).mono ?_; rintro e w15 ⟨rfl, hB⟩; have FA_15 := Aside0.mk (Kd.C_below FA_14.out hB); have FB_15 := Aside0.mk (Kd.C_below FB_14.out hB); have FP_15 := Aside0.mk (Kd.C_below FP_14.out hB); have FQ_15 := Aside0.mk (Kd.C_below FQ_14.out hB); have FL_15 := Aside0.mk (Kd.C_below FL_14.out hB); have HB_15 := Aside0.mk (HB_14.out.trans (hB.mono HB_14.out.size)); clear hB HB_14 FA_14 FB_14 FP_14 FQ_14 FL_14 FM_14)
        | (go_at_call 47; refine (refRightB A1 c1 q w15 FB_15.out (by omega) _ HRQ.out).mono ?_; rintro e w16 ⟨rfl, hB⟩; have FA_16 := Aside0.mk (Kd.C_below FA_15.out hB); have FB_16 := Aside0.mk (Kd.C_below FB_15.out hB); have FP_16 := Aside0.mk (Kd.C_below FP_15.out hB); have FQ_16 := Aside0.mk (Kd.C_below FQ_15.out hB); have FL_16 := Aside0.mk (Kd.C_below FL_15.out hB); have HB_16 := Aside0.mk (HB_15.out.trans (hB.mono HB_15.out.size)); clear hB HB_15 FA_15 FB_15 FP_15 FQ_15 FL_15))
      go_ret
      exact ⟨rfl, HB_16.out⟩
    · have HRQ := Aside0.mk (decide_eq_false hq)
      have HE := Aside0.mk (show bothE p q = 60 by simp [bothE, hq])
      clear hno hp hq hcn
      go_enter Try.func38, Try.ntmps38
      go_wp2_with (first
        | (go_at_call 15; refine (cloneC_walk A0 c0 p w FA_0.out (by omega)).mono ?_; rintro e w1 ⟨A2, c2, rfl, hC, hB⟩; have FP_1 := Aside0.mk (hC); have FA_1 := Aside0.mk (Kd.C_below FA_0.out hB); have FB_1 := Aside0.mk (Kd.C_below FB_0.out hB); have HB_1 := Aside0.mk (HB_0.out.trans (hB.mono HB_0.out.size)); clear hC; clear hB HB_0 FA_0 FB_0)
        | (go_at_call 15; refine (cloneC_walk A1 c1 q w1 FB_1.out (by omega)).mono ?_; rintro e w2 ⟨A3, c3, rfl, hC, hB⟩; have FQ_2 := Aside0.mk (hC); have FA_2 := Aside0.mk (Kd.C_below FA_1.out hB); have FB_2 := Aside0.mk (Kd.C_below FB_1.out hB); have FP_2 := Aside0.mk (Kd.C_below FP_1.out hB); have HB_2 := Aside0.mk (HB_1.out.trans (hB.mono HB_1.out.size)); clear hC; clear hB HB_1 FA_1 FB_1 FP_1)
        | (go_at_call 32; refine (nob32 A2 c2 p A3 c3 q w2 FP_2.out FQ_2.out HW0.out HW1.out _ HE.out (by decide)).mono ?_; rintro e w3 ⟨rfl, hB⟩; have FA_3 := Aside0.mk (Kd.C_below FA_2.out hB); have FB_3 := Aside0.mk (Kd.C_below FB_2.out hB); have FP_3 := Aside0.mk (Kd.C_below FP_2.out hB); have FQ_3 := Aside0.mk (Kd.C_below FQ_2.out hB); have HB_3 := Aside0.mk (HB_2.out.trans (hB.mono HB_2.out.size)); clear hB HB_2 FA_2 FB_2 FP_2 FQ_2)
        | (go_at_call 30; refine (nob30 A2 c2 p A3 c3 q w3 FP_3.out FQ_3.out HW0.out HW1.out _ HE.out (by decide)).mono ?_; rintro e w4 ⟨rfl, hB⟩; have FA_4 := Aside0.mk (Kd.C_below FA_3.out hB); have FB_4 := Aside0.mk (Kd.C_below FB_3.out hB); have FP_4 := Aside0.mk (Kd.C_below FP_3.out hB); have FQ_4 := Aside0.mk (Kd.C_below FQ_3.out hB); have HB_4 := Aside0.mk (HB_3.out.trans (hB.mono HB_3.out.size)); clear hB HB_3 FA_3 FB_3 FP_3 FQ_3)
        | (go_at_call 31; refine (nob31 A2 c2 p A3 c3 q w4 FP_4.out FQ_4.out HW0.out HW1.out _ HE.out (by decide)).mono ?_; rintro e w5 ⟨rfl, hB⟩; have FA_5 := Aside0.mk (Kd.C_below FA_4.out hB); have FB_5 := Aside0.mk (Kd.C_below FB_4.out hB); have FP_5 := Aside0.mk (Kd.C_below FP_4.out hB); have FQ_5 := Aside0.mk (Kd.C_below FQ_4.out hB); have HB_5 := Aside0.mk (HB_4.out.trans (hB.mono HB_4.out.size)); clear hB HB_4 FA_4 FB_4 FP_4 FQ_4)
        | (go_at_call 34; refine (countN A2 c2 p.length p w5 HPN.out FP_5.out N HCN.out).mono ?_; rintro e w6 ⟨rfl, hB⟩; have FA_6 := Aside0.mk (Kd.C_below FA_5.out hB); have FB_6 := Aside0.mk (Kd.C_below FB_5.out hB); have FP_6 := Aside0.mk (Kd.C_below FP_5.out hB); have FQ_6 := Aside0.mk (Kd.C_below FQ_5.out hB); have HB_6 := Aside0.mk (HB_5.out.trans (hB.mono HB_5.out.size)); clear hB HB_5 FA_5 FB_5 FP_5 FQ_5)
        | (go_at_call 36; refine (membersN A2 c2 p.length p w6 HPN.out FP_6.out N HCN.out).mono ?_; rintro e w7 ⟨A4, c4, rfl, hC, hB⟩; have FL_7 := Aside0.mk (hC); have FA_7 := Aside0.mk (Kd.C_below FA_6.out hB); have FB_7 := Aside0.mk (Kd.C_below FB_6.out hB); have FP_7 := Aside0.mk (Kd.C_below FP_6.out hB); have FQ_7 := Aside0.mk (Kd.C_below FQ_6.out hB); have HB_7 := Aside0.mk (HB_6.out.trans (hB.mono HB_6.out.size)); clear hC; clear hB HB_6 FA_6 FB_6 FP_6 FQ_6)
        | (go_at_call 19; refine (same_walk A2 c2 p A0 c0 w7 FP_7.out FA_7.out).mono ?_; rintro e w8 ⟨rfl, hB⟩; have FA_8 := Aside0.mk (Kd.C_below FA_7.out hB); have FB_8 := Aside0.mk (Kd.C_below FB_7.out hB); have FP_8 := Aside0.mk (Kd.C_below FP_7.out hB); have FQ_8 := Aside0.mk (Kd.C_below FQ_7.out hB); have FL_8 := Aside0.mk (Kd.C_below FL_7.out hB); have HB_8 := Aside0.mk (HB_7.out.trans (hB.mono HB_7.out.size)); clear hB HB_7 FA_7 FB_7 FP_7 FQ_7 FL_7)
        | (go_at_call 19; refine (same_walk A3 c3 q A1 c1 w8 FQ_8.out FB_8.out).mono ?_; rintro e w9 ⟨rfl, hB⟩; have FA_9 := Aside0.mk (Kd.C_below FA_8.out hB); have FB_9 := Aside0.mk (Kd.C_below FB_8.out hB); have FP_9 := Aside0.mk (Kd.C_below FP_8.out hB); have FQ_9 := Aside0.mk (Kd.C_below FQ_8.out hB); have FL_9 := Aside0.mk (Kd.C_below FL_8.out hB); have HB_9 := Aside0.mk (HB_8.out.trans (hB.mono HB_8.out.size)); clear hB HB_8 FA_8 FB_8 FP_8 FQ_8 FL_8)
        | (go_at_call 37; refine (rightB A2 c2 p w9 FP_9.out HW0.out _ HRB.out).mono ?_; rintro e w10 ⟨rfl, hB⟩; have FA_10 := Aside0.mk (Kd.C_below FA_9.out hB); have FB_10 := Aside0.mk (Kd.C_below FB_9.out hB); have FP_10 := Aside0.mk (Kd.C_below FP_9.out hB); have FQ_10 := Aside0.mk (Kd.C_below FQ_9.out hB); have FL_10 := Aside0.mk (Kd.C_below FL_9.out hB); have HB_10 := Aside0.mk (HB_9.out.trans (hB.mono HB_9.out.size)); clear hB HB_9 FA_9 FB_9 FP_9 FQ_9 FL_9)
        | (go_at_call 47; refine (refRightB A0 c0 p w10 FA_10.out (by omega) _ HRB.out).mono ?_; rintro e w11 ⟨rfl, hB⟩; have FA_11 := Aside0.mk (Kd.C_below FA_10.out hB); have FB_11 := Aside0.mk (Kd.C_below FB_10.out hB); have FP_11 := Aside0.mk (Kd.C_below FP_10.out hB); have FQ_11 := Aside0.mk (Kd.C_below FQ_10.out hB); have FL_11 := Aside0.mk (Kd.C_below FL_10.out hB); have HB_11 := Aside0.mk (HB_10.out.trans (hB.mono HB_10.out.size)); clear hB HB_10 FA_10 FB_10 FP_10 FQ_10 FL_10)
        | (go_at_call 47; refine (refRightB A0 c0 p w11 FA_11.out (by omega) _ HRB.out).mono ?_; rintro e w12 ⟨rfl, hB⟩; have FA_12 := Aside0.mk (Kd.C_below FA_11.out hB); have FB_12 := Aside0.mk (Kd.C_below FB_11.out hB); have FP_12 := Aside0.mk (Kd.C_below FP_11.out hB); have FQ_12 := Aside0.mk (Kd.C_below FQ_11.out hB); have FL_12 := Aside0.mk (Kd.C_below FL_11.out hB); have HB_12 := Aside0.mk (HB_11.out.trans (hB.mono HB_11.out.size)); clear hB HB_11 FA_11 FB_11 FP_11 FQ_11 FL_11)
        | (go_at_call 59; refine (refCountB A0 c0 p w12 FA_12.out HPN.out.right N HCN.out).mono ?_; rintro e w13 ⟨rfl, hB⟩; have FA_13 := Aside0.mk (Kd.C_below FA_12.out hB); have FB_13 := Aside0.mk (Kd.C_below FB_12.out hB); have FP_13 := Aside0.mk (Kd.C_below FP_12.out hB); have FQ_13 := Aside0.mk (Kd.C_below FQ_12.out hB); have FL_13 := Aside0.mk (Kd.C_below FL_12.out hB); have HB_13 := Aside0.mk (HB_12.out.trans (hB.mono HB_12.out.size)); clear hB HB_12 FA_12 FB_12 FP_12 FQ_12 FL_12)
        | (go_at_call 60; refine (refMembersB A0 c0 p w13 FA_13.out HPN.out.right N HCN.out).mono ?_; rintro e w14 ⟨A5, c5, rfl, hC, hB⟩; have FM_14 := Aside0.mk (hC); have FA_14 := Aside0.mk (Kd.C_below FA_13.out hB); have FB_14 := Aside0.mk (Kd.C_below FB_13.out hB); have FP_14 := Aside0.mk (Kd.C_below FP_13.out hB); have FQ_14 := Aside0.mk (Kd.C_below FQ_13.out hB); have FL_14 := Aside0.mk (Kd.C_below FL_13.out hB); have HB_14 := Aside0.mk (HB_13.out.trans (hB.mono HB_13.out.size)); clear hC; clear hB HB_13 FA_13 FB_13 FP_13 FQ_13 FL_13)
        | (go_at_call 40; refine (sameRows2_walk A4 c4 N (membersP p) A5 c5 w14 HML.out FL_14.out FM_14.out).mono ?_; rintro e w15 ⟨rfl, hB⟩; have FA_15 := Aside0.mk (Kd.C_below FA_14.out hB); have FB_15 := Aside0.mk (Kd.C_below FB_14.out hB); have FP_15 := Aside0.mk (Kd.C_below FP_14.out hB); have FQ_15 := Aside0.mk (Kd.C_below FQ_14.out hB); have FL_15 := Aside0.mk (Kd.C_below FL_14.out hB); have HB_15 := Aside0.mk (HB_14.out.trans (hB.mono HB_14.out.size)); clear hB HB_14 FA_14 FB_14 FP_14 FQ_14 FL_14 FM_14)
        | (go_at_call 47; refine (refRightB A1 c1 q w15 FB_15.out (by omega) _ HRQ.out).mono ?_; rintro e w16 ⟨rfl, hB⟩; have FA_16 := Aside0.mk (Kd.C_below FA_15.out hB); have FB_16 := Aside0.mk (Kd.C_below FB_15.out hB); have FP_16 := Aside0.mk (Kd.C_below FP_15.out hB); have FQ_16 := Aside0.mk (Kd.C_below FQ_15.out hB); have FL_16 := Aside0.mk (Kd.C_below FL_15.out hB); have HB_16 := Aside0.mk (HB_15.out.trans (hB.mono HB_15.out.size)); clear hB HB_15 FA_15 FB_15 FP_15 FQ_15 FL_15))
      go_ret
      exact ⟨rfl, HB_16.out⟩
  · have HNP := Aside0.mk hp
    have HRB := Aside0.mk (decide_eq_false hp)
    have HE := Aside0.mk (show bothE p q = 60 by simp [bothE, hp])
    clear hno hp
    go_enter Try.func38, Try.ntmps38
    go_wp2_with (first
      | (go_at_call 15; refine (cloneC_walk A0 c0 p w FA_0.out (by omega)).mono ?_; rintro e w1 ⟨A2, c2, rfl, hC, hB⟩; have FP_1 := Aside0.mk (hC); have FA_1 := Aside0.mk (Kd.C_below FA_0.out hB); have FB_1 := Aside0.mk (Kd.C_below FB_0.out hB); have HB_1 := Aside0.mk (HB_0.out.trans (hB.mono HB_0.out.size)); clear hC; clear hB HB_0 FA_0 FB_0)
      | (go_at_call 15; refine (cloneC_walk A1 c1 q w1 FB_1.out (by omega)).mono ?_; rintro e w2 ⟨A3, c3, rfl, hC, hB⟩; have FQ_2 := Aside0.mk (hC); have FA_2 := Aside0.mk (Kd.C_below FA_1.out hB); have FB_2 := Aside0.mk (Kd.C_below FB_1.out hB); have FP_2 := Aside0.mk (Kd.C_below FP_1.out hB); have HB_2 := Aside0.mk (HB_1.out.trans (hB.mono HB_1.out.size)); clear hC; clear hB HB_1 FA_1 FB_1 FP_1)
      | (go_at_call 32; refine (nob32 A2 c2 p A3 c3 q w2 FP_2.out FQ_2.out HW0.out HW1.out _ HE.out (by decide)).mono ?_; rintro e w3 ⟨rfl, hB⟩; have FA_3 := Aside0.mk (Kd.C_below FA_2.out hB); have FB_3 := Aside0.mk (Kd.C_below FB_2.out hB); have FP_3 := Aside0.mk (Kd.C_below FP_2.out hB); have FQ_3 := Aside0.mk (Kd.C_below FQ_2.out hB); have HB_3 := Aside0.mk (HB_2.out.trans (hB.mono HB_2.out.size)); clear hB HB_2 FA_2 FB_2 FP_2 FQ_2)
      | (go_at_call 30; refine (nob30 A2 c2 p A3 c3 q w3 FP_3.out FQ_3.out HW0.out HW1.out _ HE.out (by decide)).mono ?_; rintro e w4 ⟨rfl, hB⟩; have FA_4 := Aside0.mk (Kd.C_below FA_3.out hB); have FB_4 := Aside0.mk (Kd.C_below FB_3.out hB); have FP_4 := Aside0.mk (Kd.C_below FP_3.out hB); have FQ_4 := Aside0.mk (Kd.C_below FQ_3.out hB); have HB_4 := Aside0.mk (HB_3.out.trans (hB.mono HB_3.out.size)); clear hB HB_3 FA_3 FB_3 FP_3 FQ_3)
      | (go_at_call 31; refine (nob31 A2 c2 p A3 c3 q w4 FP_4.out FQ_4.out HW0.out HW1.out _ HE.out (by decide)).mono ?_; rintro e w5 ⟨rfl, hB⟩; have FA_5 := Aside0.mk (Kd.C_below FA_4.out hB); have FB_5 := Aside0.mk (Kd.C_below FB_4.out hB); have FP_5 := Aside0.mk (Kd.C_below FP_4.out hB); have FQ_5 := Aside0.mk (Kd.C_below FQ_4.out hB); have HB_5 := Aside0.mk (HB_4.out.trans (hB.mono HB_4.out.size)); clear hB HB_4 FA_4 FB_4 FP_4 FQ_4)
      | (go_at_call 34; refine (countNo A2 c2 p w5 FP_5.out HW0.out HNP.out).mono ?_; rintro e w6 ⟨rfl, hB⟩; have FA_6 := Aside0.mk (Kd.C_below FA_5.out hB); have FB_6 := Aside0.mk (Kd.C_below FB_5.out hB); have FP_6 := Aside0.mk (Kd.C_below FP_5.out hB); have FQ_6 := Aside0.mk (Kd.C_below FQ_5.out hB); have HB_6 := Aside0.mk (HB_5.out.trans (hB.mono HB_5.out.size)); clear hB HB_5 FA_5 FB_5 FP_5 FQ_5)
      | (go_at_call 36; refine (members_no A2 c2 p w6 FP_6.out HW0.out HNP.out).mono ?_; rintro e w7 ⟨rfl, hB⟩; have FA_7 := Aside0.mk (Kd.C_below FA_6.out hB); have FB_7 := Aside0.mk (Kd.C_below FB_6.out hB); have FP_7 := Aside0.mk (Kd.C_below FP_6.out hB); have FQ_7 := Aside0.mk (Kd.C_below FQ_6.out hB); have HB_7 := Aside0.mk (HB_6.out.trans (hB.mono HB_6.out.size)); clear hB HB_6 FA_6 FB_6 FP_6 FQ_6)
      | (go_at_call 19; refine (same_walk A2 c2 p A0 c0 w7 FP_7.out FA_7.out).mono ?_; rintro e w8 ⟨rfl, hB⟩; have FA_8 := Aside0.mk (Kd.C_below FA_7.out hB); have FB_8 := Aside0.mk (Kd.C_below FB_7.out hB); have FP_8 := Aside0.mk (Kd.C_below FP_7.out hB); have FQ_8 := Aside0.mk (Kd.C_below FQ_7.out hB); have HB_8 := Aside0.mk (HB_7.out.trans (hB.mono HB_7.out.size)); clear hB HB_7 FA_7 FB_7 FP_7 FQ_7)
      | (go_at_call 19; refine (same_walk A3 c3 q A1 c1 w8 FQ_8.out FB_8.out).mono ?_; rintro e w9 ⟨rfl, hB⟩; have FA_9 := Aside0.mk (Kd.C_below FA_8.out hB); have FB_9 := Aside0.mk (Kd.C_below FB_8.out hB); have FP_9 := Aside0.mk (Kd.C_below FP_8.out hB); have FQ_9 := Aside0.mk (Kd.C_below FQ_8.out hB); have HB_9 := Aside0.mk (HB_8.out.trans (hB.mono HB_8.out.size)); clear hB HB_8 FA_8 FB_8 FP_8 FQ_8)
      | (go_at_call 37; refine (rightB A2 c2 p w9 FP_9.out HW0.out _ HRB.out).mono ?_; rintro e w10 ⟨rfl, hB⟩; have FA_10 := Aside0.mk (Kd.C_below FA_9.out hB); have FB_10 := Aside0.mk (Kd.C_below FB_9.out hB); have FP_10 := Aside0.mk (Kd.C_below FP_9.out hB); have FQ_10 := Aside0.mk (Kd.C_below FQ_9.out hB); have HB_10 := Aside0.mk (HB_9.out.trans (hB.mono HB_9.out.size)); clear hB HB_9 FA_9 FB_9 FP_9 FQ_9)
      | (go_at_call 47; refine (refRightB A0 c0 p w10 FA_10.out (by omega) _ HRB.out).mono ?_; rintro e w11 ⟨rfl, hB⟩; have FA_11 := Aside0.mk (Kd.C_below FA_10.out hB); have FB_11 := Aside0.mk (Kd.C_below FB_10.out hB); have FP_11 := Aside0.mk (Kd.C_below FP_10.out hB); have FQ_11 := Aside0.mk (Kd.C_below FQ_10.out hB); have HB_11 := Aside0.mk (HB_10.out.trans (hB.mono HB_10.out.size)); clear hB HB_10 FA_10 FB_10 FP_10 FQ_10)
      | (go_at_call 47; refine (refRightB A0 c0 p w11 FA_11.out (by omega) _ HRB.out).mono ?_; rintro e w12 ⟨rfl, hB⟩; have FA_12 := Aside0.mk (Kd.C_below FA_11.out hB); have FB_12 := Aside0.mk (Kd.C_below FB_11.out hB); have FP_12 := Aside0.mk (Kd.C_below FP_11.out hB); have FQ_12 := Aside0.mk (Kd.C_below FQ_11.out hB); have HB_12 := Aside0.mk (HB_11.out.trans (hB.mono HB_11.out.size)); clear hB HB_11 FA_11 FB_11 FP_11 FQ_11))
    go_ret
    exact ⟨rfl, HB_12.out⟩
end Go.Proofs.Ytboofecfmhbacaa

/- The walks of the reference's agree, Refine, Stable, Coarsest. -/
namespace Go.Proofs.Ytboofecfmhbacaa
open Go.RowKit Go.WideMaps Go.Maps Go.Proofs.YtboofecfmhbacaaW.PrintWords Go.Proofs.YtboofecfmhbacaaW.PrintLast Go.Proofs.YtboofecfmhbacaaW.PrintMore
set_option linter.unusedVariables false
set_option linter.unusedSimpArgs false

instance (p : List Int) (next : List (List Int)) (i j : Nat) : Decidable (agree p next i j) := inferInstanceAs (Decidable (_ ∧ _))

set_option maxRecDepth 100000 in
set_option maxHeartbeats 4000000 in
theorem agree_walk (A0 : Option Addr) (c0 : Nat) (p : List Int) (A1 : Option Addr) (c1 : Nat) (next : List (List Int)) (i k : Nat) (w : World) (hr0 : Kd.C (Kd.int .i64) w A0 p.length p) (hr1 : Kd.C (Kd.slice 3 (Kd.int .i64)) w A1 next.length next) (hn : nextP p.length next) (hp1 : p.length ≤ 1000000) (hi : i < p.length) (hk : k < p.length) :
    Calls Try.prog 67 #[.slice A0 p.length c0, .slice A1 next.length c1, .int .i64 i, .int .i64 k] w fun e w' => e = .returned (.bool (decide (agree p next i k))) ∧ Below w.heap.size w w' := by
  have HR0 := Aside0.mk hr0
  have hin : i < next.length := by rw [hn.1]; exact hi
  have hkn : k < next.length := by rw [hn.1]; exact hk
  obtain ⟨ad0, e0, hx0⟩ := ints_at hr0 i hi
  obtain ⟨ad0', e0', hx1⟩ := ints_at hr0 k hk
  subst e0
  obtain rfl : ad0 = ad0' := by injection e0'
  obtain ⟨ad1, A2, d2, e1, hx2, hd2, hD2⟩ := rows_at hr1 i hin
  obtain ⟨ad1', A3, d3, e1', hx3, hd3, hD3⟩ := rows_at hr1 k hkn
  subst e1
  obtain rfl : ad1 = ad1' := by injection e1'
  have HD2 := Aside0.mk hD2
  have HD3 := Aside0.mk hD3
  have HN := Aside0.mk hn
  have hl2 : next[i].length ≤ 64 := (hn.2 _ (List.getElem_mem hin)).1
  have hl3 : next[k].length ≤ 64 := (hn.2 _ (List.getElem_mem hkn)).1
  have HA := Aside0.mk (show agree p next i k ↔ p[i] = p[k] ∧ (next[i].map fun x => at_ p x.toNat) = (next[k].map fun x => at_ p x.toNat) by
    unfold agree
    rw [after_get p next i hin, after_get p next k hkn, at_get hi, at_get hk])
  clear hr0 hr1 hD2 hD3 hn e0' e1'
  by_cases hpp : p[i] = p[k]
  · have g1 : (p[i] == p[k]) = true := beq_iff_eq.mpr hpp
    have g2 : (p[i] != p[k]) = false := bne_eq_false_iff_eq.mpr hpp
    have HP := Aside0.mk hpp
    clear hpp
    by_cases hll : next[i].length = next[k].length
    · have g3 : ((next[i].length : Int) == (next[k].length : Int)) = true := beq_iff_eq.mpr (by omega)
      have g4 : ((next[i].length : Int) != (next[k].length : Int)) = false := bne_eq_false_iff_eq.mpr (by omega)
      have g5 : (next[i].length == next[k].length) = true := by simpa using hll
      have HX := Aside0.mk (And.intro hx2 hx3)
      have HLL := Aside0.mk hll
      clear hll
      go_enter Try.func67, Try.ntmps67
      go_wp2
      go_quiet (fail)
      go_wp2
      clear hx0 hx1 hx2 hx3 g1 g2 g3 g4 g5
      obtain ⟨f, hf⟩ : ∃ f : Int → Int, f = fun x => at_ p x.toNat := ⟨_, rfl⟩
      have HF := Aside0.mk hf
      rw [← hf] at HA
      clear hf
      go_loopw [9] (fun i' wr => ∃ j : Nat, i' = .int .i64 j ∧ Aside0 (j ≤ next[i].length ∧ (next[i].take j).map f = (next[k].take j).map f ∧ Below w.heap.size w wr)) (fun i' _ => next[i].length - (intOf i').toNat)
      case atStart => exact ⟨0, rfl, Nat.zero_le _, rfl, pw_below_drewN (Below.refl _ _) _⟩
      case round =>
        obtain ⟨j, rfl, HJ⟩ := hrel
        have hjl := HJ.out.1
        have hx2 := pw_cell_below HJ.out.2.2 HX.out.1
        have hx3 := pw_cell_below HJ.out.2.2 HX.out.2
        have HQB := Aside0.mk (fun m => pw_below_drewN HJ.out.2.2 m)
        by_cases hj : j < next[i].length
        · have hj3 : j < next[k].length := by rw [← HLL.out]; exact hj
          have hb2 := (HN.out.2 _ (List.getElem_mem hin)).2 next[i][j] (List.getElem_mem hj)
          have hb3 := (HN.out.2 _ (List.getElem_mem hkn)).2 next[k][j] (List.getElem_mem hj3)
          obtain ⟨b2, e2⟩ : ∃ b : Nat, next[i][j] = b := ⟨next[i][j].toNat, by omega⟩
          obtain ⟨b3, e3⟩ : ∃ b : Nat, next[k][j] = b := ⟨next[k][j].toNat, by omega⟩
          have hbp2 : b2 < p.length := by omega
          have hbp3 : b3 < p.length := by omega
          obtain ⟨ad2, e4, hx4⟩ := ints_at (Kd.C_below (Kd.C_below HD2.out (Below.refl _ _)) HJ.out.2.2) j hj
          obtain ⟨ad3, e5, hx5⟩ := ints_at (Kd.C_below HD3.out HJ.out.2.2) j hj3
          subst e4 e5
          rw [e2] at hx4
          rw [e3] at hx5
          obtain ⟨ad4, e6, hx6⟩ := ints_at (Kd.C_below HR0.out HJ.out.2.2) b2 hbp2
          obtain ⟨ad4', e6', hx7⟩ := ints_at (Kd.C_below HR0.out HJ.out.2.2) b3 hbp3
          obtain rfl : ad0 = ad4 := by injection e6
          obtain rfl : ad0 = ad4' := by injection e6'
          have hfb2 : f next[i][j] = p[b2] := by rw [HF.out, e2]; simp [at_get hbp2]
          have hfb3 : f next[k][j] = p[b3] := by rw [HF.out, e3]; simp [at_get hbp3]
          have ht2 := Num.take_succ next[i] j hj
          have ht3 := Num.take_succ next[k] j hj3
          by_cases hq : p[b2] = p[b3]
          · have g1 : (p[b2] == p[b3]) = true := beq_iff_eq.mpr hq
            have g2 : (p[b2] != p[b3]) = false := bne_eq_false_iff_eq.mpr hq
            have HK := Aside0.mk (show (next[i].take (j + 1)).map f = (next[k].take (j + 1)).map f by
              rw [ht2, ht3, List.map_append, List.map_append, HJ.out.2.1, List.map_singleton, List.map_singleton, hfb2, hfb3, hq])
            clear hq hfb2 hfb3 ht2 ht3 hb2 hb3 e2 e3 e6 e6'
            go_wp2
            go_quiet (fail)
            go_wp2
            go_roundw
            case rel => exact ⟨j + 1, by go_num, by omega, HK.out, HQB.out nq⟩
            case measure => simp [intOf]; omega
          · have g1 : (p[b2] == p[b3]) = false := beq_eq_false_iff_ne.mpr hq
            have g2 : (p[b2] != p[b3]) = true := bne_iff_ne.mpr hq
            have HD := Aside0.mk (decide_eq_false (p := agree p next i k) (fun h => by
              have h2 := (HA.out.1 h).2
              have h3 : (next[i].map f)[j]'(by simpa using hj) = (next[k].map f)[j]'(by simpa using hj3) := by simp only [h2]
              rw [List.getElem_map, List.getElem_map, hfb2, hfb3] at h3
              exact hq h3))
            clear hq hfb2 hfb3 ht2 ht3 hb2 hb3 e2 e3 e6 e6'
            go_wp2
            go_quiet (fail)
            go_wp2
            go_ret
            exact ⟨by rw [HD.out]; rfl, HQB.out nq⟩
        · have hj' : j = next[i].length := by omega
          have HD := Aside0.mk (decide_eq_true (p := agree p next i k) (HA.out.2 ⟨HP.out, by
            have h := HJ.out.2.1
            rw [hj', List.take_length, HLL.out, List.take_length] at h
            exact h⟩))
          clear hj'
          go_wp2
          go_ret
          exact ⟨by rw [HD.out]; rfl, HJ.out.2.2⟩
    · have g3 : ((next[i].length : Int) == (next[k].length : Int)) = false := beq_eq_false_iff_ne.mpr (by omega)
      have g4 : ((next[i].length : Int) != (next[k].length : Int)) = true := bne_iff_ne.mpr (by omega)
      have g5 : (next[i].length == next[k].length) = false := by simpa using hll
      have HD := Aside0.mk (decide_eq_false (p := agree p next i k) (fun h => by
        have h2 := congrArg List.length (HA.out.1 h).2
        simp at h2
        exact hll h2))
      clear hll
      go_enter Try.func67, Try.ntmps67
      go_wp2
      go_quiet (fail)
      go_wp2
      go_ret
      exact ⟨by rw [HD.out]; rfl, pw_below_drewN (Below.refl _ _) _⟩
  · have g1 : (p[i] == p[k]) = false := beq_eq_false_iff_ne.mpr hpp
    have g2 : (p[i] != p[k]) = true := bne_iff_ne.mpr hpp
    have HD := Aside0.mk (decide_eq_false (p := agree p next i k) (fun h => hpp (HA.out.1 h).1))
    clear hpp
    go_enter Try.func67, Try.ntmps67
    go_wp2
    go_quiet (fail)
    go_wp2
    go_ret
    exact ⟨by rw [HD.out]; rfl, pw_below_drewN (Below.refl _ _) _⟩
end Go.Proofs.Ytboofecfmhbacaa

/- The walks of the reference's Refine, Stable, Coarsest. -/
namespace Go.Proofs.Ytboofecfmhbacaa
open Go.RowKit Go.WideMaps Go.Maps Go.Proofs.YtboofecfmhbacaaW.PrintWords Go.Proofs.YtboofecfmhbacaaW.PrintLast Go.Proofs.YtboofecfmhbacaaW.PrintMore
set_option linter.unusedVariables false
set_option linter.unusedSimpArgs false

theorem refine_numA (p : List Int) (next : List (List Int)) : refineP p next = numR next.length (fun i => (at_ p i, after p next i)) := by
  rw [refine_numR]
  exact numR_congr _ _ _ fun i j _ _ => by
    rw [word_iff]
    constructor
    · rintro ⟨h1, h2⟩
      exact Prod.ext h1 h2
    · intro h
      exact ⟨congrArg Prod.fst h, congrArg Prod.snd h⟩
theorem rowB_rest (g : Nat → Bool) (n j : Nat) (h : ∀ k, j ≤ k → k < n → g k = false) : rowB g n j = rowB g n n := by
  apply List.ext_getElem
  · simp [rowB]
  · intro i h1 h2
    have hi : i < n := by simpa [rowB] using h1
    rw [rowB_get _ _ _ _ hi, rowB_get _ _ _ _ hi]
    by_cases e : i < j
    · simp [e, hi]
    · have := h i (by omega) hi
      simp [this]

set_option maxRecDepth 100000 in
set_option maxHeartbeats 4000000 in
theorem refRefine_walk (A0 : Option Addr) (c0 : Nat) (p : List Int) (A1 : Option Addr) (c1 : Nat) (next : List (List Int)) (w : World) (hr0 : Kd.C (Kd.int .i64) w A0 p.length p) (hr1 : Kd.C (Kd.slice 3 (Kd.int .i64)) w A1 next.length next) (hn : nextP p.length next) (hp1 : p.length ≤ 1000000) :
    Calls Try.prog 50 #[.slice A0 p.length c0, .slice A1 next.length c1] w fun e w' => ∃ v, e = .returned v ∧ Kd.R (Kd.int .i64) 3 w' w.heap.size (fun _ => True) v (refineP p next) ∧ Below w.heap.size w w' := by
  have HA := Aside0.mk (fun i k (hi : i < p.length) (hk : k < p.length) W (hB : Below w.heap.size w W) => agree_walk A0 c0 p A1 c1 next i k W (Kd.C_below hr0 hB) (Kd.C_below hr1 hB) hn hp1 hi hk)
  have hb1 := len_le hr1
  have HN := Aside0.mk hn
  obtain ⟨g, hg⟩ : ∃ g : Nat → Nat → Bool, g = fun i k => decide (k ≤ i) && decide (agree p next i k) := ⟨_, rfl⟩
  have HG := Aside0.mk hg
  clear hr0 hr1 hn hg
  have hmk := print_make_of 22 3 (.int .i64 0) 8 Try.underlying22 info3 rfl (by decide) p.length (by omega)
  go_enter Try.func50, Try.ntmps50
  go_wp2
  go_loopw [5, 6] (fun out i wr => ∃ k : Nat, i = .int .i64 k ∧ Aside0 (k ≤ p.length ∧ Kd.R (Kd.slice 3 (Kd.int .i64)) 22 wr w.heap.size (fun _ => True) out (matB g p.length k) ∧ Below w.heap.size w wr)) (fun _ i _ => p.length - (intOf i).toNat)
  case atStart => exact ⟨0, rfl, Nat.zero_le _, Kd.R_nil _ _ _ _ _, Below.refl _ _⟩
  case round =>
    obtain ⟨i, rfl, HI⟩ := hrel
    have hil := HI.out.1
    by_cases hi : i < p.length
    · go_wp2
      obtain ⟨wo, hwo⟩ : ∃ wo : World, wo = wr := ⟨_, rfl⟩
      rw [← hwo] at HI ⊢
      clear hwo
      go_loopw [8] (fun k wq => ∃ (j : Nat), k = .int .i64 j ∧ Aside0 (j ≤ i + 1 ∧ Kd.R (Kd.int .i64) 3 wq wo.heap.size (fun _ => True) (.slice (some ⟨wo.heap.size, 0, none⟩) p.length p.length) (rowB (g i) p.length j) ∧ Below wo.heap.size wo wq)) (fun k _ => i + 1 - (intOf k).toNat)
      case atStart => exact ⟨0, rfl, Nat.zero_le _, by rw [rowB_zero]; exact R_made wo p.length (by omega), lit_below wo _⟩
      case round =>
        obtain ⟨j, rfl, HJ⟩ := hrel
        have hji := HJ.out.1
        by_cases hj : j ≤ i
        · have HB := Aside0.mk (HI.out.2.2.trans (HJ.out.2.2.mono HI.out.2.2.size))
          have hC := HA.out i j hi (by omega) wr HB.out
          have hjp : j < p.length := by omega
          have hge : g i j = decide (agree p next i j) := by rw [HG.out]; simp [hj]
          by_cases h1 : agree p next i j
          · rw [decide_eq_true h1] at hC hge
            have HC := Aside0.mk hC
            have HS := Aside0.mk (fun w1 (hB : Below wr.heap.size wr w1) => show (∃ v, w1.cell? ⟨wo.heap.size, j, none⟩ = some v) ∧ w1.frozen? ⟨wo.heap.size, j, none⟩ = false ∧ Kd.R (Kd.int .i64) 3 (w1.setCell ⟨wo.heap.size, j, none⟩ (.int .i64 1)) wo.heap.size (fun _ => True) (.slice (some ⟨wo.heap.size, 0, none⟩) p.length p.length) (rowB (g i) p.length (j + 1)) ∧ Below wo.heap.size wo (w1.setCell ⟨wo.heap.size, j, none⟩ (.int .i64 1)) by
              obtain ⟨g1, g2, g3, g4⟩ := put_int (w := w) (Kd.R_below HJ.out.2.1 hB) (rowB_length _ _ _) j hjp 1
              rw [rowB_hit _ _ _ hge] at g4
              exact ⟨g1, g2, g4, (HJ.out.2.2.trans (hB.mono HJ.out.2.2.size)).setCell g3 _⟩)
            clear h1 hge hC
            go_wp2_with (go_at_call 67; refine HC.out.mono ?_; rintro e w1 ⟨rfl, hB⟩; obtain ⟨⟨v9, hv9⟩, hf9, hR9, hB9⟩ := HS.out w1 hB; have HK := Aside0.mk (And.intro hR9 hB9); clear hR9 hB9 hB)
            go_roundw
            case rel => exact ⟨j + 1, by go_num, by omega, HK.out.1, HK.out.2⟩
            case measure => simp [intOf]; omega
          · rw [decide_eq_false h1] at hC hge
            have HC := Aside0.mk hC
            have HK := Aside0.mk (rowB_miss (g i) p.length j hge)
            have HS := Aside0.mk (fun w1 (hB : Below wr.heap.size wr w1) => And.intro (Kd.R_below HJ.out.2.1 hB) (HJ.out.2.2.trans (hB.mono HJ.out.2.2.size)))
            clear h1 hge hC
            go_wp2_with (go_at_call 67; refine HC.out.mono ?_; rintro e w1 ⟨rfl, hB⟩; have HK1 := Aside0.mk (HS.out w1 hB); clear hB)
            go_roundw
            case rel => exact ⟨j + 1, by go_num, by omega, by rw [← HK.out]; exact HK1.out.1, HK1.out.2⟩
            case measure => simp [intOf]; omega
        · have hj' : j = i + 1 := by omega
          have HU := Aside0.mk (show Kd.R (Kd.int .i64) 3 wr w.heap.size (fun k => True ∧ some k ≠ u5.ownBlock) (.slice (some ⟨wo.heap.size, 0, none⟩) p.length p.length) (rowB (g i) p.length p.length) ∧ Kd.R (Kd.slice 3 (Kd.int .i64)) 22 wr w.heap.size (fun _ => True) u5 (matB g p.length i) ∧ Below w.heap.size w wr by
            have h := HJ.out.2.1
            rw [hj', rowB_rest (g i) p.length (i + 1) (fun k h1 _ => by
              have h9 : decide (k ≤ i) = false := decide_eq_false (by omega)
              rw [HG.out]
              simp only [h9, Bool.false_and])] at h
            exact ⟨Kd.R_lower (Kd.R_newR h HI.out.2.1) HI.out.2.2.size, Kd.R_below HI.out.2.1 HJ.out.2.2, HI.out.2.2.trans (HJ.out.2.2.mono HI.out.2.2.size)⟩)
          have HS := Aside0.mk (matB_succ g p.length i)
          have HL := Aside0.mk (show (matB g p.length i).length ≤ 1000000 by rw [matB_length]; omega)
          clear hj'
          go_wp2_with (at_builtin; refine append_row (w0 := w) (W := wr) w.heap.size rfl (.tmp 31) (.tmp 33) rfl u5 (matB g p.length i) _ (rowB (g i) p.length p.length) rfl rfl HU.out.2.1 HU.out.1 HU.out.2.2 HU.out.2.2.size HL.out ?_; rintro v1 w1 hR1 hB1; rw [HS.out] at hR1; have HK := Aside0.mk (And.intro hR1 hB1); clear hR1 hB1)
          go_roundw
          case rel => exact ⟨i + 1, by go_num, by omega, HK.out.1, HK.out.2⟩
          case measure => simp [intOf]; omega
    · have hi' : i = p.length := by omega
      obtain ⟨A2, c2, hu, hc2, hC2⟩ := Kd.R_reads HI.out.2.1
      rw [hi', matB_length] at hu hC2
      subst hu
      have hnum := refnum_walk (fun i => (at_ p i, after p next i)) A2 c2 (matB g p.length p.length) wr (by rw [matB_length]; exact hC2) (by rw [matB_length]; omega) (matB_tells _ g p.length (fun i k hk _ => by
        rw [HG.out]
        simp only [decide_eq_true (show k ≤ i by omega), Bool.true_and, decide_eq_true_eq]
        unfold agree
        constructor
        · rintro ⟨h1, h2⟩
          exact Prod.ext h1 h2
        · intro h
          exact ⟨congrArg Prod.fst h, congrArg Prod.snd h⟩))
      rw [matB_length, ← HN.out.1, ← refine_numA] at hnum
      rw [HN.out.1] at hnum
      have HNN := Aside0.mk hnum
      clear hi' hC2 hnum
      go_wp2_with (go_at_call 43; refine HNN.out.mono ?_; rintro e w9 ⟨v, rfl, hR9, hB9⟩; have HD := Aside0.mk (And.intro (Kd.R_lower hR9 HI.out.2.2.size) (HI.out.2.2.trans (hB9.mono HI.out.2.2.size))); clear hR9 hB9)
      go_ret
      exact ⟨_, rfl, HD.out.1, HD.out.2⟩

/-- .. as a slice that is read. -/
theorem refRefineC_walk (A0 : Option Addr) (c0 : Nat) (p : List Int) (A1 : Option Addr) (c1 : Nat) (next : List (List Int)) (w : World) (hr0 : Kd.C (Kd.int .i64) w A0 p.length p) (hr1 : Kd.C (Kd.slice 3 (Kd.int .i64)) w A1 next.length next) (hn : nextP p.length next) (hp1 : p.length ≤ 1000000) :
    Calls Try.prog 50 #[.slice A0 p.length c0, .slice A1 next.length c1] w fun e w' => ∃ A c, e = .returned (.slice A p.length c) ∧ Kd.C (Kd.int .i64) w' A p.length (refineP p next) ∧ Below w.heap.size w w' := by
  refine (refRefine_walk A0 c0 p A1 c1 next w hr0 hr1 hn hp1).mono ?_
  rintro e w' ⟨v, rfl, hR, hB⟩
  obtain ⟨A, c, rfl, hC⟩ := r_read hR (by rw [refine_length, hn.1])
  exact ⟨A, c, rfl, hC, hB⟩

set_option maxRecDepth 100000 in
set_option maxHeartbeats 1000000 in
theorem refStable_walk (A0 : Option Addr) (c0 : Nat) (p : List Int) (A1 : Option Addr) (c1 : Nat) (next : List (List Int)) (w : World) (hr0 : Kd.C (Kd.int .i64) w A0 p.length p) (hr1 : Kd.C (Kd.slice 3 (Kd.int .i64)) w A1 next.length next) (hn : nextP p.length next) (hp : rightP p) :
    Calls Try.prog 51 #[.slice A0 p.length c0, .slice A1 next.length c1] w fun e w' => e = .returned (.bool (decide (countP (refineP p next) = countP p))) ∧ Below w.heap.size w w' := by
  have HR0 := Aside0.mk hr0
  have hp1 := hp.1
  have HP := Aside0.mk (refRefineC_walk A0 c0 p A1 c1 next w hr0 hr1 hn (by omega))
  have hrr := refine_right p next (by rw [hn.1]; exact hp1)
  have hrl : (refineP p next).length = p.length := by rw [refine_length, hn.1]
  obtain ⟨q, hq⟩ : ∃ q, q = refineP p next := ⟨_, rfl⟩
  rw [← hq] at HP hrr hrl ⊢
  have HC1 := Aside0.mk (fun A c W (hC : Kd.C (Kd.int .i64) W A p.length q) => (by
    have h := refCount_walk A c q W (by rw [hrl]; exact hC) hrr
    rw [hrl] at h
    exact h : Calls Try.prog 59 #[.slice A p.length c] W fun e w' => e = .returned (.int .i64 (countP q)) ∧ Below W.heap.size W w'))
  have HC2 := Aside0.mk (fun W hB => refCount_walk A0 c0 p W (Kd.C_below hr0 hB) hp)
  clear hr0 hr1 hn hp hq hrr hrl
  by_cases hc : countP q = countP p
  · have g1 : (countP q == countP p) = true := beq_iff_eq.mpr hc
    have HD := Aside0.mk (decide_eq_true hc)
    clear hc
    go_enter Try.func51, Try.ntmps51
    go_wp2_with (first
      | (go_at_call 50; refine HP.out.mono ?_; rintro e w1 ⟨A2, c2, rfl, hC, hB⟩; have HK := Aside0.mk (HC1.out A2 c2 w1 hC); have HB1 := Aside0.mk hB; clear hC hB HC1)
      | (go_at_call 59; refine HK.out.mono ?_; rintro e w2 ⟨rfl, hB⟩; have HB2 := Aside0.mk (HB1.out.trans (hB.mono HB1.out.size)); clear hB HK)
      | (go_at_call 59; refine (HC2.out w2 HB2.out).mono ?_; rintro e w3 ⟨rfl, hB⟩; have HB3 := Aside0.mk (HB2.out.trans (hB.mono HB2.out.size)); clear hB))
    go_ret
    exact ⟨by rw [HD.out]; rfl, HB3.out⟩
  · have g1 : (countP q == countP p) = false := beq_eq_false_iff_ne.mpr hc
    have HD := Aside0.mk (decide_eq_false hc)
    clear hc
    go_enter Try.func51, Try.ntmps51
    go_wp2_with (first
      | (go_at_call 50; refine HP.out.mono ?_; rintro e w1 ⟨A2, c2, rfl, hC, hB⟩; have HK := Aside0.mk (HC1.out A2 c2 w1 hC); have HB1 := Aside0.mk hB; clear hC hB HC1)
      | (go_at_call 59; refine HK.out.mono ?_; rintro e w2 ⟨rfl, hB⟩; have HB2 := Aside0.mk (HB1.out.trans (hB.mono HB1.out.size)); clear hB HK)
      | (go_at_call 59; refine (HC2.out w2 HB2.out).mono ?_; rintro e w3 ⟨rfl, hB⟩; have HB3 := Aside0.mk (HB2.out.trans (hB.mono HB2.out.size)); clear hB))
    go_ret
    exact ⟨by rw [HD.out]; rfl, HB3.out⟩

set_option maxRecDepth 100000 in
set_option maxHeartbeats 1000000 in
theorem refCoarsest_walk (A0 : Option Addr) (c0 : Nat) (p : List Int) (A1 : Option Addr) (c1 : Nat) (next : List (List Int)) (w : World) (hr0 : Kd.C (Kd.int .i64) w A0 p.length p) (hr1 : Kd.C (Kd.slice 3 (Kd.int .i64)) w A1 next.length next) (hn : nextP p.length next) (hp : rightP p) :
    Calls Try.prog 49 #[.slice A0 p.length c0, .slice A1 next.length c1] w fun e w' => ∃ (m : Nat) (A : Option Addr) (c : Nat), e = .returned (.tuple #[.slice A p.length c, .int .i64 m]) ∧ Stops p next m ∧ Kd.C (Kd.int .i64) w' A p.length (iterP p next m) ∧ Below w.heap.size w w' := by
  have HR0 := Aside0.mk hr0
  have HR1 := Aside0.mk hr1
  have HP := Aside0.mk hp
  have HN := Aside0.mk hn
  have hp1 := hp.1
  clear hr0 hr1 hp hn
  go_enter Try.func49, Try.ntmps49
  go_wp2
  go_loopg [0, 6] (p.length + 1) (fun gg now n wr => ∃ (m : Nat) (A : Option Addr) (c : Nat), now = .slice A p.length c ∧ n = .int .i64 m ∧ Aside0 (gg + m = p.length + 1 ∧ (∀ j, j < m → countP (iterP p next (j + 1)) ≠ countP (iterP p next j)) ∧ Kd.C (Kd.int .i64) wr A p.length (iterP p next m) ∧ Below w.heap.size w wr))
  case atStart => exact ⟨0, A0, c0, rfl, rfl, rfl, fun j hj => absurd hj (Nat.not_lt_zero j), HR0.out, Below.refl _ _⟩
  case round =>
    obtain ⟨m, A2, c2, rfl, rfl, HI⟩ := hrel
    have hir := iter_right HP.out HN.out.1 m
    have hle := iter_le HP.out HN.out.1 HI.out.2.1
    obtain ⟨now, hnow⟩ : ∃ l, l = iterP p next m := ⟨_, rfl⟩
    obtain ⟨nxt, hnxt⟩ : ∃ l, l = iterP p next (m + 1) := ⟨_, rfl⟩
    have hC := HI.out.2.2.1
    have hC1 := Kd.C_below HR1.out HI.out.2.2.2
    have hN2 : nextP (iterP p next m).length next := by rw [hir.2]; exact HN.out
    have hS := refStable_walk A2 c2 (iterP p next m) A1 c1 next wr (by rw [hir.2]; exact hC) hC1 hN2 hir.1
    rw [show refineP (iterP p next m) next = iterP p next (m + 1) from rfl, ← hnxt, hir.2, ← hnow] at hS
    have HRF := Aside0.mk (fun W (hB : Below wr.heap.size wr W) => (by
      have h := refRefineC_walk A2 c2 (iterP p next m) A1 c1 next W (by rw [hir.2]; exact Kd.C_below hC hB) (Kd.C_below hC1 hB) hN2 (by rw [hir.2]; omega)
      rw [show refineP (iterP p next m) next = iterP p next (m + 1) from rfl, ← hnxt, hir.2] at h
      exact h : Calls Try.prog 50 #[.slice A2 p.length c2, .slice A1 next.length c1] W fun e w' => ∃ A c, e = .returned (.slice A p.length c) ∧ Kd.C (Kd.int .i64) w' A p.length nxt ∧ Below W.heap.size W w'))
    have HG := Aside0.mk (show countP nxt ≠ countP now → ∀ j, j < m + 1 → countP (iterP p next (j + 1)) ≠ countP (iterP p next j) from fun hc j hj => by
        by_cases e : j = m
        · subst e; rw [← hnow, ← hnxt]; exact hc
        · exact HI.out.2.1 j (by omega))
    have HST := Aside0.mk (show countP nxt = countP now → Stops p next m from fun hc => ⟨by rw [← hnow, ← hnxt]; exact hc, HI.out.2.1⟩)
    have HGG := Aside0.mk HI.out.1
    have HIB := Aside0.mk HI.out.2.2.2
    have HIC := Aside0.mk HI.out.2.2.1
    have HNXT := Aside0.mk hnxt
    have HS := Aside0.mk hS
    clear hir hnow hnxt hC hC1 hN2 hS HI
    by_cases hc : countP nxt = countP now
    · rw [decide_eq_true hc] at HS
      have HH := Aside0.mk hc
      clear hc
      go_wp2_with (go_at_call 51; refine HS.out.mono ?_; rintro e w4 ⟨rfl, hB⟩; have HB4 := Aside0.mk hB; clear hB)
      go_ret2
      exact ⟨m, A2, c2, rfl, HST.out HH.out, Kd.C_below HIC.out HB4.out, HIB.out.trans (HB4.out.mono HIB.out.size)⟩
    · rw [decide_eq_false hc] at HS
      have HH := Aside0.mk hc
      clear hc
      go_wp2_with (first
        | (go_at_call 51; refine HS.out.mono ?_; rintro e w4 ⟨rfl, hB⟩; have HB4 := Aside0.mk hB; clear hB)
        | (go_at_call 50; refine (HRF.out w4 HB4.out).mono ?_; rintro e w5 ⟨A5, c5, rfl, hC5, hB5⟩; have HK := Aside0.mk (And.intro hC5 (HIB.out.trans ((HB4.out.trans (hB5.mono HB4.out.size)).mono HIB.out.size))); clear hC5 hB5))
      go_roundg (gk - 1)
      case rel =>
        have hgg := HGG.out
        refine ⟨m + 1, A5, c5, rfl, by go_num, by omega, HG.out HH.out, ?_, HK.out.2⟩
        rw [← HNXT.out]
        exact HK.out.1
      case measure => have := HGG.out; omega
end Go.Proofs.Ytboofecfmhbacaa

/- The walk of the reference's Quotient. -/
namespace Go.Proofs.Ytboofecfmhbacaa
open Go.RowKit Go.WideMaps Go.Maps Go.Proofs.YtboofecfmhbacaaW.PrintWords Go.Proofs.YtboofecfmhbacaaW.PrintLast Go.Proofs.YtboofecfmhbacaaW.PrintMore
set_option linter.unusedVariables false
set_option linter.unusedSimpArgs false

set_option maxRecDepth 100000 in
set_option maxHeartbeats 4000000 in
theorem refQuotient_walk (A0 : Option Addr) (c0 : Nat) (p : List Int) (A1 : Option Addr) (c1 : Nat) (next : List (List Int)) (w : World) (hr0 : Kd.C (Kd.int .i64) w A0 p.length p) (hr1 : Kd.C (Kd.slice 3 (Kd.int .i64)) w A1 next.length next) (hn : nextP p.length next) (hp : rightP p) (hs : stableP p next) :
    Calls Try.prog 52 #[.slice A0 p.length c0, .slice A1 next.length c1] w fun e w' => ∃ v, e = .returned v ∧ Kd.R (Kd.slice 3 (Kd.int .i64)) 22 w' w.heap.size (fun _ => True) v (quotP p next) ∧ Below w.heap.size w w' := by
  obtain ⟨n, hcn⟩ : ∃ n : Nat, countP p = n := ⟨(countP p).toNat, by have := count_bounds hp; omega⟩
  have hn0 : n ≤ 1024 := by have := count_bounds hp; have := hp.1; omega
  have hn1 : p.length ≤ 1024 := hp.1
  have HR0 := Aside0.mk hr0
  have HR1 := Aside0.mk hr1
  have HN := Aside0.mk hn
  have HC := Aside0.mk (fun w1 (hB : Below w.heap.size w w1) => (show Calls Try.prog 59 #[.slice A0 p.length c0] w1 fun e w' => e = .returned (.int .i64 (n : Int)) ∧ Below w1.heap.size w1 w' by rw [← hcn]; exact refCount_walk A0 c0 p w1 (Kd.C_below hr0 hB) hp))
  have HQ := Aside0.mk (quotR_all hp hn.1 hs hcn)
  have HALL := Aside0.mk (fun (b : Nat) (hb : b < n) => (by
    obtain ⟨i, hi, e⟩ := right_all hp (b := (b : Int)) (by omega) (by omega)
    exact place_spec (p := p) (b := (b : Int)) (by rw [← e, at_get hi]; exact List.getElem_mem hi) : placeOf p (b : Int) < p.length ∧ at_ p (placeOf p (b : Int)) = (b : Int)))
  clear hr0 hr1 hn hp hs hcn
  go_enter Try.func52, Try.ntmps52
  go_wp2
  go_loopw [5, 6] (fun out b wr => ∃ k : Nat, b = .int .i64 k ∧ Aside0 (k ≤ n ∧ Kd.R (Kd.slice 3 (Kd.int .i64)) 22 wr w.heap.size (fun _ => True) out (quotR p next k) ∧ Below w.heap.size w wr)) (fun _ b _ => n - (intOf b).toNat)
  case atStart => exact ⟨0, rfl, Nat.zero_le _, Kd.R_nil _ _ _ _ _, Below.refl _ _⟩
  case round =>
    obtain ⟨b, rfl, HI⟩ := hrel
    have hbl := HI.out.1
    have HC0 := Aside0.mk (HC.out wr HI.out.2.2)
    by_cases hb : b < n
    · obtain ⟨hpl, hpe⟩ := HALL.out b hb
      obtain ⟨s, hs⟩ : ∃ s, s = placeOf p (b : Int) := ⟨_, rfl⟩
      have HS := Aside0.mk hs
      have HLEAST := Aside0.mk (fun j (hj : j < placeOf p (b : Int)) => (by
        intro e
        have hjl : j < p.length := by omega
        have h1 : (b : Int) ∈ p.take (j + 1) := by
          rw [List.mem_take_iff_getElem]
          exact ⟨j, by omega, by rw [← at_get hjl, e]⟩
        have h2 := List.idxOf_lt_length_of_mem h1
        have h3 : p.idxOf (b : Int) = (p.take (j + 1)).idxOf (b : Int) := Num.idxOf_prefix (List.take_prefix (j + 1) p) h1
        rw [List.length_take] at h2
        unfold placeOf at hj
        omega : at_ p j ≠ (b : Int)))
      rw [← hs] at hpl hpe HLEAST
      have HPE := Aside0.mk hpe
      have hsn : s < next.length := by rw [HN.out.1]; exact hpl
      clear hs hpe
      go_wp2_with (go_at_call 59; refine HC0.out.mono ?_; rintro e w1 ⟨rfl, hB⟩; have HB1 := Aside0.mk hB; clear hB)
      go_loopw [7] (fun i wr => ∃ k : Nat, i = .int .i64 k ∧ wr = w1 ∧ Aside0 (k ≤ s)) (fun i _ => s - (intOf i).toNat)
      case atStart => exact ⟨0, rfl, rfl, ⟨Nat.zero_le _⟩⟩
      case round =>
        obtain ⟨k, rfl, rfl, HJ⟩ := hrel
        have hks := HJ.out
        have HB := Aside0.mk (HI.out.2.2.trans (HB1.out.mono HI.out.2.2.size))
        have hkp : k < p.length := by omega
        obtain ⟨ad0, e0, hx0⟩ := ints_at (Kd.C_below HR0.out HB.out) k hkp
        subst e0
        rw [← at_get hkp] at hx0
        by_cases hk : k = s
        · subst hk
          rw [HPE.out] at hx0
          have g1 : ((b : Int) == (b : Int)) = true := by simp
          have g2 : ((b : Int) != (b : Int)) = false := by simp
          obtain ⟨ad1, A2, d2, e1, hx1, hd1, hD1⟩ := rows_at (Kd.C_below HR1.out HB.out) k hsn
          subst e1
          have HD1 := Aside0.mk hD1
          have hl64 : next[k].length ≤ 64 := (HN.out.2 _ (List.getElem_mem hsn)).1
          have HX1 := Aside0.mk hx1
          clear hD1
          go_wp2
          clear g1 g2 hx0 hx1
          obtain ⟨wo, hwo⟩ : ∃ wo : World, wo = wr := ⟨_, rfl⟩
          rw [← hwo] at HB HB1 HD1 HX1 ⊢
          clear hwo
          obtain ⟨f, hf⟩ : ∃ f : Int → Int, f = fun x => at_ p x.toNat := ⟨_, rfl⟩
          have HF := Aside0.mk hf
          clear hf
          go_loopw [8, 9] (fun l i wq => ∃ (t : Nat), i = .int .i64 t ∧ Aside0 (t ≤ next[k].length ∧ Kd.R (Kd.int .i64) 3 wq wo.heap.size (fun _ => True) l ((next[k].take t).map f) ∧ Below wo.heap.size wo wq)) (fun _ i _ => next[k].length - (intOf i).toNat)
          case atStart => exact ⟨0, rfl, Nat.zero_le _, by rw [List.take_zero]; exact Kd.R_nil _ _ _ _ _, Below.refl _ _⟩
          case round =>
            obtain ⟨t, rfl, HT⟩ := hrel
            have htl := HT.out.1
            have hx1 := pw_cell_below HT.out.2.2 HX1.out
            by_cases ht : t < next[k].length
            · have hxb := (HN.out.2 _ (List.getElem_mem hsn)).2 next[k][t] (List.getElem_mem ht)
              obtain ⟨y, hy⟩ : ∃ y : Nat, next[k][t] = y := ⟨next[k][t].toNat, by omega⟩
              have hyp : y < p.length := by omega
              have HFB := Aside0.mk (show (next[k].take t).map f ++ [p[y]] = (next[k].take (t + 1)).map f by
                rw [Num.take_succ _ t ht, List.map_append, List.map_singleton, hy, HF.out]; simp [at_get hyp])
              obtain ⟨adp, ep, hxp⟩ := ints_at (Kd.C_below HR0.out (HB.out.trans (HT.out.2.2.mono HB.out.size))) y hyp
              obtain rfl : ad0 = adp := by injection ep
              obtain ⟨adl, el, hxj⟩ := ints_at (Kd.C_below HD1.out HT.out.2.2) t ht
              subst el
              rw [hy] at hxj
              have HL := Aside0.mk (show ((next[k].take t).map f).length ≤ 1000000 by simp; omega)
              clear hy hxb ep
              go_wp2_with (at_builtin; refine append_int (w0 := wo) (W := wr) wo.heap.size rfl (.tmp 33) (.tmp 44) rfl _ ((next[k].take t).map f) p[y] rfl rfl HT.out.2.1 HT.out.2.2 HT.out.2.2.size HL.out ?_; rintro v1 w3 hR3 hB3; rw [HFB.out] at hR3; have HK := Aside0.mk (And.intro hR3 hB3); clear hR3 hB3)
              go_roundw
              case rel => exact ⟨t + 1, by go_num, by omega, HK.out.1, HK.out.2⟩
              case measure => simp [intOf]; omega
            · have ht' : t = next[k].length := by omega
              have HBO := Aside0.mk (HB1.out.trans (HT.out.2.2.mono HB1.out.size))
              have HU := Aside0.mk (show Kd.R (Kd.int .i64) 3 wr w.heap.size (fun k => True ∧ some k ≠ u5.ownBlock) u8 (after p next (placeOf p (b : Int))) ∧ Kd.R (Kd.slice 3 (Kd.int .i64)) 22 wr w.heap.size (fun _ => True) u5 (quotR p next b) ∧ Below w.heap.size w wr by
                have h := HT.out.2.1
                rw [ht', List.take_length, HF.out, ← after_get p next k hsn, HS.out] at h
                have hout := Kd.R_below HI.out.2.1 HB1.out
                exact ⟨Kd.R_lower (Kd.R_newR h hout) HB.out.size, Kd.R_below hout HT.out.2.2, HB.out.trans (HT.out.2.2.mono HB.out.size)⟩)
              have HSS := Aside0.mk (quotR_succ p next b)
              have HL := Aside0.mk (show (quotR p next b).length ≤ 1000000 by rw [quotR_length]; omega)
              obtain ⟨A8, c8, rfl⟩ := R_shape HU.out.1 rfl
              clear ht'
              go_wp2_with (at_builtin; refine append_row (w0 := w) (W := wr) w.heap.size rfl (.tmp 46) (.tmp 48) rfl u5 (quotR p next b) _ (after p next (placeOf p (b : Int))) rfl rfl HU.out.2.1 HU.out.1 HU.out.2.2 HU.out.2.2.size HL.out ?_; rintro v1 w3 hR3 hB3; rw [HSS.out] at hR3; have HK := Aside0.mk (And.intro hR3 hB3); clear hR3 hB3)
              go_roundw
              case rel => exact ⟨b + 1, by go_num, by omega, HK.out.1, HK.out.2⟩
              case measure => simp [intOf]; omega
        · have hne := HLEAST.out k (by omega)
          generalize at_ p k = x at hx0 hne
          have g1 : (x == (b : Int)) = false := beq_eq_false_iff_ne.mpr hne
          have g2 : (x != (b : Int)) = true := bne_iff_ne.mpr hne
          have hks2 : k + 1 ≤ s := by omega
          clear hne hk
          go_wp2
          go_roundw
          case rel => exact ⟨k + 1, by go_num, by first | rfl | trivial, ⟨hks2⟩⟩
          case measure => simp [intOf]; omega
    · have hb' : b = n := by omega
      have HD := Aside0.mk (show Kd.R (Kd.slice 3 (Kd.int .i64)) 22 wr w.heap.size (fun _ => True) u5 (quotP p next) by have h := HI.out.2.1; rwa [hb', HQ.out] at h)
      clear hb'
      go_wp2_with (go_at_call 59; refine HC0.out.mono ?_; rintro e w1 ⟨rfl, hB⟩; have HB1 := Aside0.mk hB; clear hB)
      go_ret
      exact ⟨_, rfl, Kd.R_below HD.out HB1.out, HI.out.2.2.trans (HB1.out.mono HI.out.2.2.size)⟩
end Go.Proofs.Ytboofecfmhbacaa
