/- The walks of the reference's Ints and Texts. -/
import Derived.Test.YtboofecfmhbacaaH1
namespace Go.Proofs.Ytboofecfmhbacaa
open Go.RowKit Go.WideMaps Go.Maps Go.Proofs.YtboofecfmhbacaaW.PrintWords Go.Proofs.YtboofecfmhbacaaW.PrintLast Go.Proofs.YtboofecfmhbacaaW.PrintMore
set_option linter.unusedVariables false
set_option linter.unusedSimpArgs false

/-- A row of a relation, as far as it has been told. -/
def rowB (g : Nat → Bool) (n j : Nat) : List Int := (List.range n).map fun k => if k < j ∧ g k = true then 1 else 0
theorem rowB_length (g : Nat → Bool) (n j : Nat) : (rowB g n j).length = n := by simp [rowB]
theorem rowB_get (g : Nat → Bool) (n j k : Nat) (h : k < n) : (rowB g n j)[k]'(by rw [rowB_length]; exact h) = if k < j ∧ g k = true then 1 else 0 := by simp [rowB]
theorem rowB_zero (g : Nat → Bool) (n : Nat) : rowB g n 0 = List.replicate n 0 := by
  apply List.ext_getElem
  · simp [rowB]
  · intro i h1 h2
    simp [rowB]
theorem rowB_hit (g : Nat → Bool) (n j : Nat) (h : g j = true) : (rowB g n j).set j 1 = rowB g n (j + 1) := by
  apply List.ext_getElem
  · simp [rowB]
  · intro i h1 h2
    have hi : i < n := by simpa [rowB] using h2
    rw [List.getElem_set, rowB_get _ _ _ _ hi]
    by_cases e : j = i
    · subst e
      simp [h, rowB]
    · rw [if_neg e, rowB_get _ _ _ _ hi]
      have : i < j ↔ i < j + 1 := by omega
      simp [this]
theorem rowB_miss (g : Nat → Bool) (n j : Nat) (h : g j = false) : rowB g n j = rowB g n (j + 1) := by
  apply List.ext_getElem
  · simp [rowB]
  · intro i h1 h2
    have hi : i < n := by simpa [rowB] using h1
    rw [rowB_get _ _ _ _ hi, rowB_get _ _ _ _ hi]
    by_cases e : i = j
    · subst e; simp [h]
    · have : i < j ↔ i < j + 1 := by omega
      simp [this]
/-- A relation's first i rows. -/
def matB (g : Nat → Nat → Bool) (n i : Nat) : List (List Int) := (List.range i).map fun i => rowB (g i) n n
theorem matB_length (g : Nat → Nat → Bool) (n i : Nat) : (matB g n i).length = i := by simp [matB]
theorem matB_succ (g : Nat → Nat → Bool) (n i : Nat) : matB g n i ++ [rowB (g i) n n] = matB g n (i + 1) := by simp [matB, List.range_succ]
theorem matB_tells {α : Type} [DecidableEq α] (f : Nat → α) (g : Nat → Nat → Bool) (n : Nat) (hg : ∀ i k, k < i → i < n → (g i k = true ↔ f i = f k)) : ∀ i (hi : i < (matB g n n).length) k, k < i → ∃ h : k < (matB g n n)[i].length, (matB g n n)[i][k] = 1 ↔ f i = f k := by
  intro i hi k hk
  have hin : i < n := by simpa [matB] using hi
  have e : (matB g n n)[i] = rowB (g i) n n := by simp [matB]
  rw [e]
  refine ⟨by rw [rowB_length]; omega, ?_⟩
  rw [rowB_get _ _ _ _ (by omega), ← hg i k hk hin]
  have : k < n := by omega
  by_cases h : g i k = true <;> simp [h, this]
/-- row[k] = 1 in a row that has been made since. -/
theorem put_int {w wr : World} {base g n c : Nat} {xs : List Int} (h : Kd.R (Kd.int .i64) 3 wr base (fun _ => True) (.slice (some ⟨g, 0, none⟩) n c) xs) (hl : xs.length = n) (k : Nat) (hk : k < n) (x : Int) :
    (∃ v, wr.cell? ⟨g, k, none⟩ = some v) ∧ wr.frozen? ⟨g, k, none⟩ = false ∧ base ≤ g ∧ Kd.R (Kd.int .i64) 3 (wr.setCell ⟨g, k, none⟩ (.int .i64 x)) base (fun _ => True) (.slice (some ⟨g, 0, none⟩) n c) (xs.set k x) := by
  subst hl
  have h1 := Kd.R_cell (d := (0 : Int)) h (k : Int) (by omega) (by omega)
  have h2 := Kd.R_put h (k : Int) x
  simp only [Int.toNat_natCast] at h1 h2
  exact ⟨⟨_, h1.1⟩, h1.2, Kd.R_base h g rfl, h2.1⟩
theorem R_made (W : World) (n : Nat) (hn : n ≤ 9223372036854775807) : Kd.R (Kd.int .i64) 3 (W.alloc (.cells (madeCells #[.int .i64 0] n) 3)) W.heap.size (fun _ => True) (.slice (some ⟨W.heap.size, 0, none⟩) n n) (List.replicate n 0) := by
  have h := own_made_of (enc := Value.int .i64) (d := (0 : Int)) W W.heap.size 3 n (Nat.le_refl _) hn
  exact Kd.R_of_own (h1 := fun _ => rfl) (enc := Value.int .i64) (by rw [List.length_replicate]; exact h) (fun _ _ => trivial)

set_option maxRecDepth 100000 in
set_option maxHeartbeats 4000000 in
theorem refInts_walk (A0 : Option Addr) (c0 : Nat) (l : List Int) (w : World) (hr : Kd.C (Kd.int .i64) w A0 l.length l) (hn : l.length ≤ 1000000) :
    Calls Try.prog 21 #[.slice A0 l.length c0] w fun e w' => ∃ v, e = .returned v ∧ Kd.R (Kd.int .i64) 3 w' w.heap.size (fun _ => True) v (Num.num l) ∧ Below w.heap.size w w' := by
  have HR := Aside0.mk hr
  obtain ⟨g, hg⟩ : ∃ g : Nat → Nat → Bool, g = fun i k => l.getD i 0 == l.getD k 0 := ⟨_, rfl⟩
  have HG := Aside0.mk hg
  clear hr hg
  have hmk := print_make_of 22 3 (.int .i64 0) 8 Try.underlying22 info3 rfl (by decide) l.length (by omega)
  go_enter Try.func21, Try.ntmps21
  go_wp2
  go_loopw [3, 4] (fun out i wr => ∃ k : Nat, i = .int .i64 k ∧ Aside0 (k ≤ l.length ∧ Kd.R (Kd.slice 3 (Kd.int .i64)) 22 wr w.heap.size (fun _ => True) out (matB g l.length k) ∧ Below w.heap.size w wr)) (fun _ i _ => l.length - (intOf i).toNat)
  case atStart => exact ⟨0, rfl, Nat.zero_le _, Kd.R_nil _ _ _ _ _, Below.refl _ _⟩
  case round =>
    obtain ⟨i, rfl, HI⟩ := hrel
    have hil := HI.out.1
    by_cases hi : i < l.length
    · go_wp2
      obtain ⟨wo, hwo⟩ : ∃ wo : World, wo = wr := ⟨_, rfl⟩
      rw [← hwo] at HI ⊢
      clear hwo
      go_loopw [6] (fun k wq => ∃ (j : Nat), k = .int .i64 j ∧ Aside0 (j ≤ l.length ∧ Kd.R (Kd.int .i64) 3 wq wo.heap.size (fun _ => True) (.slice (some ⟨wo.heap.size, 0, none⟩) l.length l.length) (rowB (g i) l.length j) ∧ Below wo.heap.size wo wq)) (fun k _ => l.length - (intOf k).toNat)
      case atStart => exact ⟨0, rfl, Nat.zero_le _, by rw [rowB_zero]; exact R_made wo l.length (by omega), lit_below wo _⟩
      case round =>
        obtain ⟨j, rfl, HJ⟩ := hrel
        have hjl := HJ.out.1
        by_cases hj : j < l.length
        · have HB := Aside0.mk (HI.out.2.2.trans (HJ.out.2.2.mono HI.out.2.2.size))
          obtain ⟨ad, e1, hx1⟩ := ints_at (Kd.C_below HR.out HB.out) i hi
          obtain ⟨ad', e2, hx2⟩ := ints_at (Kd.C_below HR.out HB.out) j hj
          subst e1
          obtain rfl : ad = ad' := by injection e2
          have hge : g i j = (l[i] == l[j]) := by rw [HG.out]; simp [List.getD_eq_getElem?_getD, List.getElem?_eq_getElem hi, List.getElem?_eq_getElem hj]
          have HQ := Aside0.mk (fun m => Kd.R_drewN HJ.out.2.1 m)
          have HQB := Aside0.mk (fun m => pw_below_drewN HJ.out.2.2 m)
          by_cases h1 : l[i] = l[j]
          · have hb : (l[i] == l[j]) = true := beq_iff_eq.mpr h1
            obtain ⟨⟨v0, hv0⟩, hf0, -, -⟩ := put_int (w := w) HJ.out.2.1 (rowB_length _ _ _) j hj 1
            rw [hb] at hge
            have HS := Aside0.mk (fun m => show Kd.R (Kd.int .i64) 3 ((wr.drewN m).setCell ⟨wo.heap.size, j, none⟩ (.int .i64 1)) wo.heap.size (fun _ => True) (.slice (some ⟨wo.heap.size, 0, none⟩) l.length l.length) (rowB (g i) l.length (j + 1)) ∧ Below wo.heap.size wo ((wr.drewN m).setCell ⟨wo.heap.size, j, none⟩ (.int .i64 1)) by
              obtain ⟨-, -, h2, h3⟩ := put_int (w := w) (HQ.out m) (rowB_length _ _ _) j hj 1
              rw [rowB_hit _ _ _ hge] at h3
              exact ⟨h3, (HQB.out m).setCell h2 _⟩)
            clear h1 hge
            go_wp2
            go_quiet (fail)
            go_wp2
            go_roundw
            case rel => exact ⟨j + 1, by go_num, by omega, (HS.out nq).1, (HS.out nq).2⟩
            case measure => simp [intOf]; omega
          · have hb : (l[i] == l[j]) = false := beq_eq_false_iff_ne.mpr h1
            rw [hb] at hge
            have HK := Aside0.mk (rowB_miss (g i) l.length j hge)
            clear h1 hge
            go_wp2
            go_quiet (fail)
            go_wp2
            go_roundw
            case rel => exact ⟨j + 1, by go_num, by omega, by rw [← HK.out]; exact HQ.out nq, HQB.out nq⟩
            case measure => simp [intOf]; omega
        · have hj' : j = l.length := by omega
          have HU := Aside0.mk (show Kd.R (Kd.int .i64) 3 wr w.heap.size (fun k => True ∧ some k ≠ u3.ownBlock) (.slice (some ⟨wo.heap.size, 0, none⟩) l.length l.length) (rowB (g i) l.length l.length) ∧ Kd.R (Kd.slice 3 (Kd.int .i64)) 22 wr w.heap.size (fun _ => True) u3 (matB g l.length i) ∧ Below w.heap.size w wr by
            have h := HJ.out.2.1
            rw [hj'] at h
            exact ⟨Kd.R_lower (Kd.R_newR h HI.out.2.1) HI.out.2.2.size, Kd.R_below HI.out.2.1 HJ.out.2.2, HI.out.2.2.trans (HJ.out.2.2.mono HI.out.2.2.size)⟩)
          have HS := Aside0.mk (matB_succ g l.length i)
          have HL := Aside0.mk (show (matB g l.length i).length ≤ 1000000 by rw [matB_length]; omega)
          clear hj'
          go_wp2_with (at_builtin; refine append_row (w0 := w) (W := wr) w.heap.size rfl (.tmp 34) (.tmp 36) rfl u3 (matB g l.length i) _ (rowB (g i) l.length l.length) rfl rfl HU.out.2.1 HU.out.1 HU.out.2.2 HU.out.2.2.size HL.out ?_; rintro v1 w1 hR1 hB1; rw [HS.out] at hR1; have HK := Aside0.mk (And.intro hR1 hB1); clear hR1 hB1)
          go_roundw
          case rel => exact ⟨i + 1, by go_num, by omega, HK.out.1, HK.out.2⟩
          case measure => simp [intOf]; omega
    · have hi' : i = l.length := by omega
      obtain ⟨A2, c2, hu, hc2, hC2⟩ := Kd.R_reads HI.out.2.1
      rw [hi', matB_length] at hu hC2
      subst hu
      have hnum := refnum_walk (fun k => l.getD k 0) A2 c2 (matB g l.length l.length) wr (by rw [matB_length]; exact hC2) (by rw [matB_length]; omega) (matB_tells _ g l.length (fun i k _ _ => by rw [HG.out]; simp))
      rw [matB_length, ← num_numR l 0] at hnum
      have HN := Aside0.mk hnum
      clear hi' hC2 hnum
      go_wp2_with (go_at_call 43; refine HN.out.mono ?_; rintro e w9 ⟨v, rfl, hR9, hB9⟩; have HD := Aside0.mk (And.intro (Kd.R_lower hR9 HI.out.2.2.size) (HI.out.2.2.trans (hB9.mono HI.out.2.2.size))); clear hR9 hB9)
      go_ret
      exact ⟨_, rfl, HD.out.1, HD.out.2⟩
end Go.Proofs.Ytboofecfmhbacaa
