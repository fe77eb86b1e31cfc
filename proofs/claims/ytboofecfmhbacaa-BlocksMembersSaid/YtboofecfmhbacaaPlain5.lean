/- A partition's members. Plain Lean. -/
import Derived.Test.YtboofecfmhbacaaPlain3
namespace Go.Proofs.Ytboofecfmhbacaa
set_option linter.unusedVariables false
/-- What a row of members is. -/
structure RowIs (l : List Int) (b : Int) (r : List Int) : Prop where
  mem : ∀ y ∈ r, 0 ≤ y ∧ y < l.length ∧ at_ l y.toNat = b
  up : ∀ i j (h : i < j) (hj : j < r.length), r[i] < r[j]
  some : b ∈ l → r ≠ []
  least : ∀ (h : 0 < r.length), r[0] = (placeOf l b : Int)
theorem at_append_left {l : List Int} {x : Int} {i : Nat} (h : i < l.length) : at_ (l ++ [x]) i = at_ l i := by simp [at_, List.getD_eq_getElem?_getD, List.getElem?_append_left h]
theorem at_append_last (l : List Int) (x : Int) : at_ (l ++ [x]) l.length = x := by simp [at_, List.getD_eq_getElem?_getD]
theorem place_append {l : List Int} {x b : Int} (h : b ∈ l) : placeOf (l ++ [x]) b = placeOf l b := by
  unfold placeOf
  rw [List.idxOf_append, if_pos h]
theorem place_new {l : List Int} {b : Int} (h : b ∉ l) : placeOf (l ++ [b]) b = l.length := by
  unfold placeOf
  rw [List.idxOf_append, if_neg h]
  simp
theorem idxs_mem_iff (l : List Int) (b : Int) : idxs l 0 b = [] ↔ b ∉ l := by
  refine list_snoc (P := fun l => idxs l 0 b = [] ↔ b ∉ l) (by simp [idxs]) ?_ l
  intro l x ih
  rw [idxs_snoc]
  by_cases e : x = b
  · subst e; simp
  · rw [if_neg e, ih]
    simp [Ne.symm e]
theorem idxs_row (l : List Int) (b : Int) : RowIs l b (idxs l 0 b) := by
  refine list_snoc (P := fun l => RowIs l b (idxs l 0 b)) ?_ ?_ l
  · exact ⟨fun y hy => by simp [idxs] at hy, fun i j h hj => by simp [idxs] at hj, fun h => by simp at h, fun h => by simp [idxs] at h⟩
  · intro l x ih
    rw [idxs_snoc, Nat.zero_add]
    by_cases e : x = b
    · subst e
      rw [if_pos rfl]
      refine ⟨fun y hy => ?_, fun i j h hj => ?_, fun _ => by simp, fun h => ?_⟩
      · rcases List.mem_append.1 hy with hy | hy
        · have := ih.mem y hy
          refine ⟨this.1, by simp; omega, ?_⟩
          rw [at_append_left (by omega)]
          exact this.2.2
        · rw [List.mem_singleton.1 hy]
          refine ⟨by omega, by rw [List.length_append, List.length_singleton]; omega, ?_⟩
          rw [Int.toNat_natCast, at_append_last]
      · by_cases e : j < (idxs l 0 x).length
        · rw [List.getElem_append_left e, List.getElem_append_left (by omega)]
          exact ih.up i j h e
        · have hj' : j = (idxs l 0 x).length := by simp at hj; omega
          subst hj'
          rw [List.getElem_append_left h]
          have := ih.mem _ (List.getElem_mem h)
          simp
          omega
      · by_cases hm : x ∈ l
        · have h0 : 0 < (idxs l 0 x).length := List.length_pos_iff.2 (ih.some hm)
          rw [List.getElem_append_left h0, place_append hm]
          exact ih.least h0
        · have h0 := (idxs_mem_iff l x).2 hm
          rw [place_new hm]
          simp [h0]
    · rw [if_neg e]
      refine ⟨fun y hy => ?_, ih.up, fun h => ?_, fun h => ?_⟩
      · have := ih.mem y hy
        refine ⟨this.1, by simp; omega, ?_⟩
        rw [at_append_left (by omega)]
        exact this.2.2
      · refine ih.some ?_
        rcases List.mem_append.1 h with h | h
        · exact h
        · exact absurd (List.mem_singleton.1 h).symm e
      · have hm : b ∈ l := by
          refine Decidable.byContradiction fun hn => ?_
          rw [(idxs_mem_iff l b).2 hn] at h
          simp at h
        rw [place_append hm]
        exact ih.least h
/-- How many elements the first b rows have. -/
def tot (p : List Int) : Nat → Nat
  | 0 => 0
  | b + 1 => tot p b + (idxs p 0 (b : Int)).length
theorem tot_snoc (l : List Int) (x : Int) : ∀ b, tot (l ++ [x]) b = tot l b + if 0 ≤ x ∧ x < b then 1 else 0
  | 0 => by
    have : ¬ (0 ≤ x ∧ x < ((0 : Nat) : Int)) := by omega
    rw [if_neg this]
    rfl
  | b + 1 => by
    rw [tot, tot, tot_snoc l x b, idxs_snoc]
    by_cases e : x = (b : Int)
    · rw [if_pos e, if_neg (by omega), if_pos (by omega)]
      simp
      omega
    · rw [if_neg e]
      by_cases h : 0 ≤ x ∧ x < (b : Int)
      · rw [if_pos h, if_pos (by omega)]; omega
      · rw [if_neg h, if_neg (by omega)]; omega
theorem tot_nil : ∀ b, tot [] b = 0
  | 0 => rfl
  | b + 1 => by rw [tot, tot_nil b]; simp [idxs]
theorem tot_all (l : List Int) (N : Nat) : (∀ x ∈ l, 0 ≤ x ∧ x < N) → tot l N = l.length := by
  refine list_snoc (P := fun l : List Int => (∀ x ∈ l, 0 ≤ x ∧ x < (N : Int)) → tot l N = l.length) (fun _ => tot_nil N) ?_ l
  intro l x ih h
  rw [tot_snoc, ih (fun y hy => h y (List.mem_append_left _ hy)), if_pos (h x (by simp))]
  simp
/-- Blocks come in the order of their least elements. -/
theorem place_up {p : List Int} (hp : rightP p) {b : Nat} (hb : ((b + 1 : Nat) : Int) < countP p) : placeOf p (b : Int) < placeOf p ((b + 1 : Nat) : Int) := by
  obtain ⟨i, hi, e⟩ := right_all hp (b := ((b + 1 : Nat) : Int)) (by omega) hb
  have hm : ((b + 1 : Nat) : Int) ∈ p := by rw [← e, at_get hi]; exact List.getElem_mem hi
  obtain ⟨h1, h2⟩ := place_spec hm
  have hpre : Num.num (p.take (placeOf p ((b + 1 : Nat) : Int))) = p.take (placeOf p ((b + 1 : Nat) : Int)) := by rw [num_take, hp.2]
  have hpre2 : Num.num (p.take (placeOf p ((b + 1 : Nat) : Int) + 1)) = p.take (placeOf p ((b + 1 : Nat) : Int) + 1) := by rw [num_take, hp.2]
  rw [Num.take_succ p _ h1] at hpre2
  have h3 := (right_step hpre _).1 hpre2
  rw [← at_get h1, h2] at h3
  have h4 : (b : Int) ∈ p.take (placeOf p ((b + 1 : Nat) : Int)) := (mem_right hpre _).2 ⟨by omega, by omega⟩
  have h5 := List.idxOf_lt_length_of_mem h4
  have h6 : p.idxOf (b : Int) = (p.take (placeOf p ((b + 1 : Nat) : Int))).idxOf (b : Int) := Num.idxOf_prefix (List.take_prefix _ p) h4
  rw [List.length_take] at h5
  unfold placeOf at h5 h6 ⊢
  omega
end Go.Proofs.Ytboofecfmhbacaa
