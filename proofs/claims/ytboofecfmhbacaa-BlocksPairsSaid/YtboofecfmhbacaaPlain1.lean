/- What makes a list a partition, element by element. Plain Lean. -/
import Derived.Test.YtboofecfmhbacaaTree
namespace Go.Proofs.Ytboofecfmhbacaa
open Num
theorem num_take {α : Type} [DecidableEq α] (l : List α) (i : Nat) : num (l.take i) = (num l).take i := by
  unfold num
  rw [← List.map_take]
  refine List.map_congr_left fun k hk => ?_
  unfold spot
  rw [idxOf_prefix (take_prefix l i) ((mem_firsts _ _).2 hk)]
theorem mem_ids (n : Nat) (x : Int) : x ∈ ids n ↔ 0 ≤ x ∧ x < n := by
  unfold ids
  rw [List.mem_map]
  constructor
  · rintro ⟨i, hi, rfl⟩
    have := List.mem_range.1 hi
    omega
  · rintro ⟨h0, h1⟩
    exact ⟨x.toNat, List.mem_range.2 (by omega), by omega⟩
theorem ids_succ (n : Nat) : ids (n + 1) = ids n ++ [(n : Int)] := by simp [ids, List.range_succ]
theorem nodup_ids (n : Nat) : (ids n).Nodup := by
  induction n with
  | zero => exact List.nodup_nil
  | succ n ih =>
    rw [ids_succ, List.nodup_append]
    refine ⟨ih, by simp, ?_⟩
    intro a ha b hb
    have h1 := (mem_ids n a).1 ha
    have h2 : b = (n : Int) := by simpa using hb
    omega
theorem spot_ids (n : Nat) (x : Int) (h0 : 0 ≤ x) (h1 : x < n) : spot (ids n) x = x := by
  obtain ⟨j, rfl⟩ := Int.eq_ofNat_of_zero_le h0
  have hj : j < n := by omega
  have h2 := (nodup_ids n).idxOf_getElem j (by rw [ids_length]; exact hj)
  rw [ids_get n j hj] at h2
  unfold spot
  rw [h2]
theorem right_firsts (a : List Int) : num a = a → firsts a = ids (firsts a).length := by
  refine list_snoc (P := fun a => num a = a → firsts a = ids (firsts a).length) (fun _ => rfl) ?_ a
  intro l x ih h
  rw [num_snoc] at h
  obtain ⟨h1, h2⟩ := List.append_inj' h rfl
  have h2 : (if x ∈ l then spot (firsts l) x else ((firsts l).length : Int)) = x := by simpa using h2
  have h3 := ih h1
  rw [firsts_snoc]
  by_cases hx : x ∈ l
  · rw [if_pos ((mem_firsts _ _).2 hx)]
    exact h3
  · rw [if_neg hx] at h2
    rw [if_neg (fun h => hx ((mem_firsts _ _).1 h)), List.length_append, List.length_singleton, ids_succ, ← h3, h2]
theorem mem_right {a : List Int} (ha : num a = a) (x : Int) : x ∈ a ↔ 0 ≤ x ∧ x < (firsts a).length := by
  rw [← mem_ids, ← right_firsts a ha, mem_firsts]
theorem right_step {a : List Int} (ha : num a = a) (x : Int) : num (a ++ [x]) = a ++ [x] ↔ 0 ≤ x ∧ x ≤ (firsts a).length := by
  rw [num_snoc, ha]
  have h0 : (a ++ [if x ∈ a then spot (firsts a) x else ((firsts a).length : Int)] = a ++ [x]) ↔ (if x ∈ a then spot (firsts a) x else ((firsts a).length : Int)) = x := by simp
  rw [h0]
  by_cases hx : x ∈ a
  · have h1 := (mem_right ha x).1 hx
    rw [if_pos hx, right_firsts a ha, spot_ids _ _ h1.1 h1.2]
    rw [← right_firsts a ha]
    exact ⟨fun _ => ⟨h1.1, by omega⟩, fun _ => rfl⟩
  · have h1 : ¬ (0 ≤ x ∧ x < (firsts a).length) := fun h => hx ((mem_right ha x).2 h)
    rw [if_neg hx]
    omega
theorem firsts_step {a : List Int} (ha : num a = a) {x : Int} (h0 : 0 ≤ x) (h1 : x ≤ (firsts a).length) : (firsts (a ++ [x])).length = if x = (firsts a).length then (firsts a).length + 1 else (firsts a).length := by
  rw [firsts_snoc]
  by_cases hx : x ∈ a
  · have h2 := (mem_right ha x).1 hx
    rw [if_pos ((mem_firsts _ _).2 hx), if_neg (by omega)]
  · have h2 : ¬ (0 ≤ x ∧ x < (firsts a).length) := fun h => hx ((mem_right ha x).2 h)
    rw [if_neg (fun h => hx ((mem_firsts _ _).1 h)), if_pos (by omega)]
    simp
theorem right_count {p : List Int} (hp : rightP p) : countP p = (firsts p).length := by
  have := count_num p
  rwa [hp.2] at this
/-- Every number below the count is one of a partition's blocks. -/
theorem right_all {p : List Int} (hp : rightP p) {b : Int} (h0 : 0 ≤ b) (h1 : b < countP p) : ∃ i, i < p.length ∧ at_ p i = b := by
  rw [right_count hp] at h1
  obtain ⟨i, hi, e⟩ := List.mem_iff_getElem.1 ((mem_right hp.2 b).2 ⟨h0, h1⟩)
  exact ⟨i, hi, by rw [at_get hi, e]⟩
end Go.Proofs.Ytboofecfmhbacaa
