/- Plain lists: keys are numbered in the order of their first places; no program in sight. -/
namespace Go.Proofs.Ytboofecfmhbacaa.Num
variable {α : Type} [DecidableEq α]

/-- The different keys, in the order in which they come, behind those of m. -/
def firstsFrom : List α → List α → List α
  | m, [] => m
  | m, k :: r => firstsFrom (if k ∈ m then m else m ++ [k]) r
def firsts (l : List α) : List α := firstsFrom [] l
/-- A key's place among others. -/
def spot (m : List α) (x : α) : Int := (m.idxOf x : Int)
/-- The number of each key: its place among the different ones. -/
def num (l : List α) : List Int := l.map fun k => spot (firsts l) k

theorem firstsFrom_append (m a b : List α) : firstsFrom m (a ++ b) = firstsFrom (firstsFrom m a) b := by
  induction a generalizing m with
  | nil => rfl
  | cons k r ih => exact ih _
theorem firsts_snoc (a : List α) (k : α) : firsts (a ++ [k]) = if k ∈ firsts a then firsts a else firsts a ++ [k] := by
  unfold firsts
  rw [firstsFrom_append]
  rfl
theorem prefix_from (m l : List α) : m <+: firstsFrom m l := by
  induction l generalizing m with
  | nil => exact List.prefix_refl _
  | cons k r ih =>
    refine List.IsPrefix.trans ?_ (ih _)
    split
    · exact List.prefix_refl _
    · exact List.prefix_append _ _
theorem mem_from (m l : List α) (x : α) : x ∈ firstsFrom m l ↔ x ∈ m ∨ x ∈ l := by
  induction l generalizing m with
  | nil => simp [firstsFrom]
  | cons k r ih =>
    rw [firstsFrom, ih]
    split
    · rename_i h
      constructor
      · rintro (h1 | h1)
        · exact .inl h1
        · exact .inr (List.mem_cons_of_mem _ h1)
      · rintro (h1 | h1)
        · exact .inl h1
        · rcases List.mem_cons.1 h1 with rfl | h1
          · exact .inl h
          · exact .inr h1
    · simp [or_assoc]
theorem mem_firsts (l : List α) (x : α) : x ∈ firsts l ↔ x ∈ l := by rw [firsts, mem_from]; simp
theorem nodup_from (m l : List α) (h : m.Nodup) : (firstsFrom m l).Nodup := by
  induction l generalizing m with
  | nil => exact h
  | cons k r ih =>
    refine ih _ ?_
    split
    · exact h
    · rename_i hk
      rw [List.nodup_append]
      exact ⟨h, by simp, by intro a ha b hb; simp at hb; subst hb; rintro rfl; exact hk ha⟩
theorem nodup_firsts (l : List α) : (firsts l).Nodup := nodup_from _ _ List.nodup_nil
theorem length_from_le (m l : List α) : (firstsFrom m l).length ≤ m.length + l.length := by
  induction l generalizing m with
  | nil => simp [firstsFrom]
  | cons k r ih =>
    refine Nat.le_trans (ih _) ?_
    split <;> simp <;> omega
theorem length_firsts_le (l : List α) : (firsts l).length ≤ l.length := by
  have := length_from_le [] l
  simpa [firsts] using this
theorem take_prefix (l : List α) (i : Nat) : firsts (l.take i) <+: firsts l := by
  have h : firsts l = firstsFrom (firsts (l.take i)) (l.drop i) := by
    unfold firsts
    rw [← firstsFrom_append, List.take_append_drop]
  rw [h]
  exact prefix_from _ _
theorem idxOf_prefix {a b : List α} (h : a <+: b) {x : α} (hx : x ∈ a) : b.idxOf x = a.idxOf x := by
  obtain ⟨r, rfl⟩ := h
  rw [List.idxOf_append, if_pos hx]
theorem idxOf_take (l : List α) (i : Nat) {x : α} (hx : x ∈ l.take i) : (firsts l).idxOf x = (firsts (l.take i)).idxOf x :=
  idxOf_prefix (take_prefix l i) ((mem_firsts _ _).2 hx)
omit [DecidableEq α] in
theorem take_succ (l : List α) (i : Nat) (h : i < l.length) : l.take (i + 1) = l.take i ++ [l[i]] := List.take_succ_eq_append_getElem h
theorem firsts_succ (l : List α) (i : Nat) (h : i < l.length) : firsts (l.take (i + 1)) = if l[i] ∈ firsts (l.take i) then firsts (l.take i) else firsts (l.take i) ++ [l[i]] := by
  rw [take_succ l i h, firsts_snoc]
theorem num_length (l : List α) : (num l).length = l.length := by simp [num]
theorem num_get (l : List α) (i : Nat) (h : i < l.length) : (num l)[i]'(by rw [num_length]; exact h) = spot (firsts l) l[i] := by simp [num]
/-- A key that has been met. -/
theorem num_old (l : List α) (i : Nat) (h : i < l.length) (hm : l[i] ∈ firsts (l.take i)) : spot (firsts l) l[i] = spot (firsts (l.take i)) l[i] := by
  unfold spot
  rw [idxOf_prefix (take_prefix l i) hm]
/-- A new key. -/
theorem num_new (l : List α) (i : Nat) (h : i < l.length) (hm : l[i] ∉ firsts (l.take i)) : spot (firsts l) l[i] = ((firsts (l.take i)).length : Int) := by
  unfold spot
  have h1 : l[i] ∈ firsts (l.take (i + 1)) := by rw [firsts_succ l i h, if_neg hm]; simp
  rw [idxOf_prefix (take_prefix l (i + 1)) h1, firsts_succ l i h, if_neg hm, List.idxOf_append, if_neg hm]
  simp
/-- What stands in the row after i rounds. -/
def part (l : List α) (i : Nat) : List Int := (num l).take i ++ List.replicate (l.length - i) 0
theorem part_zero (l : List α) : part l 0 = List.replicate l.length 0 := by simp [part]
theorem part_end (l : List α) : part l l.length = num l := by
  simp [part, List.take_of_length_le (Nat.le_of_eq (num_length l))]
theorem part_length (l : List α) (i : Nat) (h : i ≤ l.length) : (part l i).length = l.length := by
  simp [part, num_length]; omega
theorem part_succ (l : List α) (i : Nat) (h : i < l.length) : (part l i).set i (spot (firsts l) l[i]) = part l (i + 1) := by
  have hl : ((num l).take i).length = i := by simp [num_length]; omega
  unfold part
  rw [List.set_append_right _ _ (by omega), hl, Nat.sub_self]
  obtain ⟨m, hm⟩ : ∃ m, l.length - i = m + 1 := ⟨l.length - i - 1, by omega⟩
  rw [hm, List.replicate_succ, List.set_cons_zero, show l.length - (i + 1) = m by omega]
  rw [List.take_succ_eq_append_getElem (by rw [num_length]; exact h), num_get l i h]
  simp
end Go.Proofs.Ytboofecfmhbacaa.Num
