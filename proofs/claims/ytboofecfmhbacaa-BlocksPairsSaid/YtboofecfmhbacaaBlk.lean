/- What the functions of package blocks compute, over lists. -/
import Derived.Test.YtboofecfmhbacaaNum
import Derived.RowKit
import Derived.WalkKit
namespace Go.Proofs.Ytboofecfmhbacaa
/-- Whole numbers that an int can be. -/
def Wf (l : List Int) : Prop := ∀ x ∈ l, (Lit.int .i64 x).wf = true
def Small (l : List Int) : Prop := ∀ x ∈ l, -1 ≤ x ∧ x ≤ 1099511627776
theorem Small.wf {l : List Int} (h : Small l) : Wf l := fun x hx => by
  have := h x hx
  exact WalkArith.wf_i64 (by omega)
/-- A list that is a partition. -/
def rightP (p : List Int) : Prop := p.length ≤ 1024 ∧ Num.num p = p
instance (p : List Int) : Decidable (rightP p) := inferInstanceAs (Decidable (_ ∧ _))
def maxL (a : Int) (r : List Int) : Int := r.foldl (fun x y => if x < y then y else x) a
/-- How many blocks there are. -/
def countP : List Int → Int
  | [] => 0
  | a :: r => maxL a r + 1
theorem maxL_small {a : Int} {r : List Int} (h : Small (a :: r)) : -1 ≤ maxL a r ∧ maxL a r ≤ 1099511627776 := by
  induction r generalizing a with
  | nil => exact h a (List.mem_cons_self)
  | cons b r ih =>
    refine ih (a := if a < b then b else a) ?_
    intro x hx
    rcases List.mem_cons.1 hx with rfl | hx
    · split
      · exact h b (by simp)
      · exact h a (by simp)
    · exact h x (by simp [hx])
theorem num_bounds {α : Type} [DecidableEq α] (l : List α) : ∀ x ∈ Num.num l, 0 ≤ x ∧ x < l.length := by
  intro x hx
  simp only [Num.num, List.mem_map] at hx
  obtain ⟨y, hy, rfl⟩ := hx
  have h1 : (Num.firsts l).idxOf y < (Num.firsts l).length := List.idxOf_lt_length_of_mem ((Num.mem_firsts l y).2 hy)
  have h2 := Num.length_firsts_le l
  unfold Num.spot
  omega
theorem num_small {α : Type} [DecidableEq α] (l : List α) (h : l.length ≤ 1099511627776) : Small (Num.num l) := fun x hx => by
  have := num_bounds l x hx
  omega
theorem rightP.bounds {p : List Int} (h : rightP p) : ∀ x ∈ p, 0 ≤ x ∧ x < p.length := by
  intro x hx
  rw [← h.2] at hx
  exact num_bounds p x hx
theorem rightP.small {p : List Int} (h : rightP p) : Small p := fun x hx => by
  have := h.bounds x hx
  have := h.1
  omega
/-- What is wrong with two partitions. -/
def bothE (p q : List Int) : Int := if ¬ rightP p ∨ ¬ rightP q then 60 else if p.length ≠ q.length then 2 else 0
/-- Lists of what comes next that are right. -/
def nextP (n : Nat) (next : List (List Int)) : Prop := next.length = n ∧ ∀ l ∈ next, l.length ≤ 64 ∧ ∀ x ∈ l, 0 ≤ x ∧ x < n
def badB (n : Nat) (x : Int) : Bool := decide (x < 0) || decide ((n : Int) ≤ x)
def badL (n : Nat) (l : List Int) : Bool := decide (64 < l.length) || l.any (badB n)
theorem nextP_iff (n : Nat) (next : List (List Int)) : nextP n next ↔ next.length = n ∧ next.any (badL n) = false := by
  unfold nextP
  refine and_congr Iff.rfl ?_
  rw [List.any_eq_false]
  refine forall_congr' fun l => forall_congr' fun _ => ?_
  simp only [badL, badB, Bool.or_eq_true, decide_eq_true_eq, List.any_eq_true, not_or, not_exists, not_and]
  constructor
  · rintro ⟨h1, h2⟩
    exact ⟨by omega, fun x hx => by have := h2 x hx; omega⟩
  · rintro ⟨h1, h2⟩
    exact ⟨by omega, fun x hx => by have := h2 x hx; omega⟩
instance (n : Nat) (next : List (List Int)) : Decidable (nextP n next) := decidable_of_iff _ (nextP_iff n next).symm
/-- What is wrong with a partition, and with what comes next. -/
def wrongE (p : List Int) (next : List (List Int)) : Int := if ¬ rightP p then 60 else if ¬ nextP p.length next then 61 else 0

/-- A list that is filled from the left. -/
def filled {α : Type} (full : List α) (k : Nat) (z : α) : List α := full.take k ++ List.replicate (full.length - k) z
theorem filled_zero {α : Type} (full : List α) (z : α) : filled full 0 z = List.replicate full.length z := by simp [filled]
theorem filled_end {α : Type} (full : List α) (z : α) : filled full full.length z = full := by simp [filled]
theorem filled_length {α : Type} (full : List α) (k : Nat) (z : α) (h : k ≤ full.length) : (filled full k z).length = full.length := by simp [filled]; omega
theorem filled_set {α : Type} (full : List α) (k : Nat) (z : α) (h : k < full.length) : (filled full k z).set k full[k] = filled full (k + 1) z := by
  have hl : (full.take k).length = k := by simp; omega
  unfold filled
  rw [List.set_append_right _ _ (by omega), hl, Nat.sub_self]
  obtain ⟨m, hm⟩ : ∃ m, full.length - k = m + 1 := ⟨full.length - k - 1, by omega⟩
  rw [hm, List.replicate_succ, List.set_cons_zero, show full.length - (k + 1) = m by omega, List.take_succ_eq_append_getElem h, List.append_assoc]
  rfl
theorem filled_at {α : Type} (full : List α) (k : Nat) (z : α) (h : k < full.length) : (filled full k z)[k]'(by rw [filled_length _ _ _ (by omega)]; exact h) = z := by
  unfold filled
  have hl : (full.take k).length = k := by simp; omega
  rw [List.getElem_append_right (by omega)]
  simp
/-- Two numbers for each element. -/
def zip2 (p q : List Int) : List (List Int) := List.zipWith (fun a b => [a, b]) p q
/-- The coarsest partition that is finer than both. -/
def meetP (p q : List Int) : List Int := Num.num (zip2 p q)
theorem zip2_length (p q : List Int) (h : p.length = q.length) : (zip2 p q).length = p.length := by simp [zip2, h]
theorem zip2_get (p q : List Int) (k : Nat) (h : k < p.length) (h' : k < q.length) : (zip2 p q)[k]'(by simp [zip2]; omega) = [p[k], q[k]] := by simp [zip2]

/-! #### Members -/
/-- At which places a number stands. -/
def idxs : List Int → Nat → Int → List Int
  | [], _, _ => []
  | x :: r, s, b => if x = b then (s : Int) :: idxs r (s + 1) b else idxs r (s + 1) b
theorem idxs_snoc (l : List Int) (s : Nat) (x b : Int) : idxs (l ++ [x]) s b = if x = b then idxs l s b ++ [((s + l.length : Nat) : Int)] else idxs l s b := by
  induction l generalizing s with
  | nil => simp [idxs]
  | cons y r ih =>
    simp only [List.cons_append, idxs, ih, List.length_cons]
    have e : s + 1 + r.length = s + (r.length + 1) := by omega
    rw [e]
    split <;> split <;> rfl
theorem idxs_length (l : List Int) (s : Nat) (b : Int) : (idxs l s b).length ≤ l.length := by
  induction l generalizing s with
  | nil => exact Nat.le_refl _
  | cons y r ih =>
    have := ih (s + 1)
    unfold idxs
    split <;> simp <;> omega
/-- The elements of the first n blocks. -/
def rowsP (l : List Int) (n : Nat) : List (List Int) := (List.range n).map fun b : Nat => idxs l 0 (b : Int)
def membersP (p : List Int) : List (List Int) := rowsP p (countP p).toNat
theorem rowsP_length (l : List Int) (n : Nat) : (rowsP l n).length = n := by simp [rowsP]
theorem rowsP_get (l : List Int) (n b : Nat) (h : b < n) : (rowsP l n)[b]'(by rw [rowsP_length]; exact h) = idxs l 0 (b : Int) := by simp [rowsP]
theorem maxL_ge (a : Int) (r : List Int) : a ≤ maxL a r ∧ ∀ x ∈ r, x ≤ maxL a r := by
  induction r generalizing a with
  | nil => exact ⟨Int.le_refl _, fun x hx => by cases hx⟩
  | cons b r ih =>
    have h := ih (if a < b then b else a)
    have hb : b ≤ (if a < b then b else a) := by split <;> omega
    have ha : a ≤ (if a < b then b else a) := by split <;> omega
    refine ⟨Int.le_trans ha h.1, fun x hx => ?_⟩
    rcases List.mem_cons.1 hx with rfl | hx
    · exact Int.le_trans hb h.1
    · exact h.2 x hx
theorem countP_cons (a : Int) (r : List Int) : countP (a :: r) = maxL a r + 1 := rfl
theorem lt_count {p : List Int} : ∀ x ∈ p, x < countP p := by
  cases p with
  | nil => intro x hx; cases hx
  | cons a r =>
    intro x hx
    have h := maxL_ge a r
    rw [countP_cons]
    rcases List.mem_cons.1 hx with rfl | hx
    · omega
    · have := h.2 x hx
      omega
theorem maxL_mem (a : Int) (r : List Int) : maxL a r ∈ a :: r := by
  induction r generalizing a with
  | nil => simp [maxL]
  | cons b r ih =>
    have h := ih (if a < b then b else a)
    have e : maxL a (b :: r) = maxL (if a < b then b else a) r := rfl
    rw [e]
    rcases List.mem_cons.1 h with h | h
    · rw [h]
      split <;> simp
    · simp [h]
theorem count_bounds {p : List Int} (h : rightP p) : 0 ≤ countP p ∧ countP p ≤ p.length := by
  cases p with
  | nil => exact ⟨Int.le_refl _, Int.le_refl _⟩
  | cons a r =>
    have := h.bounds _ (maxL_mem a r)
    rw [countP_cons]
    omega

/-! #### Refine -/
/-- An element's block, and the blocks of what comes next of it. -/
def wordOf (p : List Int) (i : Nat) (l : List Int) (j : Nat) : List Int :=
  p.getD i 0 :: (l.length : Int) :: ((l.take j).map fun x => p.getD x.toNat 0) ++ List.replicate (64 - j) 0
def wordsOf (p : List Int) (next : List (List Int)) : List (List Int) := next.mapIdx fun i l => wordOf p i l l.length
/-- Blocks are split once. -/
def refineP (p : List Int) (next : List (List Int)) : List Int := Num.num (wordsOf p next)
theorem wordsOf_length (p : List Int) (next : List (List Int)) : (wordsOf p next).length = next.length := by simp [wordsOf]
theorem wordsOf_get (p : List Int) (next : List (List Int)) (k : Nat) (h : k < next.length) : (wordsOf p next)[k]'(by rw [wordsOf_length]; exact h) = wordOf p k next[k] next[k].length := by simp [wordsOf]
theorem wordOf_length (p : List Int) (i : Nat) (l : List Int) (j : Nat) (hj : j ≤ l.length) (hl : l.length ≤ 64) : (wordOf p i l j).length = 66 := by
  simp [wordOf]
  omega
theorem wordOf_succ (p : List Int) (i : Nat) (l : List Int) (j : Nat) (hj : j < l.length) (hl : l.length ≤ 64) : (wordOf p i l j).set (j + 2) (p.getD l[j].toNat 0) = wordOf p i l (j + 1) := by
  unfold wordOf
  rw [List.cons_append, List.cons_append, List.set_cons_succ, List.set_cons_succ]
  have h1 : ((l.take j).map fun x => p.getD x.toNat 0).length = j := by simp; omega
  rw [List.set_append_right _ _ (by omega), h1, Nat.sub_self]
  obtain ⟨m, hm⟩ : ∃ m, 64 - j = m + 1 := ⟨64 - j - 1, by omega⟩
  rw [hm, List.replicate_succ, List.set_cons_zero, show 64 - (j + 1) = m by omega, List.take_succ_eq_append_getElem hj, List.map_append, List.cons_append, List.cons_append, List.append_assoc]
  rfl
theorem wordOf_zero (p : List Int) (i : Nat) (l : List Int) : ((List.replicate 66 (0 : Int)).set 0 (p.getD i 0)).set 1 (l.length : Int) = wordOf p i l 0 := by
  simp [wordOf, List.replicate_succ]
end Go.Proofs.Ytboofecfmhbacaa
