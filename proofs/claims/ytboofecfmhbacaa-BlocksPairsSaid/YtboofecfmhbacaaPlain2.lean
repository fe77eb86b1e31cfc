/- Quotients. Plain Lean. -/
import Derived.Test.YtboofecfmhbacaaG12
import Derived.Test.YtboofecfmhbacaaH5
namespace Go.Proofs.Ytboofecfmhbacaa
theorem stable_after {p : List Int} {next : List (List Int)} (hn : next.length = p.length) (hs : stableP p next) {i j : Nat} (hi : i < p.length) (hj : j < p.length) (h : at_ p i = at_ p j) : after p next i = after p next j := by
  have h1 := refine_iff p next (show i < next.length by omega) (show j < next.length by omega)
  rw [show refineP p next = p from hs] at h1
  exact (h1.1 h).2
theorem stable_count {p : List Int} {next : List (List Int)} (hp : rightP p) (hn : next.length = p.length) : stableP p next ↔ countP (refineP p next) = countP p := by
  constructor
  · intro h
    rw [show refineP p next = p from h]
  · intro h
    have hl : (refineP p next).length = p.length := by rw [refine_length, hn]
    exact count_same (refine_right p next (by rw [hn]; exact hp.1)) hp hl (refine_finer p next) h.symm
/-- What Quotient has put down for the last elements. -/
theorem quotF_get {p : List Int} {next : List (List Int)} (hp : rightP p) (hn : next.length = p.length) (hs : stableP p next) {n : Nat} (hcn : countP p = n) : ∀ k, k ≤ p.length → ∀ i, p.length - k ≤ i → i < p.length → (quotF p next n k)[(at_ p i).toNat]? = some (after p next i) := by
  intro k
  induction k with
  | zero => intro _ i h1 h2; omega
  | succ k ih =>
    intro hk i h1 h2
    have hb := at_bounds hp h2
    have hlt : at_ p i < n := by rw [← hcn, at_get h2]; exact lt_count _ (List.getElem_mem h2)
    rw [quotF]
    by_cases e : at_ p (p.length - 1 - k) = at_ p i
    · rw [e, List.getElem?_set_self (by rw [quotF_length]; omega)]
      rw [stable_after hn hs (by omega) h2 e]
    · have hne : (at_ p (p.length - 1 - k)).toNat ≠ (at_ p i).toNat := by
        have := at_bounds hp (show p.length - 1 - k < p.length by omega)
        omega
      rw [List.getElem?_set_ne hne]
      exact ih (by omega) i (by
        rcases Nat.lt_or_ge i (p.length - k) with h3 | h3
        · exact absurd (by rw [show p.length - 1 - k = i by omega]) e
        · exact h3) h2
theorem quot_get {p : List Int} {next : List (List Int)} (hp : rightP p) (hn : next.length = p.length) (hs : stableP p next) {i : Nat} (hi : i < p.length) : (quotP p next)[(at_ p i).toNat]? = some (after p next i) := by
  obtain ⟨n, hcn⟩ : ∃ n : Nat, countP p = n := ⟨(countP p).toNat, by have := count_bounds hp; omega⟩
  unfold quotP
  rw [hcn, Int.toNat_natCast]
  exact quotF_get hp hn hs hcn _ (Nat.le_refl _) i (by omega) hi
theorem quot_length (p : List Int) (next : List (List Int)) : (quotP p next).length = (countP p).toNat := quotF_length _ _ _ _
/-- What the reference's Quotient puts down for the first b blocks. -/
def quotR (p : List Int) (next : List (List Int)) (b : Nat) : List (List Int) := (List.range b).map fun (b : Nat) => after p next (placeOf p (b : Int))
theorem quotR_length (p : List Int) (next : List (List Int)) (b : Nat) : (quotR p next b).length = b := by simp [quotR]
theorem quotR_succ (p : List Int) (next : List (List Int)) (b : Nat) : quotR p next b ++ [after p next (placeOf p (b : Int))] = quotR p next (b + 1) := by simp [quotR, List.range_succ]
theorem place_spec {p : List Int} {b : Int} (h : b ∈ p) : placeOf p b < p.length ∧ at_ p (placeOf p b) = b := by
  have h1 : placeOf p b < p.length := List.idxOf_lt_length_of_mem h
  refine ⟨h1, ?_⟩
  rw [at_get h1]
  exact List.getElem_idxOf h1
theorem quotR_all {p : List Int} {next : List (List Int)} (hp : rightP p) (hn : next.length = p.length) (hs : stableP p next) {n : Nat} (hcn : countP p = n) : quotR p next n = quotP p next := by
  apply List.ext_getElem
  · rw [quotR_length, quot_length, hcn]; rfl
  · intro b h1 h2
    have hb : b < n := by rwa [quotR_length] at h1
    obtain ⟨i, hi, e⟩ := right_all hp (b := (b : Int)) (by omega) (by omega)
    have hm : (b : Int) ∈ p := by rw [← e, at_get hi]; exact List.getElem_mem hi
    obtain ⟨g1, g2⟩ := place_spec hm
    have h3 := quot_get hp hn hs g1
    rw [g2, Int.toNat_natCast, List.getElem?_eq_getElem h2] at h3
    have h4 : (quotR p next n)[b] = after p next (placeOf p (b : Int)) := by simp [quotR]
    rw [h4]
    exact (Option.some.inj h3).symm
end Go.Proofs.Ytboofecfmhbacaa
