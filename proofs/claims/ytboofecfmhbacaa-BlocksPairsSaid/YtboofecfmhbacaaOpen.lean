/- Arguments that are slices, opened as rows that are read. -/
import Derived.Test.YtboofecfmhbacaaWWords
import Derived.ChangeSlices
namespace Go.Proofs.Ytboofecfmhbacaa
open Go.RowKit Go.ChangeShapes Go.WideShapes Go.Proofs.YtboofecfmhbacaaW.PrintWords
section
variable {H : Type} {enc : TypeId × Value → H} {P : Program} {w : World} {base : Nat} {spare : Nat → Bool} {held : Bool}
theorem exists_list {α : Type} (n : Nat) (p : Nat → α → Prop) (h : ∀ i, i < n → ∃ x, p i x) : ∃ xs : List α, xs.length = n ∧ ∀ i (hi : i < xs.length), p i xs[i] := by
  induction n with
  | zero => exact ⟨[], rfl, fun i hi => absurd hi (Nat.not_lt_zero i)⟩
  | succ n ih =>
    obtain ⟨xs, h1, h2⟩ := ih (fun i hi => h i (by omega))
    obtain ⟨x, hx⟩ := h n (by omega)
    refine ⟨xs ++ [x], by simp [h1], fun i hi => ?_⟩
    by_cases e : i < xs.length
    · rw [List.getElem_append_left e]
      exact h2 i e
    · have : i = n := by simp at hi; omega
      subst this
      have e2 : (xs ++ [x])[i] = x := by rw [List.getElem_append_right (by omega)]; simp
      rw [e2]
      exact hx
/-- A slice whose elements are of one cell each. -/
theorem open_row {α : Type} (d : Kd α) (hd : d.sz = 1) {t e : TypeId} (ht : P.underlying t = some (.slice e)) (hc : P.cellsOf e = 1) (Good : α → Prop)
    (helem : ∀ n cs y, DataW.trod enc P w base spare held n e cs = some y → ∃ x v, cs = [v] ∧ d.K w x [v] ∧ Good x)
    {fuel : Nat} {cs : List Value} {x : DataW H × List MemPlace} {A : Option Addr} {len cap : Nat} (hcs : cs = [.slice A len cap]) (h : DataW.trod enc P w base spare held fuel t cs = some x) :
    ∃ xs : List α, d.C w A len xs ∧ (∀ y ∈ xs, Good y) ∧ len ≤ cap := by
  rcases DataW.trod_slice ht h with ⟨h0, _⟩ | ⟨a, len', cap', elems, rest, n, _, h0, _, hb, hl, hm, hlen, hel, hsp, hns⟩
  · rw [hcs] at h0
    simp at h0
    obtain ⟨rfl, rfl, rfl⟩ := h0
    exact ⟨[], ⟨rfl, by omega, fun h => absurd h (Nat.lt_irrefl 0)⟩, (fun y hy => absurd hy List.not_mem_nil), Nat.le_refl _⟩
  · rw [hcs] at h0
    simp at h0
    obtain ⟨rfl, rfl, rfl⟩ := h0
    have each : ∀ i, i < len → ∃ x, Good x ∧ ∃ v, d.K w x [v] ∧ w.cell? (a.add i) = some v := by
      intro i hi
      have h1 := hel i hi
      rw [List.getElem?_eq_getElem (by omega), hc, Nat.mul_one, Option.bind_eq_some_iff] at h1
      obtain ⟨cs', hcs', hy⟩ := h1
      obtain ⟨x, v, rfl, hK, hG⟩ := helem n cs' _ hy
      exact ⟨x, hG, v, hK, cell_of_cells?_one hcs'⟩
    obtain ⟨xs, hxl, hx⟩ := exists_list len _ each
    refine ⟨xs, ⟨hxl, by simp only [maxLen] at hm; omega, fun hpos => ⟨a, rfl, fun j p hj => ?_⟩⟩, fun y hy => ?_, hl⟩
    · obtain ⟨hj1, rfl⟩ := List.getElem?_eq_some_iff.1 hj
      obtain ⟨_, v, hK, hcell⟩ := hx j hj1
      refine ⟨[v], by rw [hd]; rfl, hK, fun i u hu => ?_⟩
      cases i with
      | zero =>
        have hu' : v = u := by simpa using hu
        subst hu'
        rw [hd, Nat.mul_one, Nat.add_zero]
        exact hcell
      | succ i => simp at hu
    · obtain ⟨i, hi, rfl⟩ := List.mem_iff_getElem.1 hy
      exact (hx i hi).1
theorem open_row_int {k : IntKind} {t e : TypeId} (ht : P.underlying t = some (.slice e)) (he : P.underlying e = some (.int k)) (hc : P.cellsOf e = 1)
    {fuel : Nat} {cs : List Value} {x : DataW H × List MemPlace} {A : Option Addr} {len cap : Nat} (hcs : cs = [.slice A len cap]) (h : DataW.trod enc P w base spare held fuel t cs = some x) :
    ∃ xs : List Int, (Kd.int k).C w A len xs ∧ (∀ y ∈ xs, (Lit.int k y).wf = true) ∧ len ≤ cap := by
  refine open_row (Kd.int k) rfl ht hc _ (fun n cs y hy => ?_) hcs h
  obtain ⟨m, rfl, _, hw⟩ := DataW.trod_int he hy
  exact ⟨m, _, rfl, rfl, hw⟩
theorem open_row_string {t e : TypeId} (ht : P.underlying t = some (.slice e)) (he : P.underlying e = some .string) (hc : P.cellsOf e = 1)
    {fuel : Nat} {cs : List Value} {x : DataW H × List MemPlace} {A : Option Addr} {len cap : Nat} (hcs : cs = [.slice A len cap]) (h : DataW.trod enc P w base spare held fuel t cs = some x) :
    ∃ xs : List ByteArray, Kd.string.C w A len xs ∧ (∀ y ∈ xs, y.size ≤ maxLen) ∧ len ≤ cap := by
  refine open_row Kd.string rfl ht hc _ (fun n cs y hy => ?_) hcs h
  obtain ⟨m, rfl, _, hw⟩ := DataW.trod_string he hy
  exact ⟨m, _, rfl, rfl, hw⟩
theorem open_row_rows {k : IntKind} {t e e2 : TypeId} (ht : P.underlying t = some (.slice e)) (he : P.underlying e = some (.slice e2)) (hc : P.cellsOf e = 1) (he2 : P.underlying e2 = some (.int k)) (hc2 : P.cellsOf e2 = 1)
    {fuel : Nat} {cs : List Value} {x : DataW H × List MemPlace} {A : Option Addr} {len cap : Nat} (hcs : cs = [.slice A len cap]) (h : DataW.trod enc P w base spare held fuel t cs = some x) :
    ∃ xs : List (List Int), (Kd.slice e2 (Kd.int k)).C w A len xs ∧ (∀ y ∈ xs, ∀ z ∈ y, (Lit.int k z).wf = true) ∧ len ≤ cap := by
  refine open_row (Kd.slice e2 (Kd.int k)) rfl ht hc _ (fun n cs y hy => ?_) hcs h
  have hform : ∃ A1 l1 c1, cs = [.slice A1 l1 c1] := by
    rcases DataW.trod_slice he hy with ⟨h0, _⟩ | ⟨a, len', cap', elems, rest, n, _, h0, _⟩
    · exact ⟨none, 0, 0, h0⟩
    · exact ⟨_, _, _, h0⟩
  obtain ⟨A1, l1, c1, hcs1⟩ := hform
  obtain ⟨ys, hC, hw, hl⟩ := open_row_int he he2 hc2 hcs1 hy
  obtain rfl : ys.length = l1 := hC.1
  exact ⟨ys, _, hcs1, ⟨A1, c1, rfl, hl, hC⟩, hw⟩
end
end Go.Proofs.Ytboofecfmhbacaa
