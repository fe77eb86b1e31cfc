/- Elements of slices, as the walks here read them. -/
import Derived.Test.YtboofecfmhbacaaWWords
namespace Go.Proofs.Ytboofecfmhbacaa
open Go.RowKit Go.Proofs.YtboofecfmhbacaaW.PrintWords
theorem ints_at {w : World} {k : IntKind} {A : Option Addr} {l : List Int} (h : Kd.C (Kd.int k) w A l.length l) (j : Nat) (hj : j < l.length) : ∃ ad, A = some ad ∧ w.cell? (ad.add j) = some (.int k l[j]) := by
  obtain ⟨ad, e, hc⟩ := (Kd.reads_of_C (d := (0 : Int)) h).2.2 (by omega)
  refine ⟨ad, e, ?_⟩
  rw [hc j hj]
  simp [List.getD_eq_getElem?_getD, List.getElem?_eq_getElem hj]
theorem strs_at {w : World} {A : Option Addr} {l : List ByteArray} (h : Kd.C Kd.string w A l.length l) (j : Nat) (hj : j < l.length) : ∃ ad, A = some ad ∧ w.cell? (ad.add j) = some (.string l[j]) := by
  obtain ⟨ad, e, hc⟩ := (Kd.reads_of_C (d := ByteArray.empty) h).2.2 (by omega)
  refine ⟨ad, e, ?_⟩
  rw [hc j hj]
  simp [List.getD_eq_getElem?_getD, List.getElem?_eq_getElem hj]
theorem rows_at {α : Type} {w : World} {e : Nat} {d : Kd α} {A : Option Addr} {l : List (List α)} (h : Kd.C (Kd.slice e d) w A l.length l) (j : Nat) (hj : j < l.length) :
    ∃ ad A1 c1, A = some ad ∧ w.cell? (ad.add j) = some (.slice A1 l[j].length c1) ∧ l[j].length ≤ c1 ∧ d.C w A1 l[j].length l[j] := by
  obtain ⟨ad, cs, e, _, hK, hx⟩ := Kd.C_get h [] (j : Int) (by omega) (by omega)
  have hxe : l.getD (j : Int).toNat [] = l[j] := by simp [List.getD_eq_getElem?_getD, List.getElem?_eq_getElem hj]
  rw [hxe] at hK
  obtain ⟨A1, c1, rfl, hl, hr⟩ := hK
  refine ⟨ad, A1, c1, e, ?_, hl, hr⟩
  have := hx 0 _ rfl
  simpa [Kd.slice] using this
theorem len_le {α : Type} {d : Kd α} {w : World} {A : Option Addr} {l : List α} (h : d.C w A l.length l) : l.length ≤ 9223372036854775807 := h.2.1
theorem nil_of_none {α : Type} {d : Kd α} {w : World} {l : List α} (h : d.C w none l.length l) : l = [] := by
  rcases Nat.eq_zero_or_pos l.length with h0 | h0
  · exact List.eq_nil_of_length_eq_zero h0
  · obtain ⟨ad, h1, _⟩ := h.2.2 h0
    cases h1

/-- A row of the call's own: its value's form; where it lies, if it has an element. -/
theorem R_shape {α : Type} {d : Kd α} {e : Nat} {w : World} {base : Nat} {ok : Nat → Prop} {v : Value} {xs : List α} {n : Nat} (h : d.R e w base ok v xs) (hn : xs.length = n) : ∃ A c, v = .slice A n c := by
  subst hn
  exact Kd.R_slice h
theorem R_addr {α : Type} {d : Kd α} {e : Nat} {w : World} {base : Nat} {ok : Nat → Prop} {A : Option Addr} {n c : Nat} {xs : List α} (h : d.R e w base ok (.slice A n c) xs) (hn : 0 < n) : ∃ g, A = some ⟨g, 0, none⟩ ∧ base ≤ g ∧ g < w.heap.size := by
  obtain ⟨inner, ho⟩ := Kd.R_own h
  rcases ho.2 with ⟨h1, h2⟩ | ⟨g, cap, cur, h1, h2, h3, _⟩
  · injection h1 with _ h3 _
    omega
  · injection h1 with h4 _ _
    exact ⟨g, h4, h2, (Array.getElem?_eq_some_iff.1 h3).1⟩
theorem R_len {α : Type} {d : Kd α} {e : Nat} {w : World} {base : Nat} {ok : Nat → Prop} {A : Option Addr} {n c : Nat} {xs : List α} (h : d.R e w base ok (.slice A n c) xs) : n = xs.length ∧ n ≤ c ∧ d.C w A n xs := by
  obtain ⟨A', c', he, hl, hc⟩ := Kd.R_reads h
  injection he with h1 h2 h3
  subst h1 h2 h3
  exact ⟨rfl, hl, hc⟩
end Go.Proofs.Ytboofecfmhbacaa
