/- A coarsest stable partition's quotient can be put together no more. Plain Lean. -/
import Derived.Test.YtboofecfmhbacaaPlain3
namespace Go.Proofs.Ytboofecfmhbacaa
set_option linter.unusedVariables false
theorem map_le (f g : Int → Int) (P : Int → Prop) (h : ∀ x y, P x → P y → f x = f y → g x = g y) : ∀ (a b : List Int), (∀ x ∈ a, P x) → (∀ x ∈ b, P x) → a.map f = b.map f → a.map g = b.map g
  | [], [], _, _, _ => rfl
  | [], _ :: _, _, _, e => by simp at e
  | _ :: _, [], _, _, e => by simp at e
  | x :: a, y :: b, ha, hb, e => by
    rw [List.map_cons, List.map_cons] at e ⊢
    injection e with e1 e2
    rw [h x y (ha x (List.mem_cons_self ..)) (hb y (List.mem_cons_self ..)) e1, map_le f g P h a b (fun z hz => ha z (List.mem_cons_of_mem _ hz)) (fun z hz => hb z (List.mem_cons_of_mem _ hz)) e2]
theorem nx_bounds {n : Nat} {next : List (List Int)} (hn : nextP n next) {i : Nat} (hi : i < n) : (nx next i).length ≤ 64 ∧ ∀ x ∈ nx next i, 0 ≤ x ∧ x < n := by
  have hin : i < next.length := by rw [hn.1]; exact hi
  have e : nx next i = next[i] := by simp [nx, List.getD_eq_getElem?_getD, List.getElem?_eq_getElem hin]
  rw [e]
  exact hn.2 _ (List.getElem_mem hin)
theorem quot_nx {n : Nat} {c : List Int} {next : List (List Int)} (hc : PartN n c) (hn : nextP n next) (hs : stableP c next) {i : Nat} (hi : i < n) : nx (quotP c next) (at_ c i).toNat = after c next i := by
  have h := quot_get hc.right (by rw [hn.1, hc.len]) hs (show i < c.length by rw [hc.len]; exact hi)
  simp [nx, List.getD_eq_getElem?_getD, h]
theorem block_lt {n N : Nat} {c : List Int} (hc : PartN n c) (hN : countP c = N) {i : Nat} (hi : i < n) : 0 ≤ at_ c i ∧ at_ c i < N := by
  have hl : i < c.length := by rw [hc.len]; exact hi
  refine ⟨(at_bounds hc.right hl).1, ?_⟩
  rw [← hN, at_get hl]
  exact lt_count _ (List.getElem_mem hl)
theorem quot_next {n N : Nat} {c : List Int} {next : List (List Int)} (hc : PartN n c) (hn : nextP n next) (hs : stableP c next) (hN : countP c = N) : nextP N (quotP c next) := by
  have hl : (quotP c next).length = N := by rw [quot_length, hN, Int.toNat_natCast]
  refine ⟨hl, fun l hm => ?_⟩
  obtain ⟨b, hb, rfl⟩ := List.mem_iff_getElem.1 hm
  obtain ⟨i, hi, e⟩ := right_all hc.right (b := (b : Int)) (by omega) (by omega)
  have hi' : i < n := by rw [← hc.len]; exact hi
  have h1 := quot_nx hc hn hs hi'
  rw [e, Int.toNat_natCast] at h1
  have h2 : nx (quotP c next) b = (quotP c next)[b] := by simp [nx, List.getD_eq_getElem?_getD, List.getElem?_eq_getElem hb]
  rw [← h2, h1]
  have h3 := nx_bounds hn hi'
  refine ⟨by unfold after; rw [List.length_map]; exact h3.1, fun x hx => ?_⟩
  unfold after at hx
  obtain ⟨y, hy, rfl⟩ := List.mem_map.1 hx
  have := h3.2 y hy
  exact block_lt hc hN (by omega)
theorem num_part {N : Nat} {fs : List Int} (hl : fs.length = N) (hN : N ≤ 1024) : PartN N (Num.num fs) := by
  have e := num_numR fs 0
  rw [e, hl]
  exact ⟨numR_right _ _ hN, numR_length _ _⟩
theorem num_at {N : Nat} {fs : List Int} (hl : fs.length = N) {a b : Nat} (ha : a < N) (hb : b < N) : at_ (Num.num fs) a = at_ (Num.num fs) b ↔ at_ fs a = at_ fs b := by
  have e := num_numR fs 0
  rw [e, hl]
  exact numR_iff N _ ha hb
theorem stable_of {n : Nat} {r : List Int} {next : List (List Int)} (hr : PartN n r) (hn : next.length = n) (h : ∀ i j, i < n → j < n → at_ r i = at_ r j → after r next i = after r next j) : stableP r next :=
  (hr.refine hn).eq hr (refine_le hn) fun i j hi hj e => (refine_iff r next (by omega) (by omega)).2 ⟨e, h i j hi hj e⟩
theorem quotient_discrete {n N : Nat} {p c fs E : List Int} {next : List (List Int)} (hp : PartN n p) (hc : PartN n c) (hn : nextP n next) (hs : stableP c next) (hco : ∀ s, PartN n s → stableP s next → leP n s p → leP n s c) (hN : countP c = N)
    (hfl : fs.length = N) (hfp : ∀ i, i < n → at_ fs (at_ c i).toNat = at_ p i) (hE : PartN N E) (hEs : stableP E (quotP c next)) (hEle : leP N E (Num.num fs)) : countP E = N := by
  have hb : ∀ {i}, i < n → (at_ c i).toNat < N := fun hi => by have := block_lt hc hN hi; omega
  have hrp : PartN n (numR n fun i => at_ E (at_ c i).toNat) := ⟨numR_right _ _ hc.le, numR_length _ _⟩
  have hri : ∀ {i j}, i < n → j < n → (at_ (numR n fun i => at_ E (at_ c i).toNat) i = at_ (numR n fun i => at_ E (at_ c i).toNat) j ↔ at_ E (at_ c i).toNat = at_ E (at_ c j).toNat) := fun hi hj => numR_iff n _ hi hj
  generalize (numR n fun i => at_ E (at_ c i).toNat) = r at hrp hri
  have hle : leP n r p := fun i j hi hj e => by
    rw [← hfp i hi, ← hfp j hj]
    exact (num_at hfl (hb hi) (hb hj)).1 (hEle _ _ (hb hi) (hb hj) ((hri hi hj).1 e))
  have hst : stableP r next := by
    refine stable_of hrp hn.1 fun i j hi hj e => ?_
    have hQ := quot_next hc hn hs hN
    have h1 := stable_after (by rw [hQ.1, hE.len]) hEs (show (at_ c i).toNat < E.length by rw [hE.len]; exact hb hi) (show (at_ c j).toNat < E.length by rw [hE.len]; exact hb hj) ((hri hi hj).1 e)
    unfold after at h1
    rw [quot_nx hc hn hs hi, quot_nx hc hn hs hj] at h1
    unfold after at h1 ⊢
    rw [List.map_map, List.map_map] at h1
    refine map_le _ _ (fun x => 0 ≤ x ∧ x < n) (fun x y hx hy e => ?_) _ _ (nx_bounds hn hi).2 (nx_bounds hn hj).2 h1
    exact (hri (by omega) (by omega)).2 e
  have hrc := hco r hrp hst hle
  refine right_discrete (n := n) (p := p) hE.right hE.len fun a b ha hb' e => ?_
  obtain ⟨i, hi, e1⟩ := right_all hc.right (b := (a : Int)) (by omega) (by omega)
  obtain ⟨j, hj, e2⟩ := right_all hc.right (b := (b : Int)) (by omega) (by omega)
  have hi' : i < n := by rw [← hc.len]; exact hi
  have hj' : j < n := by rw [← hc.len]; exact hj
  have h := hrc i j hi' hj' ((hri hi' hj').2 (by rw [e1, e2, Int.toNat_natCast, Int.toNat_natCast]; exact e))
  omega
end Go.Proofs.Ytboofecfmhbacaa
