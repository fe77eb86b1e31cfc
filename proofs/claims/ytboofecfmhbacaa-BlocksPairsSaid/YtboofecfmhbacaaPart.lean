/- Partitions as lists of numbers: what numbering says of equal keys. Plain Lean. -/
import Derived.Test.YtboofecfmhbacaaBlk
namespace Go.Proofs.Ytboofecfmhbacaa
open Num
section
variable {α β γ : Type} [DecidableEq α] [DecidableEq β]

theorem list_snoc {P : List γ → Prop} (h0 : P []) (h1 : ∀ l x, P l → P (l ++ [x])) : ∀ l, P l := by
  intro l
  have h : ∀ n, P (l.take n) := by
    intro n
    induction n with
    | zero => simpa using h0
    | succ n ih =>
      by_cases hn : n < l.length
      · rw [Num.take_succ l n hn]
        exact h1 _ _ ih
      · rw [List.take_of_length_le (by omega)]
        rw [List.take_of_length_le (by omega)] at ih
        exact ih
  have := h l.length
  rwa [List.take_length] at this
theorem spot_inj {m : List α} {x y : α} (hx : x ∈ m) (hy : y ∈ m) (h : spot m x = spot m y) : x = y := by
  unfold spot at h
  have h1 : m.idxOf x = m.idxOf y := by omega
  have h2 : m[m.idxOf x]'(List.idxOf_lt_length_of_mem hx) = x := List.getElem_idxOf _
  have h3 : m[m.idxOf y]'(List.idxOf_lt_length_of_mem hy) = y := List.getElem_idxOf _
  rw [← h2, ← h3]
  simp only [h1]
theorem num_snoc (a : List α) (x : α) : num (a ++ [x]) = num a ++ [if x ∈ a then spot (firsts a) x else ((firsts a).length : Int)] := by
  unfold num
  rw [List.map_append, List.map_singleton]
  have hpre : firsts a <+: firsts (a ++ [x]) := by
    have := take_prefix (a ++ [x]) a.length
    simpa using this
  congr 1
  · refine List.map_congr_left fun k hk => ?_
    unfold spot
    rw [idxOf_prefix hpre ((mem_firsts a k).2 hk)]
  · by_cases hx : x ∈ a
    · rw [if_pos hx]
      unfold spot
      rw [idxOf_prefix hpre ((mem_firsts a x).2 hx)]
    · rw [if_neg hx, firsts_snoc, if_neg (fun h => hx ((mem_firsts a x).1 h))]
      unfold spot
      rw [List.idxOf_append, if_neg (fun h => hx ((mem_firsts a x).1 h))]
      simp
theorem num_mem {a : List α} {x : α} (hx : x ∈ a) : spot (firsts a) x ∈ num a := List.mem_map.2 ⟨x, hx, rfl⟩

/-- Keys that are equal at the same places get the same numbers. -/
theorem num_congr (f : γ → α) (g : γ → β) (z : List γ) (h : ∀ a ∈ z, ∀ b ∈ z, f a = f b ↔ g a = g b) :
    num (z.map f) = num (z.map g) ∧ (firsts (z.map f)).length = (firsts (z.map g)).length ∧ ∀ a ∈ z, spot (firsts (z.map f)) (f a) = spot (firsts (z.map g)) (g a) := by
  refine list_snoc (P := fun z => (∀ a ∈ z, ∀ b ∈ z, f a = f b ↔ g a = g b) → num (z.map f) = num (z.map g) ∧ (firsts (z.map f)).length = (firsts (z.map g)).length ∧ ∀ a ∈ z, spot (firsts (z.map f)) (f a) = spot (firsts (z.map g)) (g a)) ?_ ?_ z h
  · intro _
    exact ⟨rfl, rfl, fun a ha => by cases ha⟩
  · intro l x ih h
    obtain ⟨h1, h2, h3⟩ := ih (fun a ha b hb => h a (List.mem_append_left _ ha) b (List.mem_append_left _ hb))
    have hmem : f x ∈ l.map f ↔ g x ∈ l.map g := by
      simp only [List.mem_map]
      constructor
      · rintro ⟨a, ha, e⟩
        exact ⟨a, ha, (h a (List.mem_append_left _ ha) x (by simp)).1 e⟩
      · rintro ⟨a, ha, e⟩
        exact ⟨a, ha, (h a (List.mem_append_left _ ha) x (by simp)).2 e⟩
    have hpre : ∀ {δ : Type} [DecidableEq δ] (k : γ → δ), firsts (l.map k) <+: firsts ((l ++ [x]).map k) := by
      intro δ _ k
      have := take_prefix ((l ++ [x]).map k) l.length
      simpa using this
    have hlast : (if f x ∈ l.map f then spot (firsts (l.map f)) (f x) else ((firsts (l.map f)).length : Int)) = (if g x ∈ l.map g then spot (firsts (l.map g)) (g x) else ((firsts (l.map g)).length : Int)) := by
      by_cases hx : f x ∈ l.map f
      · rw [if_pos hx, if_pos (hmem.1 hx)]
        obtain ⟨a, ha, e⟩ := List.mem_map.1 hx
        have e2 := (h a (List.mem_append_left _ ha) x (by simp)).1 e
        rw [← e, ← e2]
        exact h3 a ha
      · rw [if_neg hx, if_neg (fun h => hx (hmem.2 h)), h2]
    refine ⟨?_, ?_, ?_⟩
    · rw [List.map_append, List.map_append, List.map_singleton, List.map_singleton, num_snoc, num_snoc, h1, hlast]
    · rw [List.map_append, List.map_append, List.map_singleton, List.map_singleton, firsts_snoc, firsts_snoc]
      by_cases hx : f x ∈ l.map f
      · rw [if_pos ((mem_firsts _ _).2 hx), if_pos ((mem_firsts _ _).2 (hmem.1 hx)), h2]
      · rw [if_neg (fun h => hx ((mem_firsts _ _).1 h)), if_neg (fun h => hx (hmem.2 ((mem_firsts _ _).1 h)))]
        simp [h2]
    · intro a ha
      rcases List.mem_append.1 ha with ha | ha
      · have hf : f a ∈ firsts (l.map f) := (mem_firsts _ _).2 (List.mem_map.2 ⟨a, ha, rfl⟩)
        have hg : g a ∈ firsts (l.map g) := (mem_firsts _ _).2 (List.mem_map.2 ⟨a, ha, rfl⟩)
        have h4 := h3 a ha
        unfold spot at h4 ⊢
        rw [idxOf_prefix (hpre f) hf, idxOf_prefix (hpre g) hg]
        exact h4
      · obtain rfl := List.mem_singleton.1 ha
        have key : ∀ {δ : Type} [DecidableEq δ] (k : γ → δ), spot (firsts ((l ++ [a]).map k)) (k a) = if k a ∈ l.map k then spot (firsts (l.map k)) (k a) else ((firsts (l.map k)).length : Int) := by
          intro δ _ k
          by_cases hx : k a ∈ l.map k
          · rw [if_pos hx]
            unfold spot
            rw [idxOf_prefix (hpre k) ((mem_firsts _ _).2 hx)]
          · rw [if_neg hx, List.map_append, List.map_singleton, firsts_snoc, if_neg (fun h => hx ((mem_firsts _ _).1 h))]
            unfold spot
            rw [List.idxOf_append, if_neg (fun h => hx ((mem_firsts _ _).1 h))]
            simp
        rw [key f, key g]
        exact hlast
/-- Keys that part more have no fewer numbers. -/
theorem firsts_le (f : γ → α) (g : γ → β) (z : List γ) (h : ∀ a ∈ z, ∀ b ∈ z, f a = f b → g a = g b) : (firsts (z.map g)).length ≤ (firsts (z.map f)).length := by
  refine list_snoc (P := fun z => (∀ a ∈ z, ∀ b ∈ z, f a = f b → g a = g b) → (firsts (z.map g)).length ≤ (firsts (z.map f)).length) ?_ ?_ z h
  · intro _
    exact Nat.le_refl _
  · intro l x ih h
    have h1 := ih (fun a ha b hb => h a (List.mem_append_left _ ha) b (List.mem_append_left _ hb))
    rw [List.map_append, List.map_append, List.map_singleton, List.map_singleton, firsts_snoc, firsts_snoc]
    by_cases hx : f x ∈ l.map f
    · obtain ⟨a, ha, e⟩ := List.mem_map.1 hx
      have e2 := h a (List.mem_append_left _ ha) x (by simp) e
      rw [if_pos ((mem_firsts _ _).2 hx), if_pos ((mem_firsts _ _).2 (List.mem_map.2 ⟨a, ha, e2⟩))]
      exact h1
    · rw [if_neg (fun h => hx ((mem_firsts _ _).1 h))]
      split <;> simp <;> omega
/-- .. and if there are as many, the same ones. -/
theorem firsts_eq (f : γ → α) (g : γ → β) (z : List γ) (h : ∀ a ∈ z, ∀ b ∈ z, f a = f b → g a = g b) (hl : (firsts (z.map g)).length = (firsts (z.map f)).length) : ∀ a ∈ z, ∀ b ∈ z, g a = g b → f a = f b := by
  refine list_snoc (P := fun z => (∀ a ∈ z, ∀ b ∈ z, f a = f b → g a = g b) → (firsts (z.map g)).length = (firsts (z.map f)).length → ∀ a ∈ z, ∀ b ∈ z, g a = g b → f a = f b) ?_ ?_ z h hl
  · intro _ _ a ha
    cases ha
  · intro l x ih h hl
    have h0 : ∀ a ∈ l, ∀ b ∈ l, f a = f b → g a = g b := fun a ha b hb => h a (List.mem_append_left _ ha) b (List.mem_append_left _ hb)
    have h1 := firsts_le f g l h0
    rw [List.map_append, List.map_append, List.map_singleton, List.map_singleton, firsts_snoc, firsts_snoc] at hl
    have hfg : f x ∈ l.map f ↔ g x ∈ l.map g := by
      constructor
      · intro hx
        obtain ⟨a, ha, e⟩ := List.mem_map.1 hx
        exact List.mem_map.2 ⟨a, ha, h a (List.mem_append_left _ ha) x (by simp) e⟩
      · intro hx
        refine Decidable.byContradiction fun hn => ?_
        rw [if_pos ((mem_firsts _ _).2 hx), if_neg (fun h => hn ((mem_firsts _ _).1 h))] at hl
        simp at hl
        omega
    have hl0 : (firsts (l.map g)).length = (firsts (l.map f)).length := by
      by_cases hx : f x ∈ l.map f
      · rw [if_pos ((mem_firsts _ _).2 hx), if_pos ((mem_firsts _ _).2 (hfg.1 hx))] at hl
        exact hl
      · rw [if_neg (fun h => hx ((mem_firsts _ _).1 h)), if_neg (fun h => hx (hfg.2 ((mem_firsts _ _).1 h)))] at hl
        simpa using hl
    have h2 := ih h0 hl0
    have h3 : ∀ b ∈ l, g x = g b → f x = f b := by
      intro b hb e
      have hx : f x ∈ l.map f := hfg.2 (List.mem_map.2 ⟨b, hb, e.symm⟩)
      obtain ⟨a, ha, e2⟩ := List.mem_map.1 hx
      have e3 := h a (List.mem_append_left _ ha) x (by simp) e2
      rw [← e2]
      exact h2 a ha b hb (e3.trans e)
    intro a ha b hb e
    rcases List.mem_append.1 ha with ha1 | ha1
    · rcases List.mem_append.1 hb with hb1 | hb1
      · exact h2 a ha1 b hb1 e
      · rw [List.mem_singleton.1 hb1] at e ⊢
        exact (h3 a ha1 e.symm).symm
    · rw [List.mem_singleton.1 ha1] at e ⊢
      rcases List.mem_append.1 hb with hb1 | hb1
      · exact h3 b hb1 e
      · rw [List.mem_singleton.1 hb1]
end

/-- A list by its places. -/
theorem list_range {α : Type} (l : List α) (d : α) : (List.range l.length).map (fun i => l.getD i d) = l := by
  apply List.ext_getElem
  · simp
  · intro i h1 h2
    simp [List.getD_eq_getElem?_getD, List.getElem?_eq_getElem h2]
/-- The i-th number. -/
def at_ (p : List Int) (i : Nat) : Int := p.getD i 0
theorem at_range (p : List Int) : (List.range p.length).map (at_ p) = p := list_range p 0
theorem at_get {p : List Int} {i : Nat} (h : i < p.length) : at_ p i = p[i] := by simp [at_, List.getD_eq_getElem?_getD, List.getElem?_eq_getElem h]
/-- Keys in a range: their numbers. -/
def numR {α : Type} [DecidableEq α] (n : Nat) (f : Nat → α) : List Int := num ((List.range n).map f)
theorem numR_length {α : Type} [DecidableEq α] (n : Nat) (f : Nat → α) : (numR n f).length = n := by simp [numR, num_length]
theorem numR_at {α : Type} [DecidableEq α] (n : Nat) (f : Nat → α) {i : Nat} (hi : i < n) : at_ (numR n f) i = spot (firsts ((List.range n).map f)) (f i) := by
  rw [at_get (by rw [numR_length]; exact hi)]
  unfold numR num
  simp
theorem numR_iff {α : Type} [DecidableEq α] (n : Nat) (f : Nat → α) {i j : Nat} (hi : i < n) (hj : j < n) : at_ (numR n f) i = at_ (numR n f) j ↔ f i = f j := by
  rw [numR_at n f hi, numR_at n f hj]
  constructor
  · intro h
    exact spot_inj ((mem_firsts _ _).2 (List.mem_map.2 ⟨i, List.mem_range.2 hi, rfl⟩)) ((mem_firsts _ _).2 (List.mem_map.2 ⟨j, List.mem_range.2 hj, rfl⟩)) h
  · intro h
    rw [h]
theorem numR_congr {α β : Type} [DecidableEq α] [DecidableEq β] (n : Nat) (f : Nat → α) (g : Nat → β) (h : ∀ i j, i < n → j < n → (f i = f j ↔ g i = g j)) : numR n f = numR n g :=
  (num_congr f g (List.range n) fun a ha b hb => h a b (List.mem_range.1 ha) (List.mem_range.1 hb)).1
theorem num_numR {α : Type} [DecidableEq α] (l : List α) (d : α) : num l = numR l.length (fun i => l.getD i d) := by
  unfold numR
  rw [list_range]
/-- Numbering numbers changes nothing. -/
theorem numR_idem {α : Type} [DecidableEq α] (n : Nat) (f : Nat → α) : num (numR n f) = numR n f := by
  have h : num (numR n f) = numR n (at_ (numR n f)) := by
    have := num_numR (numR n f) 0
    rwa [numR_length] at this
  rw [h]
  exact numR_congr n _ _ fun i j hi hj => numR_iff n f hi hj
theorem numR_right {α : Type} [DecidableEq α] (n : Nat) (f : Nat → α) (h : n ≤ 1024) : rightP (numR n f) := ⟨by rw [numR_length]; exact h, numR_idem n f⟩
theorem rightP.numR {p : List Int} (h : rightP p) : numR p.length (at_ p) = p := by
  have h1 := num_numR p 0
  rw [h.2] at h1
  exact h1.symm
/-- Two partitions of as many elements that put the same ones together are one. -/
theorem right_ext {p q : List Int} (hp : rightP p) (hq : rightP q) (hl : p.length = q.length) (h : ∀ i j, i < p.length → j < p.length → (at_ p i = at_ p j ↔ at_ q i = at_ q j)) : p = q := by
  rw [← hp.numR, ← hq.numR, ← hl]
  exact numR_congr _ _ _ h
theorem countP_eq {q : List Int} {n : Int} (h1 : ∀ x ∈ q, x < n) (h2 : q = [] → n = 0) (h3 : q ≠ [] → n - 1 ∈ q) : countP q = n := by
  cases q with
  | nil => rw [h2 rfl]; rfl
  | cons a r =>
    have h4 := h1 _ (maxL_mem a r)
    have h5 := h3 (by simp)
    have h6 : n - 1 ≤ maxL a r := by
      rcases List.mem_cons.1 h5 with h5 | h5
      · rw [h5]; exact (maxL_ge a r).1
      · exact (maxL_ge a r).2 _ h5
    rw [countP_cons]
    omega
theorem count_num {α : Type} [DecidableEq α] (l : List α) : countP (num l) = (firsts l).length := by
  refine countP_eq ?_ ?_ ?_
  · intro x hx
    obtain ⟨y, hy, rfl⟩ := List.mem_map.1 hx
    have := List.idxOf_lt_length_of_mem ((mem_firsts l y).2 hy)
    unfold spot
    omega
  · intro h
    have : l = [] := by
      have h1 := congrArg List.length h
      rw [num_length] at h1
      exact List.eq_nil_of_length_eq_zero h1
    subst this
    rfl
  · intro h
    have hl : l ≠ [] := fun e => h (by subst e; rfl)
    have hf : firsts l ≠ [] := by
      obtain ⟨x, hx⟩ := List.exists_mem_of_ne_nil l hl
      exact List.ne_nil_of_mem ((mem_firsts l x).2 hx)
    have hpos : 0 < (firsts l).length := List.length_pos_iff.2 hf
    have hlast : (firsts l)[(firsts l).length - 1] ∈ l := (mem_firsts l _).1 (List.getElem_mem _)
    have hsp : spot (firsts l) (firsts l)[(firsts l).length - 1] = ((firsts l).length : Int) - 1 := by
      unfold spot
      rw [(nodup_firsts l).idxOf_getElem]
      omega
    rw [← hsp]
    exact num_mem hlast
theorem count_numR {α : Type} [DecidableEq α] (n : Nat) (f : Nat → α) : countP (numR n f) = (firsts ((List.range n).map f)).length := count_num _

/-! #### Refine -/
/-- What comes next of an element. -/
def nx (next : List (List Int)) (i : Nat) : List Int := next.getD i []
/-- The blocks of what comes next of an element. -/
def after (p : List Int) (next : List (List Int)) (i : Nat) : List Int := (nx next i).map fun x => at_ p x.toNat
/-- Two elements agree. -/
def agree (p : List Int) (next : List (List Int)) (i j : Nat) : Prop := at_ p i = at_ p j ∧ after p next i = after p next j
theorem word_iff (p : List Int) (l l' : List Int) (i j : Nat) : wordOf p i l l.length = wordOf p j l' l'.length ↔ at_ p i = at_ p j ∧ (l.map fun x => at_ p x.toNat) = (l'.map fun x => at_ p x.toNat) := by
  unfold wordOf at_
  rw [List.take_length, List.take_length]
  constructor
  · intro h
    rw [List.cons_append, List.cons_append, List.cons_append, List.cons_append] at h
    injection h with h1 h2
    injection h2 with h2 h3
    have h4 : l.length = l'.length := by omega
    exact ⟨h1, (List.append_inj h3 (by simpa using h4)).1⟩
  · rintro ⟨h1, h2⟩
    have h4 : l.length = l'.length := by simpa using congrArg List.length h2
    rw [h1, h2, h4]
theorem refine_numR (p : List Int) (next : List (List Int)) : refineP p next = numR next.length (fun i => wordOf p i (nx next i) (nx next i).length) := by
  unfold refineP numR
  congr 1
  apply List.ext_getElem
  · simp [wordsOf]
  · intro i h1 h2
    have hi : i < next.length := by simpa using h2
    rw [wordsOf_get p next i hi]
    simp [nx, List.getD_eq_getElem?_getD, List.getElem?_eq_getElem hi]
theorem refine_length (p : List Int) (next : List (List Int)) : (refineP p next).length = next.length := by rw [refine_numR, numR_length]
theorem refine_iff (p : List Int) (next : List (List Int)) {i j : Nat} (hi : i < next.length) (hj : j < next.length) : at_ (refineP p next) i = at_ (refineP p next) j ↔ agree p next i j := by
  rw [refine_numR, numR_iff _ _ hi hj, word_iff]
  rfl
theorem refine_right (p : List Int) (next : List (List Int)) (h : next.length ≤ 1024) : rightP (refineP p next) := by
  rw [refine_numR]
  exact numR_right _ _ h
/-- Partitions that are finer have no fewer blocks; those with as many are the same. -/
def finerB (p q : List Int) : Prop := ∀ i j, i < p.length → j < p.length → at_ p i = at_ p j → at_ q i = at_ q j
theorem count_mono {p q : List Int} (hp : rightP p) (hq : rightP q) (hl : p.length = q.length) (h : finerB p q) : countP q ≤ countP p := by
  have h1 := firsts_le (at_ p) (at_ q) (List.range p.length) (fun a ha b hb e => h a b (List.mem_range.1 ha) (List.mem_range.1 hb) e)
  have h2 := count_numR p.length (at_ p)
  have h3 := count_numR q.length (at_ q)
  rw [hp.numR] at h2
  rw [hq.numR, ← hl] at h3
  omega
theorem count_same {p q : List Int} (hp : rightP p) (hq : rightP q) (hl : p.length = q.length) (h : finerB p q) (hc : countP q = countP p) : p = q := by
  have h2 := count_numR p.length (at_ p)
  have h3 := count_numR q.length (at_ q)
  rw [hp.numR] at h2
  rw [hq.numR, ← hl] at h3
  have h1 := firsts_eq (at_ p) (at_ q) (List.range p.length) (fun a ha b hb e => h a b (List.mem_range.1 ha) (List.mem_range.1 hb) e) (by omega)
  exact right_ext hp hq hl fun i j hi hj => ⟨h i j hi hj, h1 i (List.mem_range.2 hi) j (List.mem_range.2 hj)⟩
theorem refine_finer (p : List Int) (next : List (List Int)) : finerB (refineP p next) p := by
  intro i j hi hj h
  rw [refine_length] at hi hj
  exact ((refine_iff p next hi hj).1 h).1
/-- How often it has been refined. -/
def iterP (p : List Int) (next : List (List Int)) : Nat → List Int
  | 0 => p
  | m + 1 => refineP (iterP p next m) next
theorem iter_right {p : List Int} {next : List (List Int)} (hp : rightP p) (hn : next.length = p.length) : ∀ m, rightP (iterP p next m) ∧ (iterP p next m).length = p.length
  | 0 => ⟨hp, rfl⟩
  | m + 1 => ⟨refine_right _ _ (by rw [hn]; exact hp.1), by rw [iterP, refine_length, hn]⟩
theorem iter_count {p : List Int} {next : List (List Int)} (hp : rightP p) (hn : next.length = p.length) (m : Nat) : countP (iterP p next m) ≤ countP (iterP p next (m + 1)) := by
  have h1 := iter_right hp hn m
  have h2 := iter_right hp hn (m + 1)
  exact count_mono h2.1 h1.1 (by rw [h1.2, h2.2]) (refine_finer _ _)
/-- Refined m times nothing is split any more, and before that each time something. -/
def Stops (p : List Int) (next : List (List Int)) (m : Nat) : Prop := countP (iterP p next (m + 1)) = countP (iterP p next m) ∧ ∀ j, j < m → countP (iterP p next (j + 1)) ≠ countP (iterP p next j)
theorem stops_one {p : List Int} {next : List (List Int)} {m m' : Nat} (h : Stops p next m) (h' : Stops p next m') : m = m' := by
  rcases Nat.lt_trichotomy m m' with hl | hl | hl
  · exact absurd h.1 (h'.2 m hl)
  · exact hl
  · exact absurd h'.1 (h.2 m' hl)
theorem iter_grows {p : List Int} {next : List (List Int)} (hp : rightP p) (hn : next.length = p.length) {m : Nat} (h : ∀ j, j < m → countP (iterP p next (j + 1)) ≠ countP (iterP p next j)) : (m : Int) ≤ countP (iterP p next m) := by
  induction m with
  | zero => have := (count_bounds hp).1; exact this
  | succ m ih =>
    have h1 := ih (fun j hj => h j (by omega))
    have h2 := h m (by omega)
    have h3 := iter_count hp hn m
    omega
theorem iter_le {p : List Int} {next : List (List Int)} (hp : rightP p) (hn : next.length = p.length) {m : Nat} (h : ∀ j, j < m → countP (iterP p next (j + 1)) ≠ countP (iterP p next j)) : m ≤ p.length := by
  have h1 := iter_grows hp hn h
  have h2 := iter_right hp hn m
  have h3 := count_bounds h2.1
  omega
theorem exists_stops {p : List Int} {next : List (List Int)} (hp : rightP p) (hn : next.length = p.length) : ∃ m, Stops p next m := by
  refine Classical.byContradiction fun hno => ?_
  have h : ∀ m, ∀ j, j < m → countP (iterP p next (j + 1)) ≠ countP (iterP p next j) := by
    intro m
    induction m with
    | zero => intro j hj; omega
    | succ m ih =>
      intro j hj
      by_cases e : j = m
      · subst e
        exact fun hc => hno ⟨j, hc, ih⟩
      · exact ih j (by omega)
  have := iter_le hp hn (h (p.length + 1))
  omega
end Go.Proofs.Ytboofecfmhbacaa
