/- Blocks that are tied together, as a forest in a list; what is connected by two partitions. Plain Lean. -/
import Derived.Test.YtboofecfmhbacaaPart
namespace Go.Proofs.Ytboofecfmhbacaa

/-- From b to its root r in k steps. -/
def rootN (t : List Int) : Nat → Nat → Nat → Prop
  | 0, b, r => b = r ∧ b < t.length ∧ at_ t b = b
  | k + 1, b, r => b < t.length ∧ ∃ c : Nat, at_ t b = c ∧ c ≠ b ∧ rootN t k c r
def Root (t : List Int) (b r : Nat) : Prop := ∃ k, rootN t k b r
theorem rootN.lt {t : List Int} : ∀ {k b r}, rootN t k b r → b < t.length ∧ r < t.length ∧ at_ t r = r
  | 0, b, r, h => by obtain ⟨rfl, h1, h2⟩ := h; exact ⟨h1, h1, h2⟩
  | k + 1, b, r, h => by obtain ⟨h1, c, h2, h3, h4⟩ := h; exact ⟨h1, (rootN.lt h4).2⟩
theorem rootN.one {t : List Int} : ∀ {k k' b r r'}, rootN t k b r → rootN t k' b r' → r = r'
  | 0, 0, b, r, r', h, h' => by rw [← h.1, ← h'.1]
  | 0, k' + 1, b, r, r', h, h' => by
    obtain ⟨rfl, h1, h2⟩ := h
    obtain ⟨_, c, h3, h4, _⟩ := h'
    omega
  | k + 1, 0, b, r, r', h, h' => by
    obtain ⟨rfl, h1, h2⟩ := h'
    obtain ⟨_, c, h3, h4, _⟩ := h
    omega
  | k + 1, k' + 1, b, r, r', h, h' => by
    obtain ⟨_, c, h3, h4, h5⟩ := h
    obtain ⟨_, c', h3', h4', h5'⟩ := h'
    have : c = c' := by omega
    subst this
    exact rootN.one h5 h5'
theorem Root.one {t : List Int} {b r r' : Nat} (h : Root t b r) (h' : Root t b r') : r = r' := by
  obtain ⟨k, h⟩ := h
  obtain ⟨k', h'⟩ := h'
  exact h.one h'
theorem Root.self {t : List Int} {b : Nat} (h1 : b < t.length) (h2 : at_ t b = b) : Root t b b := ⟨0, rfl, h1, h2⟩
theorem at_set_self {t : List Int} {a : Nat} {x : Int} (h : a < t.length) : at_ (t.set a x) a = x := by simp [at_, List.getD_eq_getElem?_getD, h]
theorem at_set_ne {t : List Int} {a b : Nat} {x : Int} (h : a ≠ b) : at_ (t.set a x) b = at_ t b := by simp [at_, List.getD_eq_getElem?_getD, h]
/-- One root is set behind another one. -/
theorem rootN.link {t : List Int} {a c : Nat} (ha : a < t.length) (hc : c < t.length) (ha1 : at_ t a = a) (hc1 : at_ t c = c) : ∀ {k b r}, rootN t k b r → Root (t.set a c) b (if r = a then c else r)
  | 0, b, r, h => by
    obtain ⟨rfl, h1, h2⟩ := h
    by_cases e : b = a
    · subst e
      rw [if_pos rfl]
      by_cases e2 : c = b
      · subst e2
        exact Root.self (by simpa using h1) (at_set_self h1)
      · exact ⟨1, by simpa using h1, c, at_set_self h1, e2, rfl, by simpa using hc, by rw [at_set_ne (Ne.symm e2)]; exact hc1⟩
    · rw [if_neg e]
      exact Root.self (by simpa using h1) (by rw [at_set_ne (Ne.symm e)]; exact h2)
  | k + 1, b, r, h => by
    obtain ⟨h1, d, h2, h3, h4⟩ := h
    have hne : a ≠ b := by rintro rfl; omega
    obtain ⟨m, hm⟩ := rootN.link ha hc ha1 hc1 h4
    exact ⟨m + 1, by simpa using h1, d, by rw [at_set_ne hne]; exact h2, h3, hm⟩
theorem Root.link {t : List Int} {a c b r : Nat} (ha : a < t.length) (hc : c < t.length) (ha1 : at_ t a = a) (hc1 : at_ t c = c) (h : Root t b r) : Root (t.set a c) b (if r = a then c else r) := by
  obtain ⟨k, h⟩ := h
  exact h.link ha hc ha1 hc1

/-- Elements that are in one block of p, or of q (these among the first k), and what follows from it. -/
inductive Conn (p q : List Int) (k : Nat) : Nat → Nat → Prop
  | same {i j : Nat} : i < p.length → j < p.length → at_ p i = at_ p j → Conn p q k i j
  | tie {i j : Nat} : i < p.length → j < p.length → i < k → j < k → at_ q i = at_ q j → Conn p q k i j
  | symm {i j : Nat} : Conn p q k i j → Conn p q k j i
  | trans {i j m : Nat} : Conn p q k i j → Conn p q k j m → Conn p q k i m
theorem Conn.bounds {p q : List Int} {k i j : Nat} (h : Conn p q k i j) : i < p.length ∧ j < p.length := by
  induction h with
  | same h1 h2 _ => exact ⟨h1, h2⟩
  | tie h1 h2 _ _ _ => exact ⟨h1, h2⟩
  | symm _ ih => exact ⟨ih.2, ih.1⟩
  | trans _ _ ih1 ih2 => exact ⟨ih1.1, ih2.2⟩
theorem Conn.refl {p q : List Int} {k i : Nat} (h : i < p.length) : Conn p q k i i := .same h h rfl
theorem Conn.mono {p q : List Int} {k k' i j : Nat} (hk : k ≤ k') (h : Conn p q k i j) : Conn p q k' i j := by
  induction h with
  | same h1 h2 h3 => exact .same h1 h2 h3
  | tie h1 h2 h3 h4 h5 => exact .tie h1 h2 (by omega) (by omega) h5
  | symm _ ih => exact ih.symm
  | trans _ _ ih1 ih2 => exact ih1.trans ih2
/-- What respects both respects what is connected. -/
theorem Conn.lift {p q : List Int} {k : Nat} {α : Sort _} (f : Nat → α) (h1 : ∀ i j, i < p.length → j < p.length → at_ p i = at_ p j → f i = f j) (h2 : ∀ i j, i < p.length → j < p.length → i < k → j < k → at_ q i = at_ q j → f i = f j) {i j : Nat} (h : Conn p q k i j) : f i = f j := by
  induction h with
  | same a b c => exact h1 _ _ a b c
  | tie a b c d e => exact h2 _ _ a b c d e
  | symm _ ih => exact ih.symm
  | trans _ _ ih1 ih2 => exact ih1.trans ih2
theorem Conn.zero {p q : List Int} {i j : Nat} (h : Conn p q 0 i j) : at_ p i = at_ p j := h.lift (at_ p) (fun _ _ _ _ e => e) (fun i _ _ _ h => absurd h (Nat.not_lt_zero i))

/-- The forest when k elements of q have been seen. -/
structure Forest (p q : List Int) (k : Nat) (t : List Int) : Prop where
  len : t.length = p.length
  root : ∀ b, b < p.length → ∃ r, Root t b r
  tied : ∀ i j r s, i < p.length → j < p.length → Root t (at_ p i).toNat r → Root t (at_ p j).toNat s → (r = s ↔ Conn p q k i j)
/-- The list 0, 1, .. -/
def ids (n : Nat) : List Int := (List.range n).map fun (i : Nat) => (i : Int)
theorem ids_length (n : Nat) : (ids n).length = n := by simp [ids]
theorem ids_get (n i : Nat) (h : i < n) : (ids n)[i]'(by rw [ids_length]; exact h) = (i : Int) := by simp [ids]
theorem at_ids {n i : Nat} (h : i < n) : at_ (ids n) i = i := by rw [at_get (by rw [ids_length]; exact h), ids_get n i h]
theorem at_bounds {p : List Int} (hp : rightP p) {i : Nat} (hi : i < p.length) : 0 ≤ at_ p i ∧ at_ p i < p.length := by rw [at_get hi]; exact hp.bounds _ (List.getElem_mem hi)
theorem Forest.start {p : List Int} (q : List Int) (hp : rightP p) : Forest p q 0 (ids p.length) where
  len := ids_length _
  root := fun b hb => ⟨b, Root.self (by rw [ids_length]; exact hb) (at_ids hb)⟩
  tied := by
    intro i j r s hi hj hr hs
    have h1 := at_bounds hp hi
    have h2 := at_bounds hp hj
    have e1 := hr.one (Root.self (by rw [ids_length]; omega) (at_ids (by omega)))
    have e2 := hs.one (Root.self (by rw [ids_length]; omega) (at_ids (by omega)))
    subst e1 e2
    constructor
    · intro e
      exact .same hi hj (by omega)
    · intro e
      rw [e.zero]
theorem Conn.new {p q : List Int} {k : Nat} (hno : ∀ i, i < k → at_ q i ≠ at_ q k) {i j : Nat} (h : Conn p q (k + 1) i j) : Conn p q k i j := by
  induction h with
  | same h1 h2 h3 => exact .same h1 h2 h3
  | tie h1 h2 h3 h4 h5 =>
    rename_i a b
    by_cases ea : a = k
    · by_cases eb : b = k
      · subst ea eb
        exact .refl h1
      · exact absurd (by rw [← h5, ea]) (hno b (by omega))
    · by_cases eb : b = k
      · exact absurd (by rw [h5, eb]) (hno a (by omega))
      · exact .tie h1 h2 (by omega) (by omega) h5
  | symm _ ih => exact ih.symm
  | trans _ _ ih1 ih2 => exact ih1.trans ih2
theorem Forest.new {p q t : List Int} {k : Nat} (h : Forest p q k t) (hno : ∀ i, i < k → at_ q i ≠ at_ q k) : Forest p q (k + 1) t where
  len := h.len
  root := h.root
  tied := by
    intro i j r s hi hj hr hs
    rw [h.tied i j r s hi hj hr hs]
    exact ⟨fun e => e.mono (by omega), fun e => e.new hno⟩
theorem Forest.link {p q t : List Int} (hp : rightP p) {k f a c : Nat} (h : Forest p q k t) (hk : k < p.length) (hf : f < k) (hq : at_ q f = at_ q k) (ha : Root t (at_ p k).toNat a) (hc : Root t (at_ p f).toNat c) : Forest p q (k + 1) (t.set a c) := by
  obtain ⟨na, ha0⟩ := ha
  obtain ⟨nc, hc0⟩ := hc
  obtain ⟨-, hal, ha1⟩ := ha0.lt
  obtain ⟨-, hcl, hc1⟩ := hc0.lt
  have ha : Root t (at_ p k).toNat a := ⟨na, ha0⟩
  have hc : Root t (at_ p f).toNat c := ⟨nc, hc0⟩
  have hfp : f < p.length := by omega
  have hfk : Conn p q (k + 1) f k := .tie hfp hk (by omega) (by omega) hq
  refine ⟨by rw [List.length_set]; exact h.len, fun b hb => ?_, ?_⟩
  · obtain ⟨r, hr⟩ := h.root b hb
    exact ⟨_, hr.link hal hcl ha1 hc1⟩
  · intro i j r s hi hj hr hs
    have hbi := at_bounds hp hi
    have hbj := at_bounds hp hj
    obtain ⟨r0, hr0⟩ := h.root (at_ p i).toNat (by omega)
    obtain ⟨s0, hs0⟩ := h.root (at_ p j).toNat (by omega)
    have er := hr.one (hr0.link hal hcl ha1 hc1)
    have es := hs.one (hs0.link hal hcl ha1 hc1)
    constructor
    · intro e
      rw [er, es] at e
      by_cases h1 : r0 = a
      · have g1 := ((h.tied i k r0 a hi hk hr0 ha).1 h1).mono (show k ≤ k + 1 by omega)
        by_cases h2 : s0 = a
        · exact g1.trans (((h.tied j k s0 a hj hk hs0 ha).1 h2).mono (by omega)).symm
        · rw [if_pos h1, if_neg h2] at e
          exact g1.trans (hfk.symm.trans (((h.tied j f s0 c hj hfp hs0 hc).1 e.symm).mono (by omega)).symm)
      · by_cases h2 : s0 = a
        · rw [if_neg h1, if_pos h2] at e
          exact (((h.tied i f r0 c hi hfp hr0 hc).1 e).mono (show k ≤ k + 1 by omega)).trans (hfk.trans (((h.tied j k s0 a hj hk hs0 ha).1 h2).mono (by omega)).symm)
        · rw [if_neg h1, if_neg h2] at e
          exact ((h.tied i j r0 s0 hi hj hr0 hs0).1 e).mono (by omega)
    · intro e
      have key : ∀ i j, i < p.length → j < p.length → ∀ r s, Root t (at_ p i).toNat r → Root t (at_ p j).toNat s → (if r = a then c else r) = (if s = a then c else s) →
          (fun x : Nat => ∃ r, Root t (at_ p i).toNat r ∧ x = if r = a then c else r) = (fun x : Nat => ∃ r, Root t (at_ p j).toNat r ∧ x = if r = a then c else r) := by
        intro i j hi hj r s hr hs e
        funext x
        apply propext
        constructor
        · rintro ⟨r', hr', rfl⟩
          rw [hr'.one hr]
          exact ⟨s, hs, e⟩
        · rintro ⟨r', hr', rfl⟩
          rw [hr'.one hs]
          exact ⟨r, hr, e.symm⟩
      have root : ∀ i, i < p.length → ∃ r, Root t (at_ p i).toNat r := fun i hi => h.root _ (by have := at_bounds hp hi; omega)
      have h2 := e.lift (fun i => (fun x : Nat => ∃ r, Root t (at_ p i).toNat r ∧ x = if r = a then c else r))
        (by
          intro i j hi hj e
          obtain ⟨r, hr⟩ := root i hi
          obtain ⟨s, hs⟩ := root j hj
          refine key i j hi hj r s hr hs ?_
          rw [(h.tied i j r s hi hj hr hs).2 (.same hi hj e)])
        (by
          intro i j hi hj hik hjk e5
          obtain ⟨r, hr⟩ := root i hi
          obtain ⟨s, hs⟩ := root j hj
          refine key i j hi hj r s hr hs ?_
          by_cases ei : i = k
          · subst ei
            have e1 := hr.one ha
            rw [if_pos e1]
            by_cases ej : j = i
            · subst ej
              rw [if_pos (hs.one ha)]
            · have e2 := (h.tied j f s c hj hfp hs hc).2 (.tie hj hfp (by omega) hf (by rw [hq, e5]))
              rw [e2]
              split <;> rfl
          · by_cases ej : j = k
            · subst ej
              rw [if_pos (hs.one ha)]
              have e2 := (h.tied i f r c hi hfp hr hc).2 (.tie hi hfp (by omega) hf (by rw [hq, e5]))
              rw [e2]
              split <;> rfl
            · rw [(h.tied i j r s hi hj hr hs).2 (.tie hi hj (by omega) (by omega) e5)])
      have h3 := congrFun h2 (if r0 = a then c else r0)
      have h4 : ∃ r, Root t (at_ p j).toNat r ∧ (if r0 = a then c else r0) = if r = a then c else r := by
        rw [← h3]
        exact ⟨r0, hr0, rfl⟩
      obtain ⟨s', hs', e4⟩ := h4
      rw [hs'.one hs0] at e4
      rw [er, es, e4]
/-- What Join answers. -/
def IsJoin (p q l : List Int) : Prop := rightP l ∧ l.length = p.length ∧ ∀ i j, i < p.length → j < p.length → (at_ l i = at_ l j ↔ Conn p q p.length i j)
theorem IsJoin.one {p q l l' : List Int} (h : IsJoin p q l) (h' : IsJoin p q l') : l = l' :=
  right_ext h.1 h'.1 (by rw [h.2.1, h'.2.1]) fun i j hi hj => by rw [h.2.1] at hi hj; rw [h.2.2 i j hi hj, h'.2.2 i j hi hj]
theorem Forest.isJoin {p q t : List Int} (hp : rightP p) (h : Forest p q p.length t) (out : List Int) (ho : out.length = p.length) (hr : ∀ i, i < p.length → ∃ r : Nat, Root t (at_ p i).toNat r ∧ at_ out i = r) : IsJoin p q (Num.num out) := by
  have e : Num.num out = numR p.length (at_ out) := by rw [num_numR out 0, ho]; rfl
  rw [e]
  refine ⟨numR_right _ _ hp.1, numR_length _ _, fun i j hi hj => ?_⟩
  rw [numR_iff _ _ hi hj]
  obtain ⟨r, hr1, hr2⟩ := hr i hi
  obtain ⟨s, hs1, hs2⟩ := hr j hj
  rw [hr2, hs2, ← h.tied i j r s hi hj hr1 hs1]
  omega
theorem Forest.roots {p q t : List Int} {k : Nat} (hp : rightP p) (h : Forest p q k t) : ∃ rl : List Int, rl.length = p.length ∧ ∀ i, i < p.length → ∃ r : Nat, Root t (at_ p i).toNat r ∧ at_ rl i = r := by
  have h1 : ∀ m, m ≤ p.length → ∃ rl : List Int, rl.length = m ∧ ∀ i, i < m → ∃ r : Nat, Root t (at_ p i).toNat r ∧ at_ rl i = r := by
    intro m
    induction m with
    | zero => exact fun _ => ⟨[], rfl, fun i hi => absurd hi (Nat.not_lt_zero i)⟩
    | succ m ih =>
      intro hm
      obtain ⟨rl, h2, h3⟩ := ih (by omega)
      have hb := at_bounds hp (show m < p.length by omega)
      obtain ⟨r, hr⟩ := h.root (at_ p m).toNat (by omega)
      refine ⟨rl ++ [(r : Int)], by simp [h2], fun i hi => ?_⟩
      by_cases e : i = m
      · subst e
        exact ⟨r, hr, by simp [at_, List.getD_eq_getElem?_getD, ← h2]⟩
      · obtain ⟨r', hr', e'⟩ := h3 i (by omega)
        refine ⟨r', hr', ?_⟩
        rw [← e']
        have : i < rl.length := by omega
        simp [at_, List.getD_eq_getElem?_getD, List.getElem?_append_left this]
  exact h1 _ (Nat.le_refl _)
end Go.Proofs.Ytboofecfmhbacaa
