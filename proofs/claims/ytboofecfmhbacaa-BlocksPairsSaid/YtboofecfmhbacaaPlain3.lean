/- Partitions as a lattice; refining, and the coarsest stable partition. Plain Lean. -/
import Derived.Test.YtboofecfmhbacaaPlain2
namespace Go.Proofs.Ytboofecfmhbacaa
set_option linter.unusedVariables false
/-- p puts together no more than q, on n elements. -/
def leP (n : Nat) (p q : List Int) : Prop := ∀ i j, i < n → j < n → at_ p i = at_ p j → at_ q i = at_ q j
theorem leP.refl (n : Nat) (p : List Int) : leP n p p := fun _ _ _ _ h => h
theorem leP.trans {n : Nat} {p q r : List Int} (h : leP n p q) (h' : leP n q r) : leP n p r := fun i j hi hj e => h' i j hi hj (h i j hi hj e)
theorem leP.antisymm {n : Nat} {p q : List Int} (hp : rightP p) (hq : rightP q) (hpl : p.length = n) (hql : q.length = n) (h : leP n p q) (h' : leP n q p) : p = q :=
  right_ext hp hq (by omega) fun i j hi hj => ⟨h i j (by omega) (by omega), h' i j (by omega) (by omega)⟩
theorem meet_numR {n : Nat} {p q : List Int} (hp : p.length = n) (hq : q.length = n) : meetP p q = numR n (fun i => [at_ p i, at_ q i]) := by
  unfold meetP numR
  congr 1
  apply List.ext_getElem
  · rw [zip2_length p q (by omega)]; simp [hp]
  · intro i h1 h2
    have hi : i < n := by simpa using h2
    rw [zip2_get p q i (by omega) (by omega)]
    simp [at_get (show i < p.length by omega), at_get (show i < q.length by omega)]
theorem meet_right {n : Nat} {p q : List Int} (hp : p.length = n) (hq : q.length = n) (hn : n ≤ 1024) : rightP (meetP p q) ∧ (meetP p q).length = n := by
  rw [meet_numR hp hq]
  exact ⟨numR_right _ _ hn, numR_length _ _⟩
theorem meet_iff {n : Nat} {p q : List Int} (hp : p.length = n) (hq : q.length = n) {i j : Nat} (hi : i < n) (hj : j < n) : at_ (meetP p q) i = at_ (meetP p q) j ↔ at_ p i = at_ p j ∧ at_ q i = at_ q j := by
  rw [meet_numR hp hq, numR_iff _ _ hi hj]
  simp
theorem meet_le {n : Nat} {p q : List Int} (hp : p.length = n) (hq : q.length = n) : leP n (meetP p q) p ∧ leP n (meetP p q) q :=
  ⟨fun _ _ hi hj e => ((meet_iff hp hq hi hj).1 e).1, fun _ _ hi hj e => ((meet_iff hp hq hi hj).1 e).2⟩
theorem le_meet {n : Nat} {p q x : List Int} (hp : p.length = n) (hq : q.length = n) (h1 : leP n x p) (h2 : leP n x q) : leP n x (meetP p q) :=
  fun i j hi hj e => (meet_iff hp hq hi hj).2 ⟨h1 i j hi hj e, h2 i j hi hj e⟩
/-- A partition of n elements. -/
structure PartN (n : Nat) (p : List Int) : Prop where
  right : rightP p
  len : p.length = n
theorem PartN.le {n : Nat} {p : List Int} (h : PartN n p) : n ≤ 1024 := by have := h.right.1; have := h.len; omega
theorem PartN.meet {n : Nat} {p q : List Int} (hp : PartN n p) (hq : PartN n q) : PartN n (meetP p q) := by
  have h := meet_right hp.len hq.len hp.le
  exact ⟨h.1, h.2⟩
theorem PartN.eq {n : Nat} {p q : List Int} (hp : PartN n p) (hq : PartN n q) (h : leP n p q) (h' : leP n q p) : p = q := leP.antisymm hp.right hq.right hp.len hq.len h h'
theorem finer_le {n : Nat} {p q : List Int} (hp : PartN n p) (hq : PartN n q) : finerP p q ↔ leP n p q := by
  constructor
  · intro h
    have := (meet_le hp.len hq.len).2
    rwa [show meetP p q = p from h] at this
  · intro h
    exact (hp.meet hq).eq hp (meet_le hp.len hq.len).1 (le_meet hp.len hq.len (leP.refl n p) h)
theorem meet_comm {n : Nat} {p q : List Int} (hp : PartN n p) (hq : PartN n q) : meetP q p = meetP p q :=
  (hq.meet hp).eq (hp.meet hq) (le_meet hp.len hq.len (meet_le hq.len hp.len).2 (meet_le hq.len hp.len).1) (le_meet hq.len hp.len (meet_le hp.len hq.len).2 (meet_le hp.len hq.len).1)
theorem meet_assoc {n : Nat} {p q r : List Int} (hp : PartN n p) (hq : PartN n q) (hr : PartN n r) : meetP p (meetP q r) = meetP (meetP p q) r := by
  have hpq := hp.meet hq
  have hqr := hq.meet hr
  have a1 := meet_le hp.len hqr.len
  have a2 := meet_le hq.len hr.len
  have b1 := meet_le hpq.len hr.len
  have b2 := meet_le hp.len hq.len
  exact (hp.meet hqr).eq (hpq.meet hr) (le_meet hpq.len hr.len (le_meet hp.len hq.len a1.1 (a1.2.trans a2.1)) (a1.2.trans a2.2)) (le_meet hp.len hqr.len (b1.1.trans b2.1) (le_meet hq.len hr.len (b1.1.trans b2.2) b1.2))

open Classical in
theorem join_exists {n : Nat} {p : List Int} (q : List Int) (hp : PartN n p) : ∃ o, IsJoin p q o := by
  refine ⟨numR p.length (fun i => fun j => Conn p q p.length i j), numR_right _ _ hp.right.1, numR_length _ _, fun i j hi hj => ?_⟩
  rw [numR_iff _ _ hi hj]
  constructor
  · intro h
    have h2 := congrFun h j
    exact h2.mpr (Conn.refl hj)
  · intro h
    funext m
    exact propext ⟨fun h3 => h.symm.trans h3, fun h3 => h.trans h3⟩
theorem IsJoin.part {n : Nat} {p q o : List Int} (hp : PartN n p) (h : IsJoin p q o) : PartN n o := ⟨h.1, by rw [h.2.1, hp.len]⟩
theorem IsJoin.ge {n : Nat} {p q o : List Int} (hp : PartN n p) (h : IsJoin p q o) : leP n p o ∧ leP n q o := by
  have hl := hp.len
  subst hl
  exact ⟨fun i j hi hj e => (h.2.2 i j hi hj).2 (.same hi hj e), fun i j hi hj e => (h.2.2 i j hi hj).2 (.tie hi hj hi hj e)⟩
theorem IsJoin.least {n : Nat} {p q o x : List Int} (hp : PartN n p) (h : IsJoin p q o) (h1 : leP n p x) (h2 : leP n q x) : leP n o x := by
  have hl := hp.len
  subst hl
  intro i j hi hj e
  exact ((h.2.2 i j hi hj).1 e).lift (at_ x) (fun a b ha hb e => h1 a b ha hb e) (fun a b ha hb _ _ e => h2 a b ha hb e)
/-- What lies between is the join. -/
theorem IsJoin.of {n : Nat} {p q o : List Int} (hp : PartN n p) (ho : PartN n o) (h1 : leP n p o) (h2 : leP n q o) (h3 : ∀ x, leP n p x → leP n q x → leP n o x) : IsJoin p q o := by
  obtain ⟨o', h'⟩ := join_exists q hp
  have e : o = o' := ho.eq (h'.part hp) (h3 o' (h'.ge hp).1 (h'.ge hp).2) (h'.least hp h1 h2)
  rw [e]
  exact h'
theorem IsJoin.comm {n : Nat} {p q o : List Int} (hp : PartN n p) (hq : PartN n q) (h : IsJoin p q o) : IsJoin q p o :=
  .of hq (h.part hp) (h.ge hp).2 (h.ge hp).1 fun x h1 h2 => h.least hp h2 h1
theorem IsJoin.assoc {n : Nat} {p q r o f g : List Int} (hp : PartN n p) (hq : PartN n q) (ho : IsJoin p q o) (hf : IsJoin o r f) (hg : IsJoin q r g) : IsJoin p g f := by
  have hpo := ho.part hp
  have hgq := hg.part hq
  refine .of hp (hf.part hpo) ((ho.ge hp).1.trans (hf.ge hpo).1) (hg.least hq ((ho.ge hp).2.trans (hf.ge hpo).1) (hf.ge hpo).2) fun x h1 h2 => ?_
  exact hf.least hpo (ho.least hp h1 ((hg.ge hq).1.trans h2)) ((hg.ge hq).2.trans h2)
theorem meet_join {n : Nat} {p q o : List Int} (hp : PartN n p) (h : IsJoin p q o) : meetP p o = p :=
  (hp.meet (h.part hp)).eq hp (meet_le hp.len (h.part hp).len).1 (le_meet hp.len (h.part hp).len (leP.refl n p) (h.ge hp).1)
theorem join_meet {n : Nat} {p q : List Int} (hp : PartN n p) (hq : PartN n q) : IsJoin p (meetP p q) p :=
  .of hp hp (leP.refl n p) (meet_le hp.len hq.len).1 fun x h1 _ => h1
theorem finer_join {n : Nat} {p q o : List Int} (hp : PartN n p) (hq : PartN n q) (h : IsJoin p q o) : finerP p q ↔ o = q := by
  rw [finer_le hp hq]
  constructor
  · intro h1
    exact (h.part hp).eq hq (h.least hp h1 (leP.refl n q)) (h.ge hp).2
  · intro h1
    rw [← h1]
    exact (h.ge hp).1

/-! #### refining -/
theorem PartN.refine {n : Nat} {p : List Int} {next : List (List Int)} (hp : PartN n p) (hn : next.length = n) : PartN n (refineP p next) := ⟨refine_right p next (by rw [hn]; exact hp.le), by rw [refine_length, hn]⟩
theorem refine_le {n : Nat} {p : List Int} {next : List (List Int)} (hn : next.length = n) : leP n (refineP p next) p := fun i j hi hj e => ((refine_iff p next (by omega) (by omega)).1 e).1
/-- What is put together by p of lists that are in bounds is so by a coarser q. -/
theorem after_le {n : Nat} {p q : List Int} {next : List (List Int)} (hn : nextP n next) (h : leP n p q) {i j : Nat} (hi : i < n) (hj : j < n) (e : after p next i = after p next j) : after q next i = after q next j := by
  have hb : ∀ i, i < n → ∀ x ∈ nx next i, 0 ≤ x ∧ x < n := by
    intro i hi x hx
    have hin : i < next.length := by rw [hn.1]; exact hi
    have hx' : x ∈ next[i] := by simpa [nx, List.getD_eq_getElem?_getD, List.getElem?_eq_getElem hin] using hx
    exact (hn.2 _ (List.getElem_mem hin)).2 x hx'
  have h1 := hb i hi
  have h2 := hb j hj
  unfold after at e ⊢
  generalize nx next i = a at e h1
  generalize nx next j = b at e h2
  induction a generalizing b with
  | nil =>
    cases b with
    | nil => rfl
    | cons y b => simp at e
  | cons x a ih =>
    cases b with
    | nil => simp at e
    | cons y b =>
      rw [List.map_cons, List.map_cons] at e ⊢
      injection e with e1 e2
      have hx := h1 x (List.mem_cons_self ..)
      have hy := h2 y (List.mem_cons_self ..)
      rw [h x.toNat y.toNat (by omega) (by omega) e1, ih (fun z hz => h1 z (List.mem_cons_of_mem _ hz)) b e2 (fun z hz => h2 z (List.mem_cons_of_mem _ hz))]
theorem refine_mono {n : Nat} {p q : List Int} {next : List (List Int)} (hn : nextP n next) (h : leP n p q) : leP n (refineP p next) (refineP q next) := by
  intro i j hi hj e
  have hl := hn.1
  have h1 := (refine_iff p next (show i < next.length by omega) (show j < next.length by omega)).1 e
  exact (refine_iff q next (show i < next.length by omega) (show j < next.length by omega)).2 ⟨h i j hi hj h1.1, after_le hn h hi hj h1.2⟩
/-- A stable partition that is finer than q is finer than what q refines to. -/
theorem stable_le {n : Nat} {s q : List Int} {next : List (List Int)} (hn : nextP n next) (hs : stableP s next) (h : leP n s q) : leP n s (refineP q next) := by
  have := refine_mono hn h
  rwa [show refineP s next = s from hs] at this
theorem stable_iter {n : Nat} {s q : List Int} {next : List (List Int)} (hn : nextP n next) (hs : stableP s next) (h : leP n s q) : ∀ m, leP n s (iterP q next m)
  | 0 => h
  | m + 1 => stable_le hn hs (stable_iter hn hs h m)
theorem iter_le' {n : Nat} {q : List Int} {next : List (List Int)} (hn : next.length = n) : ∀ m, leP n (iterP q next m) q
  | 0 => leP.refl n q
  | m + 1 => (refine_le hn).trans (iter_le' hn m)
theorem PartN.iter {n : Nat} {p : List Int} {next : List (List Int)} (hp : PartN n p) (hn : next.length = n) (m : Nat) : PartN n (iterP p next m) := by
  have h := iter_right hp.right (by rw [hn, hp.len]) m
  exact ⟨h.1, by rw [h.2, hp.len]⟩
theorem stops_stable {p : List Int} {next : List (List Int)} {m : Nat} (hp : rightP p) (hn : next.length = p.length) (h : Stops p next m) : stableP (iterP p next m) next := by
  have hi := iter_right hp hn m
  exact (stable_count hi.1 (by rw [hi.2, hn])).2 h.1
theorem stops_zero {p : List Int} {next : List (List Int)} (hp : rightP p) (hn : next.length = p.length) (h : stableP p next) : Stops p next 0 := ⟨(stable_count hp hn).1 h, fun j hj => absurd hj (Nat.not_lt_zero j)⟩
theorem refine_count {n : Nat} {p : List Int} {next : List (List Int)} (hp : PartN n p) (hn : next.length = n) : countP p ≤ countP (refineP p next) := by
  have hr := hp.refine hn
  exact count_mono hr.right hp.right (by rw [hr.len, hp.len]) (by rw [finerB, hr.len]; exact refine_le hn)
theorem right_discrete {n N : Nat} {p e : List Int} (he : rightP e) (hl : e.length = N) (h : ∀ i j, i < N → j < N → at_ e i = at_ e j → i = j) : countP e = N := by
  have h1 : countP e = (Num.firsts e).length := right_count he
  rw [h1]
  have h2 : ∀ m, m ≤ N → (Num.firsts (e.take m)).length = m := by
    intro m
    induction m with
    | zero => intro _; rfl
    | succ m ih =>
      intro hm
      have hml : m < e.length := by omega
      rw [Num.take_succ e m hml, Num.firsts_snoc]
      have hno : e[m] ∉ Num.firsts (e.take m) := by
        rw [Num.mem_firsts, List.mem_take_iff_getElem]
        rintro ⟨i, hi, e1⟩
        have := h i m (by omega) (by omega) (by rw [at_get (by omega), at_get hml]; exact e1)
        omega
      rw [if_neg hno, List.length_append, ih (by omega)]
      rfl
  have h3 := h2 N (Nat.le_refl _)
  rw [← hl, List.take_length] at h3
  rw [h3, hl]
end Go.Proofs.Ytboofecfmhbacaa
