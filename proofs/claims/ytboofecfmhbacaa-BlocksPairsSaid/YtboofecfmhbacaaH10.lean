/- The contracts of package blocks at partitions of n elements, as the laws use them. -/
import Derived.Test.YtboofecfmhbacaaG18
import Derived.Test.YtboofecfmhbacaaH4
import Derived.Test.YtboofecfmhbacaaPlain3
namespace Go.Proofs.Ytboofecfmhbacaa
open Go.RowKit Go.WideMaps Go.Maps Go.Proofs.YtboofecfmhbacaaW.PrintWords Go.Proofs.YtboofecfmhbacaaW.PrintLast Go.Proofs.YtboofecfmhbacaaW.PrintMore
set_option linter.unusedVariables false
set_option linter.unusedSimpArgs false

theorem rightN (A0 : Option Addr) (c0 n : Nat) (p : List Int) (w : World) (hp : PartN n p) (hr0 : Kd.C (Kd.int .i64) w A0 n p) : Calls Try.prog 37 #[.slice A0 n c0] w fun e w' => e = .returned (.bool true) ∧ Below w.heap.size w w' := by
  have hl := hp.len
  subst hl
  have h := right_walk A0 c0 p w hr0 hp.right.small.wf
  rwa [decide_eq_true hp.right] at h
theorem countN (A0 : Option Addr) (c0 n : Nat) (p : List Int) (w : World) (hp : PartN n p) (hr0 : Kd.C (Kd.int .i64) w A0 n p) (m : Nat) (hm : countP p = m) : Calls Try.prog 34 #[.slice A0 n c0] w fun e w' => e = .returned (.tuple #[.int .i64 m, .int .i64 0]) ∧ Below w.heap.size w w' := by
  have hl := hp.len
  subst hl
  have h := countOf_walk A0 c0 p w hr0 hp.right.small.wf
  rwa [if_pos hp.right, if_pos hp.right, hm] at h
theorem ofN (A0 : Option Addr) (c0 n : Nat) (p : List Int) (w : World) (hl : p.length = n) (hn : n ≤ 1024) (hw : Wf p) (hr0 : Kd.C (Kd.int .i64) w A0 n p) (r : List Int) (he : Num.num p = r) : Calls Try.prog 17 #[.slice A0 n c0] w fun e w' => ∃ A c, e = .returned (.tuple #[.slice A n c, .int .i64 0]) ∧ Kd.C (Kd.int .i64) w' A n r ∧ Below w.heap.size w w' := by
  subst hl he
  refine (ofInt_walk A0 c0 p w hr0 hw).mono ?_
  rintro e w' ⟨v, rfl, hR, hB⟩
  rw [if_neg (by omega)] at hR ⊢
  obtain ⟨A, c, rfl, hC⟩ := r_read hR (Num.num_length p)
  exact ⟨A, c, rfl, hC, hB⟩
theorem meetN (A0 : Option Addr) (c0 n : Nat) (p : List Int) (A1 : Option Addr) (c1 : Nat) (q : List Int) (w : World) (hp : PartN n p) (hr0 : Kd.C (Kd.int .i64) w A0 n p) (hq : PartN n q) (hr1 : Kd.C (Kd.int .i64) w A1 n q) (r : List Int) (he : meetP p q = r) : Calls Try.prog 30 #[.slice A0 n c0, .slice A1 n c1] w fun e w' => ∃ A c, e = .returned (.tuple #[.slice A n c, .int .i64 0]) ∧ Kd.C (Kd.int .i64) w' A n r ∧ Below w.heap.size w w' := by
  have hml := (hp.meet hq).len
  have hl := hp.len
  have hl2 := hq.len
  subst hl he
  have h := meet_yes A0 c0 p A1 c1 q w hr0 (by rw [hl2]; exact hr1) hp.right hq.right hl2.symm
  rw [hl2] at h
  refine h.mono ?_
  rintro e w' ⟨v, rfl, hR, hB⟩
  obtain ⟨A, c, rfl, hC⟩ := r_read hR hml
  exact ⟨A, c, rfl, hC, hB⟩
theorem joinN (A0 : Option Addr) (c0 n : Nat) (p : List Int) (A1 : Option Addr) (c1 : Nat) (q : List Int) (w : World) (hp : PartN n p) (hr0 : Kd.C (Kd.int .i64) w A0 n p) (hq : PartN n q) (hr1 : Kd.C (Kd.int .i64) w A1 n q) (o : List Int) (ho : IsJoin p q o) : Calls Try.prog 31 #[.slice A0 n c0, .slice A1 n c1] w fun e w' => ∃ A c, e = .returned (.tuple #[.slice A n c, .int .i64 0]) ∧ Kd.C (Kd.int .i64) w' A n o ∧ Below w.heap.size w w' := by
  have hol := (ho.part hp).len
  have hl := hp.len
  have hl2 := hq.len
  subst hl
  have h := join_yes A0 c0 p A1 c1 q w hr0 (by rw [hl2]; exact hr1) hp.right hq.right hl2.symm
  rw [hl2] at h
  refine h.mono ?_
  rintro e w' ⟨v, l, rfl, hJ, hR, hB⟩
  rw [hJ.one ho] at hR
  obtain ⟨A, c, rfl, hC⟩ := r_read hR hol
  exact ⟨A, c, rfl, hC, hB⟩
theorem finerN (A0 : Option Addr) (c0 n : Nat) (p : List Int) (A1 : Option Addr) (c1 : Nat) (q : List Int) (w : World) (hp : PartN n p) (hr0 : Kd.C (Kd.int .i64) w A0 n p) (hq : PartN n q) (hr1 : Kd.C (Kd.int .i64) w A1 n q) (b : Bool) (hb : decide (finerP p q) = b) : Calls Try.prog 32 #[.slice A0 n c0, .slice A1 n c1] w fun e w' => e = .returned (.tuple #[.bool b, .int .i64 0]) ∧ Below w.heap.size w w' := by
  have hl := hp.len
  have hl2 := hq.len
  subst hl hb
  have h := finer_yes A0 c0 p A1 c1 q w hr0 (by rw [hl2]; exact hr1) hp.right hq.right hl2.symm
  rwa [hl2] at h
theorem refineN (A0 : Option Addr) (c0 n : Nat) (p : List Int) (A1 : Option Addr) (c1 N : Nat) (next : List (List Int)) (w : World) (hp : PartN n p) (hr0 : Kd.C (Kd.int .i64) w A0 n p) (hn : nextP n next) (hN : next.length = N) (hr1 : Kd.C (Kd.slice 3 (Kd.int .i64)) w A1 N next) (r : List Int) (he : refineP p next = r) : Calls Try.prog 35 #[.slice A0 n c0, .slice A1 N c1] w fun e w' => ∃ A c, e = .returned (.tuple #[.slice A n c, .int .i64 0]) ∧ Kd.C (Kd.int .i64) w' A n r ∧ Below w.heap.size w w' := by
  have hl := hp.len
  subst hl hN he
  refine (refineOf_yes A0 c0 p A1 c1 next w hr0 hr1 hp.right hn).mono ?_
  rintro e w' ⟨v, rfl, hR, hB⟩
  obtain ⟨A, c, rfl, hC⟩ := r_read hR (by rw [refine_length, hn.1])
  exact ⟨A, c, rfl, hC, hB⟩
theorem stableN (A0 : Option Addr) (c0 n : Nat) (p : List Int) (A1 : Option Addr) (c1 N : Nat) (next : List (List Int)) (w : World) (hp : PartN n p) (hr0 : Kd.C (Kd.int .i64) w A0 n p) (hn : nextP n next) (hN : next.length = N) (hr1 : Kd.C (Kd.slice 3 (Kd.int .i64)) w A1 N next) (b : Bool) (hb : decide (stableP p next) = b) : Calls Try.prog 29 #[.slice A0 n c0, .slice A1 N c1] w fun e w' => e = .returned (.tuple #[.bool b, .int .i64 0]) ∧ Below w.heap.size w w' := by
  have hl := hp.len
  subst hl hN hb
  exact stable_yes A0 c0 p A1 c1 next w hr0 hr1 hp.right hn
theorem coarsestN (A0 : Option Addr) (c0 n : Nat) (p : List Int) (A1 : Option Addr) (c1 N : Nat) (next : List (List Int)) (w : World) (hp : PartN n p) (hr0 : Kd.C (Kd.int .i64) w A0 n p) (hn : nextP n next) (hN : next.length = N) (hr1 : Kd.C (Kd.slice 3 (Kd.int .i64)) w A1 N next) (m : Nat) (hm : Stops p next m) (r : List Int) (he : iterP p next m = r) : Calls Try.prog 27 #[.slice A0 n c0, .slice A1 N c1] w fun e w' => ∃ A c, e = .returned (.tuple #[.slice A n c, .int .i64 m, .int .i64 0]) ∧ Kd.C (Kd.int .i64) w' A n r ∧ Below w.heap.size w w' := by
  have hl := hp.len
  subst hl hN he
  refine (coarsest_yes A0 c0 p A1 c1 next w hr0 hr1 hp.right hn).mono ?_
  rintro e w' ⟨m', v, rfl, hS, hR, hB⟩
  obtain rfl := stops_one hS hm
  obtain ⟨A, c, rfl, hC⟩ := r_read hR ((iter_right hp.right hn.1 m').2)
  exact ⟨A, c, rfl, hC, hB⟩
theorem quotientN (A0 : Option Addr) (c0 n : Nat) (p : List Int) (A1 : Option Addr) (c1 N : Nat) (next : List (List Int)) (w : World) (hp : PartN n p) (hr0 : Kd.C (Kd.int .i64) w A0 n p) (hn : nextP n next) (hN : next.length = N) (hr1 : Kd.C (Kd.slice 3 (Kd.int .i64)) w A1 N next) (hs : stableP p next) (m : Nat) (hm : countP p = m) : Calls Try.prog 28 #[.slice A0 n c0, .slice A1 N c1] w fun e w' => ∃ A c, e = .returned (.tuple #[.slice A m c, .int .i64 0]) ∧ Kd.C (Kd.slice 3 (Kd.int .i64)) w' A m (quotP p next) ∧ Below w.heap.size w w' := by
  have hl := hp.len
  subst hl hN
  refine (quotient_yes A0 c0 p A1 c1 next w hr0 hr1 hp.right hn hs).mono ?_
  rintro e w' ⟨v, rfl, hR, hB⟩
  obtain ⟨A, c, rfl, hC⟩ := r_read hR (by rw [quot_length, hm])
  exact ⟨A, c, rfl, hC, hB⟩
theorem splitN (A0 : Option Addr) (c0 n : Nat) (p : List Int) (A1 : Option Addr) (c1 N : Nat) (next : List (List Int)) (w : World) (hp : PartN n p) (hr0 : Kd.C (Kd.int .i64) w A0 n p) (hn : nextP n next) (hN : next.length = N) (hr1 : Kd.C (Kd.slice 3 (Kd.int .i64)) w A1 N next) (hs : ¬ stableP p next) : Calls Try.prog 28 #[.slice A0 n c0, .slice A1 N c1] w fun e w' => e = .returned (.tuple #[.slice none 0 0, .int .i64 62]) ∧ Below w.heap.size w w' := by
  have hl := hp.len
  subst hl hN
  exact quotient_split A0 c0 p A1 c1 next w hr0 hr1 hp.right hn hs
theorem membersN (A0 : Option Addr) (c0 n : Nat) (p : List Int) (w : World) (hp : PartN n p) (hr0 : Kd.C (Kd.int .i64) w A0 n p) (m : Nat) (hm : countP p = m) : Calls Try.prog 36 #[.slice A0 n c0] w fun e w' => ∃ A c, e = .returned (.tuple #[.slice A m c, .int .i64 0]) ∧ Kd.C (Kd.slice 3 (Kd.int .i64)) w' A m (membersP p) ∧ Below w.heap.size w w' := by
  have hl := hp.len
  subst hl
  refine (members_yes A0 c0 p w hr0 hp.right).mono ?_
  rintro e w' ⟨v, rfl, hR, hB⟩
  obtain ⟨A, c, rfl, hC⟩ := r_read hR (by unfold membersP; rw [rowsP_length, hm])
  exact ⟨A, c, rfl, hC, hB⟩
theorem makeN (A0 : Option Addr) (c0 : Nat) (l : List Int) (w : World) (hr : Kd.C (Kd.int .u8) w A0 l.length l) (hw : ∀ y ∈ l, (Lit.int .u8 y).wf = true) (hc : l.length ≤ c0) :
    Calls Try.prog 25 #[.slice A0 l.length c0] w fun e w' => ∃ (n : Nat) (A : Option Addr) (c : Nat) (p : List Int), e = .returned (.slice A n c) ∧ n ≤ 30 ∧ PartN n p ∧ Kd.C (Kd.int .i64) w' A n p ∧ Below w.heap.size w w' := by
  refine (madeC_walk A0 c0 l w hr hw hc).mono ?_
  rintro e w' ⟨A, c, p, rfl, hp, hpl, hC, hB⟩
  exact ⟨p.length, A, c, p, rfl, by omega, ⟨hp, rfl⟩, hC, hB⟩
theorem nextN (n : Nat) (A0 : Option Addr) (c0 : Nat) (l : List Int) (w : World) (hr : Kd.C (Kd.int .u8) w A0 l.length l) (hw : ∀ y ∈ l, (Lit.int .u8 y).wf = true) (hn : n ≤ 30) :
    Calls Try.prog 26 #[.int .i64 n, .slice A0 l.length c0] w fun e w' => ∃ (A : Option Addr) (c : Nat) (next : List (List Int)), e = .returned (.slice A n c) ∧ nextP n next ∧ Kd.C (Kd.slice 3 (Kd.int .i64)) w' A n next ∧ Below w.heap.size w w' := by
  refine (followsC_walk n A0 c0 l w hr hw hn).mono ?_
  rintro e w' ⟨A, c, next, rfl, hN, hC, hB⟩
  rw [hN.1] at hC ⊢
  exact ⟨A, c, next, rfl, hN, hC, hB⟩
theorem twoN (A0 : Option Addr) (c0 : Nat) (k : List Int) (A1 : Option Addr) (c1 : Nat) (l : List Int) (w : World) (hr0 : Kd.C (Kd.int .u8) w A0 k.length k) (hw0 : ∀ y ∈ k, (Lit.int .u8 y).wf = true) (hc0 : k.length ≤ c0) (hr1 : Kd.C (Kd.int .u8) w A1 l.length l) (hw1 : ∀ y ∈ l, (Lit.int .u8 y).wf = true) (hc1 : l.length ≤ c1) :
    Calls Try.prog 33 #[.slice A0 k.length c0, .slice A1 l.length c1] w fun e w' => ∃ (n : Nat) (A : Option Addr) (c : Nat) (p : List Int) (A' : Option Addr) (c' : Nat) (q : List Int), e = .returned (.tuple #[.slice A n c, .slice A' n c']) ∧ n ≤ 30 ∧ PartN n p ∧ Kd.C (Kd.int .i64) w' A n p ∧ PartN n q ∧ Kd.C (Kd.int .i64) w' A' n q ∧ Below w.heap.size w w' := by
  refine (two_walk A0 c0 k A1 c1 l w hr0 hw0 hc0 hr1 hw1 hc1).mono ?_
  rintro e w' ⟨n, A, c, p, A', c', q, rfl, hn, hp, hpl, hC, hq, hql, hC', hB⟩
  exact ⟨n, A, c, p, A', c', q, rfl, hn, ⟨hp, hpl⟩, hC, ⟨hq, hql⟩, hC', hB⟩
end Go.Proofs.Ytboofecfmhbacaa
