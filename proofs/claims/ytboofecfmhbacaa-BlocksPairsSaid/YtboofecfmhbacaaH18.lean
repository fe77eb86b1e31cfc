/- The walks of the laws' helper pairs, and of BlocksPairs. -/
import Derived.Test.YtboofecfmhbacaaH17
namespace Go.Proofs.Ytboofecfmhbacaa
open Go.RowKit Go.WideMaps Go.Maps Go.Proofs.YtboofecfmhbacaaW.PrintWords Go.Proofs.YtboofecfmhbacaaW.PrintLast Go.Proofs.YtboofecfmhbacaaW.PrintMore
set_option linter.unusedVariables false
set_option linter.unusedSimpArgs false

/-- A row of rows of whole numbers, all of them the call's own: what they hold is not told. -/
structure Mess (w : World) (base : Nat) (A : Option Addr) (n c : Nat) (vs : List Value) : Prop where
  outer : w.ownsRow base 22 1 (.slice A n c) n vs
  inner : ∀ v ∈ vs, ∃ xs : List Int, w.ownsRow base 3 1 v xs.length (encs (Value.int .i64) xs)
theorem Mess.of_R {w : World} {base : Nat} {A : Option Addr} {n c : Nat} {rows : List (List Int)} (h : Kd.R (Kd.slice 3 (Kd.int .i64)) 22 w base (fun _ => True) (.slice A n c) rows) (hn : rows.length = n) : ∃ vs, Mess w base A n c vs := by
  subst hn
  obtain ⟨h0, inner, ho, hr⟩ := h
  refine ⟨inner, ho, fun v hv => ?_⟩
  obtain ⟨j, hj, rfl⟩ := List.mem_iff_getElem.1 hv
  have hjl : j < rows.length := by have := hr.1; simp [Kd.slice] at this; omega
  have h2 := hr.2 j _ (List.getElem?_eq_getElem hjl)
  obtain ⟨v, he, hR⟩ := h2
  have h3 : (inner.drop (j * 1)).take 1 = [v] := he
  rw [Nat.mul_one, List.drop_eq_getElem_cons hj] at h3
  have h4 : inner[j] = v := by
    have h5 := congrArg List.head? h3
    rw [List.take_succ_cons] at h5
    exact Option.some.inj h5
  rw [h4]
  exact ⟨_, Kd.own_of_R hR⟩
theorem Mess.lift {w w1 : World} {base : Nat} {A : Option Addr} {n c : Nat} {vs : List Value} (h : Mess w base A n c vs) (hB : Below w.heap.size w w1) : Mess w1 base A n c vs :=
  ⟨own_move h.outer fun k hk => hB.block k (own_lt h.outer k hk), fun v hv => by
    obtain ⟨xs, hx⟩ := h.inner v hv
    exact ⟨xs, own_move hx fun k hk => hB.block k (own_lt hx k hk)⟩⟩
theorem Mess.len {w : World} {base : Nat} {A : Option Addr} {n c : Nat} {vs : List Value} (h : Mess w base A n c vs) : vs.length = n := by have := h.outer.1; omega
/-- The j-th row, as a slice. -/
theorem Mess.at_ {w : World} {base : Nat} {A : Option Addr} {n c : Nat} {vs : List Value} (h : Mess w base A n c vs) (j : Nat) (hj : j < n) : ∃ ad B k d, A = some ad ∧ w.cell? (ad.add j) = some (.slice B k d) ∧ (.slice B k d) ∈ vs ∧ k ≤ 9223372036854775807 := by
  have hl := h.len
  obtain ⟨xs, hx⟩ := h.inner vs[j] (List.getElem_mem (by omega))
  obtain ⟨B, d, e⟩ := own_shape hx
  rcases h.outer.2 with ⟨h1, h2⟩ | ⟨g, cap, cur, h1, h2, h3, h4⟩
  · omega
  · injection h1 with h5 h6 h7
    subst h5
    have hc := h.outer.cells (g := g) rfl j vs[j] (by simp [List.getElem?_eq_getElem (show j < vs.length by omega)])
    refine ⟨_, B, xs.length, d, rfl, by rw [hc, e], by rw [← e]; exact List.getElem_mem (by omega), ?_⟩
    have hR : Kd.R (Kd.int .i64) 3 w base (fun _ => True) _ xs := Kd.R_of_own (h1 := fun _ => rfl) (enc := Value.int .i64) hx (fun _ _ => trivial)
    rw [e] at hR
    exact (R_len hR).2.2.2.1
/-- A number is put into one of the rows. -/
theorem Mess.store {w : World} {base : Nat} {A : Option Addr} {n c : Nat} {vs : List Value} (h : Mess w base A n c vs) {B : Option Addr} {k d : Nat} (hm : (.slice B k d) ∈ vs) (i : Nat) (hi : i < k) (x : Int) :
    ∃ g, B = some ⟨g, 0, none⟩ ∧ base ≤ g ∧ (∃ v, w.cell? ⟨g, i, none⟩ = some v) ∧ w.frozen? ⟨g, i, none⟩ = false ∧ Mess (w.setCell ⟨g, i, none⟩ (.int .i64 x)) base A n c vs := by
  obtain ⟨xs, hx⟩ := h.inner _ hm
  have hR : Kd.R (Kd.int .i64) 3 w base (fun _ => True) (.slice B k d) xs := Kd.R_of_own (h1 := fun _ => rfl) (enc := Value.int .i64) hx (fun _ _ => trivial)
  obtain ⟨hl, -, -⟩ := R_len hR
  obtain ⟨g, hg, hgb, -⟩ := R_addr hR (by omega)
  subst hg
  subst hl
  obtain ⟨h1, h2, h3, h4⟩ := put_int (w := w) hR rfl i hi x
  refine ⟨g, rfl, hgb, h1, h2, ?_, fun v hv => ?_⟩
  · have hst := hx.stored i (.int .i64 x)
    refine h.outer.kept hst.2 ?_
    rcases own_type_ne h.outer hx (by decide) with h5 | h5
    · exact .inl h5
    · exact .inr h5
  · obtain ⟨ys, hy⟩ := h.inner v hv
    have hst := hx.stored i (.int .i64 x)
    by_cases e : v.ownBlock = some g
    · rcases hy.2 with ⟨h5, h6⟩ | ⟨g', cap, cur, h5, _⟩
      · rw [h5] at e
        simp [Value.ownBlock] at e
      · have hgg : g' = g := by
          rw [h5] at e
          simpa [Value.ownBlock] using e
        subst hgg
        rw [h5] at hy ⊢
        have h7 := (hy.stored i (.int .i64 x)).1
        rw [show (encs (Value.int .i64) ys).set i (.int .i64 x) = encs (Value.int .i64) (ys.set i x) by simp [encs, List.map_set]] at h7
        exact ⟨ys.set i x, by rw [List.length_set]; exact h7⟩
    · refine ⟨ys, hy.kept hst.2 ?_⟩
      cases hv2 : v.ownBlock with
      | none => exact .inl rfl
      | some k' => exact .inr (by rw [← hv2]; exact e)

theorem sameRows2_walk (A0 : Option Addr) (c0 n : Nat) (l : List (List Int)) (A1 : Option Addr) (c1 : Nat) (w : World) (hn : l.length = n) (hr0 : Kd.C (Kd.slice 3 (Kd.int .i64)) w A0 n l) (hr1 : Kd.C (Kd.slice 3 (Kd.int .i64)) w A1 n l) :
    Calls Try.prog 40 #[.slice A0 n c0, .slice A1 n c1] w fun e w' => e = .returned (.bool true) ∧ Below w.heap.size w w' := by
  subst hn
  refine (lists_walk A0 c0 l A1 c1 l w hr0 hr1).mono ?_
  rintro e w' ⟨rfl, hB⟩
  exact ⟨by simp, hB⟩
theorem lit_two (W : World) (base : Nat) (okp : Nat → Prop) (u v : Value) (xs ys : List Int) (hu : Kd.R (Kd.int .i64) 3 W base okp u xs) (hv : Kd.R (Kd.int .i64) 3 W base okp v ys) :
    ReadsRow ((Kd.slice 3 (Kd.int .i64)).M (W.alloc (.cells #[u, v] 22)) base okp) 1 (W.alloc (.cells #[u, v] 22)) (some ⟨W.heap.size, 0, none⟩) 2 [xs, ys] := by
  have h0 := World.ownsRow_lit (base := W.heap.size) (e := 22) (size := 1) W #[u, v] 2 (Nat.le_refl _) (by decide) (by simp)
  refine ⟨rfl, by decide, fun _ => ⟨_, rfl, fun j p hj => ?_⟩⟩
  match j, hj with
  | 0, hj =>
    have hp : xs = p := by simpa using hj
    subst hp
    refine ⟨[u], rfl, ⟨u, rfl, Kd.R_alloc hu _⟩, fun i z hz => ?_⟩
    cases i with
    | zero =>
      have hz' : u = z := by simpa using hz
      subst hz'
      have := h0.cells rfl 0 u (by simp)
      simpa using this
    | succ i => simp at hz
  | 1, hj =>
    have hp : ys = p := by simpa using hj
    subst hp
    refine ⟨[v], rfl, ⟨v, rfl, Kd.R_alloc hv _⟩, fun i z hz => ?_⟩
    cases i with
    | zero =>
      have hz' : v = z := by simpa using hz
      subst hz'
      have := h0.cells rfl 1 v (by simp)
      simpa using this
    | succ i => simp at hz
  | j + 2, hj => simp at hj

theorem nob32 (A0 : Option Addr) (c0 : Nat) (p : List Int) (A1 : Option Addr) (c1 : Nat) (q : List Int) (w : World) (hr0 : Kd.C (Kd.int .i64) w A0 p.length p) (hr1 : Kd.C (Kd.int .i64) w A1 q.length q) (hw0 : Wf p) (hw1 : Wf q) (E : Int) (hE : bothE p q = E) (h0 : E ≠ 0) : Calls Try.prog 32 #[.slice A0 p.length c0, .slice A1 q.length c1] w fun e w' => e = .returned (.tuple #[.bool false, .int .i64 E]) ∧ Below w.heap.size w w' := by
  subst hE
  exact finer_no A0 c0 p A1 c1 q w hr0 hr1 hw0 hw1 h0

theorem nob30 (A0 : Option Addr) (c0 : Nat) (p : List Int) (A1 : Option Addr) (c1 : Nat) (q : List Int) (w : World) (hr0 : Kd.C (Kd.int .i64) w A0 p.length p) (hr1 : Kd.C (Kd.int .i64) w A1 q.length q) (hw0 : Wf p) (hw1 : Wf q) (E : Int) (hE : bothE p q = E) (h0 : E ≠ 0) : Calls Try.prog 30 #[.slice A0 p.length c0, .slice A1 q.length c1] w fun e w' => e = .returned (.tuple #[.slice none 0 0, .int .i64 E]) ∧ Below w.heap.size w w' := by
  subst hE
  exact meet_no A0 c0 p A1 c1 q w hr0 hr1 hw0 hw1 h0

theorem nob31 (A0 : Option Addr) (c0 : Nat) (p : List Int) (A1 : Option Addr) (c1 : Nat) (q : List Int) (w : World) (hr0 : Kd.C (Kd.int .i64) w A0 p.length p) (hr1 : Kd.C (Kd.int .i64) w A1 q.length q) (hw0 : Wf p) (hw1 : Wf q) (E : Int) (hE : bothE p q = E) (h0 : E ≠ 0) : Calls Try.prog 31 #[.slice A0 p.length c0, .slice A1 q.length c1] w fun e w' => e = .returned (.tuple #[.slice none 0 0, .int .i64 E]) ∧ Below w.heap.size w w' := by
  subst hE
  exact join_no A0 c0 p A1 c1 q w hr0 hr1 hw0 hw1 h0

theorem countNo (A0 : Option Addr) (c0 : Nat) (p : List Int) (w : World) (hr0 : Kd.C (Kd.int .i64) w A0 p.length p) (hw0 : Wf p) (hp : ¬ rightP p) : Calls Try.prog 34 #[.slice A0 p.length c0] w fun e w' => e = .returned (.tuple #[.int .i64 0, .int .i64 60]) ∧ Below w.heap.size w w' := by
  have h := countOf_walk A0 c0 p w hr0 hw0
  rwa [if_neg hp, if_neg hp] at h
theorem rightB (A0 : Option Addr) (c0 : Nat) (p : List Int) (w : World) (hr0 : Kd.C (Kd.int .i64) w A0 p.length p) (hw0 : Wf p) (b : Bool) (hb : decide (rightP p) = b) : Calls Try.prog 37 #[.slice A0 p.length c0] w fun e w' => e = .returned (.bool b) ∧ Below w.heap.size w w' := by
  subst hb
  exact right_walk A0 c0 p w hr0 hw0
theorem refRightB (A0 : Option Addr) (c0 : Nat) (p : List Int) (w : World) (hr0 : Kd.C (Kd.int .i64) w A0 p.length p) (hn : p.length ≤ 1000000) (b : Bool) (hb : decide (rightP p) = b) : Calls Try.prog 47 #[.slice A0 p.length c0] w fun e w' => e = .returned (.bool b) ∧ Below w.heap.size w w' := by
  subst hb
  exact refRight_walk A0 c0 p w hr0 hn
theorem refCountB (A0 : Option Addr) (c0 : Nat) (p : List Int) (w : World) (hr0 : Kd.C (Kd.int .i64) w A0 p.length p) (hp : rightP p) (N : Nat) (hN : countP p = N) : Calls Try.prog 59 #[.slice A0 p.length c0] w fun e w' => e = .returned (.int .i64 N) ∧ Below w.heap.size w w' := by
  rw [← hN]
  exact refCount_walk A0 c0 p w hr0 hp
theorem refMembersB (A0 : Option Addr) (c0 : Nat) (p : List Int) (w : World) (hr0 : Kd.C (Kd.int .i64) w A0 p.length p) (hp : rightP p) (N : Nat) (hN : countP p = N) : Calls Try.prog 60 #[.slice A0 p.length c0] w fun e w' => ∃ A c, e = .returned (.slice A N c) ∧ Kd.C (Kd.slice 3 (Kd.int .i64)) w' A N (membersP p) ∧ Below w.heap.size w w' := by
  refine (refMembers_walk A0 c0 p w hr0 hp).mono ?_
  rintro e w' ⟨v, rfl, hR, hB⟩
  obtain ⟨A, c, rfl, hC⟩ := r_read hR (by unfold membersP; rw [rowsP_length, hN, Int.toNat_natCast])
  exact ⟨A, c, rfl, hC, hB⟩

set_option maxRecDepth 100000 in
set_option maxHeartbeats 8000000 in
theorem pairs_no (A0 : Option Addr) (c0 : Nat) (p : List Int) (A1 : Option Addr) (c1 : Nat) (q : List Int) (w : World) (hr0 : Kd.C (Kd.int .i64) w A0 p.length p) (hr1 : Kd.C (Kd.int .i64) w A1 q.length q) (hw0 : Wf p) (hw1 : Wf q) (hp1 : p.length ≤ 1000) (hq1 : q.length ≤ 1000) (hno : ¬ (rightP p ∧ rightP q ∧ p.length = q.length)) :
    Calls Try.prog 38 #[.slice A0 p.length c0, .slice A1 q.length c1] w fun e w' => e = .returned (.bool true) ∧ Below w.heap.size w w' := by
  have HB_0 := Aside0.mk (Below.refl w.heap.size w)
  have FA_0 := Aside0.mk hr0
  have FB_0 := Aside0.mk hr1
  have HW0 := Aside0.mk hw0
  have HW1 := Aside0.mk hw1
  clear hr0 hr1 hw0 hw1
  by_cases hp : rightP p
  · obtain ⟨N, hcn⟩ : ∃ N : Nat, countP p = N := ⟨(countP p).toNat, by have := count_bounds hp; omega⟩
    have hN1 : N ≤ 1000 := by have := (count_bounds hp).2; omega
    have HRB := Aside0.mk (decide_eq_true hp)
    have HPN := Aside0.mk (PartN.mk hp rfl : PartN p.length p)
    have HCN := Aside0.mk hcn
    have HML := Aside0.mk (show (membersP p).length = N by unfold membersP; rw [rowsP_length, hcn, Int.toNat_natCast])
    by_cases hq : rightP q
    · have hl : p.length ≠ q.length := fun h => hno ⟨hp, hq, h⟩
      have HRQ := Aside0.mk (decide_eq_true hq)
      have HE := Aside0.mk (show bothE p q = 2 by simp [bothE, hp, hq, hl])
      have g1 : ((p.length : Int) == (q.length : Int)) = false := beq_eq_false_iff_ne.mpr (by omega)
      have g2 : ((p.length : Int) != (q.length : Int)) = true := bne_iff_ne.mpr (by omega)
      have g3 : (p.length == q.length) = false := by simpa using hl
      clear hno hp hq hcn hl
      go_enter Try.func38, Try.ntmps38
      go_wp2_with (first
        | (go_at_call 15; refine (cloneC_walk A0 c0 p w FA_0.out (by omega)).mono ?_; rintro e w1 ⟨A2, c2, rfl, hC, hB⟩; have FP_1 := Aside0.mk (hC); have FA_1 := Aside0.mk (Kd.C_below FA_0.out hB); have FB_1 := Aside0.mk (Kd.C_below FB_0.out hB); have HB_1 := Aside0.mk (HB_0.out.trans (hB.mono HB_0.out.size)); clear hC; clear hB HB_0 FA_0 FB_0)
        | (go_at_call 15; refine (cloneC_walk A1 c1 q w1 FB_1.out (by omega)).mono ?_; rintro e w2 ⟨A3, c3, rfl, hC, hB⟩; have FQ_2 := Aside0.mk (hC); have FA_2 := Aside0.mk (Kd.C_below FA_1.out hB); have FB_2 := Aside0.mk (Kd.C_below FB_1.out hB); have FP_2 := Aside0.mk (Kd.C_below FP_1.out hB); have HB_2 := Aside0.mk (HB_1.out.trans (hB.mono HB_1.out.size)); clear hC; clear hB HB_1 FA_1 FB_1 FP_1)
        | (go_at_call 32; refine (nob32 A2 c2 p A3 c3 q w2 FP_2.out FQ_2.out HW0.out HW1.out _ HE.out (by decide)).mono ?_; rintro e w3 ⟨rfl, hB⟩; have FA_3 := Aside0.mk (Kd.C_below FA_2.out hB); have FB_3 := Aside0.mk (Kd.C_below FB_2.out hB); have FP_3 := Aside0.mk (Kd.C_below FP_2.out hB); have FQ_3 := Aside0.mk (Kd.C_below FQ_2.out hB); have HB_3 := Aside0.mk (HB_2.out.trans (hB.mono HB_2.out.size)); clear hB HB_2 FA_2 FB_2 FP_2 FQ_2)
        | (go_at_call 30; refine (nob30 A2 c2 p A3 c3 q w3 FP_3.out FQ_3.out HW0.out HW1.out _ HE.out (by decide)).mono ?_; rintro e w4 ⟨rfl, hB⟩; have FA_4 := Aside0.mk (Kd.C_below FA_3.out hB); have FB_4 := Aside0.mk (Kd.C_below FB_3.out hB); have FP_4 := Aside0.mk (Kd.C_below FP_3.out hB); have FQ_4 := Aside0.mk (Kd.C_below FQ_3.out hB); have HB_4 := Aside0.mk (HB_3.out.trans (hB.mono HB_3.out.size)); clear hB HB_3 FA_3 FB_3 FP_3 FQ_3)
        | (go_at_call 31; refine (nob31 A2 c2 p A3 c3 q w4 FP_4.out FQ_4.out HW0.out HW1.out _ HE.out (by decide)).mono ?_; rintro e w5 ⟨rfl, hB⟩; have FA_5 := Aside0.mk (Kd.C_below FA_4.out hB); have FB_5 := Aside0.mk (Kd.C_below FB_4.out hB); have FP_5 := Aside0.mk (Kd.C_below FP_4.out hB); have FQ_5 := Aside0.mk (Kd.C_below FQ_4.out hB); have HB_5 := Aside0.mk (HB_4.out.trans (hB.mono HB_4.out.size)); clear hB HB_4 FA_4 FB_4 FP_4 FQ_4)
        | (go_at_call 34; refine (countN A2 c2 p.length p w5 HPN.out FP_5.out N HCN.out).mono ?_; rintro e w6 ⟨rfl, hB⟩; have FA_6 := Aside0.mk (Kd.C_below FA_5.out hB); have FB_6 := Aside0.mk (Kd.C_below FB_5.out hB); have FP_6 := Aside0.mk (Kd.C_below FP_5.out hB); have FQ_6 := Aside0.mk (Kd.C_below FQ_5.out hB); have HB_6 := Aside0.mk (HB_5.out.trans (hB.mono HB_5.out.size)); clear hB HB_5 FA_5 FB_5 FP_5 FQ_5)
        | (go_at_call 36; refine (membersN A2 c2 p.length p w6 HPN.out FP_6.out N HCN.out).mono ?_; rintro e w7 ⟨A4, c4, rfl, hC, hB⟩; have FL_7 := Aside0.mk (hC); have FA_7 := Aside0.mk (Kd.C_below FA_6.out hB); have FB_7 := Aside0.mk (Kd.C_below FB_6.out hB); have FP_7 := Aside0.mk (Kd.C_below FP_6.out hB); have FQ_7 := Aside0.mk (Kd.C_below FQ_6.out hB); have HB_7 := Aside0.mk (HB_6.out.trans (hB.mono HB_6.out.size)); clear hC; clear hB HB_6 FA_6 FB_6 FP_6 FQ_6)
        | (go_at_call 19; refine (same_walk A2 c2 p A0 c0 w7 FP_7.out FA_7.out).mono ?_; rintro e w8 ⟨rfl, hB⟩; have FA_8 := Aside0.mk (Kd.C_below FA_7.out hB); have FB_8 := Aside0.mk (Kd.C_below FB_7.out hB); have FP_8 := Aside0.mk (Kd.C_below FP_7.out hB); have FQ_8 := Aside0.mk (Kd.C_below FQ_7.out hB); have FL_8 := Aside0.mk (Kd.C_below FL_7.out hB); have HB_8 := Aside0.mk (HB_7.out.trans (hB.mono HB_7.out.size)); clear hB HB_7 FA_7 FB_7 FP_7 FQ_7 FL_7)
        | (go_at_call 19; refine (same_walk A3 c3 q A1 c1 w8 FQ_8.out FB_8.out).mono ?_; rintro e w9 ⟨rfl, hB⟩; have FA_9 := Aside0.mk (Kd.C_below FA_8.out hB); have FB_9 := Aside0.mk (Kd.C_below FB_8.out hB); have FP_9 := Aside0.mk (Kd.C_below FP_8.out hB); have FQ_9 := Aside0.mk (Kd.C_below FQ_8.out hB); have FL_9 := Aside0.mk (Kd.C_below FL_8.out hB); have HB_9 := Aside0.mk (HB_8.out.trans (hB.mono HB_8.out.size)); clear hB HB_8 FA_8 FB_8 FP_8 FQ_8 FL_8)
        | (go_at_call 37; refine (rightB A2 c2 p w9 FP_9.out HW0.out _ HRB.out).mono ?_; rintro e w10 ⟨rfl, hB⟩; have FA_10 := Aside0.mk (Kd.C_below FA_9.out hB); have FB_10 := Aside0.mk (Kd.C_below FB_9.out hB); have FP_10 := Aside0.mk (Kd.C_below FP_9.out hB); have FQ_10 := Aside0.mk (Kd.C_below FQ_9.out hB); have FL_10 := Aside0.mk (Kd.C_below FL_9.out hB); have HB_10 := Aside0.mk (HB_9.out.trans (hB.mono HB_9.out.size)); clear hB HB_9 FA_9 FB_9 FP_9 FQ_9 FL_9)
        | (go_at_call 47; refine (refRightB A0 c0 p w10 FA_10.out (by omega) _ HRB.out).mono ?_; rintro e w11 ⟨rfl, hB⟩; have FA_11 := Aside0.mk (Kd.C_below FA_10.out hB); have FB_11 := Aside0.mk (Kd.C_below FB_10.out hB); have FP_11 := Aside0.mk (Kd.C_below FP_10.out hB); have FQ_11 := Aside0.mk (Kd.C_below FQ_10.out hB); have FL_11 := Aside0.mk (Kd.C_below FL_10.out hB); have HB_11 := Aside0.mk (HB_10.out.trans (hB.mono HB_10.out.size)); clear hB HB_10 FA_10 FB_10 FP_10 FQ_10 FL_10)
        | (go_at_call 47; refine (refRightB A0 c0 p w11 FA_11.out (by omega) _ HRB.out).mono ?_; rintro e w12 ⟨rfl, hB⟩; have FA_12 := Aside0.mk (Kd.C_below FA_11.out hB); have FB_12 := Aside0.mk (Kd.C_below FB_11.out hB); have FP_12 := Aside0.mk (Kd.C_below FP_11.out hB); have FQ_12 := Aside0.mk (Kd.C_below FQ_11.out hB); have FL_12 := Aside0.mk (Kd.C_below FL_11.out hB); have HB_12 := Aside0.mk (HB_11.out.trans (hB.mono HB_11.out.size)); clear hB HB_11 FA_11 FB_11 FP_11 FQ_11 FL_11)
        | (go_at_call 59; refine (refCountB A0 c0 p w12 FA_12.out HPN.out.right N HCN.out).mono ?_; rintro e w13 ⟨rfl, hB⟩; have FA_13 := Aside0.mk (Kd.C_below FA_12.out hB); have FB_13 := Aside0.mk (Kd.C_below FB_12.out hB); have FP_13 := Aside0.mk (Kd.C_below FP_12.out hB); have FQ_13 := Aside0.mk (Kd.C_below FQ_12.out hB); have FL_13 := Aside0.mk (Kd.C_below FL_12.out hB); have HB_13 := Aside0.mk (HB_12.out.trans (hB.mono HB_12.out.size)); clear hB HB_12 FA_12 FB_12 FP_12 FQ_12 FL_12)
        | (go_at_call 60; refine (refMembersB A0 c0 p w13 FA_13.out HPN.out.right N HCN.out).mono ?_; rintro e w14 ⟨A5, c5, rfl, hC, hB⟩; have FM_14 := Aside0.mk (hC); have FA_14 := Aside0.mk (Kd.C_below FA_13.out hB); have FB_14 := Aside0.mk (Kd.C_below FB_13.out hB); have FP_14 := Aside0.mk (Kd.C_below FP_13.out hB); have FQ_14 := Aside0.mk (Kd.C_below FQ_13.out hB); have FL_14 := Aside0.mk (Kd.C_below FL_13.out hB); have HB_14 := Aside0.mk (HB_13.out.trans (hB.mono HB_13.out.size)); clear hC; clear hB HB_13 FA_13 FB_13 FP_13 FQ_13 FL_13)
        | (go_at_call 40; refine (sameRows2_walk A4 c4 N (membersP p) A5 c5 w14 HML.out FL_14.out FM_14.out).mono ?_; rintro e w15 ⟨rfl, hB⟩; have FA_15 := Aside0.mk (Kd.C_below FA_14.out hB); have FB_15 := Aside0.mk (Kd.C_below FB_14.out hB); have FP_15 := Aside0.mk (Kd.C_below FP_14.out hB); have FQ_15 := Aside0.mk (Kd.C_below FQ_14.out hB); have FL_15 := Aside0.mk (Kd.C_below FL_14.out hB); have HB_15 := Aside0.mk (HB_14.out.trans (hB.mono HB_14.out.size)); clear hB HB_14 FA_14 FB_14 FP_14 FQ_14 FL_14 FM_14)
        | (go_at_call 47; refine (refRightB A1 c1 q w15 FB_15.out (by omega) _ HRQ.out).mono ?_; rintro e w16 ⟨rfl, hB⟩; have FA_16 := Aside0.mk (Kd.C_below FA_15.out hB); have FB_16 := Aside0.mk (Kd.C_below FB_15.out hB); have FP_16 := Aside0.mk (Kd.C_below FP_15.out hB); have FQ_16 := Aside0.mk (Kd.C_below FQ_15.out hB); have FL_16 := Aside0.mk (Kd.C_below FL_15.out hB); have HB_16 := Aside0.mk (HB_15.out.trans (hB.mono HB_15.out.size)); clear hB HB_15 FA_15 FB_15 FP_15 FQ_15 FL_15))
      go_ret
      exact ⟨rfl, HB_16.out⟩
    · have HRQ := Aside0.mk (decide_eq_false hq)
      have HE := Aside0.mk (show bothE p q = 60 by simp [bothE, hq])
      clear hno hp hq hcn
      go_enter Try.func38, Try.ntmps38
      go_wp2_with (first
        | (go_at_call 15; refine (cloneC_walk A0 c0 p w FA_0.out (by omega)).mono ?_; rintro e w1 ⟨A2, c2, rfl, hC, hB⟩; have FP_1 := Aside0.mk (hC); have FA_1 := Aside0.mk (Kd.C_below FA_0.out hB); have FB_1 := Aside0.mk (Kd.C_below FB_0.out hB); have HB_1 := Aside0.mk (HB_0.out.trans (hB.mono HB_0.out.size)); clear hC; clear hB HB_0 FA_0 FB_0)
        | (go_at_call 15; refine (cloneC_walk A1 c1 q w1 FB_1.out (by omega)).mono ?_; rintro e w2 ⟨A3, c3, rfl, hC, hB⟩; have FQ_2 := Aside0.mk (hC); have FA_2 := Aside0.mk (Kd.C_below FA_1.out hB); have FB_2 := Aside0.mk (Kd.C_below FB_1.out hB); have FP_2 := Aside0.mk (Kd.C_below FP_1.out hB); have HB_2 := Aside0.mk (HB_1.out.trans (hB.mono HB_1.out.size)); clear hC; clear hB HB_1 FA_1 FB_1 FP_1)
        | (go_at_call 32; refine (nob32 A2 c2 p A3 c3 q w2 FP_2.out FQ_2.out HW0.out HW1.out _ HE.out (by decide)).mono ?_; rintro e w3 ⟨rfl, hB⟩; have FA_3 := Aside0.mk (Kd.C_below FA_2.out hB); have FB_3 := Aside0.mk (Kd.C_below FB_2.out hB); have FP_3 := Aside0.mk (Kd.C_below FP_2.out hB); have FQ_3 := Aside0.mk (Kd.C_below FQ_2.out hB); have HB_3 := Aside0.mk (HB_2.out.trans (hB.mono HB_2.out.size)); clear hB HB_2 FA_2 FB_2 FP_2 FQ_2)
        | (go_at_call 30; refine (nob30 A2 c2 p A3 c3 q w3 FP_3.out FQ_3.out HW0.out HW1.out _ HE.out (by decide)).mono ?_; rintro e w4 ⟨rfl, hB⟩; have FA_4 := Aside0.mk (Kd.C_below FA_3.out hB); have FB_4 := Aside0.mk (Kd.C_below FB_3.out hB); have FP_4 := Aside0.mk (Kd.C_below FP_3.out hB); have FQ_4 := Aside0.mk (Kd.C_below FQ_3.out hB); have HB_4 := Aside0.mk (HB_3.out.trans (hB.mono HB_3.out.size)); clear hB HB_3 FA_3 FB_3 FP_3 FQ_3)
        | (go_at_call 31; refine (nob31 A2 c2 p A3 c3 q w4 FP_4.out FQ_4.out HW0.out HW1.out _ HE.out (by decide)).mono ?_; rintro e w5 ⟨rfl, hB⟩; have FA_5 := Aside0.mk (Kd.C_below FA_4.out hB); have FB_5 := Aside0.mk (Kd.C_below FB_4.out hB); have FP_5 := Aside0.mk (Kd.C_below FP_4.out hB); have FQ_5 := Aside0.mk (Kd.C_below FQ_4.out hB); have HB_5 := Aside0.mk (HB_4.out.trans (hB.mono HB_4.out.size)); clear hB HB_4 FA_4 FB_4 FP_4 FQ_4)
        | (go_at_call 34; refine (countN A2 c2 p.length p w5 HPN.out FP_5.out N HCN.out).mono ?_; rintro e w6 ⟨rfl, hB⟩; have FA_6 := Aside0.mk (Kd.C_below FA_5.out hB); have FB_6 := Aside0.mk (Kd.C_below FB_5.out hB); have FP_6 := Aside0.mk (Kd.C_below FP_5.out hB); have FQ_6 := Aside0.mk (Kd.C_below FQ_5.out hB); have HB_6 := Aside0.mk (HB_5.out.trans (hB.mono HB_5.out.size)); clear hB HB_5 FA_5 FB_5 FP_5 FQ_5)
        | (go_at_call 36; refine (membersN A2 c2 p.length p w6 HPN.out FP_6.out N HCN.out).mono ?_; rintro e w7 ⟨A4, c4, rfl, hC, hB⟩; have FL_7 := Aside0.mk (hC); have FA_7 := Aside0.mk (Kd.C_below FA_6.out hB); have FB_7 := Aside0.mk (Kd.C_below FB_6.out hB); have FP_7 := Aside0.mk (Kd.C_below FP_6.out hB); have FQ_7 := Aside0.mk (Kd.C_below FQ_6.out hB); have HB_7 := Aside0.mk (HB_6.out.trans (hB.mono HB_6.out.size)); clear hC; clear hB HB_6 FA_6 FB_6 FP_6 FQ_6)
        | (go_at_call 19; refine (same_walk A2 c2 p A0 c0 w7 FP_7.out FA_7.out).mono ?_; rintro e w8 ⟨rfl, hB⟩; have FA_8 := Aside0.mk (Kd.C_below FA_7.out hB); have FB_8 := Aside0.mk (Kd.C_below FB_7.out hB); have FP_8 := Aside0.mk (Kd.C_below FP_7.out hB); have FQ_8 := Aside0.mk (Kd.C_below FQ_7.out hB); have FL_8 := Aside0.mk (Kd.C_below FL_7.out hB); have HB_8 := Aside0.mk (HB_7.out.trans (hB.mono HB_7.out.size)); clear hB HB_7 FA_7 FB_7 FP_7 FQ_7 FL_7)
        | (go_at_call 19; refine (same_walk A3 c3 q A1 c1 w8 FQ_8.out FB_8.out).mono ?_; rintro e w9 ⟨rfl, hB⟩; have FA_9 := Aside0.mk (Kd.C_below FA_8.out hB); have FB_9 := Aside0.mk (Kd.C_below FB_8.out hB); have FP_9 := Aside0.mk (Kd.C_below FP_8.out hB); have FQ_9 := Aside0.mk (Kd.C_below FQ_8.out hB); have FL_9 := Aside0.mk (Kd.C_below FL_8.out hB); have HB_9 := Aside0.mk (HB_8.out.trans (hB.mono HB_8.out.size)); clear hB HB_8 FA_8 FB_8 FP_8 FQ_8 FL_8)
        | (go_at_call 37; refine (rightB A2 c2 p w9 FP_9.out HW0.out _ HRB.out).mono ?_; rintro e w10 ⟨rfl, hB⟩; have FA_10 := Aside0.mk (Kd.C_below FA_9.out hB); have FB_10 := Aside0.mk (Kd.C_below FB_9.out hB); have FP_10 := Aside0.mk (Kd.C_below FP_9.out hB); have FQ_10 := Aside0.mk (Kd.C_below FQ_9.out hB); have FL_10 := Aside0.mk (Kd.C_below FL_9.out hB); have HB_10 := Aside0.mk (HB_9.out.trans (hB.mono HB_9.out.size)); clear hB HB_9 FA_9 FB_9 FP_9 FQ_9 FL_9)
        | (go_at_call 47; refine (refRightB A0 c0 p w10 FA_10.out (by omega) _ HRB.out).mono ?_; rintro e w11 ⟨rfl, hB⟩; have FA_11 := Aside0.mk (Kd.C_below FA_10.out hB); have FB_11 := Aside0.mk (Kd.C_below FB_10.out hB); have FP_11 := Aside0.mk (Kd.C_below FP_10.out hB); have FQ_11 := Aside0.mk (Kd.C_below FQ_10.out hB); have FL_11 := Aside0.mk (Kd.C_below FL_10.out hB); have HB_11 := Aside0.mk (HB_10.out.trans (hB.mono HB_10.out.size)); clear hB HB_10 FA_10 FB_10 FP_10 FQ_10 FL_10)
        | (go_at_call 47; refine (refRightB A0 c0 p w11 FA_11.out (by omega) _ HRB.out).mono ?_; rintro e w12 ⟨rfl, hB⟩; have FA_12 := Aside0.mk (Kd.C_below FA_11.out hB); have FB_12 := Aside0.mk (Kd.C_below FB_11.out hB); have FP_12 := Aside0.mk (Kd.C_below FP_11.out hB); have FQ_12 := Aside0.mk (Kd.C_below FQ_11.out hB); have FL_12 := Aside0.mk (Kd.C_below FL_11.out hB); have HB_12 := Aside0.mk (HB_11.out.trans (hB.mono HB_11.out.size)); clear hB HB_11 FA_11 FB_11 FP_11 FQ_11 FL_11)
        | (go_at_call 59; refine (refCountB A0 c0 p w12 FA_12.out HPN.out.right N HCN.out).mono ?_; rintro e w13 ⟨rfl, hB⟩; have FA_13 := Aside0.mk (Kd.C_below FA_12.out hB); have FB_13 := Aside0.mk (Kd.C_below FB_12.out hB); have FP_13 := Aside0.mk (Kd.C_below FP_12.out hB); have FQ_13 := Aside0.mk (Kd.C_below FQ_12.out hB); have FL_13 := Aside0.mk (Kd.C_below FL_12.out hB); have HB_13 := Aside0.mk (HB_12.out.trans (hB.mono HB_12.out.size)); clear hB HB_12 FA_12 FB_12 FP_12 FQ_12 FL_12)
        | (go_at_call 60; refine (refMembersB A0 c0 p w13 FA_13.out HPN.out.right N HCN.out).mono ?_; rintro e w14 ⟨A5, c5, rfl, hC, hB⟩; have FM_14 := Aside0.mk (hC); have FA_14 := Aside0.mk (Kd.C_below FA_13.out hB); have FB_14 := Aside0.mk (Kd.C_below FB_13.out hB); have FP_14 := Aside0.mk (Kd.C_below FP_13.out hB); have FQ_14 := Aside0.mk (Kd.C_below FQ_13.out hB); have FL_14 := Aside0.mk (Kd.C_below FL_13.out hB); have HB_14 := Aside0.mk (HB_13.out.trans (hB.mono HB_13.out.size)); clear hC; clear hB HB_13 FA_13 FB_13 FP_13 FQ_13 FL_13)
        | (go_at_call 40; refine (sameRows2_walk A4 c4 N (membersP p) A5 c5 w14 HML.out FL_14.out FM_14.out).mono ?_; rintro e w15 ⟨rfl, hB⟩; have FA_15 := Aside0.mk (Kd.C_below FA_14.out hB); have FB_15 := Aside0.mk (Kd.C_below FB_14.out hB); have FP_15 := Aside0.mk (Kd.C_below FP_14.out hB); have FQ_15 := Aside0.mk (Kd.C_below FQ_14.out hB); have FL_15 := Aside0.mk (Kd.C_below FL_14.out hB); have HB_15 := Aside0.mk (HB_14.out.trans (hB.mono HB_14.out.size)); clear hB HB_14 FA_14 FB_14 FP_14 FQ_14 FL_14 FM_14)
        | (go_at_call 47; refine (refRightB A1 c1 q w15 FB_15.out (by omega) _ HRQ.out).mono ?_; rintro e w16 ⟨rfl, hB⟩; have FA_16 := Aside0.mk (Kd.C_below FA_15.out hB); have FB_16 := Aside0.mk (Kd.C_below FB_15.out hB); have FP_16 := Aside0.mk (Kd.C_below FP_15.out hB); have FQ_16 := Aside0.mk (Kd.C_below FQ_15.out hB); have FL_16 := Aside0.mk (Kd.C_below FL_15.out hB); have HB_16 := Aside0.mk (HB_15.out.trans (hB.mono HB_15.out.size)); clear hB HB_15 FA_15 FB_15 FP_15 FQ_15 FL_15))
      go_ret
      exact ⟨rfl, HB_16.out⟩
  · have HNP := Aside0.mk hp
    have HRB := Aside0.mk (decide_eq_false hp)
    have HE := Aside0.mk (show bothE p q = 60 by simp [bothE, hp])
    clear hno hp
    go_enter Try.func38, Try.ntmps38
    go_wp2_with (first
      | (go_at_call 15; refine (cloneC_walk A0 c0 p w FA_0.out (by omega)).mono ?_; rintro e w1 ⟨A2, c2, rfl, hC, hB⟩; have FP_1 := Aside0.mk (hC); have FA_1 := Aside0.mk (Kd.C_below FA_0.out hB); have FB_1 := Aside0.mk (Kd.C_below FB_0.out hB); have HB_1 := Aside0.mk (HB_0.out.trans (hB.mono HB_0.out.size)); clear hC; clear hB HB_0 FA_0 FB_0)
      | (go_at_call 15; refine (cloneC_walk A1 c1 q w1 FB_1.out (by omega)).mono ?_; rintro e w2 ⟨A3, c3, rfl, hC, hB⟩; have FQ_2 := Aside0.mk (hC); have FA_2 := Aside0.mk (Kd.C_below FA_1.out hB); have FB_2 := Aside0.mk (Kd.C_below FB_1.out hB); have FP_2 := Aside0.mk (Kd.C_below FP_1.out hB); have HB_2 := Aside0.mk (HB_1.out.trans (hB.mono HB_1.out.size)); clear hC; clear hB HB_1 FA_1 FB_1 FP_1)
      | (go_at_call 32; refine (nob32 A2 c2 p A3 c3 q w2 FP_2.out FQ_2.out HW0.out HW1.out _ HE.out (by decide)).mono ?_; rintro e w3 ⟨rfl, hB⟩; have FA_3 := Aside0.mk (Kd.C_below FA_2.out hB); have FB_3 := Aside0.mk (Kd.C_below FB_2.out hB); have FP_3 := Aside0.mk (Kd.C_below FP_2.out hB); have FQ_3 := Aside0.mk (Kd.C_below FQ_2.out hB); have HB_3 := Aside0.mk (HB_2.out.trans (hB.mono HB_2.out.size)); clear hB HB_2 FA_2 FB_2 FP_2 FQ_2)
      | (go_at_call 30; refine (nob30 A2 c2 p A3 c3 q w3 FP_3.out FQ_3.out HW0.out HW1.out _ HE.out (by decide)).mono ?_; rintro e w4 ⟨rfl, hB⟩; have FA_4 := Aside0.mk (Kd.C_below FA_3.out hB); have FB_4 := Aside0.mk (Kd.C_below FB_3.out hB); have FP_4 := Aside0.mk (Kd.C_below FP_3.out hB); have FQ_4 := Aside0.mk (Kd.C_below FQ_3.out hB); have HB_4 := Aside0.mk (HB_3.out.trans (hB.mono HB_3.out.size)); clear hB HB_3 FA_3 FB_3 FP_3 FQ_3)
      | (go_at_call 31; refine (nob31 A2 c2 p A3 c3 q w4 FP_4.out FQ_4.out HW0.out HW1.out _ HE.out (by decide)).mono ?_; rintro e w5 ⟨rfl, hB⟩; have FA_5 := Aside0.mk (Kd.C_below FA_4.out hB); have FB_5 := Aside0.mk (Kd.C_below FB_4.out hB); have FP_5 := Aside0.mk (Kd.C_below FP_4.out hB); have FQ_5 := Aside0.mk (Kd.C_below FQ_4.out hB); have HB_5 := Aside0.mk (HB_4.out.trans (hB.mono HB_4.out.size)); clear hB HB_4 FA_4 FB_4 FP_4 FQ_4)
      | (go_at_call 34; refine (countNo A2 c2 p w5 FP_5.out HW0.out HNP.out).mono ?_; rintro e w6 ⟨rfl, hB⟩; have FA_6 := Aside0.mk (Kd.C_below FA_5.out hB); have FB_6 := Aside0.mk (Kd.C_below FB_5.out hB); have FP_6 := Aside0.mk (Kd.C_below FP_5.out hB); have FQ_6 := Aside0.mk (Kd.C_below FQ_5.out hB); have HB_6 := Aside0.mk (HB_5.out.trans (hB.mono HB_5.out.size)); clear hB HB_5 FA_5 FB_5 FP_5 FQ_5)
      | (go_at_call 36; refine (members_no A2 c2 p w6 FP_6.out HW0.out HNP.out).mono ?_; rintro e w7 ⟨rfl, hB⟩; have FA_7 := Aside0.mk (Kd.C_below FA_6.out hB); have FB_7 := Aside0.mk (Kd.C_below FB_6.out hB); have FP_7 := Aside0.mk (Kd.C_below FP_6.out hB); have FQ_7 := Aside0.mk (Kd.C_below FQ_6.out hB); have HB_7 := Aside0.mk (HB_6.out.trans (hB.mono HB_6.out.size)); clear hB HB_6 FA_6 FB_6 FP_6 FQ_6)
      | (go_at_call 19; refine (same_walk A2 c2 p A0 c0 w7 FP_7.out FA_7.out).mono ?_; rintro e w8 ⟨rfl, hB⟩; have FA_8 := Aside0.mk (Kd.C_below FA_7.out hB); have FB_8 := Aside0.mk (Kd.C_below FB_7.out hB); have FP_8 := Aside0.mk (Kd.C_below FP_7.out hB); have FQ_8 := Aside0.mk (Kd.C_below FQ_7.out hB); have HB_8 := Aside0.mk (HB_7.out.trans (hB.mono HB_7.out.size)); clear hB HB_7 FA_7 FB_7 FP_7 FQ_7)
      | (go_at_call 19; refine (same_walk A3 c3 q A1 c1 w8 FQ_8.out FB_8.out).mono ?_; rintro e w9 ⟨rfl, hB⟩; have FA_9 := Aside0.mk (Kd.C_below FA_8.out hB); have FB_9 := Aside0.mk (Kd.C_below FB_8.out hB); have FP_9 := Aside0.mk (Kd.C_below FP_8.out hB); have FQ_9 := Aside0.mk (Kd.C_below FQ_8.out hB); have HB_9 := Aside0.mk (HB_8.out.trans (hB.mono HB_8.out.size)); clear hB HB_8 FA_8 FB_8 FP_8 FQ_8)
      | (go_at_call 37; refine (rightB A2 c2 p w9 FP_9.out HW0.out _ HRB.out).mono ?_; rintro e w10 ⟨rfl, hB⟩; have FA_10 := Aside0.mk (Kd.C_below FA_9.out hB); have FB_10 := Aside0.mk (Kd.C_below FB_9.out hB); have FP_10 := Aside0.mk (Kd.C_below FP_9.out hB); have FQ_10 := Aside0.mk (Kd.C_below FQ_9.out hB); have HB_10 := Aside0.mk (HB_9.out.trans (hB.mono HB_9.out.size)); clear hB HB_9 FA_9 FB_9 FP_9 FQ_9)
      | (go_at_call 47; refine (refRightB A0 c0 p w10 FA_10.out (by omega) _ HRB.out).mono ?_; rintro e w11 ⟨rfl, hB⟩; have FA_11 := Aside0.mk (Kd.C_below FA_10.out hB); have FB_11 := Aside0.mk (Kd.C_below FB_10.out hB); have FP_11 := Aside0.mk (Kd.C_below FP_10.out hB); have FQ_11 := Aside0.mk (Kd.C_below FQ_10.out hB); have HB_11 := Aside0.mk (HB_10.out.trans (hB.mono HB_10.out.size)); clear hB HB_10 FA_10 FB_10 FP_10 FQ_10)
      | (go_at_call 47; refine (refRightB A0 c0 p w11 FA_11.out (by omega) _ HRB.out).mono ?_; rintro e w12 ⟨rfl, hB⟩; have FA_12 := Aside0.mk (Kd.C_below FA_11.out hB); have FB_12 := Aside0.mk (Kd.C_below FB_11.out hB); have FP_12 := Aside0.mk (Kd.C_below FP_11.out hB); have FQ_12 := Aside0.mk (Kd.C_below FQ_11.out hB); have HB_12 := Aside0.mk (HB_11.out.trans (hB.mono HB_11.out.size)); clear hB HB_11 FA_11 FB_11 FP_11 FQ_11))
    go_ret
    exact ⟨rfl, HB_12.out⟩
end Go.Proofs.Ytboofecfmhbacaa
