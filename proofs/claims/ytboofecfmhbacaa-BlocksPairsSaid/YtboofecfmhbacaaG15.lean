/- The walk of the laws' helper awake: the chapter's examples. -/
import Derived.Test.YtboofecfmhbacaaG14
namespace Go.Proofs.Ytboofecfmhbacaa
open Go.RowKit Go.WideMaps Go.Maps Go.Proofs.YtboofecfmhbacaaW.PrintWords Go.Proofs.YtboofecfmhbacaaW.PrintLast Go.Proofs.YtboofecfmhbacaaW.PrintMore
set_option linter.unusedVariables false
set_option linter.unusedSimpArgs false

/-- A literal of whole numbers, as it lies. -/
theorem lit_ints (W : World) (l : List Int) (n : Nat) (hn : l.length = n) (cs : Array Value) (hcs : cs = (encs (Value.int .i64) l).toArray) (hm : n ≤ maxLen) : Kd.C (Kd.int .i64) (W.alloc (.cells cs 3)) (some ⟨W.heap.size, 0, none⟩) n l := by
  subst hn hcs
  have h := World.ownsRow_lit (base := W.heap.size) (e := 3) (size := 1) W (encs (Value.int .i64) l).toArray l.length (Nat.le_refl _) hm (by simp [encs])
  have hR : Kd.R (Kd.int .i64) 3 _ W.heap.size (fun _ => True) _ l := Kd.R_of_own (h1 := fun _ => rfl) (enc := Value.int .i64) h (fun _ _ => trivial)
  exact (R_len hR).2.2
theorem lit_strs (W : World) (l : List ByteArray) (n : Nat) (hn : l.length = n) (cs : Array Value) (hcs : cs = (encs Value.string l).toArray) (hm : n ≤ maxLen) : Kd.C Kd.string (W.alloc (.cells cs 9)) (some ⟨W.heap.size, 0, none⟩) n l := by
  subst hn hcs
  have h := World.ownsRow_lit (base := W.heap.size) (e := 9) (size := 1) W (encs Value.string l).toArray l.length (Nat.le_refl _) hm (by simp [encs])
  have hR : Kd.R Kd.string 9 _ W.heap.size (fun _ => True) _ l := Kd.R_of_own (h1 := fun _ => rfl) (enc := Value.string) h (fun _ _ => trivial)
  exact (R_len hR).2.2
theorem lit_below (W : World) (o : Obj) : Below W.heap.size W (W.alloc o) := below_alloc (Below.refl _ _) o
/-- A literal of lists. -/
theorem lit_rows (W : World) (ls : List (List Int)) (vs : List Value) (n : Nat) (hn : ls.length = n) (hv : vs.length = n) (cs : Array Value) (hcs : cs = vs.toArray) (hm : n ≤ maxLen)
    (h : ∀ j (h1 : j < vs.length) (h2 : j < ls.length), ∃ A c, vs[j] = .slice A ls[j].length c ∧ ls[j].length ≤ c ∧ Kd.C (Kd.int .i64) W A ls[j].length ls[j]) :
    Kd.C (Kd.slice 3 (Kd.int .i64)) (W.alloc (.cells cs 22)) (some ⟨W.heap.size, 0, none⟩) n ls := by
  subst hcs
  have h0 := World.ownsRow_lit (base := W.heap.size) (e := 22) (size := 1) W vs.toArray n (Nat.le_refl _) hm (by simp [hv])
  refine ⟨hn, by unfold maxLen at hm; exact hm, fun hpos => ⟨_, rfl, fun j p hj => ?_⟩⟩
  have hj1 : j < ls.length := (List.getElem?_eq_some_iff.1 hj).1
  have hj2 : j < vs.length := by omega
  have hp : p = ls[j] := by
    rw [List.getElem?_eq_getElem hj1] at hj
    exact (Option.some.inj hj).symm
  subst hp
  obtain ⟨A, c, e1, e2, e3⟩ := h j hj2 hj1
  refine ⟨[vs[j]], rfl, ⟨A, c, by rw [e1], e2, Kd.C_below e3 (lit_below W _)⟩, fun i u hu => ?_⟩
  cases i with
  | zero =>
    have hu' : vs[j] = u := by simpa using hu
    subst hu'
    have := h0.cells rfl j vs[j] (by simp [hj2])
    simpa [Kd.slice] using this
  | succ i => simp at hu
/-- A list is compared with a literal that holds the same. -/
theorem eq_lit (A : Option Addr) (c n : Nat) (l : List Int) (hn : l.length = n) (W : World) (hC : Kd.C (Kd.int .i64) W A n l) (cs : Array Value) (hcs : cs = (encs (Value.int .i64) l).toArray) (hm : n ≤ maxLen) :
    Calls Try.prog 19 #[.slice A n c, .slice (some ⟨W.heap.size, 0, none⟩) n n] (W.alloc (.cells cs 3)) fun e w' => e = .returned (.bool true) ∧ Below W.heap.size W w' := by
  subst hn
  refine (equal_walk A c l (some ⟨W.heap.size, 0, none⟩) l.length l _ (Kd.C_below hC (lit_below W _)) (lit_ints W l _ rfl cs hcs hm)).mono ?_
  rintro e w' ⟨rfl, hB⟩
  exact ⟨by simp, (lit_below W _).trans (hB.mono (by simp))⟩

def exA : List ByteArray := [⟨#[97]⟩, ⟨#[98]⟩, ⟨#[97]⟩, ⟨#[99]⟩]
def exN : List (List Int) := [[1], [2], [3], [3]]
theorem exA_num : Num.num exA = [0, 1, 0, 2] := by decide
theorem ex_meet : meetP [0, 0, 1, 1] [0, 1, 1, 1] = [0, 1, 2, 2] := by decide
theorem ex_join {l : List Int} (h : IsJoin [0, 0, 1, 1] [0, 1, 1, 1] l) : l = [0, 0, 0, 0] := by
  refine right_ext h.1 (by decide) h.2.1 fun i j hi hj => ?_
  rw [h.2.1] at hi hj
  rw [h.2.2 i j hi hj]
  have hall : ∀ i, i < 4 → Conn [0, 0, 1, 1] [0, 1, 1, 1] 4 i 0 := by
    intro i hi
    have h01 : Conn [0, 0, 1, 1] [0, 1, 1, 1] 4 1 0 := .same (by decide) (by decide) (by decide)
    have h21 : Conn [0, 0, 1, 1] [0, 1, 1, 1] 4 2 1 := .tie (by decide) (by decide) (by decide) (by decide) (by decide)
    have h32 : Conn [0, 0, 1, 1] [0, 1, 1, 1] 4 3 2 := .same (by decide) (by decide) (by decide)
    match i, hi with
    | 0, _ => exact .refl (by decide)
    | 1, _ => exact h01
    | 2, _ => exact h21.trans h01
    | 3, _ => exact h32.trans (h21.trans h01)
  have hz : ∀ i, i < 4 → at_ [0, 0, 0, 0] i = 0 := by decide
  constructor
  · intro _
    rw [hz i hi, hz j hj]
  · intro _
    exact (hall i hi).trans (hall j hj).symm
theorem ex_refine : refineP [0, 0, 0, 1] exN = [0, 0, 1, 2] := by decide
theorem ex_stops : Stops [0, 0, 0, 1] exN 2 := by refine ⟨by decide, ?_⟩; decide
theorem ex_iter : iterP [0, 0, 0, 1] exN 2 = [0, 1, 2, 3] := by decide
theorem ex_stops0 : Stops [0, 0, 0, 0] exN 0 := ⟨by decide, fun j hj => absurd hj (Nat.not_lt_zero j)⟩
theorem ex_quot : quotP [0, 0, 0, 0] exN = [[0]] := by decide
theorem ex_next : nextP 4 exN := by decide
theorem ex_right : rightP [0, 0, 0, 1] ∧ rightP [0, 0, 0, 0] ∧ rightP [0, 0, 1, 1] ∧ rightP [0, 1, 1, 1] := by decide
theorem ex_stable : stableP [0, 0, 0, 0] exN := by decide

theorem c_lift {α : Type} {d : Kd α} {W W1 : World} {A : Option Addr} {n : Nat} {l : List α} (h : d.C W A n l) (hB : Below W.heap.size W W1) : d.C W1 A n l := Kd.C_below h hB
theorem r_read {α : Type} {d : Kd α} {e : Nat} {w : World} {base : Nat} {ok : Nat → Prop} {v : Value} {xs : List α} {n : Nat} (h : d.R e w base ok v xs) (hn : xs.length = n) : ∃ A c, v = .slice A n c ∧ d.C w A n xs := by
  subst hn
  obtain ⟨A, c, e1, _, hC⟩ := Kd.R_reads h
  exact ⟨A, c, e1, hC⟩
theorem aw18 (W : World) : Calls Try.prog 18 #[.slice (some ⟨W.heap.size, 0, none⟩) 4 4] (W.alloc (.cells #[.string ⟨#[97]⟩, .string ⟨#[98]⟩, .string ⟨#[97]⟩, .string ⟨#[99]⟩] 9)) fun e w' => ∃ A c, e = .returned (.tuple #[.slice A 4 c, .int .i64 0]) ∧ Kd.C (Kd.int .i64) w' A 4 [0, 1, 0, 2] ∧ Below W.heap.size W w' := by
  refine (ofString_walk _ 4 exA _ (lit_strs W exA 4 rfl _ rfl (by decide)) (by decide)).mono ?_
  rintro e w' ⟨v, rfl, hR, hB⟩
  rw [show (if 1024 < exA.length then [] else Num.num exA) = [0, 1, 0, 2] by decide] at hR
  obtain ⟨A, c, rfl, hC⟩ := r_read hR (n := 4) rfl
  exact ⟨A, c, rfl, hC, (lit_below W _).trans (hB.mono (by simp))⟩
theorem lit2 (W : World) (o : Obj) (l : List Int) (n : Nat) (hn : l.length = n) (cs : Array Value) (hcs : cs = (encs (Value.int .i64) l).toArray) (hm : n ≤ maxLen) : Kd.C (Kd.int .i64) ((W.alloc o).alloc (.cells cs 3)) (some ⟨W.heap.size + 1, 0, none⟩) n l := by
  have h := lit_ints (W.alloc o) l n hn cs hcs hm
  rwa [World.size_alloc] at h
theorem aw30 (W : World) : Calls Try.prog 30 #[.slice (some ⟨W.heap.size, 0, none⟩) 4 4, .slice (some ⟨W.heap.size + 1, 0, none⟩) 4 4] ((W.alloc (.cells #[.int .i64 0, .int .i64 0, .int .i64 1, .int .i64 1] 3)).alloc (.cells #[.int .i64 0, .int .i64 1, .int .i64 1, .int .i64 1] 3)) fun e w' => ∃ A c, e = .returned (.tuple #[.slice A 4 c, .int .i64 0]) ∧ Kd.C (Kd.int .i64) w' A 4 [0, 1, 2, 2] ∧ Below W.heap.size W w' := by
  have h1 := lit_ints W [0, 0, 1, 1] 4 rfl _ rfl (by decide)
  refine (meet_yes _ 4 [0, 0, 1, 1] _ 4 [0, 1, 1, 1] _ (c_lift h1 (lit_below _ _)) (lit2 W _ [0, 1, 1, 1] 4 rfl _ rfl (by decide)) ex_right.2.2.1 ex_right.2.2.2 rfl).mono ?_
  rintro e w' ⟨v, rfl, hR, hB⟩
  rw [ex_meet] at hR
  obtain ⟨A, c, rfl, hC⟩ := r_read hR (n := 4) rfl
  exact ⟨A, c, rfl, hC, (lit_below W _).trans (((lit_below (W.alloc _) _).trans (hB.mono (by simp))).mono (by simp))⟩
theorem aw31 (W : World) : Calls Try.prog 31 #[.slice (some ⟨W.heap.size, 0, none⟩) 4 4, .slice (some ⟨W.heap.size + 1, 0, none⟩) 4 4] ((W.alloc (.cells #[.int .i64 0, .int .i64 0, .int .i64 1, .int .i64 1] 3)).alloc (.cells #[.int .i64 0, .int .i64 1, .int .i64 1, .int .i64 1] 3)) fun e w' => ∃ A c, e = .returned (.tuple #[.slice A 4 c, .int .i64 0]) ∧ Kd.C (Kd.int .i64) w' A 4 [0, 0, 0, 0] ∧ Below W.heap.size W w' := by
  have h1 := lit_ints W [0, 0, 1, 1] 4 rfl _ rfl (by decide)
  refine (join_yes _ 4 [0, 0, 1, 1] _ 4 [0, 1, 1, 1] _ (c_lift h1 (lit_below _ _)) (lit2 W _ [0, 1, 1, 1] 4 rfl _ rfl (by decide)) ex_right.2.2.1 ex_right.2.2.2 rfl).mono ?_
  rintro e w' ⟨v, l, rfl, hJ, hR, hB⟩
  rw [ex_join hJ] at hR
  obtain ⟨A, c, rfl, hC⟩ := r_read hR (n := 4) rfl
  exact ⟨A, c, rfl, hC, (lit_below W _).trans (((lit_below (W.alloc _) _).trans (hB.mono (by simp))).mono (by simp))⟩
/-- What follows of the examples, as it lies. -/
theorem aw_next (W : World) : Kd.C (Kd.slice 3 (Kd.int .i64)) (((((W.alloc (.cells #[.int .i64 1] 3)).alloc (.cells #[.int .i64 2] 3)).alloc (.cells #[.int .i64 3] 3)).alloc (.cells #[.int .i64 3] 3)).alloc (.cells #[.slice (some ⟨W.heap.size, 0, none⟩) 1 1, .slice (some ⟨W.heap.size + 1, 0, none⟩) 1 1, .slice (some ⟨W.heap.size + 2, 0, none⟩) 1 1, .slice (some ⟨W.heap.size + 3, 0, none⟩) 1 1] 22)) (some ⟨W.heap.size + 4, 0, none⟩) 4 exN := by
  have h1 := lit_ints W [1] 1 rfl _ rfl (by decide)
  have h2 := lit2 W (.cells #[.int .i64 1] 3) [2] 1 rfl _ rfl (by decide)
  have h3 := lit2 (W.alloc (.cells #[.int .i64 1] 3)) (.cells #[.int .i64 2] 3) [3] 1 rfl _ rfl (by decide)
  have h4 := lit2 ((W.alloc (.cells #[.int .i64 1] 3)).alloc (.cells #[.int .i64 2] 3)) (.cells #[.int .i64 3] 3) [3] 1 rfl _ rfl (by decide)
  simp only [World.size_alloc] at h3 h4
  have h := lit_rows ((((W.alloc (.cells #[.int .i64 1] 3)).alloc (.cells #[.int .i64 2] 3)).alloc (.cells #[.int .i64 3] 3)).alloc (.cells #[.int .i64 3] 3)) exN [.slice (some ⟨W.heap.size, 0, none⟩) 1 1, .slice (some ⟨W.heap.size + 1, 0, none⟩) 1 1, .slice (some ⟨W.heap.size + 2, 0, none⟩) 1 1, .slice (some ⟨W.heap.size + 3, 0, none⟩) 1 1] 4 rfl rfl _ rfl (by decide) ?_
  · simp only [World.size_alloc] at h
    exact h
  · intro j h5 h6
    match j, h5 with
    | 0, _ => exact ⟨_, 1, rfl, Nat.le_refl _, c_lift (c_lift (c_lift h1 (lit_below _ _)) (lit_below _ _)) (lit_below _ _)⟩
    | 1, _ => exact ⟨_, 1, rfl, Nat.le_refl _, c_lift (c_lift h2 (lit_below _ _)) (lit_below _ _)⟩
    | 2, _ => exact ⟨_, 1, rfl, Nat.le_refl _, c_lift h3 (lit_below _ _)⟩
    | 3, _ => exact ⟨_, 1, rfl, Nat.le_refl _, h4⟩

theorem aw35 (W : World) (N : Option Addr) (hN : Kd.C (Kd.slice 3 (Kd.int .i64)) W N 4 exN) : Calls Try.prog 35 #[.slice (some ⟨W.heap.size, 0, none⟩) 4 4, .slice N 4 4] (W.alloc (.cells #[.int .i64 0, .int .i64 0, .int .i64 0, .int .i64 1] 3)) fun e w' => ∃ A c, e = .returned (.tuple #[.slice A 4 c, .int .i64 0]) ∧ Kd.C (Kd.int .i64) w' A 4 [0, 0, 1, 2] ∧ Below W.heap.size W w' := by
  refine (refineOf_yes _ 4 [0, 0, 0, 1] N 4 exN _ (lit_ints W [0, 0, 0, 1] 4 rfl _ rfl (by decide)) (c_lift hN (lit_below _ _)) ex_right.1 ex_next).mono ?_
  rintro e w' ⟨v, rfl, hR, hB⟩
  rw [ex_refine] at hR
  obtain ⟨A, c, rfl, hC⟩ := r_read hR (n := 4) rfl
  exact ⟨A, c, rfl, hC, (lit_below W _).trans (hB.mono (by simp))⟩

theorem aw27a (W : World) (N : Option Addr) (hN : Kd.C (Kd.slice 3 (Kd.int .i64)) W N 4 exN) : Calls Try.prog 27 #[.slice (some ⟨W.heap.size, 0, none⟩) 4 4, .slice N 4 4] (W.alloc (.cells #[.int .i64 0, .int .i64 0, .int .i64 0, .int .i64 1] 3)) fun e w' => ∃ A c, e = .returned (.tuple #[.slice A 4 c, .int .i64 2, .int .i64 0]) ∧ Kd.C (Kd.int .i64) w' A 4 [0, 1, 2, 3] ∧ Below W.heap.size W w' := by
  refine (coarsest_yes _ 4 [0, 0, 0, 1] N 4 exN _ (lit_ints W [0, 0, 0, 1] 4 rfl _ rfl (by decide)) (c_lift hN (lit_below _ _)) ex_right.1 ex_next).mono ?_
  rintro e w' ⟨m, v, rfl, hS, hR, hB⟩
  obtain rfl := stops_one hS ex_stops
  rw [ex_iter] at hR
  obtain ⟨A, c, rfl, hC⟩ := r_read hR (n := 4) rfl
  exact ⟨A, c, rfl, hC, (lit_below W _).trans (hB.mono (by simp))⟩

theorem aw27b (W : World) (N : Option Addr) (hN : Kd.C (Kd.slice 3 (Kd.int .i64)) W N 4 exN) : Calls Try.prog 27 #[.slice (some ⟨W.heap.size, 0, none⟩) 4 4, .slice N 4 4] (W.alloc (.cells #[.int .i64 0, .int .i64 0, .int .i64 0, .int .i64 0] 3)) fun e w' => ∃ A c, e = .returned (.tuple #[.slice A 4 c, .int .i64 0, .int .i64 0]) ∧ Kd.C (Kd.int .i64) w' A 4 [0, 0, 0, 0] ∧ Below W.heap.size W w' := by
  refine (coarsest_yes _ 4 [0, 0, 0, 0] N 4 exN _ (lit_ints W [0, 0, 0, 0] 4 rfl _ rfl (by decide)) (c_lift hN (lit_below _ _)) ex_right.2.1 ex_next).mono ?_
  rintro e w' ⟨m, v, rfl, hS, hR, hB⟩
  obtain rfl := stops_one hS ex_stops0
  obtain ⟨A, c, rfl, hC⟩ := r_read hR (n := 4) rfl
  exact ⟨A, c, rfl, hC, (lit_below W _).trans (hB.mono (by simp))⟩

theorem aw28 (W : World) (N : Option Addr) (hN : Kd.C (Kd.slice 3 (Kd.int .i64)) W N 4 exN) : Calls Try.prog 28 #[.slice (some ⟨W.heap.size, 0, none⟩) 4 4, .slice N 4 4] (W.alloc (.cells #[.int .i64 0, .int .i64 0, .int .i64 0, .int .i64 0] 3)) fun e w' => ∃ A c, e = .returned (.tuple #[.slice A 1 c, .int .i64 0]) ∧ Kd.C (Kd.slice 3 (Kd.int .i64)) w' A 1 [[0]] ∧ Below W.heap.size W w' := by
  refine (quotient_yes _ 4 [0, 0, 0, 0] N 4 exN _ (lit_ints W [0, 0, 0, 0] 4 rfl _ rfl (by decide)) (c_lift hN (lit_below _ _)) ex_right.2.1 ex_next ex_stable).mono ?_
  rintro e w' ⟨v, rfl, hR, hB⟩
  rw [ex_quot] at hR
  obtain ⟨A, c, rfl, hC⟩ := r_read hR (n := 1) rfl
  exact ⟨A, c, rfl, hC, (lit_below W _).trans (hB.mono (by simp))⟩

theorem aw40 (A : Option Addr) (c : Nat) (W : World) (hC : Kd.C (Kd.slice 3 (Kd.int .i64)) W A 1 [[0]]) : Calls Try.prog 40 #[.slice A 1 c, .slice (some ⟨W.heap.size + 1, 0, none⟩) 1 1] ((W.alloc (.cells #[.int .i64 0] 3)).alloc (.cells #[.slice (some ⟨W.heap.size, 0, none⟩) 1 1] 22)) fun e w' => e = .returned (.bool true) ∧ Below W.heap.size W w' := by
  have h1 := lit_ints W [0] 1 rfl _ rfl (by decide)
  have h2 := lit_rows (W.alloc (.cells #[.int .i64 0] 3)) [[0]] [.slice (some ⟨W.heap.size, 0, none⟩) 1 1] 1 rfl rfl _ rfl (by decide) (by
    intro j h5 h6
    match j, h5 with
    | 0, _ => exact ⟨_, 1, rfl, Nat.le_refl _, h1⟩)
  rw [World.size_alloc] at h2
  refine (lists_walk A c [[0]] _ 1 [[0]] _ (c_lift (c_lift hC (lit_below _ _)) (lit_below _ _)) h2).mono ?_
  rintro e w' ⟨rfl, hB⟩
  exact ⟨by simp, (lit_below W _).trans (((lit_below (W.alloc _) _).trans (hB.mono (by simp))).mono (by simp))⟩
theorem aw35' (W : World) : Calls Try.prog 35 #[.slice (some ⟨W.heap.size + 5, 0, none⟩) 4 4, .slice (some ⟨W.heap.size + 4, 0, none⟩) 4 4] ((((((W.alloc (.cells #[.int .i64 1] 3)).alloc (.cells #[.int .i64 2] 3)).alloc (.cells #[.int .i64 3] 3)).alloc (.cells #[.int .i64 3] 3)).alloc (.cells #[.slice (some ⟨W.heap.size, 0, none⟩) 1 1, .slice (some ⟨W.heap.size + 1, 0, none⟩) 1 1, .slice (some ⟨W.heap.size + 2, 0, none⟩) 1 1, .slice (some ⟨W.heap.size + 3, 0, none⟩) 1 1] 22)).alloc (.cells #[.int .i64 0, .int .i64 0, .int .i64 0, .int .i64 1] 3)) fun e w' => ∃ A c, e = .returned (.tuple #[.slice A 4 c, .int .i64 0]) ∧ Kd.C (Kd.int .i64) w' A 4 [0, 0, 1, 2] ∧ Kd.C (Kd.slice 3 (Kd.int .i64)) w' (some ⟨W.heap.size + 4, 0, none⟩) 4 exN ∧ Below W.heap.size W w' := by
  have hN := aw_next W
  have hb : Below W.heap.size W (((((W.alloc (.cells #[.int .i64 1] 3)).alloc (.cells #[.int .i64 2] 3)).alloc (.cells #[.int .i64 3] 3)).alloc (.cells #[.int .i64 3] 3)).alloc (.cells #[.slice (some ⟨W.heap.size, 0, none⟩) 1 1, .slice (some ⟨W.heap.size + 1, 0, none⟩) 1 1, .slice (some ⟨W.heap.size + 2, 0, none⟩) 1 1, .slice (some ⟨W.heap.size + 3, 0, none⟩) 1 1] 22)) := (((((Below.refl _ _).alloc (Nat.le_refl _) _).alloc (by simp) _).alloc (by simp; omega) _).alloc (by simp; omega) _).alloc (by simp; omega) _
  have h := aw35 (((((W.alloc (.cells #[.int .i64 1] 3)).alloc (.cells #[.int .i64 2] 3)).alloc (.cells #[.int .i64 3] 3)).alloc (.cells #[.int .i64 3] 3)).alloc (.cells #[.slice (some ⟨W.heap.size, 0, none⟩) 1 1, .slice (some ⟨W.heap.size + 1, 0, none⟩) 1 1, .slice (some ⟨W.heap.size + 2, 0, none⟩) 1 1, .slice (some ⟨W.heap.size + 3, 0, none⟩) 1 1] 22)) _ hN
  simp only [World.size_alloc] at h
  refine h.mono ?_
  rintro e w' ⟨A, c, rfl, hC, hB⟩
  have hB2 : Below ((((((W.alloc (.cells #[.int .i64 1] 3)).alloc (.cells #[.int .i64 2] 3)).alloc (.cells #[.int .i64 3] 3)).alloc (.cells #[.int .i64 3] 3)).alloc (.cells #[.slice (some ⟨W.heap.size, 0, none⟩) 1 1, .slice (some ⟨W.heap.size + 1, 0, none⟩) 1 1, .slice (some ⟨W.heap.size + 2, 0, none⟩) 1 1, .slice (some ⟨W.heap.size + 3, 0, none⟩) 1 1] 22))).heap.size (((((W.alloc (.cells #[.int .i64 1] 3)).alloc (.cells #[.int .i64 2] 3)).alloc (.cells #[.int .i64 3] 3)).alloc (.cells #[.int .i64 3] 3)).alloc (.cells #[.slice (some ⟨W.heap.size, 0, none⟩) 1 1, .slice (some ⟨W.heap.size + 1, 0, none⟩) 1 1, .slice (some ⟨W.heap.size + 2, 0, none⟩) 1 1, .slice (some ⟨W.heap.size + 3, 0, none⟩) 1 1] 22)) w' := by simp only [World.size_alloc]; exact hB
  exact ⟨A, c, rfl, hC, c_lift hN hB2, hb.trans (hB2.mono (by simp; omega))⟩

theorem made4 : madeCells #[Value.int .i64 0] 4 = #[.int .i64 0, .int .i64 0, .int .i64 0, .int .i64 0] := by kernel_rfl
set_option maxRecDepth 100000 in
set_option maxHeartbeats 4000000 in
theorem awake_walk (w : World) : Calls Try.prog 14 #[] w fun e w' => e = .returned (.bool true) ∧ Below w.heap.size w w' := by
  have hmk := print_make_of 22 3 (.int .i64 0) 8 Try.underlying22 info3 rfl (by decide) 4 (by decide)
  rw [show ((4 : Nat) : Int) = 4 from rfl, made4] at hmk
  go_enter Try.func14, Try.ntmps14
  go_wp2_with (first
    | (go_at_call 18; refine (aw18 w).mono ?_; rintro e w1 ⟨A1, c1, rfl, hC, hB⟩; have F1_1 := Aside0.mk hC; have HB_1 := Aside0.mk hB; clear hC hB)
    | (go_at_call 30; refine (aw30 w1).mono ?_; rintro e w2 ⟨A2, c2, rfl, hC, hB⟩; have F2_2 := Aside0.mk hC; have F1_2 := Aside0.mk (c_lift F1_1.out hB); clear F1_1; have HB_2 := Aside0.mk (HB_1.out.trans (hB.mono HB_1.out.size)); clear HB_1; clear hC hB)
    | (go_at_call 31; refine (aw31 w2).mono ?_; rintro e w3 ⟨A3, c3, rfl, hC, hB⟩; have F3_3 := Aside0.mk hC; have F1_3 := Aside0.mk (c_lift F1_2.out hB); clear F1_2; have F2_3 := Aside0.mk (c_lift F2_2.out hB); clear F2_2; have HB_3 := Aside0.mk (HB_2.out.trans (hB.mono HB_2.out.size)); clear HB_2; clear hC hB)
    | (go_at_call 35; refine (aw35' w3).mono ?_; rintro e w4 ⟨A4, c4, rfl, hC, hN, hB⟩; have F4_4 := Aside0.mk hC; have FN_4 := Aside0.mk hN; clear hN; have F1_4 := Aside0.mk (c_lift F1_3.out hB); clear F1_3; have F2_4 := Aside0.mk (c_lift F2_3.out hB); clear F2_3; have F3_4 := Aside0.mk (c_lift F3_3.out hB); clear F3_3; have HB_4 := Aside0.mk (HB_3.out.trans (hB.mono HB_3.out.size)); clear HB_3; clear hC hB)
    | (go_at_call 27; refine (aw27a w4 _ FN_4.out).mono ?_; rintro e w5 ⟨A5, c5, rfl, hC, hB⟩; have F5_5 := Aside0.mk hC; have F1_5 := Aside0.mk (c_lift F1_4.out hB); clear F1_4; have F2_5 := Aside0.mk (c_lift F2_4.out hB); clear F2_4; have F3_5 := Aside0.mk (c_lift F3_4.out hB); clear F3_4; have F4_5 := Aside0.mk (c_lift F4_4.out hB); clear F4_4; have FN_5 := Aside0.mk (c_lift FN_4.out hB); clear FN_4; have HB_5 := Aside0.mk (HB_4.out.trans (hB.mono HB_4.out.size)); clear HB_4; clear hC hB)
    | (go_at_call 27; refine (aw27b w5 _ FN_5.out).mono ?_; rintro e w6 ⟨A6, c6, rfl, hC, hB⟩; have F6_6 := Aside0.mk hC; have F1_6 := Aside0.mk (c_lift F1_5.out hB); clear F1_5; have F2_6 := Aside0.mk (c_lift F2_5.out hB); clear F2_5; have F3_6 := Aside0.mk (c_lift F3_5.out hB); clear F3_5; have F4_6 := Aside0.mk (c_lift F4_5.out hB); clear F4_5; have F5_6 := Aside0.mk (c_lift F5_5.out hB); clear F5_5; have FN_6 := Aside0.mk (c_lift FN_5.out hB); clear FN_5; have HB_6 := Aside0.mk (HB_5.out.trans (hB.mono HB_5.out.size)); clear HB_5; clear hC hB)
    | (go_at_call 28; refine (aw28 w6 _ FN_6.out).mono ?_; rintro e w7 ⟨A7, c7, rfl, hC, hB⟩; have F7_7 := Aside0.mk hC; have F1_7 := Aside0.mk (c_lift F1_6.out hB); clear F1_6; have F2_7 := Aside0.mk (c_lift F2_6.out hB); clear F2_6; have F3_7 := Aside0.mk (c_lift F3_6.out hB); clear F3_6; have F4_7 := Aside0.mk (c_lift F4_6.out hB); clear F4_6; have F5_7 := Aside0.mk (c_lift F5_6.out hB); clear F5_6; have F6_7 := Aside0.mk (c_lift F6_6.out hB); clear F6_6; have FN_7 := Aside0.mk (c_lift FN_6.out hB); clear FN_6; have HB_7 := Aside0.mk (HB_6.out.trans (hB.mono HB_6.out.size)); clear HB_6; clear hC hB)
    | (go_at_call 19; refine (eq_lit A1 c1 4 _ rfl w7 F1_7.out _ rfl (by decide)).mono ?_; rintro e w8 ⟨rfl, hB⟩; clear F1_7; have F2_8 := Aside0.mk (c_lift F2_7.out hB); clear F2_7; have F3_8 := Aside0.mk (c_lift F3_7.out hB); clear F3_7; have F4_8 := Aside0.mk (c_lift F4_7.out hB); clear F4_7; have F5_8 := Aside0.mk (c_lift F5_7.out hB); clear F5_7; have F6_8 := Aside0.mk (c_lift F6_7.out hB); clear F6_7; have F7_8 := Aside0.mk (c_lift F7_7.out hB); clear F7_7; have HB_8 := Aside0.mk (HB_7.out.trans (hB.mono HB_7.out.size)); clear HB_7 hB)
    | (go_at_call 19; refine (eq_lit A2 c2 4 _ rfl w8 F2_8.out _ rfl (by decide)).mono ?_; rintro e w9 ⟨rfl, hB⟩; clear F2_8; have F3_9 := Aside0.mk (c_lift F3_8.out hB); clear F3_8; have F4_9 := Aside0.mk (c_lift F4_8.out hB); clear F4_8; have F5_9 := Aside0.mk (c_lift F5_8.out hB); clear F5_8; have F6_9 := Aside0.mk (c_lift F6_8.out hB); clear F6_8; have F7_9 := Aside0.mk (c_lift F7_8.out hB); clear F7_8; have HB_9 := Aside0.mk (HB_8.out.trans (hB.mono HB_8.out.size)); clear HB_8 hB)
    | (go_at_call 19; refine (eq_lit A3 c3 4 _ rfl w9 F3_9.out _ rfl (by decide)).mono ?_; rintro e w10 ⟨rfl, hB⟩; clear F3_9; have F4_10 := Aside0.mk (c_lift F4_9.out hB); clear F4_9; have F5_10 := Aside0.mk (c_lift F5_9.out hB); clear F5_9; have F6_10 := Aside0.mk (c_lift F6_9.out hB); clear F6_9; have F7_10 := Aside0.mk (c_lift F7_9.out hB); clear F7_9; have HB_10 := Aside0.mk (HB_9.out.trans (hB.mono HB_9.out.size)); clear HB_9 hB)
    | (go_at_call 19; refine (eq_lit A4 c4 4 _ rfl w10 F4_10.out _ rfl (by decide)).mono ?_; rintro e w11 ⟨rfl, hB⟩; clear F4_10; have F5_11 := Aside0.mk (c_lift F5_10.out hB); clear F5_10; have F6_11 := Aside0.mk (c_lift F6_10.out hB); clear F6_10; have F7_11 := Aside0.mk (c_lift F7_10.out hB); clear F7_10; have HB_11 := Aside0.mk (HB_10.out.trans (hB.mono HB_10.out.size)); clear HB_10 hB)
    | (go_at_call 19; refine (eq_lit A5 c5 4 _ rfl w11 F5_11.out _ rfl (by decide)).mono ?_; rintro e w12 ⟨rfl, hB⟩; clear F5_11; have F6_12 := Aside0.mk (c_lift F6_11.out hB); clear F6_11; have F7_12 := Aside0.mk (c_lift F7_11.out hB); clear F7_11; have HB_12 := Aside0.mk (HB_11.out.trans (hB.mono HB_11.out.size)); clear HB_11 hB)
    | (go_at_call 19; refine (eq_lit A6 c6 4 _ rfl w12 F6_12.out _ rfl (by decide)).mono ?_; rintro e w13 ⟨rfl, hB⟩; clear F6_12; have F7_13 := Aside0.mk (c_lift F7_12.out hB); clear F7_12; have HB_13 := Aside0.mk (HB_12.out.trans (hB.mono HB_12.out.size)); clear HB_12 hB)
    | (go_at_call 40; refine (aw40 A7 c7 w13 F7_13.out).mono ?_; rintro e w14 ⟨rfl, hB⟩; have HB_14 := Aside0.mk (HB_13.out.trans (hB.mono HB_13.out.size)); clear HB_13 hB))
  go_ret
  exact ⟨rfl, HB_14.out⟩
end Go.Proofs.Ytboofecfmhbacaa
