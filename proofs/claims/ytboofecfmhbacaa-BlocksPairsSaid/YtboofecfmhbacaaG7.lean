/- The walks of package blocks' both, and of wrong with its closures. -/
import Derived.Test.YtboofecfmhbacaaG6
import Derived.Laws.EntriesVeiled
namespace Go.Proofs.Ytboofecfmhbacaa
open Go.RowKit Go.WideMaps Go.Maps Go.Proofs.YtboofecfmhbacaaW.PrintWords Go.Proofs.YtboofecfmhbacaaW.PrintLast Go.Proofs.YtboofecfmhbacaaW.PrintMore
set_option linter.unusedVariables false
set_option linter.unusedSimpArgs false

set_option maxRecDepth 100000 in
set_option maxHeartbeats 1000000 in
theorem both_walk (A0 : Option Addr) (c0 : Nat) (p : List Int) (A1 : Option Addr) (c1 : Nat) (q : List Int) (w : World) (hr0 : Kd.C (Kd.int .i64) w A0 p.length p) (hr1 : Kd.C (Kd.int .i64) w A1 q.length q) (hw0 : Wf p) (hw1 : Wf q) :
    Calls Try.prog 56 #[.slice A0 p.length c0, .slice A1 q.length c1] w fun e w' => e = .returned (.int .i64 (bothE p q)) ∧ Below w.heap.size w w' := by
  have HP := Aside0.mk (right_walk A0 c0 p w hr0 hw0)
  have HQ := Aside0.mk (fun w1 (hB : Below w.heap.size w w1) => right_walk A1 c1 q w1 (Kd.C_below hr1 hB) hw1)
  clear hr0 hr1 hw0 hw1
  by_cases hp : rightP p
  · rw [decide_eq_true hp] at HP
    by_cases hq : rightP q
    · rw [decide_eq_true hq] at HQ
      by_cases hl : p.length = q.length
      · have h1 : ((p.length : Int) != (q.length : Int)) = false := bne_eq_false_iff_eq.mpr (by omega)
        have h3 : (p.length == q.length) = true := by simpa using hl
        have HE : bothE p q = 0 := by simp [bothE, hp, hq, hl]
        rw [HE]
        clear HE hp hq hl
        go_enter Try.func56, Try.ntmps56
        go_wp2_with (first
          | (go_at_call 37; refine HP.out.mono ?_; rintro e w1 ⟨rfl, hB⟩; have HQ1 := Aside0.mk (HQ.out w1 hB); clear HP)
          | (go_at_call 37; refine HQ1.out.mono ?_; rintro e w2 ⟨rfl, hB2⟩))
        go_ret
        exact ⟨rfl, hB.trans (hB2.mono hB.size)⟩
      · have h1 : ((p.length : Int) != (q.length : Int)) = true := bne_iff_ne.mpr (by omega)
        have h3 : (p.length == q.length) = false := by simpa using hl
        have HE : bothE p q = 2 := by simp [bothE, hp, hq, hl]
        rw [HE]
        clear HE hp hq hl
        go_enter Try.func56, Try.ntmps56
        go_wp2_with (first
          | (go_at_call 37; refine HP.out.mono ?_; rintro e w1 ⟨rfl, hB⟩; have HQ1 := Aside0.mk (HQ.out w1 hB); clear HP)
          | (go_at_call 37; refine HQ1.out.mono ?_; rintro e w2 ⟨rfl, hB2⟩))
        go_ret
        exact ⟨rfl, hB.trans (hB2.mono hB.size)⟩
    · rw [decide_eq_false hq] at HQ
      have HE : bothE p q = 60 := by simp [bothE, hq]
      rw [HE]
      clear HE hp hq
      go_enter Try.func56, Try.ntmps56
      go_wp2_with (first
          | (go_at_call 37; refine HP.out.mono ?_; rintro e w1 ⟨rfl, hB⟩; have HQ1 := Aside0.mk (HQ.out w1 hB); clear HP)
          | (go_at_call 37; refine HQ1.out.mono ?_; rintro e w2 ⟨rfl, hB2⟩))
      go_ret
      exact ⟨rfl, hB.trans (hB2.mono hB.size)⟩
  · rw [decide_eq_false hp] at HP
    have HE : bothE p q = 60 := by simp [bothE, hp]
    rw [HE]
    clear HE hp HQ
    go_enter Try.func56, Try.ntmps56
    go_wp2_with (go_at_call 37; refine HP.out.mono ?_; rintro e w1 ⟨rfl, hB⟩)
    go_ret
    exact ⟨rfl, hB⟩

set_option maxRecDepth 100000 in
set_option maxHeartbeats 1000000 in
theorem bad_walk (x : Int) (B : Nat) (A : Option Addr) (n c : Nat) (w : World) (hc : w.cell? ⟨B, 0, none⟩ = some (.slice A n c)) (hn : n ≤ 9223372036854775807) :
    Calls Try.prog 68 #[.int .i64 x, .pointer (some ⟨B, 0, none⟩)] w fun e w' => e = .returned (.bool (badB n x)) ∧ Below w.heap.size w w' := by
  by_cases hx : x < 0
  · have h1 : decide (x < 0) = true := decide_eq_true hx
    go_enter Try.func68, Try.ntmps68
    go_wp2
    go_ret
    exact ⟨by simp [badB, h1], Below.refl _ _⟩
  · have h1 : decide (x < 0) = false := decide_eq_false hx
    go_enter Try.func68, Try.ntmps68
    go_wp2
    go_ret
    exact ⟨by simp [badB, h1], Below.refl _ _⟩

theorem cell_new (w : World) (v : Value) (t : TypeId) : (w.alloc (.cells #[v] t)).cell? ⟨w.heap.size, 0, none⟩ = some v := by
  unfold World.cell?
  rw [heap_alloc_last]
  rfl
theorem cell_old {w : World} (o : Obj) {b i : Nat} (h : b < w.heap.size) : (w.alloc o).cell? ⟨b, i, none⟩ = w.cell? ⟨b, i, none⟩ := World.cell?_of_block (w := w) (Below.heap_alloc w o b h)
theorem alloc_lt {w w1 : World} {o : Obj} {B : Nat} (h : Below B (w.alloc o) w1) : w.heap.size < w1.heap.size := by
  have := h.size
  rw [World.size_alloc] at this
  omega
theorem enters68 : ∀ args w, (callFunc 68 args).run Try.prog w = .ok (.enter 68 args) w := enters_of Try.func68 (by kernel_rfl) rfl
theorem enters69 : ∀ args w, (callFunc 69 args).run Try.prog w = .ok (.enter 69 args) w := enters_of Try.func69 (by kernel_rfl) rfl

set_option maxRecDepth 100000 in
set_option maxHeartbeats 1000000 in
theorem bads_walk (A1 : Option Addr) (l : List Int) (c1 B B2 : Nat) (A : Option Addr) (n c : Nat) (w : World) (hl : Kd.C (Kd.int .i64) w A1 l.length l) (hc : w.cell? ⟨B, 0, none⟩ = some (.slice A n c)) (hn : n ≤ 9223372036854775807)
    (hc2 : w.cell? ⟨B2, 0, none⟩ = some (.func (.func 68) #[] #[.pointer (some ⟨B, 0, none⟩)])) :
    Calls Try.prog 69 #[.slice A1 l.length c1, .pointer (some ⟨B2, 0, none⟩)] w fun e w' => e = .returned (.bool (badL n l)) ∧ Below w.heap.size w w' := by
  have hb := len_le hl
  have hB := World.block_lt_of_cell? w _ hc
  have HC := Aside0.mk (containsInts_walk A1 c1 l (badB n) 68 #[.pointer (some ⟨B, 0, none⟩)] w hl enters68 (fun W x _ hW => bad_walk x B A n c W ((hW.cell hB).trans hc) hn))
  clear hl hB
  by_cases hx : 64 < l.length
  · have h1 : decide ((64 : Int) < (l.length : Int)) = true := decide_eq_true (by omega)
    go_enter Try.func69, Try.ntmps69
    go_wp2
    go_ret
    exact ⟨by simp [badL, hx], Below.refl _ _⟩
  · have h1 : decide ((64 : Int) < (l.length : Int)) = false := decide_eq_false (by omega)
    have HX := Aside0.mk hx
    clear hx
    go_enter Try.func69, Try.ntmps69
    go_wp2_with (go_at_call 70; refine HC.out.mono ?_; rintro e w1 ⟨rfl, hB⟩)
    go_ret
    exact ⟨by simp [badL, HX.out], hB⟩

theorem wrong_call (A1 : Option Addr) (c1 : Nat) (next : List (List Int)) (B n c : Nat) (A : Option Addr) (w : World) (hr1 : Kd.C (Kd.slice 3 (Kd.int .i64)) w A1 next.length next) (hc : w.cell? ⟨B, 0, none⟩ = some (.slice A n c)) (hn : n ≤ 9223372036854775807) :
    Calls Try.prog 44 #[.slice A1 next.length c1, .func (.func 69) #[] #[.pointer (some ⟨w.heap.size, 0, none⟩)]] (w.alloc (.cells #[.func (.func 68) #[] #[.pointer (some ⟨B, 0, none⟩)]] 24)) fun e w' =>
      e = .returned (.bool (next.any (badL n))) ∧ Below w.heap.size w w' := by
  have hB : B < w.heap.size := World.block_lt_of_cell? w _ hc
  have hb : Below w.heap.size w (w.alloc (.cells #[.func (.func 68) #[] #[.pointer (some ⟨B, 0, none⟩)]] 24)) := (Below.refl _ _).alloc (Nat.le_refl _) _
  refine (containsRows_walk A1 c1 next (badL n) 69 #[.pointer (some ⟨w.heap.size, 0, none⟩)] _ (Kd.C_below hr1 hb) enters69 ?_).mono ?_
  · intro W A' c' x _ hW hC _
    refine bads_walk A' x c' B w.heap.size A n c W hC ?_ hn ?_
    · rw [hW.cell (p := ⟨B, 0, none⟩) (by rw [World.size_alloc]; show B < _; omega), cell_old _ hB]
      exact hc
    · rw [hW.cell (p := ⟨w.heap.size, 0, none⟩) (by rw [World.size_alloc]; show w.heap.size < _; omega)]
      exact cell_new w _ 24
  · rintro e w' ⟨rfl, h⟩
    exact ⟨rfl, hb.trans (h.mono (by rw [World.size_alloc]; omega))⟩

set_option maxRecDepth 100000 in
set_option maxHeartbeats 1000000 in
theorem wrong_walk (A0 : Option Addr) (c0 : Nat) (p : List Int) (A1 : Option Addr) (c1 : Nat) (next : List (List Int)) (w : World) (hr0 : Kd.C (Kd.int .i64) w A0 p.length p) (hr1 : Kd.C (Kd.slice 3 (Kd.int .i64)) w A1 next.length next) (hw0 : Wf p) :
    Calls Try.prog 53 #[.slice A0 p.length c0, .slice A1 next.length c1] w fun e w' => e = .returned (.int .i64 (wrongE p next)) ∧ Below w.heap.size w w' := by
  have hb := len_le hr0
  have hB0 : Below w.heap.size w (w.alloc (.cells #[.slice A0 p.length c0] 22)) := (Below.refl _ _).alloc (Nat.le_refl _) _
  have HP := Aside0.mk (right_walk A0 c0 p (w.alloc (.cells #[.slice A0 p.length c0] 22)) (Kd.C_below hr0 hB0) hw0)
  have HR1 := Aside0.mk hr1
  have HB0 := Aside0.mk hB0
  clear hr0 hr1 hw0 hB0
  by_cases hp : rightP p
  · rw [decide_eq_true hp] at HP
    by_cases hl : next.length = p.length
    · have h1 : ((next.length : Int) != (p.length : Int)) = false := bne_eq_false_iff_eq.mpr (by omega)
      have h3 : (next.length == p.length) = true := by simpa using hl
      have HE : wrongE p next = if next.any (badL p.length) then 61 else 0 := by
        simp only [wrongE, hp, not_true_eq_false, if_false, nextP_iff, hl, true_and]
        cases next.any (badL p.length) <;> simp
      rw [HE]
      clear HE hp hl
      cases hany : next.any (badL p.length) with
      | true =>
        have HA := Aside0.mk hany
        clear hany
        go_enter Try.func53, Try.ntmps53
        go_wp2_with (first
          | (go_at_call 37; refine HP.out.mono ?_; rintro e w1 ⟨rfl, hB⟩; have hcw := (hB.cell (p := ⟨w.heap.size, 0, none⟩) (by simp)).trans (cell_new w _ 22); have hzw := alloc_lt hB; have HB1 := Aside0.mk (HB0.out.trans (hB.mono (by simp))); have h0 := wrong_call A1 c1 next w.heap.size p.length c0 A0 w1 (Kd.C_below HR1.out HB1.out) hcw hb; rw [HA.out] at h0; have HC := Aside0.mk h0; clear hB h0)
          | (go_at_call 44; refine HC.out.mono ?_; rintro e w2 ⟨rfl, hB2⟩; have HB2 := Aside0.mk (HB1.out.trans (hB2.mono (Nat.le_of_lt hzw))); clear hB2))
        go_ret
        exact ⟨rfl, HB2.out⟩
      | false =>
        have HA := Aside0.mk hany
        clear hany
        go_enter Try.func53, Try.ntmps53
        go_wp2_with (first
          | (go_at_call 37; refine HP.out.mono ?_; rintro e w1 ⟨rfl, hB⟩; have hcw := (hB.cell (p := ⟨w.heap.size, 0, none⟩) (by simp)).trans (cell_new w _ 22); have hzw := alloc_lt hB; have HB1 := Aside0.mk (HB0.out.trans (hB.mono (by simp))); have h0 := wrong_call A1 c1 next w.heap.size p.length c0 A0 w1 (Kd.C_below HR1.out HB1.out) hcw hb; rw [HA.out] at h0; have HC := Aside0.mk h0; clear hB h0)
          | (go_at_call 44; refine HC.out.mono ?_; rintro e w2 ⟨rfl, hB2⟩; have HB2 := Aside0.mk (HB1.out.trans (hB2.mono (Nat.le_of_lt hzw))); clear hB2))
        go_ret
        exact ⟨rfl, HB2.out⟩
    · have h1 : ((next.length : Int) != (p.length : Int)) = true := bne_iff_ne.mpr (by omega)
      have h3 : (next.length == p.length) = false := by simpa using hl
      have HE : wrongE p next = 61 := by simp [wrongE, hp, nextP, hl]
      rw [HE]
      clear HE hp hl
      go_enter Try.func53, Try.ntmps53
      go_wp2_with (go_at_call 37; refine HP.out.mono ?_; rintro e w1 ⟨rfl, hB⟩; have hcw := (hB.cell (p := ⟨w.heap.size, 0, none⟩) (by simp)).trans (cell_new w _ 22); have hzw := alloc_lt hB; have HB1 := Aside0.mk (HB0.out.trans (hB.mono (by simp))); clear hB)
      go_ret
      exact ⟨rfl, HB1.out.alloc (Nat.le_of_lt hzw) _⟩
  · rw [decide_eq_false hp] at HP
    have HE : wrongE p next = 60 := by simp [wrongE, hp]
    rw [HE]
    clear HE hp
    go_enter Try.func53, Try.ntmps53
    go_wp2_with (go_at_call 37; refine HP.out.mono ?_; rintro e w1 ⟨rfl, hB⟩; have HB1 := Aside0.mk (HB0.out.trans (hB.mono (by simp))); clear hB)
    go_ret
    exact ⟨rfl, HB1.out⟩
end Go.Proofs.Ytboofecfmhbacaa
