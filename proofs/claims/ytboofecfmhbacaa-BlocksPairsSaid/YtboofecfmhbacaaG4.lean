/- The walks of slices.Clone and slices.Equal. -/
import Derived.Test.YtboofecfmhbacaaG3
import Derived.Lib.LazyBuf
namespace Go.Proofs.Ytboofecfmhbacaa
open Go.RowKit Go.WideMaps Go.Maps Go.Proofs.YtboofecfmhbacaaW.PrintWords Go.Proofs.YtboofecfmhbacaaW.PrintLast Go.Proofs.YtboofecfmhbacaaW.PrintMore
set_option linter.unusedVariables false
set_option linter.unusedSimpArgs false

set_option maxRecDepth 100000 in
set_option maxHeartbeats 1000000 in
theorem clone_walk (A0 : Option Addr) (c0 : Nat) (l : List Int) (w : World) (hr : Kd.C (Kd.int .i64) w A0 l.length l) (hlen : l.length * 8 ≤ 140737488355328) :
    Calls Try.prog 15 #[.slice A0 l.length c0] w fun e w' => ∃ v0_ : Value, e = .returned (v0_) ∧ Kd.R (Kd.int .i64) 3 w' w.heap.size (fun _ => True) v0_ l ∧ Below w.heap.size w w' := by
  have HR := Aside0.mk hr
  clear hr
  have hnil := fun w : World => run_eql_slice_nil w 22 3 A0 l.length c0 Try.underlying22
  cases A0 with
  | none =>
    have hl : l = [] := by
      rcases Nat.eq_zero_or_pos l.length with h | h
      · exact List.eq_nil_of_length_eq_zero h
      · obtain ⟨ad, h, _⟩ := HR.out.2.2 h
        cases h
    subst hl
    simp only [Option.isNone_none, List.length_nil] at hnil
    go_enter Try.func15, Try.ntmps15
    go_wp2
    go_ret
    exact ⟨_, rfl, Kd.R_nil _ _ _ _ _, Below.refl _ _⟩
  | some ad =>
    simp only [Option.isNone_some] at hnil
    have HO := Aside0.mk (Kd.R_of_own (h1 := fun _ => rfl) (ok := fun _ => True) (own_lit_of (enc := Value.int .i64) w w.heap.size 3 [] (Nat.le_refl _) (by simp)) (fun _ _ => trivial))
    have HB := Aside0.mk ((Below.refl w.heap.size w).alloc (Nat.le_refl _) (.cells #[] 3))
    have HR1 := Aside0.mk (Kd.C_below HR.out HB.out)
    go_enter Try.func15, Try.ntmps15
    go_wp2_with (at_builtin; refine Kd.R_append_row (h1 := fun _ => rfl) (Value.int .i64) 0 w.heap.size rfl (.tmp 5) (.tmp 6) 22 3 (.int .i64 0) 8 rfl Try.underlying22 info3 rfl (by decide) _ [] l (some ad) l.length c0 (fun _ => True) rfl rfl (fun _ _ => trivial) HO.out HR1.out HB.out (by simp) (by simpa using hlen) ?_; rintro v1 w1 hR hB _ _)
    have HR2 := Aside0.mk hR
    clear hR
    go_wp2
    go_ret
    have HR3 := HR2.out
    rw [List.nil_append] at HR3
    exact ⟨_, rfl, HR3, hB⟩
theorem info9 : (Try.prog.info? 9).map (fun i => (i.zero, i.size, i.bytes)) = some (some (.string ByteArray.empty), 1, 16) := by kernel_rfl
set_option maxRecDepth 100000 in
set_option maxHeartbeats 1000000 in
theorem clone_str_walk (A0 : Option Addr) (c0 : Nat) (l : List ByteArray) (w : World) (hr : Kd.C Kd.string w A0 l.length l) (hlen : l.length * 16 ≤ 140737488355328) :
    Calls Try.prog 16 #[.slice A0 l.length c0] w fun e w' => ∃ v0_ : Value, e = .returned (v0_) ∧ Kd.R Kd.string 9 w' w.heap.size (fun _ => True) v0_ l ∧ Below w.heap.size w w' := by
  have HR := Aside0.mk hr
  clear hr
  have hnil := fun w : World => run_eql_slice_nil w 23 9 A0 l.length c0 Try.underlying23
  cases A0 with
  | none =>
    have hl : l = [] := by
      rcases Nat.eq_zero_or_pos l.length with h | h
      · exact List.eq_nil_of_length_eq_zero h
      · obtain ⟨ad, h, _⟩ := HR.out.2.2 h
        cases h
    subst hl
    simp only [Option.isNone_none, List.length_nil] at hnil
    go_enter Try.func16, Try.ntmps16
    go_wp2
    go_ret
    exact ⟨_, rfl, Kd.R_nil _ _ _ _ _, Below.refl _ _⟩
  | some ad =>
    simp only [Option.isNone_some] at hnil
    have HO := Aside0.mk (Kd.R_of_own (h1 := fun _ => rfl) (ok := fun _ => True) (own_lit_of (enc := Value.string) w w.heap.size 9 [] (Nat.le_refl _) (by simp)) (fun _ _ => trivial))
    have HB := Aside0.mk ((Below.refl w.heap.size w).alloc (Nat.le_refl _) (.cells #[] 9))
    have HR1 := Aside0.mk (Kd.C_below HR.out HB.out)
    go_enter Try.func16, Try.ntmps16
    go_wp2_with (at_builtin; refine Kd.R_append_row (h1 := fun _ => rfl) Value.string ByteArray.empty w.heap.size rfl (.tmp 5) (.tmp 6) 23 9 (.string ByteArray.empty) 16 rfl Try.underlying23 info9 rfl (by decide) _ [] l (some ad) l.length c0 (fun _ => True) rfl rfl (fun _ _ => trivial) HO.out HR1.out HB.out (by simp) (by simpa using hlen) ?_; rintro v1 w1 hR hB _ _)
    have HR2 := Aside0.mk hR
    clear hR
    go_wp2
    go_ret
    have HR3 := HR2.out
    rw [List.nil_append] at HR3
    exact ⟨_, rfl, HR3, hB⟩

set_option maxRecDepth 100000 in
set_option maxHeartbeats 1000000 in
theorem equal_walk (A0 : Option Addr) (c0 : Nat) (l0 : List Int) (A1 : Option Addr) (c1 : Nat) (l1 : List Int) (w : World) (hr0 : Kd.C (Kd.int .i64) w A0 l0.length l0) (hr1 : Kd.C (Kd.int .i64) w A1 l1.length l1) :
    Calls Try.prog 19 #[.slice A0 l0.length c0, .slice A1 l1.length c1] w fun e w' => e = .returned (.bool (decide (l0 = l1))) ∧ Below w.heap.size w w' := by
  have HR0 := Aside0.mk (Kd.reads_of_C (d := (0 : Int)) hr0)
  have HR1 := Aside0.mk (Kd.reads_of_C (d := (0 : Int)) hr1)
  clear hr0 hr1
  by_cases hl : l0.length = l1.length
  · have h1 : ((l0.length : Int) == (l1.length : Int)) = true := beq_iff_eq.mpr (by omega)
    have h2 : ((l0.length : Int) != (l1.length : Int)) = false := bne_eq_false_iff_eq.mpr (by omega)
    have h3 : (l0.length == l1.length) = true := by simpa using hl
    have HL := Aside0.mk hl
    clear hl
    go_enter Try.func19, Try.ntmps19
    go_wp2
    clear h1 h2 h3
    go_loopw [13] (fun i wr => ∃ k : Nat, i = .int .i64 k ∧ Aside0 (k ≤ l0.length ∧ l0.take k = l1.take k ∧ Below w.heap.size w wr)) (fun i _ => l0.length - (intOf i).toNat)
    case atStart => exact ⟨0, rfl, ⟨Nat.zero_le _, rfl, Below.refl _ _⟩⟩
    case round =>
      obtain ⟨k, rfl, HI⟩ := hrel
      have hkl := HI.out.1
      have hb : l0.length ≤ 9223372036854775807 := HR0.out.2.1
      by_cases hk : k < l0.length
      · obtain ⟨ad0, e0, hx0⟩ := (HR0.out.below HI.out.2.2).at_ (k : Int) (by omega) (by omega)
        obtain ⟨ad1, e1, hx1⟩ := (HR1.out.below HI.out.2.2).at_ (k : Int) (by omega) (by rw [← HL.out]; omega)
        subst e0 e1
        have hk1 : k < l1.length := by rw [← HL.out]; exact hk
        have e0 : rdOf 0 l0 (k : Int) = l0[k] := by simp [rdOf, List.getD_eq_getElem?_getD, List.getElem?_eq_getElem hk]
        have e1 : rdOf 0 l1 (k : Int) = l1[k] := by simp [rdOf, List.getD_eq_getElem?_getD, List.getElem?_eq_getElem hk1]
        rw [Int.toNat_natCast] at hx0 hx1
        rw [e0] at hx0
        rw [e1] at hx1
        clear e0 e1
        by_cases hx : l0[k] = l1[k]
        · have h1 : (l0[k] == l1[k]) = true := beq_iff_eq.mpr hx
          have h2 : (l0[k] != l1[k]) = false := bne_eq_false_iff_eq.mpr hx
          have HX := Aside0.mk hx
          clear hx
          go_wp2
          go_quiet (fail)
          go_wp2
          go_roundw
          case rel => exact ⟨k + 1, by go_num, ⟨by omega, by rw [Num.take_succ _ _ hk, Num.take_succ _ _ hk1, HI.out.2.1, HX.out], pw_below_drewN HI.out.2.2 _⟩⟩
          case measure => simp [intOf]; omega
        · have h1 : (l0[k] == l1[k]) = false := beq_eq_false_iff_ne.mpr hx
          have h2 : (l0[k] != l1[k]) = true := bne_iff_ne.mpr hx
          have HX := Aside0.mk hx
          clear hx
          go_wp2
          go_quiet (fail)
          go_wp2
          go_ret
          exact ⟨by rw [decide_eq_false (fun e => HX.out (by subst e; rfl))]; rfl, pw_below_drewN HI.out.2.2 _⟩
      · go_wp2
        go_ret
        have hk' : k = l0.length := by omega
        exact ⟨by rw [decide_eq_true (by have h := HI.out.2.1; rwa [hk', List.take_length, HL.out, List.take_length] at h)]; rfl, HI.out.2.2⟩
  · have h1 : ((l0.length : Int) == (l1.length : Int)) = false := beq_eq_false_iff_ne.mpr (by omega)
    have h2 : ((l0.length : Int) != (l1.length : Int)) = true := bne_iff_ne.mpr (by omega)
    have h3 : (l0.length == l1.length) = false := by simpa using hl
    have HL := Aside0.mk hl
    clear hl
    go_enter Try.func19, Try.ntmps19
    go_wp2
    go_ret
    exact ⟨by rw [decide_eq_false (fun e => HL.out (by rw [e]))]; rfl, Below.refl _ _⟩
end Go.Proofs.Ytboofecfmhbacaa
