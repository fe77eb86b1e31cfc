/- The walks of the laws' helpers Made, two. -/
import Derived.Test.YtboofecfmhbacaaG15
import Derived.Test.YtboofecfmhbacaaPlain1
import Derived.Test.YtboofecfmhbacaaH1
import Derived.OpenShut
namespace Go.Proofs.Ytboofecfmhbacaa
open Go.RowKit Go.WideMaps Go.Maps Go.Proofs.YtboofecfmhbacaaW.PrintWords Go.Proofs.YtboofecfmhbacaaW.PrintLast Go.Proofs.YtboofecfmhbacaaW.PrintMore
attribute [local go_sem] max_two min_two max_three min_three
set_option linter.unusedVariables false
set_option linter.unusedSimpArgs false

theorem info5 : (Try.prog.info? 5).map (fun i => (i.zero, i.size, i.bytes)) = some (some (.int .u8 0), 1, 1) := by kernel_rfl
/-- l[:n] of numbers. -/
theorem cut_ints {t e : TypeId} {k : IntKind} {z : Value} {bytes : Nat} (ht : Try.prog.underlying t = some (.slice e)) (hi : (Try.prog.info? e).map (fun i => (i.zero, i.size, i.bytes)) = some (some z, 1, bytes)) (A : Option Addr) (c : Nat) (l : List Int) (n : Nat) (hn : n ≤ l.length) (hc : l.length ≤ c) :
    (∀ W : World, (Instr.slice t (.slice A l.length c) none (some (.int .i64 (n : Int))) none).run Try.prog W = .ok (.slice A n c) W) ∧ ∀ w : World, Kd.C (Kd.int k) w A l.length l → Kd.C (Kd.int k) w A n (l.take n) := by
  obtain ⟨i0, hi, hzz⟩ := Option.map_eq_some_iff.1 hi
  simp only [Prod.mk.injEq] at hzz
  have h := print_take_of (P := Try.prog) (Value.int k) (0 : Int) t e .i64 ht hi hzz.2.1 A c l (n : Int) (by omega) (by omega) hc
  rw [Int.toNat_natCast, List.length_take, Nat.min_eq_left hn] at h
  exact ⟨h.1, fun w hC => Kd.C_of_reads (h1 := fun _ => rfl) (h.2.1 w (Kd.reads_of_C hC))⟩

set_option maxRecDepth 100000 in
set_option maxHeartbeats 2000000 in
theorem made_walk (A0 : Option Addr) (c0 : Nat) (l : List Int) (w : World) (hr : Kd.C (Kd.int .u8) w A0 l.length l) (hw : ∀ y ∈ l, (Lit.int .u8 y).wf = true) (hc : l.length ≤ c0) :
    Calls Try.prog 25 #[.slice A0 l.length c0] w fun e w' => ∃ v p, e = .returned v ∧ rightP p ∧ p.length = min l.length 30 ∧ Kd.R (Kd.int .i64) 3 w' w.heap.size (fun _ => True) v p ∧ Below w.heap.size w w' := by
  have hb := len_le hr
  obtain ⟨n, hn⟩ : ∃ n, n = min l.length 30 := ⟨_, rfl⟩
  obtain ⟨hcut, hC⟩ := cut_ints (k := .u8) Try.underlying39 info5 A0 c0 l n (by omega) hc
  have HR := Aside0.mk (hC w hr)
  have HW := Aside0.mk (fun y (hy : y ∈ l.take n) => hw y (List.mem_of_mem_take hy))
  have hl : (l.take n).length = n := by rw [List.length_take]; omega
  have hn30 : n ≤ 30 := by omega
  have HN := Aside0.mk hn
  generalize l.take n = q at HR HW hl
  have HL := Aside0.mk hl
  have hmn : Builtin.min2 (.int .i64 (l.length : Int)) (.int .i64 30) = pure (.int .i64 (n : Int)) := by
    rw [min2_int]
    by_cases h : (30 : Int) < (l.length : Int)
    · rw [if_pos h, show ((n : Nat) : Int) = 30 by omega]
    · rw [if_neg h, show ((n : Nat) : Int) = (l.length : Int) by omega]
  rw [← hn]
  clear hr hw hC hn hl
  go_enter Try.func25, Try.ntmps25
  go_wp2
  clear hmn
  go_loopw [3, 4, 14] (fun out m i wr => ∃ (k : Nat) (p : List Int), i = .int .i64 k ∧ m = .int .i64 (Num.firsts p).length ∧ Aside0 (k ≤ n ∧ p.length = k ∧ Num.num p = p ∧ Kd.R (Kd.int .i64) 3 wr w.heap.size (fun _ => True) out p ∧ Below w.heap.size w wr)) (fun _ _ i _ => n - (intOf i).toNat)
  case atStart => exact ⟨0, [], rfl, rfl, Nat.zero_le _, rfl, rfl, Kd.R_nil _ _ _ _ _, Below.refl _ _⟩
  case round =>
    obtain ⟨k, p, rfl, rfl, HI⟩ := hrel
    have hkl := HI.out.1
    have hfk : (Num.firsts p).length ≤ k := by have := Num.length_firsts_le p; have := HI.out.2.1; omega
    by_cases hk : k < n
    · obtain ⟨ad, e1, hx1⟩ := ints_at (l := q) (by rw [HL.out]; exact Kd.C_below HR.out HI.out.2.2.2.2) k (by rw [HL.out]; exact hk)
      subst e1
      have hx0 := HW.out _ (List.getElem_mem (l := q) (n := k) (by rw [HL.out]; exact hk))
      obtain ⟨x, hx⟩ : ∃ x : Nat, q[k]'(by rw [HL.out]; exact hk) = x ∧ x ≤ 255 := ⟨(q[k]'(by rw [HL.out]; exact hk)).toNat, by have := Go.bounds_u8 hx0; omega⟩
      rw [hx.1] at hx1
      have hx2 := hx.2
      clear hx hx0
      generalize hm : (Num.firsts p).length = m at hfk
      have HM := Aside0.mk hm
      clear hm
      have hy0 : 0 ≤ (x : Int) % ((m : Int) + 1) := Int.emod_nonneg _ (by omega)
      have hy1 : (x : Int) % ((m : Int) + 1) < (m : Int) + 1 := Int.emod_lt_of_pos _ (by omega)
      have HS := Aside0.mk ((right_step HI.out.2.2.1 ((x : Int) % ((m : Int) + 1))).2 ⟨hy0, by rw [HM.out]; omega⟩)
      have HF := Aside0.mk (firsts_step HI.out.2.2.1 hy0 (by rw [HM.out]; omega))
      have HLP := Aside0.mk (show p.length ≤ 1000000 by have := HI.out.2.1; omega)
      by_cases hym : (x : Int) % ((m : Int) + 1) = (m : Int)
      · have g1 : ((x : Int) % ((m : Int) + 1) == (m : Int)) = true := beq_iff_eq.mpr hym
        have HE := Aside0.mk (show (Num.firsts (p ++ [(x : Int) % ((m : Int) + 1)])).length = m + 1 by rw [HF.out, HM.out, if_pos hym])
        clear hym hy0 hy1
        go_wp2_with (at_builtin; refine append_int (w0 := w) (W := wr) w.heap.size rfl (.tmp 28) (.tmp 30) rfl _ p _ rfl rfl HI.out.2.2.2.1 HI.out.2.2.2.2 HI.out.2.2.2.2.size HLP.out ?_; rintro v1 w1 hR1 hB1; have HK := Aside0.mk (And.intro hR1 hB1); clear hR1 hB1)
        go_roundw
        case rel => exact ⟨k + 1, _, by go_num, by rw [HE.out]; go_num, by omega, by rw [List.length_append, HI.out.2.1]; rfl, HS.out, HK.out.1, HK.out.2⟩
        case measure => simp [intOf]; omega
      · have g1 : ((x : Int) % ((m : Int) + 1) == (m : Int)) = false := beq_eq_false_iff_ne.mpr hym
        have HE := Aside0.mk (show (Num.firsts (p ++ [(x : Int) % ((m : Int) + 1)])).length = m by rw [HF.out, HM.out, if_neg hym])
        clear hym hy0 hy1
        go_wp2_with (at_builtin; refine append_int (w0 := w) (W := wr) w.heap.size rfl (.tmp 28) (.tmp 30) rfl _ p _ rfl rfl HI.out.2.2.2.1 HI.out.2.2.2.2 HI.out.2.2.2.2.size HLP.out ?_; rintro v1 w1 hR1 hB1; have HK := Aside0.mk (And.intro hR1 hB1); clear hR1 hB1)
        go_roundw
        case rel => exact ⟨k + 1, _, by go_num, by rw [HE.out], by omega, by rw [List.length_append, HI.out.2.1]; rfl, HS.out, HK.out.1, HK.out.2⟩
        case measure => simp [intOf]; omega
    · have hk' : k = n := by omega
      have HP := Aside0.mk (show rightP p from ⟨by have := HI.out.2.1; omega, HI.out.2.2.1⟩)
      have HPL := Aside0.mk (show p.length = n by rw [HI.out.2.1]; exact hk')
      clear hk'
      go_wp2
      go_ret
      exact ⟨_, p, rfl, HP.out, HPL.out, HI.out.2.2.2.1, HI.out.2.2.2.2⟩
end Go.Proofs.Ytboofecfmhbacaa
