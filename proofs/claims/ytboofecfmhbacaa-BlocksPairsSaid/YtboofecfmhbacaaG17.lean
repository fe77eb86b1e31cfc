/- The walk of the laws' helper Follows. -/
import Derived.Test.YtboofecfmhbacaaG16
import Derived.Deep.RegionLaw
namespace Go.Proofs.Ytboofecfmhbacaa
open Go.RowKit Go.WideMaps Go.Maps Go.Proofs.YtboofecfmhbacaaW.PrintWords Go.Proofs.YtboofecfmhbacaaW.PrintLast Go.Proofs.YtboofecfmhbacaaW.PrintMore
set_option linter.unusedVariables false
set_option linter.unusedSimpArgs false

/-- The lists that Follows has made so far: element i has k tries behind it. -/
def Few (n : Nat) (ls : List (List Int)) (i k : Nat) : Prop := ∀ b (h : b < ls.length), (∀ y ∈ ls[b], 0 ≤ y ∧ y < n) ∧ ls[b].length ≤ (if b < i then 3 else if b = i then k else 0)
theorem Few.start (n : Nat) : Few n (List.replicate n []) 0 0 := fun b h => by simp
theorem Few.skip {n : Nat} {ls : List (List Int)} {i k : Nat} (h : Few n ls i k) : Few n ls i (k + 1) := fun b hb => ⟨(h b hb).1, by
  have := (h b hb).2
  split at this <;> split <;> try omega
  · split at this <;> split <;> omega⟩
theorem Few.next {n : Nat} {ls : List (List Int)} {i : Nat} (h : Few n ls i 3) : Few n ls (i + 1) 0 := fun b hb => ⟨(h b hb).1, by
  have h2 := (h b hb).2
  by_cases h3 : b < i
  · rw [if_pos h3] at h2; rw [if_pos (by omega)]; exact h2
  · rw [if_neg h3] at h2
    by_cases h4 : b = i
    · rw [if_pos h4] at h2; rw [if_pos (by omega)]; exact h2
    · rw [if_neg h4] at h2; rw [if_neg (by omega)]; split <;> omega⟩
theorem Few.put {n : Nat} {ls : List (List Int)} {i k : Nat} (h : Few n ls i k) (hi : i < ls.length) {y : Int} (h0 : 0 ≤ y) (h1 : y < n) : Few n (ls.set i (ls[i] ++ [y])) i (k + 1) := fun b hb => by
  have hb' : b < ls.length := by simpa using hb
  by_cases e : b = i
  · subst e
    rw [List.getElem_set_self]
    refine ⟨fun z hz => ?_, ?_⟩
    · rcases List.mem_append.1 hz with hz | hz
      · exact (h b hb').1 z hz
      · rw [List.mem_singleton.1 hz]; exact ⟨h0, h1⟩
    · have := (h b hb').2
      simp at this ⊢
      omega
  · rw [List.getElem_set_ne (Ne.symm e)]
    exact h.skip b hb'
theorem Few.done {n : Nat} {ls : List (List Int)} (h : Few n ls n 0) (hl : ls.length = n) : nextP n ls := by
  refine ⟨hl, fun l hm => ?_⟩
  obtain ⟨b, hb, rfl⟩ := List.mem_iff_getElem.1 hm
  have h2 := h b hb
  rw [if_pos (by omega)] at h2
  exact ⟨by omega, h2.1⟩

set_option maxRecDepth 100000 in
set_option maxHeartbeats 4000000 in
theorem follows_walk (n : Nat) (A0 : Option Addr) (c0 : Nat) (l : List Int) (w : World) (hr : Kd.C (Kd.int .u8) w A0 l.length l) (hw : ∀ y ∈ l, (Lit.int .u8 y).wf = true) (hn : n ≤ 30) :
    Calls Try.prog 26 #[.int .i64 n, .slice A0 l.length c0] w fun e w' => ∃ v next, e = .returned v ∧ nextP n next ∧ Kd.R (Kd.slice 3 (Kd.int .i64)) 22 w' w.heap.size (fun _ => True) v next ∧ Below w.heap.size w w' := by
  have hb := len_le hr
  have HR := Aside0.mk hr
  have HW := Aside0.mk hw
  have hmk := print_make_of 36 22 (.slice none 0 0) 24 Try.underlying36 info22 rfl (by decide) n (by omega)
  clear hr hw
  go_enter Try.func26, Try.ntmps26
  go_wp2
  go_loopw [13] (fun i wr => ∃ (k : Nat) (vs : List Value) (ls : List (List Int)), i = .int .i64 k ∧ Aside0 (k ≤ n ∧ Rows w w.heap.size wr (some ⟨w.heap.size, 0, none⟩) n n vs ls ∧ Few n ls k 0)) (fun i _ => n - (intOf i).toNat)
  case atStart => exact ⟨0, _, _, rfl, Nat.zero_le _, Rows.made w w w.heap.size n (Below.refl _ _) (Nat.le_refl _) (by omega), Few.start n⟩
  case round =>
    obtain ⟨i, vs, ls, rfl, HI⟩ := hrel
    have hil := HI.out.1
    by_cases hi : i < n
    · go_wp2
      go_loopw [16] (fun k wr => ∃ (j : Nat) (vs : List Value) (ls : List (List Int)), k = .int .i64 j ∧ Aside0 (j ≤ 3 ∧ Rows w w.heap.size wr (some ⟨w.heap.size, 0, none⟩) n n vs ls ∧ Few n ls i j)) (fun k _ => 3 - (intOf k).toNat)
      case atStart => exact ⟨0, vs, ls, rfl, by omega, HI.out.2.1, HI.out.2.2⟩
      case round =>
        clear HI vs ls
        obtain ⟨j, vs, ls, rfl, HJ⟩ := hrel
        have hjl := HJ.out.1
        by_cases hj : j < 3
        · by_cases hx : 3 * i + j < l.length
          · obtain ⟨ad, e1, hx1⟩ := ints_at (Kd.C_below HR.out HJ.out.2.1.below) (3 * i + j) hx
            subst e1
            have hxw := Go.bounds_u8 (HW.out _ (List.getElem_mem hx))
            obtain ⟨x, hxe⟩ : ∃ x : Nat, l[3 * i + j] = x := ⟨l[3 * i + j].toNat, by omega⟩
            have hx255 : x ≤ 255 := by omega
            rw [hxe] at hx1
            have g0 : decide ((3 : Int) * (i : Int) + (j : Int) < (l.length : Int)) = true := decide_eq_true (by omega)
            clear hxe hxw
            by_cases h200 : x < 200
            · have g1 : decide ((x : Int) < 200) = true := decide_eq_true (by omega)
              obtain ⟨hc, hf⟩ := HJ.out.2.1.cell i hi
              have hb1 : i < vs.length := by rw [HJ.out.2.1.vlen]; exact hi
              have hb2 : i < ls.length := by rw [HJ.out.2.1.len]; exact hi
              have hO := HJ.out.2.1.inner i hi hb1 hb2
              obtain ⟨A4, c4, hv4⟩ := own_shape hO
              have hy0 : 0 ≤ (x : Int) % (n : Int) := Int.emod_nonneg _ (by omega)
              have hy1 : (x : Int) % (n : Int) < (n : Int) := Int.emod_lt_of_pos _ (by omega)
              have HF := Aside0.mk (HJ.out.2.2.put hb2 hy0 hy1)
              have hll := (HJ.out.2.2 i hb2).2
              rw [if_neg (Nat.lt_irrefl i), if_pos rfl] at hll
              have HL := Aside0.mk (show (ls[i].length + 1) * 8 ≤ 140737488355328 by omega)
              have HO := Aside0.mk (show Kd.R (Kd.int .i64) 3 wr.drew w.heap.size (fun _ => True) vs[i] ls[i] from Kd.R_drew (Kd.R_of_own (h1 := fun _ => rfl) (enc := Value.int .i64) hO (fun _ _ => trivial)))
              have HRD := Aside0.mk (HJ.out.2.1.lift (below_drew (Below.refl wr.heap.size wr)) HJ.out.2.1.below.size)
              rw [hv4] at hc
              have HV := Aside0.mk hv4
              have hn0 : ¬ n = 0 := by omega
              have hwr : IntKind.i64.wrap (x : Int) = (x : Int) := by rw [IntKind.wrap_i64]; omega
              have htm : (x : Int).tmod (n : Int) = (x : Int) % (n : Int) := Int.tmod_eq_emod_of_nonneg (by omega)
              have hq1 : (0 : Int) ≤ 3 * (i : Int) + (j : Int) := by omega
              have hq2 : (3 : Int) * (i : Int) + (j : Int) < (l.length : Int) := by omega
              have hq3 : ((3 : Int) * (i : Int) + (j : Int)).toNat = 3 * i + j := by omega
              have hcA : ∀ o, (wr.alloc o).cell? ⟨w.heap.size, i, none⟩ = some (.slice A4 ls[i].length c4) := fun o => pw_cell_below (lit_below wr o) hc
              have hxA : ∀ o, (wr.alloc o).cell? (ad.add (3 * i + j)) = some (.int .u8 (x : Int)) := fun o => pw_cell_below (lit_below wr o) hx1
              clear hO hv4 hy0 hy1 hll
              go_wp2
              go_region_law (refine Kd.R_append_step (Kd.int .i64) (w0 := w) (W := wr.drew) w.heap.size (by rfl) (.tmp 39) (.tmp 47) 22 3 (.int .i64 0) 8 rfl Try.underlying22 info3 rfl (by decide) (by decide) (.slice A4 ls[i].length c4) ls[i] _ [.int .i64 ((x : Int) % (n : Int))] (fun _ => True) _ rfl rfl rfl (fun _ h => h) (fun _ _ => trivial) (by rw [← HV.out]; exact HO.out) HRD.out.below HRD.out.below.size HL.out ?_; rintro v1 w3 hR3 hB3 hg hat; rw [← HV.out] at hg hat; obtain ⟨⟨v9, hc9⟩, hf9, hrows⟩ := HRD.out.append i hi hb1 hb2 (Kd.own_of_R hR3) hB3 hg hat; obtain ⟨A5, c5, rfl⟩ := R_shape (n := ls[i].length + 1) hR3 (by simp); have HK := Aside0.mk hrows; clear hR3 hB3 hg hat hrows)
              all_goals
                go_wp2
                go_roundw
                case rel => exact ⟨j + 1, _, _, by go_num, by omega, HK.out, HF.out⟩
                case measure => simp [intOf]; omega
            · have g1 : decide ((x : Int) < 200) = false := decide_eq_false (by omega)
              go_wp2
              go_roundw
              case rel => exact ⟨j + 1, vs, ls, by go_num, by omega, HJ.out.2.1, HJ.out.2.2.skip⟩
              case measure => simp [intOf]; omega
          · have g0 : decide ((3 : Int) * (i : Int) + (j : Int) < (l.length : Int)) = false := decide_eq_false (by omega)
            go_wp2
            go_roundw
            case rel => exact ⟨j + 1, vs, ls, by go_num, by omega, HJ.out.2.1, HJ.out.2.2.skip⟩
            case measure => simp [intOf]; omega
        · have hj' : j = 3 := by omega
          have HF := Aside0.mk (show Few n ls (i + 1) 0 from (by have h := HJ.out.2.2; rw [hj'] at h; exact h.next))
          clear hj'
          go_wp2
          go_roundw
          case rel => exact ⟨i + 1, _, _, by go_num, by omega, HJ.out.2.1, HF.out⟩
          case measure => simp [intOf]; omega
    · have hi' : i = n := by omega
      have HD := Aside0.mk (show Kd.R (Kd.slice 3 (Kd.int .i64)) 22 wr w.heap.size (fun _ => True) (.slice (some ⟨w.heap.size, 0, none⟩) n n) ls ∧ nextP n ls from ⟨HI.out.2.1.done, (by have h := HI.out.2.2; rw [hi'] at h; exact h.done HI.out.2.1.len)⟩)
      clear hi'
      go_wp2
      go_ret
      exact ⟨_, _, rfl, HD.out.2, HD.out.1, HI.out.2.1.below⟩
end Go.Proofs.Ytboofecfmhbacaa
