/- The walk of the reference's Texts. -/
import Derived.Test.YtboofecfmhbacaaH2
namespace Go.Proofs.Ytboofecfmhbacaa
open Go.RowKit Go.WideMaps Go.Maps Go.Proofs.YtboofecfmhbacaaW.PrintWords Go.Proofs.YtboofecfmhbacaaW.PrintLast Go.Proofs.YtboofecfmhbacaaW.PrintMore
set_option linter.unusedVariables false
set_option linter.unusedSimpArgs false

section
open Num
variable {α : Type} [DecidableEq α]
/-- Where a key is met first. -/
def placeOf (l : List α) (x : α) : Nat := l.idxOf x
/-- Where each of the first i keys is met first. -/
def metAt (l : List α) (d : α) (i : Nat) : List Int := (List.range i).map fun j => ((placeOf l (l.getD j d) : Nat) : Int)
theorem metAt_length (l : List α) (d : α) (i : Nat) : (metAt l d i).length = i := by simp [metAt]
theorem metAt_succ (l : List α) (d : α) (i : Nat) : metAt l d (i + 1) = metAt l d i ++ [((placeOf l (l.getD i d) : Nat) : Int)] := by simp [metAt, List.range_succ]
theorem metAt_num (l : List α) (d : α) : Num.num (metAt l d l.length) = Num.num l := by
  rw [num_numR l d]
  unfold numR metAt
  refine (num_congr (fun j => ((placeOf l (l.getD j d) : Nat) : Int)) (fun j => l.getD j d) (List.range l.length) ?_).1
  intro a ha b hb
  have ha' := List.mem_range.1 ha
  have hb' := List.mem_range.1 hb
  have e1 : l.getD a d = l[a] := by simp [List.getD_eq_getElem?_getD, List.getElem?_eq_getElem ha']
  have e2 : l.getD b d = l[b] := by simp [List.getD_eq_getElem?_getD, List.getElem?_eq_getElem hb']
  rw [e1, e2]
  unfold placeOf
  constructor
  · intro h
    have h1 : l[l.idxOf l[a]]'(List.idxOf_lt_length_of_mem (List.getElem_mem ha')) = l[a] := List.getElem_idxOf _
    have h2 : l[l.idxOf l[b]]'(List.idxOf_lt_length_of_mem (List.getElem_mem hb')) = l[b] := List.getElem_idxOf _
    have h3 : l.idxOf l[a] = l.idxOf l[b] := by omega
    rw [← h1, ← h2]
    simp only [h3]
  · intro h
    rw [h]
theorem idxOf_least (l : List α) (x : α) (a : Nat) (ha : a < l.length) (hx : l[a] = x) (hno : ∀ k (h : k < a), l[k]'(by omega) ≠ x) : placeOf l x = a := by
  unfold placeOf
  have hm : x ∈ l := by rw [← hx]; exact List.getElem_mem ha
  have h1 := List.idxOf_lt_length_of_mem hm
  have h2 : l[l.idxOf x] = x := List.getElem_idxOf h1
  rcases Nat.lt_trichotomy (l.idxOf x) a with h | h | h
  · exact absurd h2 (hno _ h)
  · exact h
  · exfalso
    have h3 : l.idxOf x ≤ a := by
      have : x ∈ l.take (a + 1) := by
        rw [← hx, List.mem_take_iff_getElem]
        exact ⟨a, by omega, rfl⟩
      have h4 := List.idxOf_lt_length_of_mem this
      have h5 := idxOf_prefix (List.take_prefix (a + 1) l) this
      rw [List.length_take] at h4
      omega
    omega
end

theorem str_eq {a b : ByteArray} (h : a = b) : (a.toList == b.toList) = true := by subst h; exact beq_self_eq_true _
theorem str_ne {a b : ByteArray} (h : a ≠ b) : (a.toList == b.toList) = false := beq_eq_false_iff_ne.mpr fun e => h (by
  rw [ByteArray.toList_eq, ByteArray.toList_eq] at e
  exact Go.WideShapes.bytes_inj e)
set_option maxRecDepth 100000 in
set_option maxHeartbeats 4000000 in
theorem refTexts_walk (A0 : Option Addr) (c0 : Nat) (l : List ByteArray) (w : World) (hr : Kd.C Kd.string w A0 l.length l) (hn : l.length ≤ 1000000) :
    Calls Try.prog 22 #[.slice A0 l.length c0] w fun e w' => ∃ v, e = .returned v ∧ Kd.R (Kd.int .i64) 3 w' w.heap.size (fun _ => True) v (Num.num l) ∧ Below w.heap.size w w' := by
  have HR := Aside0.mk hr
  clear hr
  go_enter Try.func22, Try.ntmps22
  go_wp2
  go_loopw [3, 4] (fun out i wr => ∃ k : Nat, i = .int .i64 k ∧ Aside0 (k ≤ l.length ∧ Kd.R (Kd.int .i64) 3 wr w.heap.size (fun _ => True) out (metAt l ByteArray.empty k) ∧ Below w.heap.size w wr)) (fun _ i _ => l.length - (intOf i).toNat)
  case atStart => exact ⟨0, rfl, Nat.zero_le _, Kd.R_nil _ _ _ _ _, Below.refl _ _⟩
  case round =>
    obtain ⟨i, rfl, HI⟩ := hrel
    have hil := HI.out.1
    by_cases hi : i < l.length
    · go_wp2
      obtain ⟨wo, hwo⟩ : ∃ wo : World, wo = wr := ⟨_, rfl⟩
      rw [← hwo] at HI ⊢
      clear hwo
      go_loopw [5, 6] (fun a k wq => ∃ (x : Int) (m b : Nat), k = .int .i64 x ∧ a = .int .i64 b ∧ Aside0 (x = (m : Int) - 1 ∧ m ≤ i + 1 ∧ (∃ hb : b ≤ i, l[b] = l[i] ∧ ∀ k (h1 : m ≤ k) (h2 : k < b), l[k]'(by omega) ≠ l[i]) ∧ Below wo.heap.size wo wq)) (fun _ k _ => (intOf k + 1).toNat)
      case atStart => exact ⟨_, i + 1, i, rfl, rfl, by omega, Nat.le_refl _, ⟨Nat.le_refl _, rfl, fun k h1 h2 => by omega⟩, Below.refl _ _⟩
      case round =>
        obtain ⟨x, m, b, rfl, rfl, HJ⟩ := hrel
        obtain ⟨hx, hmi, ⟨hb, hbe, hbn⟩, hB⟩ := HJ.out
        cases m with
        | zero =>
          obtain rfl : x = -1 := by omega
          have hidx := idxOf_least l l[i] b (by omega) hbe (fun k h => hbn k (by omega) h)
          have HS := Aside0.mk (show metAt l ByteArray.empty i ++ [((b : Nat) : Int)] = metAt l ByteArray.empty (i + 1) by
            rw [metAt_succ, show l.getD i ByteArray.empty = l[i] by simp [List.getD_eq_getElem?_getD, List.getElem?_eq_getElem hi], hidx])
          have HK := Aside0.mk (And.intro (Kd.R_below HI.out.2.1 hB) (HI.out.2.2.trans (hB.mono HI.out.2.2.size)))
          have HL := Aside0.mk (show (metAt l ByteArray.empty i).length ≤ 1000000 by rw [metAt_length]; omega)
          clear hx hmi hbe hbn hB hidx
          go_wp2_with (at_builtin; refine append_int (w0 := w) (W := wr) w.heap.size rfl (.tmp 29) (.tmp 31) rfl _ (metAt l ByteArray.empty i) _ rfl rfl HK.out.1 HK.out.2 HK.out.2.size HL.out ?_; rintro v1 w1 hR1 hB1; rw [HS.out] at hR1; have HD := Aside0.mk (And.intro hR1 hB1); clear hR1 hB1)
          go_roundw
          case rel => exact ⟨i + 1, by go_num, by omega, HD.out.1, HD.out.2⟩
          case measure => simp [intOf]; omega
        | succ j =>
          obtain rfl : x = (j : Int) := by omega
          have HB := Aside0.mk (HI.out.2.2.trans (hB.mono HI.out.2.2.size))
          have hji : j < l.length := by omega
          obtain ⟨ad, e1, hx1⟩ := strs_at (Kd.C_below HR.out HB.out) i hi
          obtain ⟨ad', e2, hx2⟩ := strs_at (Kd.C_below HR.out HB.out) j hji
          subst e1
          obtain rfl : ad = ad' := by injection e2
          have HQB := Aside0.mk (fun m => pw_below_drewN hB m)
          by_cases h1 : l[j] = l[i]
          · have hb1 := str_eq h1
            have HK := Aside0.mk (show ∃ hb : j ≤ i, l[j] = l[i] ∧ ∀ k (h1 : j ≤ k) (h2 : k < j), l[k]'(by omega) ≠ l[i] from ⟨by omega, h1, fun k h1 h2 => by omega⟩)
            have hmi2 : j ≤ i + 1 := by omega
            clear h1 hx hmi hbe hbn hB
            go_wp2
            go_quiet (fail)
            go_wp2
            go_roundw
            case rel => exact ⟨(j : Int) - 1, j, j, by go_num, rfl, rfl, hmi2, HK.out, HQB.out nq⟩
            case measure => simp [intOf]
          · have hb1 := str_ne h1
            have HK := Aside0.mk (show ∃ hb : b ≤ i, l[b] = l[i] ∧ ∀ k (h1 : j ≤ k) (h2 : k < b), l[k]'(by omega) ≠ l[i] from ⟨hb, hbe, fun k h3 h4 => by
              by_cases e : k = j
              · subst e; exact h1
              · exact hbn k (by omega) h4⟩)
            have hmi2 : j ≤ i + 1 := by omega
            clear h1 hx hmi hbe hbn hB
            go_wp2
            go_quiet (fail)
            go_wp2
            go_roundw
            case rel => exact ⟨(j : Int) - 1, j, b, by go_num, rfl, rfl, hmi2, HK.out, HQB.out nq⟩
            case measure => simp [intOf]
    · have hi' : i = l.length := by omega
      obtain ⟨A2, c2, hu, hc2, hC2⟩ := Kd.R_reads HI.out.2.1
      rw [hi'] at hu hC2
      subst hu
      have hnum := refInts_walk A2 c2 (metAt l ByteArray.empty l.length) wr hC2 (by rw [metAt_length]; omega)
      rw [metAt_num] at hnum
      rw [metAt_length] at hnum ⊢
      have HN := Aside0.mk hnum
      clear hi' hC2 hnum
      go_wp2_with (go_at_call 21; refine HN.out.mono ?_; rintro e w9 ⟨v, rfl, hR9, hB9⟩; have HD := Aside0.mk (And.intro (Kd.R_lower hR9 HI.out.2.2.size) (HI.out.2.2.trans (hB9.mono HI.out.2.2.size))); clear hR9 hB9)
      go_ret
      exact ⟨_, rfl, HD.out.1, HD.out.2⟩
end Go.Proofs.Ytboofecfmhbacaa
