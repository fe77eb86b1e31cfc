/- The walk of numbered, for integers. -/
import Derived.Test.YtboofecfmhbacaaProg
import Derived.Below
import Derived.Deep.Draws
import Derived.Deep.AppendLies
import Derived.Maps.AppendAt
import Derived.OwnWalk
import Derived.Laws.BytesArg
import Derived.Laws.MakeOwn
import Derived.Laws.OwnMore
import Derived.Deep.OwnRows
import Derived.Tactics
import Derived.Lib.ConvBytes
import Derived.Laws.Slices
import Derived.WalkKit
import Derived.KernelRfl
import Derived.RowKit3
import Derived.Deep.LoopGhost
import Derived.Deep.QuietTactic
import Derived.BigQuiet
import Derived.WideLaws
import Derived.Deep.DeepCutAuto
import Derived.Deep.CutBlock
import Derived.Deep.RegionHeld3
import Derived.Laws.Rows
import Derived.Lib.AppendStr
import Derived.ArgAppend
import Derived.Laws.IdiomCopy
import Derived.OrdersHeld
import Derived.Laws.BitsLemmas
import Derived.RowKit
import Derived.Test.YtboofecfmhbacaaWWords
import Derived.Test.YtboofecfmhbacaaWLast
import Derived.Test.YtboofecfmhbacaaWMore
import Derived.Test.YtboofecfmhbacaaNum
import Derived.Test.YtboofecfmhbacaaMap
import Derived.Outline
namespace Go.Proofs.Ytboofecfmhbacaa
open Go.RowKit Go.WideMaps Go.Maps Go.Proofs.YtboofecfmhbacaaW.PrintWords Go.Proofs.YtboofecfmhbacaaW.PrintLast Go.Proofs.YtboofecfmhbacaaW.PrintMore
set_option linter.unusedVariables false
set_option linter.unusedSimpArgs false

theorem zero3 (w : World) : (zeroValue 3).run Try.prog w = .ok (.int .i64 0) w := by kernel_rfl
theorem info3 : (Try.prog.info? 3).map (fun i => (i.zero, i.size, i.bytes)) = some (some (.int .i64 0), 1, 8) := by kernel_rfl

/-- What holds at the head of a round of 'numbered': k rounds are over. -/
structure NumInv {α : Type} [DecidableEq α] (kt : TypeId) (enc : α → Value) (l : List α) (w wr : World) (k : Nat) : Prop where
  le : k ≤ l.length
  map : MapAs Try.prog kt 3 enc w.heap.size wr (Num.firsts (l.take k))
  row : wr.ownsRow w.heap.size 3 1 (.slice (some ⟨w.heap.size + 1, 0, none⟩) l.length l.length) l.length (encs (Value.int .i64) (Num.part l k))
  below : Below w.heap.size w wr

section
variable {α : Type} [DecidableEq α] {kt : TypeId} {enc : α → Value} {l : List α} {w wr : World} {k : Nat}
theorem NumInv.start (kt : TypeId) (enc : α → Value) (l : List α) (w : World) (h : l.length ≤ 9223372036854775807) : NumInv kt enc l w ((w.alloc (.map #[] 0)).alloc (.cells (madeCells #[.int .i64 0] l.length) 3)) 0 where
  le := Nat.zero_le _
  map := (MapAs.made Try.prog kt 3 enc w).kept (World.grownBy_alloc _ _ none) (by simp)
  row := by
    have := own_made_of (enc := Value.int .i64) (d := (0 : Int)) (w.alloc (.map #[] 0)) w.heap.size 3 l.length (by simp) h
    simpa [Num.part_zero] using this
  below := ((Below.refl _ _).alloc (Nat.le_refl _) _).alloc (by simp) _
/-- The round of a key that has been met. -/
theorem NumInv.old (h : NumInv kt enc l w wr k) (hk : k < l.length) (hm : l[k] ∈ Num.firsts (l.take k)) {b : Int} (hb : b = Num.spot (Num.firsts (l.take k)) l[k]) :
    NumInv kt enc l w (wr.setCell ⟨w.heap.size + 1, k, none⟩ (.int .i64 b)) (k + 1) where
  le := hk
  map := by
    rw [Num.firsts_succ l k hk, if_pos hm]
    exact h.map.setCell (by simp) _
  row := by
    have h1 := (h.row.stored k (.int .i64 b)).1
    have e : (encs (Value.int .i64) (Num.part l k)).set k (.int .i64 b) = encs (Value.int .i64) (Num.part l (k + 1)) := by
      rw [← Num.part_succ l k hk, Num.num_old l k hk hm, hb]
      simp [encs, List.map_set]
    rwa [e] at h1
  below := h.below.setCell (by simp) _
theorem NumInv.alloc (h : NumInv kt enc l w wr k) (o : Obj) : NumInv kt enc l w (wr.alloc o) k where
  le := h.le
  map := h.map.kept (World.grownBy_alloc wr o none) (by simp)
  row := h.row.alloc o
  below := h.below.alloc h.below.size o
theorem NumInv.cell (h : NumInv kt enc l w wr k) (hk : k < l.length) : (∃ v, wr.cell? ⟨w.heap.size + 1, k, none⟩ = some v) ∧ wr.frozen? ⟨w.heap.size + 1, k, none⟩ = false := by
  have h1 := own_at_of (d := (0 : Int)) h.row (k : Int) (by omega) (by omega)
  simp only [Int.toNat_natCast] at h1
  exact ⟨⟨_, h1.1⟩, h1.2⟩
/-- Behind the store into the map: the round of a new key. -/
theorem NumInv.new {w1 : World} (h : NumInv kt enc l w wr k) (hk : k < l.length) (hm : l[k] ∉ Num.firsts (l.take k)) (hmap : MapAs Try.prog kt 3 enc w.heap.size w1 (Num.firsts (l.take k) ++ [l[k]])) (hg : wr.grownBy w1 (some w.heap.size)) {b : Int} (hb : b = ((Num.firsts (l.take k)).length : Int)) :
    NumInv kt enc l w (w1.setCell ⟨w.heap.size + 1, k, none⟩ (.int .i64 b)) (k + 1) ∧ (∃ v, w1.cell? ⟨w.heap.size + 1, k, none⟩ = some v) ∧ w1.frozen? ⟨w.heap.size + 1, k, none⟩ = false := by
  have hrow := h.row.kept hg (.inr (by simp [Value.ownBlock]))
  have hc := own_at_of (d := (0 : Int)) hrow (k : Int) (by omega) (by omega)
  simp only [Int.toNat_natCast] at hc
  refine ⟨⟨hk, ?_, ?_, ?_⟩, ⟨_, hc.1⟩, hc.2⟩
  · rw [Num.firsts_succ l k hk, if_neg hm]
    exact hmap.setCell (by simp) _
  · have h1 := (hrow.stored k (.int .i64 b)).1
    have e : (encs (Value.int .i64) (Num.part l k)).set k (.int .i64 b) = encs (Value.int .i64) (Num.part l (k + 1)) := by
      rw [← Num.part_succ l k hk, Num.num_new l k hk hm, hb]
      simp [encs, List.map_set]
    rwa [e] at h1
  · exact (h.below.grown hg h.below.size (by simp)).setCell (by simp) _
theorem NumInv.done (h : NumInv kt enc l w wr k) (hk : ¬ k < l.length) :
    Kd.R (Kd.int .i64) 3 wr w.heap.size (fun _ => True) (.slice (some ⟨w.heap.size + 1, 0, none⟩) l.length l.length) (Num.num l) ∧ Below w.heap.size w wr := by
  obtain rfl : k = l.length := Nat.le_antisymm h.le (by omega)
  have h1 := h.row
  rw [Num.part_end] at h1
  exact ⟨Kd.R_of_own (by rw [Num.num_length]; exact h1) (fun _ _ => trivial), h.below⟩
end

theorem law_int : Keyed Try.prog 3 := int_keyed Try.underlying3
theorem int_inj (x y : Int) (h : Value.int .i64 x = Value.int .i64 y) : x = y := by injection h

set_option maxRecDepth 100000 in
set_option maxHeartbeats 1000000 in
theorem numbered_int_walk (A0 : Option Addr) (c0 : Nat) (l : List Int) (w : World) (hr : Kd.C (Kd.int .i64) w A0 l.length l) (hlen : l.length < 1099511627776) (hwf : ∀ x ∈ l, (Lit.int .i64 x).wf = true) :
    Calls Try.prog 41 #[.slice A0 l.length c0] w fun e w' => ∃ v0_ : Value, e = .returned (v0_) ∧ Kd.R (Kd.int .i64) 3 w' w.heap.size (fun _ => True) v0_ (Num.num l) ∧ Below w.heap.size w w' := by
  have HR := Aside0.mk (Kd.reads_of_C (d := (0 : Int)) hr)
  clear hr
  have hmm := @run_makeMap Try.prog
  have hmk := print_make 22 3 .i64 8 Try.underlying22 info3 (by decide) l.length (by omega)
  have HW := Aside0.mk hwf
  clear hwf
  go_enter Try.func41, Try.ntmps41
  go_wp2
  go_loopw [5, 16] (fun n i wr => ∃ k : Nat, i = .int .i64 k ∧ n = .int .i64 (Num.firsts (l.take k)).length ∧ Aside0 (NumInv 3 (Value.int .i64) l w wr k)) (fun _ i _ => l.length - (intOf i).toNat)
  case atStart => exact ⟨0, rfl, rfl, ⟨NumInv.start 3 (Value.int .i64) l w (by omega)⟩⟩
  case round =>
    obtain ⟨k, rfl, rfl, HI⟩ := hrel
    have hkl := HI.out.le
    by_cases hk : k < l.length
    · obtain ⟨ad, e, hx⟩ := (HR.out.below HI.out.below).at_ (k : Int) (by omega) (by omega)
      subst e
      have hfl := Num.length_firsts_le (l.take k)
      have hfk : (Num.firsts (l.take k)).length ≤ k := Nat.le_trans hfl (by simp; omega)
      clear hfl
      have hkey := keyOf_int_mk Try.underlying3 (HW.out l[k] (List.getElem_mem hk))
      have hxe : rdOf 0 l (k : Int) = l[k] := by simp [rdOf, List.getD_eq_getElem?_getD, List.getElem?_eq_getElem hk]
      rw [Int.toNat_natCast, hxe] at hx
      clear hxe
      by_cases hm : l[k] ∈ Num.firsts (l.take k)
      · have hlook := HI.out.map.look_in law_int Try.underlying81 Try.underlying3 zero3 hkey hm
        have HN := Aside0.mk (HI.out.old hk hm rfl)
        obtain ⟨⟨v, hv⟩, hf⟩ := HI.out.cell hk
        have HM := Aside0.mk hm
        clear hm hkey
        generalize Num.spot (Num.firsts (l.take k)) l[k] = b at hlook HN
        generalize hx' : l[k] = x at hlook hx
        have HX := Aside0.mk hx'
        clear hx'
        go_wp2
        go_roundw
        case rel => exact ⟨k + 1, by go_num, by rw [Num.firsts_succ l k hk, if_pos HM.out], HN⟩
        case measure => simp [intOf]; omega
      · have hlook := HI.out.map.look_out law_int Try.underlying81 Try.underlying3 zero3 hkey hm
        obtain ⟨w1, hput, hmap, hg⟩ := HI.out.map.put law_int int_inj Try.underlying81 Try.underlying3 hkey hm (by omega) rfl
        obtain ⟨HN0, ⟨v, hv⟩, hf⟩ := HI.out.new hk hm hmap hg rfl
        have HN := Aside0.mk HN0
        have HM := Aside0.mk hm
        clear HN0 hmap hg hm hkey
        generalize hx' : l[k] = x at hlook hx hput
        have HX := Aside0.mk hx'
        clear hx'
        go_wp2
        go_roundw
        case rel => exact ⟨k + 1, by go_num, by rw [Num.firsts_succ l k hk, if_neg HM.out]; simp, HN⟩
        case measure => simp [intOf]; omega
    · have HD := Aside0.mk (HI.out.done hk)
      go_wp2
      go_ret
      exact ⟨_, rfl, HD.out.1, HD.out.2⟩
end Go.Proofs.Ytboofecfmhbacaa
