/- The walks of numbered, for strings and for words of 66 integers (printed by gen1.py out of the ones for integers and for pairs). -/
import Derived.Test.YtboofecfmhbacaaG2
namespace Go.Proofs.Ytboofecfmhbacaa
open Go.RowKit Go.WideMaps Go.Maps Go.Proofs.YtboofecfmhbacaaW.PrintWords Go.Proofs.YtboofecfmhbacaaW.PrintLast Go.Proofs.YtboofecfmhbacaaW.PrintMore
set_option linter.unusedVariables false
set_option linter.unusedSimpArgs false
theorem law_string : Keyed Try.prog 9 := string_keyed Try.underlying9
theorem string_inj (x y : ByteArray) (h : Value.string x = Value.string y) : x = y := by injection h

set_option maxRecDepth 100000 in
set_option maxHeartbeats 1000000 in
theorem numbered_string_walk (A0 : Option Addr) (c0 : Nat) (l : List ByteArray) (w : World) (hr : Kd.C Kd.string w A0 l.length l) (hlen : l.length < 1099511627776) (hwf : ∀ x ∈ l, x.size ≤ maxLen) :
    Calls Try.prog 42 #[.slice A0 l.length c0] w fun e w' => ∃ v0_ : Value, e = .returned (v0_) ∧ Kd.R (Kd.int .i64) 3 w' w.heap.size (fun _ => True) v0_ (Num.num l) ∧ Below w.heap.size w w' := by
  have HR := Aside0.mk (Kd.reads_of_C (d := ByteArray.empty) hr)
  clear hr
  have hmm := @run_makeMap Try.prog
  have hmk := print_make 22 3 .i64 8 Try.underlying22 info3 (by decide) l.length (by omega)
  have HW := Aside0.mk hwf
  clear hwf
  go_enter Try.func42, Try.ntmps42
  go_wp2
  go_loopw [5, 16] (fun n i wr => ∃ k : Nat, i = .int .i64 k ∧ n = .int .i64 (Num.firsts (l.take k)).length ∧ Aside0 (NumInv 9 Value.string l w wr k)) (fun _ i _ => l.length - (intOf i).toNat)
  case atStart => exact ⟨0, rfl, rfl, ⟨NumInv.start 9 Value.string l w (by omega)⟩⟩
  case round =>
    obtain ⟨k, rfl, rfl, HI⟩ := hrel
    have hkl := HI.out.le
    by_cases hk : k < l.length
    · obtain ⟨ad, e, hx⟩ := (HR.out.below HI.out.below).at_ (k : Int) (by omega) (by omega)
      subst e
      have hfl := Num.length_firsts_le (l.take k)
      have hfk : (Num.firsts (l.take k)).length ≤ k := Nat.le_trans hfl (by simp; omega)
      clear hfl
      have hkey := keyOf_string_mk Try.underlying9 (HW.out l[k] (List.getElem_mem hk))
      have hxe : rdOf ByteArray.empty l (k : Int) = l[k] := by simp [rdOf, List.getD_eq_getElem?_getD, List.getElem?_eq_getElem hk]
      rw [Int.toNat_natCast, hxe] at hx
      clear hxe
      by_cases hm : l[k] ∈ Num.firsts (l.take k)
      · have hlook := HI.out.map.look_in law_string Try.underlying87 Try.underlying3 zero3 hkey hm
        have HN := Aside0.mk (HI.out.old hk hm rfl)
        obtain ⟨⟨v, hv⟩, hf⟩ := HI.out.cell hk
        have HM := Aside0.mk hm
        clear hm hkey
        generalize Num.spot (Num.firsts (l.take k)) l[k] = b at hlook HN
        generalize hx' : l[k] = x at hlook hx
        have HX := Aside0.mk hx'
        clear hx'
        go_wp2
        go_roundw
        case rel => exact ⟨k + 1, by go_num, by rw [Num.firsts_succ l k hk, if_pos HM.out], HN⟩
        case measure => simp [intOf]; omega
      · have hlook := HI.out.map.look_out law_string Try.underlying87 Try.underlying3 zero3 hkey hm
        obtain ⟨w1, hput, hmap, hg⟩ := HI.out.map.put law_string string_inj Try.underlying87 Try.underlying3 hkey hm (by omega) rfl
        obtain ⟨HN0, ⟨v, hv⟩, hf⟩ := HI.out.new hk hm hmap hg rfl
        have HN := Aside0.mk HN0
        have HM := Aside0.mk hm
        clear HN0 hmap hg hm hkey
        generalize hx' : l[k] = x at hlook hx hput
        have HX := Aside0.mk hx'
        clear hx'
        go_wp2
        go_roundw
        case rel => exact ⟨k + 1, by go_num, by rw [Num.firsts_succ l k hk, if_neg HM.out]; simp, HN⟩
        case measure => simp [intOf]; omega
    · have HD := Aside0.mk (HI.out.done hk)
      go_wp2
      go_ret
      exact ⟨_, rfl, HD.out.1, HD.out.2⟩

def zeros66 : List Int := List.replicate 66 0
theorem zeros66_length : zeros66.length = 66 := by rw [zeros66, List.length_replicate]
theorem size93 : (Try.prog.info? 93).map (·.size) = some 66 := by kernel_rfl
theorem zero93 (w : World) : (zeroValue 93).run Try.prog w = .ok (.agg (cellsOf zeros66)) w := by kernel_rfl
theorem keyed93 : Keyed Try.prog 93 := Keyed.of_law (deep_law_laid (m := 5) (by kernel_rfl) (by decide) (of_decide_eq_true (by kernel_rfl)) (by kernel_rfl) (by kernel_rfl))

set_option maxRecDepth 100000 in
set_option maxHeartbeats 1000000 in
theorem numbered_word_walk (A0 : Option Addr) (c0 : Nat) (l : List (List Int)) (w : World) (hr : (Karr 66).C w A0 l.length l) (hlen : l.length < 1099511627776) (hk2 : ∀ x ∈ l, ∃ q, keyOf Try.prog 93 (encArr x) = some q) :
    Calls Try.prog 71 #[.slice A0 l.length c0] w fun e w' => ∃ v0_ : Value, e = .returned (v0_) ∧ Kd.R (Kd.int .i64) 3 w' w.heap.size (fun _ => True) v0_ (Num.num l) ∧ Below w.heap.size w w' := by
  have HR := Aside0.mk hr
  clear hr
  have hmm := @run_makeMap Try.prog
  have hmk := print_make 22 3 .i64 8 Try.underlying22 info3 (by decide) l.length (by omega)
  have HW := Aside0.mk hk2
  clear hk2
  go_enter Try.func71, Try.ntmps71
  go_wp2
  go_loopw [5, 16] (fun n i wr => ∃ k : Nat, i = .int .i64 k ∧ n = .int .i64 (Num.firsts (l.take k)).length ∧ Aside0 (NumInv 93 encArr l w wr k)) (fun _ i _ => l.length - (intOf i).toNat)
  case atStart => exact ⟨0, rfl, rfl, ⟨NumInv.start 93 encArr l w (by omega)⟩⟩
  case round =>
    obtain ⟨k, rfl, rfl, HI⟩ := hrel
    have hkl := HI.out.le
    by_cases hk : k < l.length
    · obtain ⟨ad, cs, e, hcl, hK, hx⟩ := Kd.C_get (Kd.C_below HR.out HI.out.below) [] (k : Int) (by omega) (by omega)
      subst e
      have hfl := Num.length_firsts_le (l.take k)
      have hfk : (Num.firsts (l.take k)).length ≤ k := Nat.le_trans hfl (by simp; omega)
      clear hfl
      obtain ⟨q, hkey⟩ := HW.out l[k] (List.getElem_mem hk)
      have hxe : l.getD k [] = l[k] := by simp [List.getD_eq_getElem?_getD, List.getElem?_eq_getElem hk]
      rw [Int.toNat_natCast] at hx hK
      rw [hxe] at hK
      clear hxe hcl
      have HX := Aside0.mk (Karr_cells hK hx)
      clear hK hx
      have HZ := Aside0.mk (HI.out.alloc (.cells (cellsOf l[k]) 93))
      have HS := Aside0.mk (show (Try.prog.info? 93).map (·.size) = some (cellsOf l[k]).size by rw [cellsOf_size, HX.out.1]; exact size93)
      have HS2 := Aside0.mk (show (cellsOf zeros66).size = (cellsOf l[k]).size by rw [cellsOf_size, cellsOf_size, HX.out.1, zeros66_length])
      by_cases hm : l[k] ∈ Num.firsts (l.take k)
      · have hlook := HZ.out.map.look_in keyed93 Try.underlying98 Try.underlying3 zero3 hkey hm
        rw [encArr] at hlook
        have HN := Aside0.mk (HZ.out.old hk hm rfl)
        obtain ⟨⟨v, hv⟩, hf⟩ := HZ.out.cell hk
        have HM := Aside0.mk hm
        clear hm hkey
        generalize Num.spot (Num.firsts (l.take k)) l[k] = b at hlook HN
        go_wp2_with (first
          | (with_reducible refine wpList_load_at rfl 93 (.tmp 19) rfl _ rfl (cellsOf l[k]) _ Try.underlying93 rfl HS.out HX.out.2 ?_)
          | (with_reducible refine wpList_alloc_agg rfl 93 rfl (cellsOf zeros66) zero93 ?_)
          | (with_reducible refine wpList_store_new rfl 93 (.tmp 7) (.tmp 20) rfl wr (cellsOf zeros66) rfl rfl (cellsOf l[k]) rfl HS.out HS2.out (cellsOf_one _) ?_)
          | (with_reducible refine wpList_load_row rfl 93 (.tmp 7) rfl wr.heap.size rfl 93 (cellsOf l[k]) (0, 0) _ (heap_alloc_last wr _) Try.underlying93 rfl HS.out ?_))
        go_roundw
        case rel => exact ⟨k + 1, by go_num, by rw [Num.firsts_succ l k hk, if_pos HM.out], HN⟩
        case measure => simp [intOf]; omega
      · have hlook := HZ.out.map.look_out keyed93 Try.underlying98 Try.underlying3 zero3 hkey hm
        obtain ⟨w1, hput, hmap, hg⟩ := HZ.out.map.put keyed93 encArr_inj Try.underlying98 Try.underlying3 hkey hm (by omega) rfl
        rw [encArr] at hlook hput
        obtain ⟨HN0, ⟨v, hv⟩, hf⟩ := HZ.out.new hk hm hmap hg rfl
        have HN := Aside0.mk HN0
        have HM := Aside0.mk hm
        clear HN0 hmap hg hm hkey
        go_wp2_with (first
          | (with_reducible refine wpList_load_at rfl 93 (.tmp 19) rfl _ rfl (cellsOf l[k]) _ Try.underlying93 rfl HS.out HX.out.2 ?_)
          | (with_reducible refine wpList_alloc_agg rfl 93 rfl (cellsOf zeros66) zero93 ?_)
          | (with_reducible refine wpList_store_new rfl 93 (.tmp 7) (.tmp 20) rfl wr (cellsOf zeros66) rfl rfl (cellsOf l[k]) rfl HS.out HS2.out (cellsOf_one _) ?_)
          | (with_reducible refine wpList_load_row rfl 93 (.tmp 7) rfl wr.heap.size rfl 93 (cellsOf l[k]) (0, 0) _ (heap_alloc_last wr _) Try.underlying93 rfl HS.out ?_))
        go_roundw
        case rel => exact ⟨k + 1, by go_num, by rw [Num.firsts_succ l k hk, if_neg HM.out]; simp, HN⟩
        case measure => simp [intOf]; omega
    · have HD := Aside0.mk (HI.out.done hk)
      go_wp2
      go_ret
      exact ⟨_, rfl, HD.out.1, HD.out.2⟩

end Go.Proofs.Ytboofecfmhbacaa
