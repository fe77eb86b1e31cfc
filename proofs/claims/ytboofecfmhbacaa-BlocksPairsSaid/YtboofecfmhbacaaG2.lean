/- The walk of numbered, for arrays of two integers. -/
import Derived.Test.YtboofecfmhbacaaG1
import Derived.Test.YtboofecfmhbacaaAgg
import Derived.DeepKeys4
namespace Go.Proofs.Ytboofecfmhbacaa
open Go.RowKit Go.WideMaps Go.Maps Go.Proofs.YtboofecfmhbacaaW.PrintWords Go.Proofs.YtboofecfmhbacaaW.PrintLast Go.Proofs.YtboofecfmhbacaaW.PrintMore
set_option linter.unusedVariables false
set_option linter.unusedSimpArgs false

/-- An array of n integers, as a value, its cells in a list. -/
def cellsOf (x : List Int) : Array Value := (x.map (Value.int .i64)).toArray
def encArr (x : List Int) : Value := .agg (cellsOf x)
theorem encArr_inj (x y : List Int) (h : encArr x = encArr y) : x = y := by
  have h1 : cellsOf x = cellsOf y := by injection h
  have h2 : x.map (Value.int .i64) = y.map (Value.int .i64) := by simpa [cellsOf] using h1
  exact (List.map_inj_right (fun a b h => by injection h)).1 h2
theorem cellsOf_size (x : List Int) : (cellsOf x).size = x.length := by simp [cellsOf]
theorem cellsOf_one (x : List Int) : ∀ v ∈ cellsOf x, v.oneCell' = true := by
  intro v hv
  simp only [cellsOf, List.mem_toArray, List.mem_map] at hv
  obtain ⟨q, _, rfl⟩ := hv
  rfl
/-- An array of n integers as a kind. -/
def Karr (n : Nat) : Kd (List Int) where
  sz := n
  E := []
  K := fun _ x cs => x.length = n ∧ cs = (cellsOf x).toList
  M := fun _ _ _ x cs => x.length = n ∧ cs = (cellsOf x).toList
  K_len := fun h => by rw [h.2]; simp [cellsOf, h.1]
  K_one := fun h u hu => cellsOf_one _ u (by rw [h.2] at hu; simpa using hu)
  K_below := fun _ h => h
  K_of_M := fun h => h
  M_mono := fun _ h => h
  M_bound := fun h => h
  M_move := fun _ h => h
  M_lower := fun _ h => h

theorem add_add (ad : Addr) (m j : Nat) : (ad.add m).add j = ad.add (m + j) := by
  unfold Addr.add
  by_cases h1 : m = 0 <;> by_cases h2 : j = 0 <;> simp [h1, h2, Nat.add_assoc]
theorem Karr_cells {n : Nat} {w : World} {ad : Addr} {k : Nat} {x : List Int} {cs : List Value} (hK : (Karr n).K w x cs) (hx : ∀ j u, cs[j]? = some u → w.cell? (ad.add (k * (Karr n).sz + j)) = some u) :
    x.length = n ∧ ∀ j v, (cellsOf x).toList[j]? = some v → w.cell? ((ad.add (k * n)).add j) = some v := by
  obtain ⟨hl, rfl⟩ := hK
  exact ⟨hl, fun j v hv => by rw [add_add]; exact hx j v hv⟩

theorem size78 : (Try.prog.info? 78).map (·.size) = some 2 := by kernel_rfl
theorem zero78 (w : World) : (zeroValue 78).run Try.prog w = .ok (.agg (cellsOf [0, 0])) w := by kernel_rfl
theorem keyed78 : Keyed Try.prog 78 := Keyed.of_law (deep_law_laid (m := 5) (by kernel_rfl) (by decide) (of_decide_eq_true (by kernel_rfl)) (by kernel_rfl) (by kernel_rfl))

set_option maxRecDepth 100000 in
set_option maxHeartbeats 1000000 in
theorem numbered_pair_walk (A0 : Option Addr) (c0 : Nat) (l : List (List Int)) (w : World) (hr : (Karr 2).C w A0 l.length l) (hlen : l.length < 1099511627776) (hk2 : ∀ x ∈ l, ∃ q, keyOf Try.prog 78 (encArr x) = some q) :
    Calls Try.prog 57 #[.slice A0 l.length c0] w fun e w' => ∃ v0_ : Value, e = .returned (v0_) ∧ Kd.R (Kd.int .i64) 3 w' w.heap.size (fun _ => True) v0_ (Num.num l) ∧ Below w.heap.size w w' := by
  have HR := Aside0.mk hr
  clear hr
  have hmm := @run_makeMap Try.prog
  have hmk := print_make 22 3 .i64 8 Try.underlying22 info3 (by decide) l.length (by omega)
  have HW := Aside0.mk hk2
  clear hk2
  go_enter Try.func57, Try.ntmps57
  go_wp2
  go_loopw [5, 16] (fun n i wr => ∃ k : Nat, i = .int .i64 k ∧ n = .int .i64 (Num.firsts (l.take k)).length ∧ Aside0 (NumInv 78 encArr l w wr k)) (fun _ i _ => l.length - (intOf i).toNat)
  case atStart => exact ⟨0, rfl, rfl, ⟨NumInv.start 78 encArr l w (by omega)⟩⟩
  case round =>
    obtain ⟨k, rfl, rfl, HI⟩ := hrel
    have hkl := HI.out.le
    by_cases hk : k < l.length
    · obtain ⟨ad, cs, e, hcl, hK, hx⟩ := Kd.C_get (Kd.C_below HR.out HI.out.below) [] (k : Int) (by omega) (by omega)
      subst e
      have hfl := Num.length_firsts_le (l.take k)
      have hfk : (Num.firsts (l.take k)).length ≤ k := Nat.le_trans hfl (by simp; omega)
      clear hfl
      obtain ⟨q, hkey⟩ := HW.out l[k] (List.getElem_mem hk)
      have hxe : l.getD k [] = l[k] := by simp [List.getD_eq_getElem?_getD, List.getElem?_eq_getElem hk]
      rw [Int.toNat_natCast] at hx hK
      rw [hxe] at hK
      clear hxe hcl
      have HX := Aside0.mk (Karr_cells hK hx)
      clear hK hx
      have HZ := Aside0.mk (HI.out.alloc (.cells (cellsOf l[k]) 78))
      have HS := Aside0.mk (show (Try.prog.info? 78).map (·.size) = some (cellsOf l[k]).size by rw [cellsOf_size, HX.out.1]; exact size78)
      have HS2 := Aside0.mk (show (cellsOf [0, 0]).size = (cellsOf l[k]).size by rw [cellsOf_size, cellsOf_size, HX.out.1]; rfl)
      by_cases hm : l[k] ∈ Num.firsts (l.take k)
      · have hlook := HZ.out.map.look_in keyed78 Try.underlying95 Try.underlying3 zero3 hkey hm
        rw [encArr] at hlook
        have HN := Aside0.mk (HZ.out.old hk hm rfl)
        obtain ⟨⟨v, hv⟩, hf⟩ := HZ.out.cell hk
        have HM := Aside0.mk hm
        clear hm hkey
        generalize Num.spot (Num.firsts (l.take k)) l[k] = b at hlook HN
        go_wp2_with (first
          | (with_reducible refine wpList_load_at rfl 78 (.tmp 19) rfl _ rfl (cellsOf l[k]) _ Try.underlying78 rfl HS.out HX.out.2 ?_)
          | (with_reducible refine wpList_alloc_agg rfl 78 rfl (cellsOf [0, 0]) zero78 ?_)
          | (with_reducible refine wpList_store_new rfl 78 (.tmp 7) (.tmp 20) rfl wr (cellsOf [0, 0]) rfl rfl (cellsOf l[k]) rfl HS.out HS2.out (cellsOf_one _) ?_)
          | (with_reducible refine wpList_load_row rfl 78 (.tmp 7) rfl wr.heap.size rfl 78 (cellsOf l[k]) (0, 0) _ (heap_alloc_last wr _) Try.underlying78 rfl HS.out ?_))
        go_roundw
        case rel => exact ⟨k + 1, by go_num, by rw [Num.firsts_succ l k hk, if_pos HM.out], HN⟩
        case measure => simp [intOf]; omega
      · have hlook := HZ.out.map.look_out keyed78 Try.underlying95 Try.underlying3 zero3 hkey hm
        obtain ⟨w1, hput, hmap, hg⟩ := HZ.out.map.put keyed78 encArr_inj Try.underlying95 Try.underlying3 hkey hm (by omega) rfl
        rw [encArr] at hlook hput
        obtain ⟨HN0, ⟨v, hv⟩, hf⟩ := HZ.out.new hk hm hmap hg rfl
        have HN := Aside0.mk HN0
        have HM := Aside0.mk hm
        clear HN0 hmap hg hm hkey
        go_wp2_with (first
          | (with_reducible refine wpList_load_at rfl 78 (.tmp 19) rfl _ rfl (cellsOf l[k]) _ Try.underlying78 rfl HS.out HX.out.2 ?_)
          | (with_reducible refine wpList_alloc_agg rfl 78 rfl (cellsOf [0, 0]) zero78 ?_)
          | (with_reducible refine wpList_store_new rfl 78 (.tmp 7) (.tmp 20) rfl wr (cellsOf [0, 0]) rfl rfl (cellsOf l[k]) rfl HS.out HS2.out (cellsOf_one _) ?_)
          | (with_reducible refine wpList_load_row rfl 78 (.tmp 7) rfl wr.heap.size rfl 78 (cellsOf l[k]) (0, 0) _ (heap_alloc_last wr _) Try.underlying78 rfl HS.out ?_))
        go_roundw
        case rel => exact ⟨k + 1, by go_num, by rw [Num.firsts_succ l k hk, if_neg HM.out]; simp, HN⟩
        case measure => simp [intOf]; omega
    · have HD := Aside0.mk (HI.out.done hk)
      go_wp2
      go_ret
      exact ⟨_, rfl, HD.out.1, HD.out.2⟩
end Go.Proofs.Ytboofecfmhbacaa
