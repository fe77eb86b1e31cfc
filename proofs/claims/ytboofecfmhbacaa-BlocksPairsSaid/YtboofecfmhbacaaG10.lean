/- The walk of package blocks' refine. -/
import Derived.Test.YtboofecfmhbacaaG9
import Derived.BigRegion
import Derived.ChangeAlike
namespace Go.Proofs.Ytboofecfmhbacaa
open Go.RowKit Go.WideMaps Go.Maps Go.Proofs.YtboofecfmhbacaaW.PrintWords Go.Proofs.YtboofecfmhbacaaW.PrintLast Go.Proofs.YtboofecfmhbacaaW.PrintMore
set_option linter.unusedVariables false
set_option linter.unusedSimpArgs false

theorem info93 : (Try.prog.info? 93).map (fun i => (i.zero, i.size, i.bytes)) = some (some (.agg (cellsOf zeros66)), 66, 528) := by kernel_rfl

/-- out[k][j] = y, the elements of out arrays: what is there, and what comes of it. -/
theorem arr_cell {W : World} {n e base m cap g : Nat} {ok : Nat → Prop} {xs : List (List Int)} (h : (Karr n).R e W base ok (.slice (some ⟨g, 0, none⟩) m cap) xs) (k j : Nat) (hk : k < xs.length) (hj : j < n) :
    (∃ v, W.cell? ⟨g, k * n + j, none⟩ = some v) ∧ W.frozen? ⟨g, k * n + j, none⟩ = false ∧ ∀ y : Int, (Karr n).R e (W.setCell ⟨g, k * n + j, none⟩ (.int .i64 y)) base ok (.slice (some ⟨g, 0, none⟩) m cap) (xs.set k (xs[k].set j y)) ∧ base ≤ g := by
  obtain ⟨hm, _, hC⟩ := R_len h
  subst hm
  obtain ⟨ad, c, e0, hcl, hK, hc⟩ := Kd.C_get hC [] (k : Int) (by omega) (by omega)
  injection e0 with e0
  subst e0
  have hxe : xs.getD (k : Int).toNat [] = xs[k] := by simp [List.getD_eq_getElem?_getD, List.getElem?_eq_getElem hk]
  rw [hxe] at hK
  obtain ⟨hlen, hcs⟩ := hK
  have hcc : ∀ j u, c[j]? = some u → W.cell? ⟨g, (k : Int).toNat * (Karr n).sz + j, none⟩ = some u := by
    intro j u hu
    have h1 := hc j u hu
    rwa [show (⟨g, 0, none⟩ : Addr).add ((k : Int).toNat * (Karr n).sz + j) = ⟨g, (k : Int).toNat * (Karr n).sz + j, none⟩ by unfold Addr.add; split <;> simp_all] at h1
  have hjc : j < c.length := by rw [hcl]; exact hj
  refine ⟨⟨c[j], hcc j _ (List.getElem?_eq_getElem hjc)⟩, ?_, fun y => ⟨?_, Kd.R_base h g rfl⟩⟩
  · obtain ⟨inner, ho⟩ := Kd.R_own h
    rcases ho.2 with ⟨h1, _⟩ | ⟨g', cap', cur, h1, _, h3, _⟩
    · cases h1
    · injection h1 with h4 _ _
      injection h4 with h4
      injection h4 with h4
      subst h4
      simp [World.frozen?, h3]
  · have hsz : (Karr n).sz = n := rfl
    have h1 := Kd.R_seg (okp := fun _ => False) h (k : Int) (by omega) (by omega) hcl hcc (seg := [.int .i64 y]) (j := j) (by rw [hsz]; simp; omega) (x' := xs[k].set j y) ⟨by simpa using hlen, ?_⟩ (fun _ hk => hk.elim)
    · exact h1.1
    · rw [hcs]
      simp only [cellsOf, List.toList_toArray, List.map_set, List.length_singleton]
      rw [List.set_eq_take_append_cons_drop, if_pos (by simpa [hlen] using hj)]
      simp

theorem key93 : Try.prog.keyType 93 = true := by kernel_rfl
theorem cells93 : Try.prog.cellsOf 93 = 66 := by kernel_rfl
theorem small_getD {p : List Int} (h : Small p) (i : Nat) : (Lit.int .i64 (p.getD i 0)).wf = true := by
  rw [List.getD_eq_getElem?_getD]
  by_cases hi : i < p.length
  · rw [List.getElem?_eq_getElem hi]
    exact h.wf _ (List.getElem_mem hi)
  · rw [List.getElem?_eq_none (by omega)]
    decide
theorem words_keys {p : List Int} {next : List (List Int)} (hp : Small p) (hn : nextP p.length next) : ∀ x ∈ wordsOf p next, ∃ q, keyOf Try.prog 93 (encArr x) = some q := by
  intro x hx
  obtain ⟨i, hi, rfl⟩ := List.getElem_of_mem hx
  rw [wordsOf_length] at hi
  rw [wordsOf_get p next i hi]
  have h64 := (hn.2 _ (List.getElem_mem hi)).1
  refine arr_key Try.underlying93 Try.underlying3 key93 cells93 cells3 types_pos (wordOf_length p i next[i] _ (Nat.le_refl _) h64) ?_
  intro y hy
  unfold wordOf at hy
  rcases List.mem_append.1 hy with hy | hy
  · rcases List.mem_cons.1 hy with rfl | hy
    · exact small_getD hp i
    · rcases List.mem_cons.1 hy with rfl | hy
      · exact WalkArith.wf_i64 (by omega)
      · obtain ⟨z, _, rfl⟩ := List.mem_map.1 hy
        exact small_getD hp _
  · rw [List.eq_of_mem_replicate hy]
    decide

set_option maxRecDepth 100000 in
set_option maxHeartbeats 4000000 in
theorem refine_walk (A0 : Option Addr) (c0 : Nat) (p : List Int) (A1 : Option Addr) (c1 : Nat) (next : List (List Int)) (w : World) (hr0 : Kd.C (Kd.int .i64) w A0 p.length p) (hr1 : Kd.C (Kd.slice 3 (Kd.int .i64)) w A1 next.length next) (hp : Small p) (hn : nextP p.length next) (hp1 : p.length ≤ 1024) :
    Calls Try.prog 54 #[.slice A0 p.length c0, .slice A1 next.length c1] w fun e w' => ∃ v, e = .returned v ∧ Kd.R (Kd.int .i64) 3 w' w.heap.size (fun _ => True) v (refineP p next) ∧ Below w.heap.size w w' := by
  have HR0 := Aside0.mk hr0
  have HR1 := Aside0.mk hr1
  have HS := Aside0.mk hp
  have HN := Aside0.mk hn
  have HL := Aside0.mk hn.1
  have HB0 := Aside0.mk (Below.refl w.heap.size w)
  clear hr0 hr1 hp hn
  go_enter Try.func54, Try.ntmps54
  go_wp2_with (refine Kd.R_make (Karr 66) w.heap.size 93 rfl rfl 91 _ _ rfl (p.length : Int) rfl rfl Try.underlying91 _ 528 info93 (by rw [show (Value.agg (cellsOf zeros66)).cells = cellsOf zeros66 from rfl, cellsOf_size, zeros66_length]; rfl) (by decide) (by decide) zeros66 (ok := fun _ => True) (okp := fun _ => True) ⟨zeros66_length, rfl⟩ (fun _ h => h) trivial (by omega) (by simp; omega) HB0.out (Nat.le_refl _) ?_; rintro v1 w2 hR hB2 _ _; rw [Int.toNat_natCast] at hR; obtain ⟨A2, c2, rfl⟩ := R_shape hR (List.length_replicate ..); have HR := Aside0.mk hR; have HB2 := Aside0.mk hB2; clear hR hB2)
  go_loopw [15] (fun i wr => ∃ k : Nat, i = .int .i64 k ∧ Aside0 (k ≤ next.length ∧ (Karr 66).R 93 wr w.heap.size (fun _ => True) (.slice A2 p.length c2) (filled (wordsOf p next) k zeros66) ∧ Below w.heap.size w wr)) (fun i _ => next.length - (intOf i).toNat)
  case atStart => exact ⟨0, rfl, ⟨Nat.zero_le _, by rw [filled_zero, wordsOf_length, HL.out]; exact HR.out, HB2.out⟩⟩
  case round =>
    obtain ⟨k, rfl, HI⟩ := hrel
    have hkl := HI.out.1
    have hn1 : next.length ≤ 1024 := by rw [HL.out]; exact hp1
    by_cases hk : k < next.length
    · have hkp : k < p.length := by rw [← HL.out]; exact hk
      obtain ⟨ad0, e0, hx0⟩ := ints_at (Kd.C_below HR0.out HI.out.2.2) k hkp
      obtain ⟨ad1, B1, d1, e1, hx10, hd1, hD1⟩ := rows_at HR1.out k hk
      have hx1 := pw_cell_below HI.out.2.2 hx10
      clear hx10
      obtain ⟨g, e2, _⟩ := R_addr HI.out.2.1 (by omega)
      subst e0 e1 e2
      have hl64 : next[k].length ≤ 64 := (HN.out.2 _ (List.getElem_mem hk)).1
      have hfl : k < (filled (wordsOf p next) k zeros66).length := by rw [filled_length _ _ _ (by rw [wordsOf_length]; omega), wordsOf_length]; exact hk
      obtain ⟨⟨u0, hc0⟩, hf0, hset0⟩ := arr_cell HI.out.2.1 k 0 hfl (by decide)
      obtain ⟨⟨u1, hc1⟩, hf1, -⟩ := arr_cell HI.out.2.1 k 1 hfl (by decide)
      have HD1 := Aside0.mk hD1
      have HT := Aside0.mk (show (Karr 66).R 93 ((wr.setCell ⟨g, k * 66, none⟩ (.int .i64 p[k])).setCell ⟨g, k * 66 + 1, none⟩ (.int .i64 (next[k].length : Int))).drew w.heap.size (fun _ => True) (.slice (some ⟨g, 0, none⟩) p.length c2) ((filled (wordsOf p next) k zeros66).set k (wordOf p k next[k] 0)) ∧ Below w.heap.size w ((wr.setCell ⟨g, k * 66, none⟩ (.int .i64 p[k])).setCell ⟨g, k * 66 + 1, none⟩ (.int .i64 (next[k].length : Int))).drew from by
        have h1 := hset0 p[k]
        rw [Nat.add_zero] at h1
        have h2 := ((arr_cell h1.1 k 1 (by rw [List.length_set]; exact hfl) (by decide)).2.2 (next[k].length : Int)).1
        rw [List.set_set, List.getElem_set_self, filled_at _ _ _ (by rw [wordsOf_length]; exact hk), show p[k] = p.getD k 0 by simp [List.getD_eq_getElem?_getD, List.getElem?_eq_getElem hkp]] at h2
        have h3 := wordOf_zero p k next[k]
        rw [show zeros66 = List.replicate 66 0 from rfl, h3, show p.getD k 0 = p[k] by simp [List.getD_eq_getElem?_getD, List.getElem?_eq_getElem hkp]] at h2
        exact ⟨h2, ((HI.out.2.2.setCell (p := ⟨g, k * 66, none⟩) h1.2 _).setCell (p := ⟨g, k * 66 + 1, none⟩) h1.2 _).drew⟩)
      have HFL := Aside0.mk hfl
      rw [Nat.add_zero] at hc0 hf0
      clear hD1 hset0
      go_wp2
      go_region
      go_wp2
      clear hx0 hx1 hc0 hc1 hf0 hf1
      obtain ⟨wo, hwo⟩ : ∃ wo : World, wo = wr := ⟨_, rfl⟩
      rw [← hwo] at HI HT ⊢
      clear hwo
      go_loopw [36] (fun i wq => ∃ j : Nat, i = .int .i64 j ∧ Aside0 (j ≤ next[k].length ∧ (Karr 66).R 93 wq w.heap.size (fun _ => True) (.slice (some ⟨g, 0, none⟩) p.length c2) ((filled (wordsOf p next) k zeros66).set k (wordOf p k next[k] j)) ∧ Below w.heap.size w wq)) (fun i _ => next[k].length - (intOf i).toNat)
      case atStart => exact ⟨0, rfl, ⟨Nat.zero_le _, HT.out.1, HT.out.2⟩⟩
      case round =>
        obtain ⟨j, rfl, HJ⟩ := hrel
        have hjl := HJ.out.1
        by_cases hj : j < next[k].length
        · have hxl := List.getElem_mem hj
          have hxb := (HN.out.2 _ (List.getElem_mem hk)).2 next[k][j] hxl
          obtain ⟨b, hb⟩ : ∃ b : Nat, next[k][j] = b := ⟨next[k][j].toNat, by omega⟩
          have hbp : b < p.length := by omega
          obtain ⟨adp, ep, hxp⟩ := ints_at (Kd.C_below HR0.out HJ.out.2.2) b hbp
          obtain rfl : ad0 = adp := by injection ep
          obtain ⟨adl, el, hxj⟩ := ints_at (Kd.C_below HD1.out HJ.out.2.2) j hj
          subst el
          rw [hb] at hxj
          have hfk : k < ((filled (wordsOf p next) k zeros66).set k (wordOf p k next[k] j)).length := by rw [List.length_set]; exact hfl
          obtain ⟨⟨u2, hc2⟩, hf2, hset2⟩ := arr_cell HJ.out.2.1 k (j + 2) hfk (by omega)
          have HJ2 := Aside0.mk (show (Karr 66).R 93 (wr.setCell ⟨g, k * 66 + (j + 2), none⟩ (.int .i64 p[b])).drew w.heap.size (fun _ => True) (.slice (some ⟨g, 0, none⟩) p.length c2) ((filled (wordsOf p next) k zeros66).set k (wordOf p k next[k] (j + 1))) ∧ Below w.heap.size w (wr.setCell ⟨g, k * 66 + (j + 2), none⟩ (.int .i64 p[b])).drew from by
            have h1 := hset2 p[b]
            have h2 := h1.1
            rw [List.set_set, List.getElem_set_self, show p[b] = p.getD next[k][j].toNat 0 by rw [hb]; simp [List.getD_eq_getElem?_getD, List.getElem?_eq_getElem hbp], wordOf_succ p k next[k] j hj hl64, show p.getD next[k][j].toNat 0 = p[b] by rw [hb]; simp [List.getD_eq_getElem?_getD, List.getElem?_eq_getElem hbp]] at h2
            exact ⟨h2, (HJ.out.2.2.setCell (p := ⟨g, k * 66 + (j + 2), none⟩) h1.2 _).drew⟩)
          clear hb hset2 hxb hxl hfk
          go_wp2
          go_region
          go_wp2
          go_roundw
          case rel => exact ⟨j + 1, by go_num, ⟨by omega, HJ2.out.1, HJ2.out.2⟩⟩
          case measure => simp [intOf]; omega
        · have hj' : j = next[k].length := by omega
          have HK := Aside0.mk (show (Karr 66).R 93 wr w.heap.size (fun _ => True) (.slice (some ⟨g, 0, none⟩) p.length c2) (filled (wordsOf p next) (k + 1) zeros66) from by
            have h := HJ.out.2.1
            rw [hj', ← wordsOf_get p next k hk, filled_set] at h
            exact h)
          clear hj'
          go_wp2
          go_roundw
          case rel => exact ⟨k + 1, by go_num, ⟨by omega, HK.out, HJ.out.2.2⟩⟩
          case measure => simp [intOf]; omega
    · have hk' : k = next.length := by omega
      have hR2 := HI.out.2.1
      rw [hk', ← wordsOf_length p next, filled_end] at hR2
      obtain ⟨hq, hc2, hC2⟩ := R_len hR2
      rw [hq] at hC2
      have hlw : (wordsOf p next).length = p.length := by rw [wordsOf_length, HL.out]
      have HC := Aside0.mk (numbered_word_walk A2 c2 (wordsOf p next) wr hC2 (by rw [hlw]; omega) (words_keys HS.out HN.out))
      rw [hlw] at HC
      clear hR2 hC2 hk' hq hlw
      go_wp2_with (go_at_call 71; refine HC.out.mono ?_; rintro e w3 ⟨v, rfl, hR3, hB3⟩; have HD := Aside0.mk (And.intro (Kd.R_lower hR3 HI.out.2.2.size) (HI.out.2.2.trans (hB3.mono HI.out.2.2.size))); clear hR3 hB3)
      go_ret
      exact ⟨_, rfl, HD.out.1, HD.out.2⟩
end Go.Proofs.Ytboofecfmhbacaa
