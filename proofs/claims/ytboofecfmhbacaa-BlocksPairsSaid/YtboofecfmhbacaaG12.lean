/- The walk of package blocks' Quotient. -/
import Derived.Test.YtboofecfmhbacaaG11
namespace Go.Proofs.Ytboofecfmhbacaa
open Go.RowKit Go.WideMaps Go.Maps Go.Proofs.YtboofecfmhbacaaW.PrintWords Go.Proofs.YtboofecfmhbacaaW.PrintLast Go.Proofs.YtboofecfmhbacaaW.PrintMore
set_option linter.unusedVariables false
set_option linter.unusedSimpArgs false

/-- What Quotient has put down when it has seen the last k elements. -/
def quotF (p : List Int) (next : List (List Int)) (n : Nat) : Nat → List (List Int)
  | 0 => List.replicate n []
  | k + 1 => (quotF p next n k).set (at_ p (p.length - 1 - k)).toNat (after p next (p.length - 1 - k))
def quotP (p : List Int) (next : List (List Int)) : List (List Int) := quotF p next (countP p).toNat p.length
theorem quotF_length (p : List Int) (next : List (List Int)) (n : Nat) : ∀ k, (quotF p next n k).length = n
  | 0 => by simp [quotF]
  | k + 1 => by rw [quotF, List.length_set, quotF_length p next n k]
theorem after_get (p : List Int) (next : List (List Int)) (j : Nat) (hj : j < next.length) : after p next j = next[j].map fun x => at_ p x.toNat := by
  simp [after, nx, List.getD_eq_getElem?_getD, List.getElem?_eq_getElem hj]

section
variable {w0 W : World} {base n c : Nat} {A : Option Addr} {vs : List Value} {ls : List (List Int)}
theorem Rows.lift (h : Rows w0 base W A n c vs ls) {w1 : World} (hB : Below W.heap.size W w1) (hb : base ≤ W.heap.size) : Rows w0 base w1 A n c vs ls where
  len := h.len
  outer := own_move h.outer fun k hk => hB.block k (own_lt h.outer k hk)
  inner := fun b h1 h2 h3 => own_move (h.inner b h1 h2 h3) fun k hk => hB.block k (own_lt (h.inner b h1 h2 h3) k hk)
  apart := h.apart
  below := h.below.trans (hB.mono hb)
theorem own_shape {w : World} {bs m e : Nat} {v : Value} {xs : List Value} (h : w.ownsRow bs e 1 v m xs) : ∃ A c, v = .slice A m c := by
  rcases h.2 with ⟨h1, h2⟩ | ⟨g, cap, cur, h1, _⟩
  · exact ⟨none, 0, by rw [h1, h2]⟩
  · exact ⟨_, cap, h1⟩
/-- out[b] = l, a list that has been made since. -/
theorem Rows.store {g : Nat} {w1 : World} {v1 : Value} {l : List Int} (h : Rows w0 base W (some ⟨g, 0, none⟩) n c vs ls) (hb0 : base ≤ W.heap.size) (b : Nat) (hb : b < n)
    (hB : Below W.heap.size W w1) (ho : w1.ownsRow W.heap.size 3 1 v1 l.length (encs (Value.int .i64) l)) :
    (∃ v, w1.cell? ⟨g, b, none⟩ = some v) ∧ w1.frozen? ⟨g, b, none⟩ = false ∧ Rows w0 base (w1.setCell ⟨g, b, none⟩ v1) (some ⟨g, 0, none⟩) n c (vs.set b v1) (ls.set b l) := by
  have h1 := h.lift hB hb0
  obtain ⟨hc, hf⟩ := h1.cell b hb
  have hb1 : b < vs.length := by rw [h.vlen]; exact hb
  have hst := h1.outer.stored b v1
  have hgb : base ≤ g := own_base h1.outer g rfl
  have hfar : ∀ {m : Nat} {bs : Nat} {v : Value} {xs : List Value}, w1.ownsRow bs 3 1 v m xs → (w1.setCell ⟨g, b, none⟩ v1).ownsRow bs 3 1 v m xs := by
    intro m bs v xs ho'
    refine ho'.kept hst.2 ?_
    rcases own_type_ne ho' h1.outer (by decide) with h1 | h1
    · exact .inl h1
    · exact .inr h1
  have hlt : ∀ a (ha : a < vs.length), ∀ k, vs[a].ownBlock = some k → k < W.heap.size := by
    intro a ha k hk
    have ha2 : a < n := by rw [← h.vlen]; exact ha
    exact own_lt (h.inner a ha2 ha (by rw [h.len]; exact ha2)) k hk
  have hne : ∀ a (ha : a < vs.length), vs[a].ownBlock = none ∨ vs[a].ownBlock ≠ v1.ownBlock := by
    intro a ha
    cases hv : vs[a].ownBlock with
    | none => exact .inl rfl
    | some k =>
      refine .inr fun e => ?_
      have h2 := hlt a ha k hv
      have h3 := own_base ho k e.symm
      omega
  refine ⟨⟨_, hc⟩, hf, ⟨by rw [List.length_set]; exact h.len, hst.1, ?_, ?_, h1.below.setCell hgb _⟩⟩
  · intro a ha ha' ha''
    by_cases e : a = b
    · subst e
      simp only [List.getElem_set_self]
      exact hfar (own_weaken ho hb0)
    · rw [List.getElem_set_ne (Ne.symm e), List.getElem_set_ne (Ne.symm e)]
      exact hfar (h1.inner a ha (by simpa using ha') (by simpa using ha''))
  · intro a d ha hd hne'
    have ha' : a < vs.length := by simpa using ha
    have hd' : d < vs.length := by simpa using hd
    by_cases e1 : a = b
    · subst e1
      rw [List.getElem_set_self, List.getElem_set_ne (by omega)]
      rcases hne d hd' with h4 | h4
      · cases hv : v1.ownBlock with
        | none => exact .inl rfl
        | some k => exact .inr (by rw [h4]; simp)
      · exact .inr (Ne.symm h4)
    · by_cases e2 : d = b
      · subst e2
        rw [List.getElem_set_ne (by omega), List.getElem_set_self]
        exact hne a ha'
      · rw [List.getElem_set_ne (by omega), List.getElem_set_ne (by omega)]
        exact h.apart a d ha' hd' hne'
end

set_option maxRecDepth 100000 in
set_option maxHeartbeats 1000000 in
theorem quotient_no (A0 : Option Addr) (c0 : Nat) (p : List Int) (A1 : Option Addr) (c1 : Nat) (next : List (List Int)) (w : World) (hr0 : Kd.C (Kd.int .i64) w A0 p.length p) (hr1 : Kd.C (Kd.slice 3 (Kd.int .i64)) w A1 next.length next) (hw0 : Wf p) (hno : wrongE p next ≠ 0) :
    Calls Try.prog 28 #[.slice A0 p.length c0, .slice A1 next.length c1] w fun e w' => e = .returned (.tuple #[.slice none 0 0, .int .i64 (wrongE p next)]) ∧ Below w.heap.size w w' := by
  have HM := Aside0.mk (stable_no A0 c0 p A1 c1 next w hr0 hr1 hw0 hno)
  generalize wrongE p next = b at HM hno ⊢
  have h1 : (b == 0) = false := beq_eq_false_iff_ne.mpr hno
  have h2 : (b != 0) = true := bne_iff_ne.mpr hno
  clear hno hr0 hr1 hw0
  go_enter Try.func28, Try.ntmps28
  go_wp2_with (go_at_call 29; refine HM.out.mono ?_; rintro e w1 ⟨rfl, hB⟩)
  go_ret2
  exact ⟨rfl, hB⟩
set_option maxRecDepth 100000 in
set_option maxHeartbeats 1000000 in
theorem quotient_split (A0 : Option Addr) (c0 : Nat) (p : List Int) (A1 : Option Addr) (c1 : Nat) (next : List (List Int)) (w : World) (hr0 : Kd.C (Kd.int .i64) w A0 p.length p) (hr1 : Kd.C (Kd.slice 3 (Kd.int .i64)) w A1 next.length next) (hp : rightP p) (hn : nextP p.length next) (hs : ¬ stableP p next) :
    Calls Try.prog 28 #[.slice A0 p.length c0, .slice A1 next.length c1] w fun e w' => e = .returned (.tuple #[.slice none 0 0, .int .i64 62]) ∧ Below w.heap.size w w' := by
  have h0 := stable_yes A0 c0 p A1 c1 next w hr0 hr1 hp hn
  rw [decide_eq_false hs] at h0
  have HM := Aside0.mk h0
  clear h0 hr0 hr1 hp hn hs
  go_enter Try.func28, Try.ntmps28
  go_wp2_with (go_at_call 29; refine HM.out.mono ?_; rintro e w1 ⟨rfl, hB⟩)
  go_ret2
  exact ⟨rfl, hB⟩

set_option maxRecDepth 100000 in
set_option maxHeartbeats 2000000 in
theorem quotient_yes (A0 : Option Addr) (c0 : Nat) (p : List Int) (A1 : Option Addr) (c1 : Nat) (next : List (List Int)) (w : World) (hr0 : Kd.C (Kd.int .i64) w A0 p.length p) (hr1 : Kd.C (Kd.slice 3 (Kd.int .i64)) w A1 next.length next) (hp : rightP p) (hn : nextP p.length next) (hs : stableP p next) :
    Calls Try.prog 28 #[.slice A0 p.length c0, .slice A1 next.length c1] w fun e w' => ∃ v, e = .returned (.tuple #[v, .int .i64 0]) ∧ Kd.R (Kd.slice 3 (Kd.int .i64)) 22 w' w.heap.size (fun _ => True) v (quotP p next) ∧ Below w.heap.size w w' := by
  have h0 := stable_yes A0 c0 p A1 c1 next w hr0 hr1 hp hn
  rw [decide_eq_true hs] at h0
  have HM := Aside0.mk h0
  have HR0 := Aside0.mk hr0
  have HR1 := Aside0.mk hr1
  have HN := Aside0.mk hn
  obtain ⟨n, hcn⟩ : ∃ n : Nat, countP p = n := ⟨(countP p).toNat, by have := count_bounds hp; omega⟩
  have hn0 : n ≤ 1024 := by have := count_bounds hp; have := hp.1; omega
  have hn1 : p.length ≤ 1024 := hp.1
  have HX := Aside0.mk (show ∀ x ∈ p, 0 ≤ x ∧ x < n from fun x hx => ⟨(hp.bounds x hx).1, by rw [← hcn]; exact lt_count x hx⟩)
  have HC := Aside0.mk (fun w1 (hB : Below w.heap.size w w1) => (show Calls Try.prog 55 #[.slice A0 p.length c0] w1 fun e w' => e = .returned (.int .i64 (n : Int)) ∧ Below w1.heap.size w1 w' by rw [← hcn]; exact count_walk A0 c0 p w1 (Kd.C_below hr0 hB) hp.small))
  rw [show quotP p next = quotF p next n p.length by unfold quotP; rw [hcn]; rfl]
  clear hp hr0 hr1 hn h0 hs hcn
  have hmk := print_make_of 36 22 (.slice none 0 0) 24 Try.underlying36 info22 rfl (by decide) n (by omega)
  go_enter Try.func28, Try.ntmps28
  go_wp2_with (first
    | (go_at_call 29; refine HM.out.mono ?_; rintro e w1 ⟨rfl, hB⟩; have HC1 := Aside0.mk (HC.out w1 hB); have HB1 := Aside0.mk hB; clear hB)
    | (go_at_call 55; refine HC1.out.mono ?_; rintro e w2 ⟨rfl, hB2⟩; have HB2 := Aside0.mk (HB1.out.trans (hB2.mono HB1.out.size)); clear hB2))
  go_loopw [9] (fun i wr => ∃ (x : Int) (m : Nat) (vs : List Value), i = .int .i64 x ∧ Aside0 (x = (m : Int) - 1 ∧ m ≤ p.length ∧ Rows w w.heap.size wr (some ⟨w2.heap.size, 0, none⟩) n n vs (quotF p next n (p.length - m)))) (fun i _ => (intOf i + 1).toNat)
  case atStart => exact ⟨_, p.length, _, rfl, rfl, Nat.le_refl _, by rw [Nat.sub_self]; exact Rows.made w w2 w.heap.size n HB2.out HB2.out.size (by omega)⟩
  case round =>
    obtain ⟨x, m, vs, rfl, HI⟩ := hrel
    have hml := HI.out.2.1
    cases m with
    | zero =>
      obtain rfl : x = -1 := by have := HI.out.1; omega
      have HD := Aside0.mk (show Kd.R (Kd.slice 3 (Kd.int .i64)) 22 wr w.heap.size (fun _ => True) (.slice (some ⟨w2.heap.size, 0, none⟩) n n) (quotF p next n p.length) by have h := HI.out.2.2.done; rwa [Nat.sub_zero] at h)
      go_wp2
      go_ret2
      exact ⟨_, rfl, HD.out, HI.out.2.2.below⟩
    | succ j =>
      obtain rfl : x = (j : Int) := by have := HI.out.1; omega
      have hjn : j < next.length := by rw [HN.out.1]; omega
      have HRW := Aside0.mk HI.out.2.2
      obtain ⟨ad0, e0, hx0⟩ := ints_at (Kd.C_below HR0.out HRW.out.below) j (by omega)
      obtain ⟨ad1, B1, d1, e1, hx10, hd1, hD1⟩ := rows_at HR1.out j hjn
      have hx1 := pw_cell_below HRW.out.below hx10
      clear hx10
      subst e0 e1
      have hl64 : next[j].length ≤ 64 := (HN.out.2 _ (List.getElem_mem hjn)).1
      have HD1 := Aside0.mk (Kd.C_below hD1 HRW.out.below)
      clear hD1
      go_wp2
      obtain ⟨wo, hwo⟩ : ∃ wo : World, wo = wr := ⟨_, rfl⟩
      rw [← hwo] at HRW HD1 hx0 hx1 ⊢
      clear hwo
      have HX0 := Aside0.mk hx0
      clear hx0 hx1
      obtain ⟨f, hf⟩ : ∃ f : Int → Int, f = fun x => at_ p x.toNat := ⟨_, rfl⟩
      have HF := Aside0.mk hf
      clear hf
      go_loopw [10, 39] (fun l i wq => ∃ (t : Nat), i = .int .i64 t ∧ Aside0 (t ≤ next[j].length ∧ wq.ownsRow wo.heap.size 3 1 l ((next[j].take t).map f).length (encs (Value.int .i64) ((next[j].take t).map f)) ∧ Below wo.heap.size wo wq)) (fun _ i _ => next[j].length - (intOf i).toNat)
      case atStart => exact ⟨0, rfl, Nat.zero_le _, by rw [List.take_zero]; exact World.ownsRow_nil _ _ _ _, Below.refl _ _⟩
      case round =>
        obtain ⟨t, rfl, HJ⟩ := hrel
        have htl := HJ.out.1
        by_cases ht : t < next[j].length
        · have hxb := (HN.out.2 _ (List.getElem_mem hjn)).2 next[j][t] (List.getElem_mem ht)
          obtain ⟨b, hb⟩ : ∃ b : Nat, next[j][t] = b := ⟨next[j][t].toNat, by omega⟩
          have hbp : b < p.length := by omega
          have HFB := Aside0.mk (show (next[j].take t).map f ++ [p[b]] = (next[j].take (t + 1)).map f by
            rw [Num.take_succ _ t ht, List.map_append, List.map_singleton, hb, HF.out]; simp [at_get hbp])
          obtain ⟨adp, ep, hxp⟩ := ints_at (Kd.C_below (Kd.C_below HR0.out HRW.out.below) (HJ.out.2.2.mono (Nat.le_refl _))) b hbp
          obtain rfl : ad0 = adp := by injection ep
          obtain ⟨adl, el, hxj⟩ := ints_at (Kd.C_below HD1.out HJ.out.2.2) t ht
          subst el
          rw [hb] at hxj
          have HL8 := Aside0.mk (show (((next[j].take t).map f).length + 1) * 8 ≤ 140737488355328 by simp; omega)
          clear hb hxb
          go_wp2_with (at_builtin; refine print_append_of (w0 := wo) (W := wr) (Value.int .i64) wo.heap.size rfl (.tmp 43) (.tmp 48) 22 3 (.int .i64 0) 8 rfl Try.underlying22 info3 rfl (by decide) u10 ((next[j].take t).map f) p[b] rfl rfl rfl HJ.out.2.1 HJ.out.2.2 HJ.out.2.2.size HL8.out ?_; rintro v1 w3 hown hB3 hg hat; rw [HFB.out] at hown; have HJ2 := Aside0.mk (And.intro hown hB3); clear hown hB3 hg hat)
          go_roundw
          case rel => exact ⟨t + 1, by go_num, by omega, HJ2.out.1, HJ2.out.2⟩
          case measure => simp [intOf]; omega
        · obtain ⟨b, hb⟩ : ∃ b : Nat, p[j] = b := ⟨p[j].toNat, by have := HX.out p[j] (List.getElem_mem _); omega⟩
          have hbn : b < n := by have := HX.out p[j] (List.getElem_mem _); omega
          have hx0 := pw_cell_below HJ.out.2.2 HX0.out
          rw [hb] at hx0
          have hown := HJ.out.2.1
          obtain ⟨A4, c4, rfl⟩ : ∃ A c, u10 = .slice A t c := by
            have h := own_shape hown
            rwa [List.length_map, List.length_take, Nat.min_eq_left htl] at h
          rw [List.take_of_length_le (by omega)] at hown
          obtain ⟨⟨v9, hc9⟩, hf9, hrows⟩ := HRW.out.store HRW.out.below.size b hbn HJ.out.2.2 hown
          rw [show next[j].map f = after p next j by rw [HF.out, after_get p next j hjn], show (quotF p next n (p.length - (j + 1))).set b (after p next j) = quotF p next n (p.length - j) by
            rw [show p.length - j = (p.length - (j + 1)) + 1 by omega, quotF, show p.length - 1 - (p.length - (j + 1)) = j by omega, at_get (by omega), hb]; rfl] at hrows
          have HJ2 := Aside0.mk hrows
          clear hrows hown hb
          go_wp2
          go_roundw
          case rel => exact ⟨(j : Int) - 1, j, _, by go_num, rfl, by omega, HJ2.out⟩
          case measure => simp [intOf]
end Go.Proofs.Ytboofecfmhbacaa
