/- The walks of package blocks' Count and Members. -/
import Derived.Test.YtboofecfmhbacaaG8
namespace Go.Proofs.Ytboofecfmhbacaa
open Go.RowKit Go.WideMaps Go.Maps Go.Proofs.YtboofecfmhbacaaW.PrintWords Go.Proofs.YtboofecfmhbacaaW.PrintLast Go.Proofs.YtboofecfmhbacaaW.PrintMore
set_option linter.unusedVariables false
set_option linter.unusedSimpArgs false

set_option maxRecDepth 100000 in
set_option maxHeartbeats 1000000 in
theorem countOf_walk (A0 : Option Addr) (c0 : Nat) (p : List Int) (w : World) (hr : Kd.C (Kd.int .i64) w A0 p.length p) (hw : Wf p) :
    Calls Try.prog 34 #[.slice A0 p.length c0] w fun e w' => e = .returned (.tuple #[.int .i64 (if rightP p then countP p else 0), .int .i64 (if rightP p then 0 else 60)]) ∧ Below w.heap.size w w' := by
  have HP := Aside0.mk (right_walk A0 c0 p w hr hw)
  by_cases hp : rightP p
  · rw [decide_eq_true hp] at HP
    rw [if_pos hp, if_pos hp]
    have HC := Aside0.mk (fun w1 (hB : Below w.heap.size w w1) => count_walk A0 c0 p w1 (Kd.C_below hr hB) hp.small)
    clear hp hr hw
    go_enter Try.func34, Try.ntmps34
    go_wp2_with (first
      | (go_at_call 37; refine HP.out.mono ?_; rintro e w1 ⟨rfl, hB⟩; have HC1 := Aside0.mk (HC.out w1 hB))
      | (go_at_call 55; refine HC1.out.mono ?_; rintro e w2 ⟨rfl, hB2⟩))
    go_ret2
    exact ⟨rfl, hB.trans (hB2.mono hB.size)⟩
  · rw [decide_eq_false hp] at HP
    rw [if_neg hp, if_neg hp]
    clear hp hr hw
    go_enter Try.func34, Try.ntmps34
    go_wp2_with (go_at_call 37; refine HP.out.mono ?_; rintro e w1 ⟨rfl, hB⟩)
    go_ret2
    exact ⟨rfl, hB⟩

/-- Lists of the call's own in a row of the call's own, each of which may be appended to. -/
structure Rows (w0 : World) (base : Nat) (W : World) (A : Option Addr) (n c : Nat) (vs : List Value) (ls : List (List Int)) : Prop where
  len : ls.length = n
  outer : W.ownsRow base 22 1 (.slice A n c) n vs
  inner : ∀ b (h : b < n) (h' : b < vs.length) (h'' : b < ls.length), W.ownsRow base 3 1 vs[b] ls[b].length (encs (Value.int .i64) ls[b])
  apart : ∀ a b (ha : a < vs.length) (hb : b < vs.length), a ≠ b → vs[a].ownBlock = none ∨ vs[a].ownBlock ≠ vs[b].ownBlock
  below : Below base w0 W

theorem info22 : (Try.prog.info? 22).map (fun i => (i.zero, i.size, i.bytes)) = some (some (.slice none 0 0), 1, 24) := by kernel_rfl

section
variable {w0 W : World} {base n c : Nat} {A : Option Addr} {vs : List Value} {ls : List (List Int)}
theorem Rows.vlen (h : Rows w0 base W A n c vs ls) : vs.length = n := by have := h.outer.1; omega
theorem Rows.made (w0 W : World) (base n : Nat) (hB : Below base w0 W) (hb : base ≤ W.heap.size) (hn : n ≤ 9223372036854775807) :
    Rows w0 base (W.alloc (.cells (madeCells #[.slice none 0 0] n) 22)) (some ⟨W.heap.size, 0, none⟩) n n (List.replicate n (.slice none 0 0)) (List.replicate n []) where
  len := by simp
  outer := by
    have := own_made_of (enc := fun _ : Unit => Value.slice none 0 0) (d := ()) W base 22 n hb hn
    simpa [encs] using this
  inner := by
    intro b h h' h''
    rw [List.getElem_replicate, List.getElem_replicate]
    exact World.ownsRow_nil _ _ _ _
  apart := by
    intro a b ha hb _
    rw [List.getElem_replicate]
    exact .inl rfl
  below := hB.alloc hb _
theorem Rows.addr (h : Rows w0 base W A n c vs ls) (hn : 0 < n) : ∃ g, A = some ⟨g, 0, none⟩ ∧ base ≤ g ∧ g < W.heap.size := by
  rcases h.outer.2 with ⟨h1, h2⟩ | ⟨g, cap, cur, h1, h2, h3, _⟩
  · injection h1 with h1 h3 _
    omega
  · injection h1 with h4 _ _
    exact ⟨g, h4, h2, (Array.getElem?_eq_some_iff.1 h3).1⟩
theorem Rows.cell {g : Nat} (h : Rows w0 base W (some ⟨g, 0, none⟩) n c vs ls) (b : Nat) (hb : b < n) : W.cell? ⟨g, b, none⟩ = some (vs[b]'(by rw [h.vlen]; exact hb)) ∧ W.frozen? ⟨g, b, none⟩ = false := by
  have hb' : b < vs.length := by rw [h.vlen]; exact hb
  constructor
  · have := h.outer.cells (g := g) rfl b vs[b] (by simp [hb'])
    rwa [add_plain] at this
  · rcases h.outer.2 with ⟨h1, _⟩ | ⟨g', cap, cur, h1, h2, h3, _⟩
    · cases h1
    · injection h1 with h4 _ _
      injection h4 with h4
      injection h4 with h4
      subst h4
      simp [World.frozen?, h3]
/-- out[b] = append(out[b], y). -/
theorem Rows.append {g : Nat} {w1 : World} {v1 : Value} {y : Int} (h : Rows w0 base W (some ⟨g, 0, none⟩) n c vs ls) (b : Nat) (hb : b < n) (hb1 : b < vs.length) (hb2 : b < ls.length)
    (ho : w1.ownsRow base 3 1 v1 (ls[b] ++ [y]).length (encs (Value.int .i64) (ls[b] ++ [y]))) (hB : Below base w0 w1) (hg : W.grownBy w1 vs[b].ownBlock) (hat : v1.ownBlock = vs[b].ownBlock ∨ ∃ k, v1.ownBlock = some k ∧ W.heap.size ≤ k) :
    (∃ v, w1.cell? ⟨g, b, none⟩ = some v) ∧ w1.frozen? ⟨g, b, none⟩ = false ∧ Rows w0 base (w1.setCell ⟨g, b, none⟩ v1) (some ⟨g, 0, none⟩) n c (vs.set b v1) (ls.set b (ls[b] ++ [y])) := by
  have hout : w1.ownsRow base 22 1 (.slice (some ⟨g, 0, none⟩) n c) n vs := by
    refine h.outer.kept hg ?_
    rcases own_type_ne h.outer (h.inner b hb hb1 hb2) (by decide) with h1 | h1
    · exact .inl h1
    · exact .inr h1
  have hin : ∀ a (ha : a < n) (ha' : a < vs.length) (ha'' : a < ls.length), a ≠ b → w1.ownsRow base 3 1 vs[a] ls[a].length (encs (Value.int .i64) ls[a]) := fun a ha ha' ha'' hne => (h.inner a ha ha' ha'').kept hg (h.apart a b ha' hb1 hne)
  have hR1 : Rows w0 base w1 (some ⟨g, 0, none⟩) n c vs (ls.set b []) → True := fun _ => trivial
  have hc : w1.cell? ⟨g, b, none⟩ = some vs[b] := by
    have := hout.cells (g := g) rfl b vs[b] (by simp [hb1])
    rwa [add_plain] at this
  have hf : w1.frozen? ⟨g, b, none⟩ = false := by
    rcases hout.2 with ⟨h1, _⟩ | ⟨g', cap, cur, h1, h2, h3, _⟩
    · cases h1
    · injection h1 with h4 _ _
      injection h4 with h4
      injection h4 with h4
      subst h4
      simp [World.frozen?, h3]
  have hst := hout.stored b v1
  have hgb : base ≤ g := own_base h.outer g rfl
  have hfar : ∀ {m : Nat} {v : Value} {xs : List Value}, w1.ownsRow base 3 1 v m xs → (w1.setCell ⟨g, b, none⟩ v1).ownsRow base 3 1 v m xs := by
    intro m v xs ho'
    refine ho'.kept hst.2 ?_
    rcases own_type_ne ho' hout (by decide) with h1 | h1
    · exact .inl h1
    · exact .inr h1
  refine ⟨⟨_, hc⟩, hf, ⟨by rw [List.length_set]; exact h.len, hst.1, ?_, ?_, hB.setCell hgb _⟩⟩
  · intro a ha ha' ha''
    by_cases e : a = b
    · subst e
      simp only [List.getElem_set_self]
      exact hfar ho
    · rw [List.getElem_set_ne (Ne.symm e), List.getElem_set_ne (Ne.symm e)]
      exact hfar (hin a ha (by simpa using ha') (by simpa using ha'') e)
  · have hlt : ∀ a (ha : a < vs.length), ∀ k, vs[a].ownBlock = some k → k < W.heap.size := by
      intro a ha k hk
      have ha2 : a < n := by rw [← h.vlen]; exact ha
      exact own_lt (h.inner a ha2 ha (by rw [h.len]; exact ha2)) k hk
    intro a d ha hd hne
    have ha' : a < vs.length := by simpa using ha
    have hd' : d < vs.length := by simpa using hd
    by_cases e1 : a = b
    · subst e1
      rw [List.getElem_set_self, List.getElem_set_ne (by omega)]
      rcases hat with hat | ⟨k, hk, hle⟩
      · rw [hat]
        exact h.apart a d ha' hd' hne
      · refine .inr fun e => ?_
        have := hlt d hd' k (by rw [← e, hk])
        omega
    · by_cases e2 : d = b
      · subst e2
        rw [List.getElem_set_ne (by omega), List.getElem_set_self]
        rcases hat with hat | ⟨k, hk, hle⟩
        · rw [hat]
          exact h.apart a d ha' hd' hne
        · refine .inr fun e => ?_
          have := hlt a ha' k (by rw [e, hk])
          omega
      · rw [List.getElem_set_ne (by omega), List.getElem_set_ne (by omega)]
        exact h.apart a d ha' hd' hne
/-- Handed back. -/
theorem Rows.done (h : Rows w0 base W A n c vs ls) : Kd.R (Kd.slice 3 (Kd.int .i64)) 22 W base (fun _ => True) (.slice A n c) ls := by
  refine ⟨fun _ _ => trivial, vs, by rw [h.len]; exact h.outer, by rw [h.vlen, h.len]; simp [Kd.slice], ?_⟩
  intro j p hj
  have hj1 : j < ls.length := (List.getElem?_eq_some_iff.1 hj).1
  have hj0 : j < n := by rw [← h.len]; exact hj1
  have hj2 : j < vs.length := by rw [h.vlen]; exact hj0
  have hp : p = ls[j] := by
    rw [List.getElem?_eq_getElem hj1] at hj
    exact (Option.some.inj hj).symm
  subst hp
  refine ⟨vs[j], ?_, ?_⟩
  · show (vs.drop (j * 1)).take 1 = [vs[j]]
    rw [Nat.mul_one, List.drop_eq_getElem_cons hj2]
    rfl
  · refine Kd.R_of_own (h.inner j hj0 hj2 hj1) fun k hk => ⟨trivial, fun e => ?_⟩
    rcases own_type_ne (h.inner j hj0 hj2 hj1) h.outer (by decide) with h1 | h1
    · rw [h1] at hk
      cases hk
    · exact h1 (hk.trans e)
end

set_option maxRecDepth 100000 in
set_option maxHeartbeats 1000000 in
theorem members_no (A0 : Option Addr) (c0 : Nat) (p : List Int) (w : World) (hr : Kd.C (Kd.int .i64) w A0 p.length p) (hw : Wf p) (hp : ¬ rightP p) :
    Calls Try.prog 36 #[.slice A0 p.length c0] w fun e w' => e = .returned (.tuple #[.slice none 0 0, .int .i64 60]) ∧ Below w.heap.size w w' := by
  have h0 := right_walk A0 c0 p w hr hw
  rw [decide_eq_false hp] at h0
  have HP := Aside0.mk h0
  clear hp hr hw h0
  go_enter Try.func36, Try.ntmps36
  go_wp2_with (go_at_call 37; refine HP.out.mono ?_; rintro e w1 ⟨rfl, hB⟩)
  go_ret2
  exact ⟨rfl, hB⟩

theorem rowsP_snoc (l : List Int) (n b : Nat) (hb : b < n) : (rowsP l n).set b (idxs l 0 (b : Int) ++ [(l.length : Int)]) = rowsP (l ++ [(b : Int)]) n := by
  apply List.ext_getElem
  · simp [rowsP]
  · intro j h1 h2
    have hj : j < n := by simpa [rowsP] using h2
    rw [rowsP_get _ _ _ hj, idxs_snoc, Nat.zero_add]
    by_cases e : j = b
    · subst e
      rw [List.getElem_set_self, if_pos rfl]
    · rw [List.getElem_set_ne (Ne.symm e), rowsP_get _ _ _ hj, if_neg (by omega)]
theorem rowsP_nil (n : Nat) : rowsP [] n = List.replicate n [] := by
  apply List.ext_getElem
  · simp [rowsP]
  · intro j h1 h2
    simp [rowsP, idxs]

set_option maxRecDepth 100000 in
set_option maxHeartbeats 2000000 in
theorem members_yes (A0 : Option Addr) (c0 : Nat) (p : List Int) (w : World) (hr : Kd.C (Kd.int .i64) w A0 p.length p) (hp : rightP p) :
    Calls Try.prog 36 #[.slice A0 p.length c0] w fun e w' => ∃ v, e = .returned (.tuple #[v, .int .i64 0]) ∧ Kd.R (Kd.slice 3 (Kd.int .i64)) 22 w' w.heap.size (fun _ => True) v (membersP p) ∧ Below w.heap.size w w' := by
  have h0 := right_walk A0 c0 p w hr hp.small.wf
  rw [decide_eq_true hp] at h0
  have HP := Aside0.mk h0
  have HR := Aside0.mk hr
  obtain ⟨n, hn⟩ : ∃ n : Nat, countP p = n := ⟨(countP p).toNat, by have := count_bounds hp; omega⟩
  have hn0 : n ≤ 1024 := by have := count_bounds hp; have := hp.1; omega
  have hn1 : p.length ≤ 1024 := hp.1
  have hm : membersP p = rowsP p n := by rw [membersP, hn]; rfl
  have HN := Aside0.mk hn
  have HX := Aside0.mk (show ∀ x ∈ p, 0 ≤ x ∧ x < n from fun x hx => ⟨(hp.bounds x hx).1, by rw [← hn]; exact lt_count x hx⟩)
  have HC := Aside0.mk (fun w1 (hB : Below w.heap.size w w1) => (show Calls Try.prog 55 #[.slice A0 p.length c0] w1 fun e w' => e = .returned (.int .i64 (n : Int)) ∧ Below w1.heap.size w1 w' by rw [← hn]; exact count_walk A0 c0 p w1 (Kd.C_below hr hB) hp.small))
  rw [hm]
  clear hp hr h0 hn hm
  have hmk := print_make_of 36 22 (.slice none 0 0) 24 Try.underlying36 info22 rfl (by decide) n (by omega)
  go_enter Try.func36, Try.ntmps36
  go_wp2_with (first
    | (go_at_call 37; refine HP.out.mono ?_; rintro e w1 ⟨rfl, hB⟩; have HC1 := Aside0.mk (HC.out w1 hB); have HB1 := Aside0.mk hB; clear hB)
    | (go_at_call 55; refine HC1.out.mono ?_; rintro e w2 ⟨rfl, hB2⟩; have HB2 := Aside0.mk (HB1.out.trans (hB2.mono HB1.out.size)); clear hB2))
  go_loopw [15] (fun i wr => ∃ (k : Nat) (vs : List Value), i = .int .i64 k ∧ Aside0 (k ≤ p.length ∧ Rows w w.heap.size wr (some ⟨w2.heap.size, 0, none⟩) n n vs (rowsP (p.take k) n))) (fun i _ => p.length - (intOf i).toNat)
  case atStart => exact ⟨0, _, rfl, ⟨Nat.zero_le _, by rw [List.take_zero, rowsP_nil]; exact Rows.made w w2 w.heap.size n HB2.out HB2.out.size (by omega)⟩⟩
  case round =>
    obtain ⟨k, vs, rfl, HI⟩ := hrel
    have hkl := HI.out.1
    by_cases hk : k < p.length
    · obtain ⟨ad0, e0, hx0⟩ := ints_at (Kd.C_below HR.out HI.out.2.below) k hk
      subst e0
      obtain ⟨b, hb⟩ : ∃ b : Nat, p[k] = b := ⟨p[k].toNat, by have := HX.out p[k] (List.getElem_mem hk); omega⟩
      have hbn : b < n := by have := HX.out p[k] (List.getElem_mem hk); omega
      rw [hb] at hx0
      have HBB := Aside0.mk hb
      clear hb
      obtain ⟨hc, hf⟩ := HI.out.2.cell b hbn
      have hb1 : b < vs.length := by rw [HI.out.2.vlen]; exact hbn
      have hb2 : b < (rowsP (p.take k) n).length := by rw [rowsP_length]; exact hbn
      have HO := Aside0.mk (HI.out.2.inner b hbn hb1 hb2)
      have hl8 := idxs_length (p.take k) 0 (b : Int)
      have HL8 := Aside0.mk (show ((rowsP (p.take k) n)[b].length + 1) * 8 ≤ 140737488355328 by rw [rowsP_get _ _ _ hbn]; simp at hl8; omega)
      have HS := Aside0.mk (show (rowsP (p.take k) n).set b ((rowsP (p.take k) n)[b] ++ [(k : Int)]) = rowsP (p.take (k + 1)) n by
        have h1 := rowsP_snoc (p.take k) n b hbn
        rw [show (p.take k).length = k by simp; omega] at h1
        rw [rowsP_get _ _ _ hbn, h1, Num.take_succ p k hk, HBB.out])
      clear hl8
      go_wp2_with (at_builtin; refine print_append_of (w0 := w) (W := wr) (Value.int .i64) w.heap.size rfl (.tmp 25) (.tmp 27) 22 3 (.int .i64 0) 8 rfl Try.underlying22 info3 rfl (by decide) vs[b] (rowsP (p.take k) n)[b] (k : Int) rfl rfl rfl HO.out HI.out.2.below HI.out.2.below.size HL8.out ?_; rintro v1 w3 hown hB3 hg hat; obtain ⟨⟨v9, hc9⟩, hf9, hrows⟩ := HI.out.2.append b hbn hb1 hb2 hown hB3 hg hat; rw [HS.out] at hrows; obtain ⟨g1, cap1, rfl, -, -⟩ := hown.form (by simp); simp only [List.length_append, List.length_cons, List.length_nil, Nat.zero_add] at hrows; have HJ := Aside0.mk hrows; clear hown hB3 hg hat hrows hc hf)
      go_roundw
      case rel => exact ⟨k + 1, _, by go_num, ⟨by omega, HJ.out⟩⟩
      case measure => simp [intOf]; omega
    · have hk' : k = p.length := by omega
      have HD := Aside0.mk (show Kd.R (Kd.slice 3 (Kd.int .i64)) 22 wr w.heap.size (fun _ => True) (.slice (some ⟨w2.heap.size, 0, none⟩) n n) (rowsP p n) by have h := HI.out.2.done; rwa [hk', List.take_length] at h)
      clear hk'
      go_wp2
      go_ret2
      exact ⟨_, rfl, HD.out, HI.out.2.below⟩
end Go.Proofs.Ytboofecfmhbacaa
