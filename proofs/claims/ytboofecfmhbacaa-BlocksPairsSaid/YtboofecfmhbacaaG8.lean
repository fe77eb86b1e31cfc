/- The walks of package blocks' Meet and Finer. -/
import Derived.Test.YtboofecfmhbacaaG7
import Derived.StillTailTactics
namespace Go.Proofs.Ytboofecfmhbacaa
open Go.RowKit Go.WideMaps Go.Maps Go.Proofs.YtboofecfmhbacaaW.PrintWords Go.Proofs.YtboofecfmhbacaaW.PrintLast Go.Proofs.YtboofecfmhbacaaW.PrintMore
set_option linter.unusedVariables false
set_option linter.unusedSimpArgs false

theorem info78 : (Try.prog.info? 78).map (fun i => (i.zero, i.size, i.bytes)) = some (some (.agg (cellsOf [0, 0])), 2, 16) := by kernel_rfl
theorem bothE_wrong {p q : List Int} (h : ¬ (rightP p ∧ rightP q ∧ p.length = q.length)) : bothE p q ≠ 0 := by
  unfold bothE
  by_cases hp : rightP p <;> by_cases hq : rightP q <;> simp_all
theorem bothE_ok {p q : List Int} (hp : rightP p) (hq : rightP q) (hl : p.length = q.length) : bothE p q = 0 := by simp [bothE, hp, hq, hl]

theorem mapM_some {α β : Type} {f : α → Option β} : ∀ (l : List α), (∀ i ∈ l, ∃ y, f i = some y) → ∃ ys, l.mapM f = some ys
  | [], _ => ⟨[], rfl⟩
  | a :: r, h => by
    obtain ⟨y, hy⟩ := h a List.mem_cons_self
    obtain ⟨ys, hys⟩ := mapM_some r (fun i hi => h i (List.mem_cons_of_mem _ hi))
    exact ⟨y :: ys, by simp [List.mapM_cons, hy, hys]⟩
/-- An array of integers is a key. -/
theorem arr_key {P : Program} {t e : TypeId} {n : Nat} (ht : P.underlying t = some (.array n e)) (he : P.underlying e = some (.int .i64)) (hk : P.keyType t = true) (hc : P.cellsOf t = n) (hce : P.cellsOf e = 1) (hs : 0 < P.types.size)
    {x : List Int} (hx : x.length = n) (hw : Wf x) : ∃ q, keyOf P t (encArr x) = some q := by
  obtain ⟨d, hd⟩ : ∃ d, P.types.size = d + 1 := ⟨P.types.size - 1, by omega⟩
  have h1 : ∃ ls, P.keyLits (P.types.size + 1) t (cellsOf x).toList = some ls := by
    have h2 : ∃ ys, (List.range n).mapM (fun i => P.keyLits P.types.size e (((cellsOf x).toList.drop (i * P.cellsOf e)).take (P.cellsOf e))) = some ys := by
      refine mapM_some _ fun i hi => ?_
      have hi' : i < x.length := by rw [hx]; exact List.mem_range.1 hi
      have hl : ((cellsOf x).toList.drop (i * P.cellsOf e)).take (P.cellsOf e) = [.int .i64 x[i]] := by
        rw [hce, Nat.mul_one, cellsOf, List.toList_toArray, ← List.map_drop, ← List.map_take, List.drop_eq_getElem_cons hi']
        rfl
      rw [hl, hd]
      exact ⟨[.int .i64 x[i]], by simp [Program.keyLits, he, hw _ (List.getElem_mem hi')]⟩
    obtain ⟨ys, hys⟩ := h2
    refine ⟨ys.flatten, ?_⟩
    simp only [Program.keyLits, ht]
    rw [if_pos (by rw [hc]; simp [cellsOf, hx]), hys]
    rfl
  obtain ⟨ls, hls⟩ := h1
  refine ⟨.string (keyBytes ls), ?_⟩
  unfold keyOf
  rw [ht]
  have hf : (encArr x).formed P t = true := by simp [encArr, Value.formed, ht, hc, cellsOf, hx]
  simp only [hk, hf, Bool.and_self, if_true]
  show (P.keyLits (P.types.size + 1) t (cellsOf x).toList).map _ = _
  rw [hls]
  rfl
theorem types_pos : 0 < Try.prog.types.size := of_decide_eq_true (by kernel_rfl)
theorem key78 : Try.prog.keyType 78 = true := by kernel_rfl
theorem cells78 : Try.prog.cellsOf 78 = 2 := by kernel_rfl
theorem cells3 : Try.prog.cellsOf 3 = 1 := by kernel_rfl
theorem zip2_keys {p q : List Int} (hp : rightP p) (hq : rightP q) : ∀ x ∈ zip2 p q, ∃ k, keyOf Try.prog 78 (encArr x) = some k := by
  intro x hx
  obtain ⟨i, hi, rfl⟩ := List.getElem_of_mem hx
  have hi1 : i < p.length ∧ i < q.length := by simp [zip2] at hi; omega
  rw [zip2_get p q i hi1.1 hi1.2]
  refine arr_key Try.underlying78 Try.underlying3 key78 cells78 cells3 types_pos rfl ?_
  intro y hy
  rcases List.mem_cons.1 hy with rfl | hy
  · exact hp.small.wf _ (List.getElem_mem _)
  · rw [List.mem_singleton.1 hy]
    exact hq.small.wf _ (List.getElem_mem _)
section
variable {P : Program} {ops : Array Oper} {rest : List Oper} {o : Oper} {a : Act} {Q : Exit → Act → World → Prop}
/-- out[k] = x, x an array, out a row of the call's own. -/
theorem wpList_put_arr {w0 W : World} (n base : Nat) (hN : o.dst = none) (hgd : o.guard = none) (t : TypeId) (p x : Operand) (ho : o.op = .store t p x) (e : TypeId) {g m cap o' : Nat} (k : Nat) (xs : List (List Int)) (x' : List Int) (X : Array Value) (ok : Nat → Prop)
    (haddr : a.eval p = .pointer (some ⟨g, o', none⟩)) (hoff : o' = k * n) (hx : a.eval x = .agg X) (hX : X = cellsOf x') (hl : x'.length = n) (ht : (P.info? t).map (·.size) = some n)
    (HO : (Karr n).R e W base ok (.slice (some ⟨g, 0, none⟩) m cap) xs) (hk : k < xs.length) (HB : Below base w0 W)
    (h : ∀ w1, (Karr n).R e w1 base ok (.slice (some ⟨g, 0, none⟩) m cap) (xs.set k x') → Below base w0 w1 → W.grownBy w1 (some g) → wpList P ops Q rest a w1) : wpList P ops Q (o :: rest) a W := by
  obtain ⟨hm, _, hC⟩ := R_len HO
  subst hm hX
  obtain ⟨ad, c, e0, hcl, hK, hc⟩ := Kd.C_get hC [] (k : Int) (by omega) (by omega)
  injection e0 with e0
  subst e0
  have h2 := hK.2
  have hlen : (cellsOf x').toList.length = n := by simp [cellsOf, hl]
  refine Kd.R_store (Karr n) base hN hgd t p x ho e (k : Int) 0 xs x' (.agg (cellsOf x')) (cellsOf x').toList c ok (fun _ => False) haddr (by rw [hoff]; simp [Karr]) hx rfl (by rw [hlen]; exact ht) (fun q hq => cellsOf_one x' q (by simpa using hq)) HO (by omega) (by omega) hcl ?_ (by rw [hlen, Nat.zero_add]; exact Nat.le_refl n) ⟨hl, ?_⟩ (fun _ hk => hk.elim) HB ?_
  · intro j u hj
    have h1 := hc j u hj
    rwa [show (⟨g, 0, none⟩ : Addr).add ((k : Int).toNat * (Karr n).sz + j) = ⟨g, (k : Int).toNat * (Karr n).sz + j, none⟩ by unfold Addr.add; split <;> simp_all] at h1
  · rw [List.take_zero, List.nil_append, Nat.zero_add, List.drop_of_length_le (by rw [hlen]; exact Nat.le_of_eq hcl), List.append_nil]
  · intro w1 h3 h4 h5
    rw [Int.toNat_natCast] at h3
    exact h w1 h3 h4 h5
end

set_option maxRecDepth 100000 in
set_option maxHeartbeats 1000000 in
/-- Meet, of what is no two partitions. -/
theorem meet_no (A0 : Option Addr) (c0 : Nat) (p : List Int) (A1 : Option Addr) (c1 : Nat) (q : List Int) (w : World) (hr0 : Kd.C (Kd.int .i64) w A0 p.length p) (hr1 : Kd.C (Kd.int .i64) w A1 q.length q) (hw0 : Wf p) (hw1 : Wf q) (hno : bothE p q ≠ 0) :
    Calls Try.prog 30 #[.slice A0 p.length c0, .slice A1 q.length c1] w fun e w' => e = .returned (.tuple #[.slice none 0 0, .int .i64 (bothE p q)]) ∧ Below w.heap.size w w' := by
  have HB := Aside0.mk (both_walk A0 c0 p A1 c1 q w hr0 hr1 hw0 hw1)
  generalize bothE p q = b at HB hno ⊢
  have h1 : (b == 0) = false := beq_eq_false_iff_ne.mpr hno
  have h2 : (b != 0) = true := bne_iff_ne.mpr hno
  clear hno hr0 hr1 hw0 hw1
  go_enter Try.func30, Try.ntmps30
  go_wp2_with (go_at_call 56; refine HB.out.mono ?_; rintro e w1 ⟨rfl, hB⟩)
  go_ret2
  exact ⟨rfl, hB⟩

set_option maxRecDepth 100000 in
set_option maxHeartbeats 1000000 in
theorem meet_yes (A0 : Option Addr) (c0 : Nat) (p : List Int) (A1 : Option Addr) (c1 : Nat) (q : List Int) (w : World) (hr0 : Kd.C (Kd.int .i64) w A0 p.length p) (hr1 : Kd.C (Kd.int .i64) w A1 q.length q) (hp : rightP p) (hq : rightP q) (hl : p.length = q.length) :
    Calls Try.prog 30 #[.slice A0 p.length c0, .slice A1 q.length c1] w fun e w' => ∃ v, e = .returned (.tuple #[v, .int .i64 0]) ∧ Kd.R (Kd.int .i64) 3 w' w.heap.size (fun _ => True) v (meetP p q) ∧ Below w.heap.size w w' := by
  have hb0 := both_walk A0 c0 p A1 c1 q w hr0 hr1 hp.small.wf hq.small.wf
  rw [bothE_ok hp hq hl] at hb0
  have HB := Aside0.mk hb0
  have HR0 := Aside0.mk hr0
  have HR1 := Aside0.mk hr1
  have hn : p.length ≤ 1024 := hp.1
  have HL := Aside0.mk hl
  have HP := Aside0.mk (And.intro hp hq)
  clear hb0 hr0 hr1 hp hq hl
  go_enter Try.func30, Try.ntmps30
  go_wp2_with (first
    | (go_at_call 56; refine HB.out.mono ?_; rintro e w1 ⟨rfl, hB⟩; have HB1 := Aside0.mk hB; clear hB)
    | (refine Kd.R_make (Karr 2) w.heap.size 78 rfl rfl 77 _ _ rfl (p.length : Int) rfl rfl Try.underlying77 _ 16 info78 rfl (by decide) (by decide) [0, 0] (ok := fun _ => True) (okp := fun _ => True) ⟨rfl, rfl⟩ (fun _ h => h) trivial (by omega) (by simp; omega) HB1.out HB1.out.size ?_; rintro v1 w2 hR hB2 _ _; rw [Int.toNat_natCast] at hR; obtain ⟨A2, c2, rfl⟩ := R_shape hR (List.length_replicate ..); have HR := Aside0.mk hR; have HB2 := Aside0.mk hB2; clear hR hB2))
  go_loopw [20] (fun i wr => ∃ k : Nat, i = .int .i64 k ∧ Aside0 (k ≤ p.length ∧ (Karr 2).R 78 wr w.heap.size (fun _ => True) (.slice A2 p.length c2) (filled (zip2 p q) k [0, 0]) ∧ Below w.heap.size w wr)) (fun i _ => p.length - (intOf i).toNat)
  case atStart => exact ⟨0, rfl, ⟨Nat.zero_le _, by rw [filled_zero, zip2_length _ _ HL.out]; exact HR.out, HB2.out⟩⟩
  case round =>
    obtain ⟨k, rfl, HI⟩ := hrel
    have hkl := HI.out.1
    by_cases hk : k < p.length
    · obtain ⟨ad0, e0, hx0⟩ := ints_at (Kd.C_below HR0.out HI.out.2.2) k hk
      have hkq : k < q.length := by rw [← HL.out]; exact hk
      obtain ⟨ad1, e1, hx1⟩ := ints_at (Kd.C_below HR1.out HI.out.2.2) k hkq
      obtain ⟨g, e2, _⟩ := R_addr HI.out.2.1 (by omega)
      subst e0 e1 e2
      go_wp2
      go_still_tail 12, (by kernel_rfl)
      change wpList _ _ _ _ _ wr.drew
      have HJ : Aside0 ((Karr 2).R 78 wr.drew w.heap.size (fun _ => True) (.slice (some ⟨g, 0, none⟩) p.length c2) (filled (zip2 p q) k [0, 0]) ∧ Below w.heap.size w wr.drew) := ⟨HI.out.2.1, HI.out.2.2.drew⟩
      clear HI hx0 hx1
      generalize wr.drew = wd at *
      have HF := Aside0.mk (show (filled (zip2 p q) k [0, 0]).set k [p[k], q[k]] = filled (zip2 p q) (k + 1) [0, 0] by
        rw [← zip2_get p q k hk hkq]
        exact filled_set _ _ _ _)
      have HK := Aside0.mk (show k < (filled (zip2 p q) k [0, 0]).length by rw [filled_length _ _ _ (by rw [zip2_length _ _ HL.out]; omega), zip2_length _ _ HL.out]; exact hk)
      go_wp2_with (refine wpList_put_arr 2 w.heap.size rfl rfl 78 (.tmp 34) (.tmp 33) rfl 78 k (filled (zip2 p q) k [0, 0]) [p[k], q[k]] _ (fun _ => True) rfl rfl rfl rfl rfl size78 HJ.out.1 HK.out HJ.out.2 ?_; rintro w3 hR3 hB3 _; rw [HF.out] at hR3; have HJ3 := Aside0.mk (And.intro hR3 hB3); clear hR3 hB3)
      go_roundw
      case rel => exact ⟨k + 1, by go_num, ⟨by omega, HJ3.out.1, HJ3.out.2⟩⟩
      case measure => simp [intOf]; omega
    · have hk' : k = p.length := by omega
      have hR2 := HI.out.2.1
      rw [hk', ← zip2_length p q HL.out, filled_end, zip2_length p q HL.out] at hR2
      obtain ⟨-, hc2, hC2⟩ := R_len hR2
      have HC := Aside0.mk (numbered_pair_walk A2 c2 (zip2 p q) wr (by rw [zip2_length p q HL.out]; exact hC2) (by rw [zip2_length p q HL.out]; omega) (zip2_keys HP.out.1 HP.out.2))
      rw [zip2_length p q HL.out] at HC
      clear hR2 hC2 hk'
      go_wp2_with (go_at_call 57; refine HC.out.mono ?_; rintro e w3 ⟨v, rfl, hR3, hB3⟩; have HD := Aside0.mk (And.intro (Kd.R_lower hR3 HI.out.2.2.size) (HI.out.2.2.trans (hB3.mono HI.out.2.2.size))); clear hR3 hB3)
      go_ret2
      exact ⟨_, rfl, HD.out.1, HD.out.2⟩

/-- Is each block of a partition in one of another one? -/
def finerP (p q : List Int) : Prop := meetP p q = p
instance (p q : List Int) : Decidable (finerP p q) := inferInstanceAs (Decidable (_ = _))
set_option maxRecDepth 100000 in
set_option maxHeartbeats 1000000 in
theorem finer_no (A0 : Option Addr) (c0 : Nat) (p : List Int) (A1 : Option Addr) (c1 : Nat) (q : List Int) (w : World) (hr0 : Kd.C (Kd.int .i64) w A0 p.length p) (hr1 : Kd.C (Kd.int .i64) w A1 q.length q) (hw0 : Wf p) (hw1 : Wf q) (hno : bothE p q ≠ 0) :
    Calls Try.prog 32 #[.slice A0 p.length c0, .slice A1 q.length c1] w fun e w' => e = .returned (.tuple #[.bool false, .int .i64 (bothE p q)]) ∧ Below w.heap.size w w' := by
  have HM := Aside0.mk (meet_no A0 c0 p A1 c1 q w hr0 hr1 hw0 hw1 hno)
  generalize bothE p q = b at HM hno ⊢
  have h1 : (b == 0) = false := beq_eq_false_iff_ne.mpr hno
  clear hno hr0 hr1 hw0 hw1
  go_enter Try.func32, Try.ntmps32
  go_wp2_with (go_at_call 30; refine HM.out.mono ?_; rintro e w1 ⟨rfl, hB⟩)
  go_ret2
  exact ⟨rfl, hB⟩
set_option maxRecDepth 100000 in
set_option maxHeartbeats 1000000 in
theorem finer_yes (A0 : Option Addr) (c0 : Nat) (p : List Int) (A1 : Option Addr) (c1 : Nat) (q : List Int) (w : World) (hr0 : Kd.C (Kd.int .i64) w A0 p.length p) (hr1 : Kd.C (Kd.int .i64) w A1 q.length q) (hp : rightP p) (hq : rightP q) (hl : p.length = q.length) :
    Calls Try.prog 32 #[.slice A0 p.length c0, .slice A1 q.length c1] w fun e w' => e = .returned (.tuple #[.bool (decide (finerP p q)), .int .i64 0]) ∧ Below w.heap.size w w' := by
  have HM := Aside0.mk (meet_yes A0 c0 p A1 c1 q w hr0 hr1 hp hq hl)
  have HR := Aside0.mk hr0
  clear hr0 hr1 hp hq hl
  go_enter Try.func32, Try.ntmps32
  go_wp2_with (first
    | (go_at_call 30; refine HM.out.mono ?_; rintro e w1 ⟨v, rfl, hR, hB⟩; obtain ⟨A2, c2, rfl, hc2, hC2⟩ := Kd.R_reads hR; have HE := Aside0.mk (equal_walk A2 c2 (meetP p q) A0 c0 p w1 hC2 (Kd.C_below HR.out hB)); clear hC2 hR)
    | (go_at_call 19; refine HE.out.mono ?_; rintro e w2 ⟨rfl, hB2⟩))
  go_ret2
  exact ⟨rfl, hB.trans (hB2.mono hB.size)⟩
end Go.Proofs.Ytboofecfmhbacaa
