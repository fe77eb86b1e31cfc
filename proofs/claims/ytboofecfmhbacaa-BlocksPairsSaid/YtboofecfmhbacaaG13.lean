/- The walk of package blocks' Join. -/
import Derived.Test.YtboofecfmhbacaaG12
import Derived.Test.YtboofecfmhbacaaMap2
import Derived.Test.YtboofecfmhbacaaTree
import Derived.StillTailTactics
namespace Go.Proofs.Ytboofecfmhbacaa
open Go.RowKit Go.WideMaps Go.Maps Go.Proofs.YtboofecfmhbacaaW.PrintWords Go.Proofs.YtboofecfmhbacaaW.PrintLast Go.Proofs.YtboofecfmhbacaaW.PrintMore
set_option linter.unusedVariables false
set_option linter.unusedSimpArgs false

set_option maxRecDepth 100000 in
set_option maxHeartbeats 1000000 in
theorem root_walk (k b r : Nat) (B ga n c : Nat) (t : List Int) (w : World) (hc : w.cell? ⟨B, 0, none⟩ = some (.slice (some ⟨ga, 0, none⟩) n c)) (ht : ∀ i, i < n → w.cell? ⟨ga, i, none⟩ = some (.int .i64 (at_ t i))) (hl : t.length = n) (hr : rootN t k b r) :
    Calls Try.prog 58 #[.int .i64 b, .pointer (some ⟨B, 0, none⟩)] w fun e w' => e = .returned (.int .i64 r) ∧ w' = w := by
  have HT := Aside0.mk ht
  have HL := Aside0.mk hl
  clear ht hl
  go_enter Try.func58, Try.ntmps58
  go_wp2
  go_loopg [0] k (fun gg x wr => ∃ (b' : Nat), x = .int .i64 b' ∧ wr = w ∧ Aside0 (rootN t gg b' r))
  case atStart => exact ⟨b, rfl, rfl, ⟨hr⟩⟩
  case round =>
    obtain ⟨b', rfl, rfl, HI⟩ := hrel
    have hbn : b' < n := by rw [← HL.out]; exact HI.out.lt.1
    have hx := HT.out b' hbn
    cases gk with
    | zero =>
      obtain ⟨rfl, -, h2⟩ := HI.out
      rw [h2] at hx
      have h1 : ((b' : Int) != (b' : Int)) = false := by simp
      go_wp2
      go_ret
      exact ⟨rfl, rfl⟩
    | succ m =>
      obtain ⟨-, d, h2, h3, h4⟩ := HI.out
      rw [h2] at hx
      have h1 : ((d : Int) != (b' : Int)) = true := bne_iff_ne.mpr (by omega)
      have HK := Aside0.mk h4
      clear h2 h3 h4
      go_wp2
      go_roundg m
      case rel => exact ⟨d, rfl, rfl, ⟨HK.out⟩⟩
      case measure => omega

/-- The forest's list as it lies: its row in block ga, the variable behind it. -/
structure ToInv (w wr : World) (ga n : Nat) (t : List Int) : Prop where
  cell : wr.cell? ⟨ga + 1, 0, none⟩ = some (.slice (some ⟨ga, 0, none⟩) n n)
  row : wr.ownsRow w.heap.size 3 1 (.slice (some ⟨ga, 0, none⟩) n n) n (encs (Value.int .i64) t)
  len : t.length = n
  below : Below w.heap.size w wr
  lt : ga + 1 < wr.heap.size
section
variable {w wr : World} {ga n : Nat} {t : List Int}
theorem ToInv.made (w w1 : World) (n : Nat) (hB : Below w.heap.size w w1) (hn : n ≤ 9223372036854775807) :
    ToInv w ((w1.alloc (.cells (madeCells #[.int .i64 0] n) 3)).alloc (.cells #[.slice (some ⟨w1.heap.size, 0, none⟩) n n] 22)) w1.heap.size n (List.replicate n 0) where
  cell := by
    have := cell_new (w1.alloc (.cells (madeCells #[.int .i64 0] n) 3)) (.slice (some ⟨w1.heap.size, 0, none⟩) n n) 22
    rwa [World.size_alloc] at this
  row := (own_made_of (enc := Value.int .i64) (d := (0 : Int)) w1 w.heap.size 3 n hB.size hn).alloc _
  len := by simp
  below := (hB.alloc hB.size _).alloc (by rw [World.size_alloc]; have := hB.size; omega) _
  lt := by rw [World.size_alloc, World.size_alloc]; omega
theorem ToInv.grown {row : Option Nat} {w1 : World} (h : ToInv w wr ga n t) (hg : wr.grownBy w1 row) (h1 : some ga ≠ row) (h2 : some (ga + 1) ≠ row) (hb : ∀ k, row = some k → w.heap.size ≤ k) : ToInv w w1 ga n t where
  cell := (World.cell?_of_block (hg.block _ h.lt h2)).trans h.cell
  row := h.row.kept hg (.inr h1)
  len := h.len
  below := h.below.grown hg h.below.size hb
  lt := Nat.lt_of_lt_of_le h.lt hg.size
theorem ToInv.lift {w1 : World} (h : ToInv w wr ga n t) (hB : Below wr.heap.size wr w1) : ToInv w w1 ga n t :=
  h.grown (grown_of_below hB none) (by simp) (by simp) (by simp)
theorem ToInv.at_ (h : ToInv w wr ga n t) (i : Nat) (hi : i < n) : wr.cell? ⟨ga, i, none⟩ = some (.int .i64 (at_ t i)) ∧ wr.frozen? ⟨ga, i, none⟩ = false := by
  have h1 := own_at_of (d := (0 : Int)) h.row (i : Int) (by omega) (by omega)
  simp only [Int.toNat_natCast] at h1
  refine ⟨?_, h1.2⟩
  rw [h1.1]
  rfl
theorem ToInv.store (h : ToInv w wr ga n t) (i : Nat) (x : Int) : ToInv w (wr.setCell ⟨ga, i, none⟩ (.int .i64 x)) ga n (t.set i x) where
  cell := (World.cell?_of_block (Below.heap_setCell _ _ _ _ (by simp))).trans h.cell
  row := by
    have h1 := (h.row.stored i (.int .i64 x)).1
    rwa [show (encs (Value.int .i64) t).set i (.int .i64 x) = encs (Value.int .i64) (t.set i x) by simp [encs, List.map_set]] at h1
  len := by rw [List.length_set]; exact h.len
  below := h.below.setCell (own_base h.row ga rfl) _
  lt := by rw [World.size_setCell]; exact h.lt
theorem FnMap.below {P : Program} {kt et : TypeId} {b N : Nat} {g : Int → Option Int} {w1 : World} (h : FnMap P kt et b wr N g) (hB : Below wr.heap.size wr w1) : FnMap P kt et b w1 N g := h.kept (grown_of_below hB none) (by simp)
theorem FnMap.more {P : Program} {kt et : TypeId} {b N : Nat} {g : Int → Option Int} (h : FnMap P kt et b wr N g) : FnMap P kt et b wr (N + 1) g := by
  obtain ⟨D, n, h0, h1⟩ := h
  exact ⟨D, n, by omega, h1⟩
theorem ToInv.root (h : ToInv w wr ga n t) {b r : Nat} (hr : Root t b r) : Calls Try.prog 58 #[.int .i64 b, .pointer (some ⟨ga + 1, 0, none⟩)] wr fun e w' => e = .returned (.int .i64 r) ∧ w' = wr := by
  obtain ⟨k, hk⟩ := hr
  exact root_walk k b r (ga + 1) ga n n t wr h.cell (fun i hi => (h.at_ i hi).1) h.len hk
end

/-- What the map of ties says when k elements have been seen. -/
def Told (p q : List Int) (k : Nat) (g : Int → Option Int) : Prop := (∀ y, g y = none → ∀ i, i < k → Go.Proofs.Ytboofecfmhbacaa.at_ q i ≠ y) ∧ ∀ y v, g y = some v → ∃ f, f < k ∧ Go.Proofs.Ytboofecfmhbacaa.at_ q f = y ∧ Go.Proofs.Ytboofecfmhbacaa.at_ p f = v
theorem Told.start (p q : List Int) : Told p q 0 (fun _ => none) := ⟨fun _ _ i hi => absurd hi (Nat.not_lt_zero i), fun _ _ h => by cases h⟩
theorem Told.new {p q : List Int} {k : Nat} {g : Int → Option Int} (h : Told p q k g) (hp : k < p.length) (hq : k < q.length) : Told p q (k + 1) (fun y => if y = q[k] then some p[k] else g y) := by
  refine ⟨fun y hy i hi => ?_, fun y v hv => ?_⟩
  · by_cases e : y = q[k]
    · simp [e] at hy
    · simp only [if_neg e] at hy
      by_cases ei : i = k
      · subst ei
        rw [at_get hq]
        exact Ne.symm e
      · exact h.1 y hy i (by omega)
  · by_cases e : y = q[k]
    · simp only [if_pos e] at hv
      injection hv with hv
      exact ⟨k, by omega, by rw [at_get hq, e], by rw [at_get hp, hv]⟩
    · simp only [if_neg e] at hv
      obtain ⟨f, h1, h2, h3⟩ := h.2 y v hv
      exact ⟨f, by omega, h2, h3⟩
theorem Told.old {p q : List Int} {k : Nat} {g : Int → Option Int} (h : Told p q k g) (hq : k < q.length) {v : Int} (hv : g q[k] = some v) : Told p q (k + 1) g := by
  refine ⟨fun y hy i hi => ?_, fun y v' hv' => ?_⟩
  · by_cases ei : i = k
    · subst ei
      rw [at_get hq]
      rintro rfl
      rw [hy] at hv
      cases hv
    · exact h.1 y hy i (by omega)
  · obtain ⟨f, h1, h2, h3⟩ := h.2 y v' hv'
    exact ⟨f, by omega, h2, h3⟩

set_option maxRecDepth 100000 in
set_option maxHeartbeats 1000000 in
theorem join_no (A0 : Option Addr) (c0 : Nat) (p : List Int) (A1 : Option Addr) (c1 : Nat) (q : List Int) (w : World) (hr0 : Kd.C (Kd.int .i64) w A0 p.length p) (hr1 : Kd.C (Kd.int .i64) w A1 q.length q) (hw0 : Wf p) (hw1 : Wf q) (hno : bothE p q ≠ 0) :
    Calls Try.prog 31 #[.slice A0 p.length c0, .slice A1 q.length c1] w fun e w' => e = .returned (.tuple #[.slice none 0 0, .int .i64 (bothE p q)]) ∧ Below w.heap.size w w' := by
  have HM := Aside0.mk (both_walk A0 c0 p A1 c1 q w hr0 hr1 hw0 hw1)
  generalize bothE p q = b at HM hno ⊢
  have h1 : (b == 0) = false := beq_eq_false_iff_ne.mpr hno
  have h2 : (b != 0) = true := bne_iff_ne.mpr hno
  clear hno hr0 hr1 hw0
  go_enter Try.func31, Try.ntmps31
  go_wp2_with (go_at_call 56; refine HM.out.mono ?_; rintro e w1 ⟨rfl, hB⟩)
  go_ret2
  exact ⟨rfl, hB⟩

set_option maxRecDepth 100000 in
set_option maxHeartbeats 2000000 in
theorem join_yes (A0 : Option Addr) (c0 : Nat) (p : List Int) (A1 : Option Addr) (c1 : Nat) (q : List Int) (w : World) (hr0 : Kd.C (Kd.int .i64) w A0 p.length p) (hr1 : Kd.C (Kd.int .i64) w A1 q.length q) (hp : rightP p) (hq : rightP q) (hl : p.length = q.length) :
    Calls Try.prog 31 #[.slice A0 p.length c0, .slice A1 q.length c1] w fun e w' => ∃ v l, e = .returned (.tuple #[v, .int .i64 0]) ∧ IsJoin p q l ∧ Kd.R (Kd.int .i64) 3 w' w.heap.size (fun _ => True) v l ∧ Below w.heap.size w w' := by
  have h0 := both_walk A0 c0 p A1 c1 q w hr0 hr1 hp.small.wf hq.small.wf
  rw [show bothE p q = 0 by simp [bothE, hp, hq, hl]] at h0
  have HM := Aside0.mk h0
  have HR0 := Aside0.mk hr0
  have HR1 := Aside0.mk hr1
  have HP := Aside0.mk hp
  have HQ := Aside0.mk hq
  have HL := Aside0.mk hl
  have hn1 : p.length ≤ 1024 := hp.1
  clear h0 hr0 hr1 hp hq hl
  have hmk := print_make_of 22 3 (.int .i64 0) 8 Try.underlying22 info3 rfl (by decide) p.length (by omega)
  have hmm := @run_makeMap Try.prog
  go_enter Try.func31, Try.ntmps31
  go_wp2_with (first
    | (go_at_call 56; refine HM.out.mono ?_; rintro e w1 ⟨rfl, hB⟩; have HB1 := Aside0.mk hB; clear hB))
  go_loopw [29] (fun i wr => ∃ k : Nat, i = .int .i64 k ∧ Aside0 (k ≤ p.length ∧ ToInv w wr w1.heap.size p.length (filled (ids p.length) k 0))) (fun i _ => p.length - (intOf i).toNat)
  case atStart => exact ⟨0, rfl, ⟨Nat.zero_le _, by rw [filled_zero, ids_length]; exact ToInv.made w w1 p.length HB1.out (by omega)⟩⟩
  case round =>
    obtain ⟨k, rfl, HI⟩ := hrel
    have hkl := HI.out.1
    by_cases hk : k < p.length
    · have hc := HI.out.2.cell
      obtain ⟨hx, hf⟩ := HI.out.2.at_ k hk
      have HS := Aside0.mk (show ToInv w (wr.setCell ⟨w1.heap.size, k, none⟩ (.int .i64 (k : Int))) w1.heap.size p.length (filled (ids p.length) (k + 1) 0) by
        have h := HI.out.2.store k (k : Int)
        have h2 := filled_set (ids p.length) k 0 (by rw [ids_length]; exact hk)
        rw [ids_get _ _ hk] at h2
        rwa [h2] at h)
      go_wp2
      go_roundw
      case rel => exact ⟨k + 1, by go_num, by omega, HS.out⟩
      case measure => simp [intOf]; omega
    · have hk' : k = p.length := by omega
      have HT := Aside0.mk (show ToInv w wr w1.heap.size p.length (ids p.length) by
        have h := HI.out.2
        rw [hk'] at h
        have h2 := filled_end (ids p.length) (0 : Int)
        rw [ids_length] at h2
        rwa [h2] at h)
      clear hk'
      go_wp2
      obtain ⟨mb, hmb⟩ : ∃ mb, mb = wr.heap.size := ⟨_, rfl⟩
      have HI5 := Aside0.mk (show ToInv w (wr.alloc (.map #[] 0)) w1.heap.size p.length (ids p.length) ∧ FnMap Try.prog 3 3 mb (wr.alloc (.map #[] 0)) 0 (fun _ => none) ∧ w1.heap.size + 1 < mb from
        ⟨HT.out.lift (below_alloc (Below.refl _ _) _), by rw [hmb]; exact FnMap.made Try.prog 3 3 wr, by rw [hmb]; exact HT.out.lt⟩)
      rw [← hmb]
      clear hmb HI HT
      generalize wr.alloc (.map #[] 0) = w5 at HI5 ⊢
      go_loopw [41] (fun i wr => ∃ (k : Nat) (t : List Int) (g : Int → Option Int), i = .int .i64 k ∧ Aside0 (k ≤ p.length ∧ Forest p q k t ∧ ToInv w wr w1.heap.size p.length t ∧ FnMap Try.prog 3 3 mb wr k g ∧ Told p q k g)) (fun i _ => q.length - (intOf i).toNat)
      case atStart => exact ⟨0, _, _, rfl, Nat.zero_le _, Forest.start q HP.out, HI5.out.1, HI5.out.2.1, Told.start p q⟩
      case round =>
        obtain ⟨k, t, g, rfl, HI⟩ := hrel
        have hkl := HI.out.1
        have hql := HL.out
        by_cases hk : k < q.length
        · have hkp : k < p.length := by omega
          have HL2 := Aside0.mk hql
          clear hql
          obtain ⟨adp, ep, hxp⟩ := ints_at (Kd.C_below HR0.out HI.out.2.2.1.below) k hkp
          obtain ⟨adq, eq, hxq⟩ := ints_at (Kd.C_below HR1.out HI.out.2.2.1.below) k hk
          subst ep eq
          have hkey := keyOf_int_mk Try.underlying3 (HQ.out.small.wf _ (List.getElem_mem hk))
          have hmbt := HI5.out.2.2
          cases hg : g q[k] with
          | none =>
            have hlook := HI.out.2.2.2.1.look_out law_int Try.underlying81 Try.underlying3 zero3 hkey hg
            obtain ⟨w6, hput, hmap, hgr⟩ := HI.out.2.2.2.1.put law_int Try.underlying81 Try.underlying3 hkey (by omega) (HP.out.small.wf _ (List.getElem_mem hkp))
            have HJ := Aside0.mk (show Forest p q (k + 1) t ∧ ToInv w w6 w1.heap.size p.length t ∧ FnMap Try.prog 3 3 mb w6 (k + 1) (fun y => if y = q[k] then some p[k] else g y) ∧ Told p q (k + 1) (fun y => if y = q[k] then some p[k] else g y) from
              ⟨HI.out.2.1.new (fun i hi => by rw [at_get hk]; exact HI.out.2.2.2.2.1 _ hg i hi), HI.out.2.2.1.grown hgr (by simp; omega) (by simp; omega) (by rintro k' h; injection h with h; have := HB1.out.size; omega), hmap, HI.out.2.2.2.2.new hkp hk⟩)
            clear hmap hgr hkey hg
            go_wp2
            go_roundw
            case rel => exact ⟨k + 1, t, _, by go_num, by omega, HJ.out.1, HJ.out.2.1, HJ.out.2.2.1, HJ.out.2.2.2⟩
            case measure => simp [intOf]; omega
          | some v =>
            have hlook := HI.out.2.2.2.1.look_in law_int Try.underlying81 Try.underlying3 zero3 hkey hg
            obtain ⟨f, hf, hqf, hpf⟩ := HI.out.2.2.2.2.2 _ _ hg
            have hbk := at_bounds HP.out hkp
            have hbf := at_bounds HP.out (show f < p.length by omega)
            obtain ⟨b1, hb1⟩ : ∃ b : Nat, at_ p k = b := ⟨(at_ p k).toNat, by omega⟩
            obtain ⟨b2, hb2⟩ : ∃ b : Nat, at_ p f = b := ⟨(at_ p f).toNat, by omega⟩
            obtain rfl : v = (b2 : Int) := by rw [← hb2, hpf]
            rw [← at_get hkp, hb1] at hxp
            obtain ⟨a, ha⟩ := HI.out.2.1.root b1 (by omega)
            obtain ⟨c, hc⟩ := HI.out.2.1.root b2 (by omega)
            have hal : a < p.length := by obtain ⟨m, h⟩ := ha; rw [← HI.out.2.1.len]; exact h.lt.2.1
            have HJ := Aside0.mk (show Forest p q (k + 1) (t.set a c) ∧ ToInv w (wr.setCell ⟨w1.heap.size, a, none⟩ (.int .i64 (c : Int))).drew w1.heap.size p.length (t.set a c) ∧ FnMap Try.prog 3 3 mb (wr.setCell ⟨w1.heap.size, a, none⟩ (.int .i64 (c : Int))).drew (k + 1) g ∧ Told p q (k + 1) g from
              ⟨HI.out.2.1.link HP.out hkp hf (by rw [hqf, at_get hk]) (by rw [hb1]; exact ha) (by rw [hb2]; exact hc), (HI.out.2.2.1.store a c).lift (below_drew (Below.refl _ _)), ((HI.out.2.2.2.1.setCell (by simp; omega) _).below (below_drew (Below.refl _ _))).more, HI.out.2.2.2.2.old hk hg⟩)
            have C1 := (HI.out.2.2.1.lift (below_drew (Below.refl _ _))).root ha
            have C2 := (HI.out.2.2.1.lift (below_drew (Below.refl _ _))).root hc
            have hcell := HI.out.2.2.1.cell
            obtain ⟨hx9, hf9⟩ := HI.out.2.2.1.at_ a hal
            clear hkey hg hqf hpf hbk hbf hb1 hb2 ha hc
            go_wp2
            go_still_tail 11, (by kernel_rfl)
            still_call C1
            repeat still_step
            still_call C2
            repeat still_step
            refine wpStill_nil ?_
            change wpList _ _ _ _ _ wr.drew
            go_wp2
            go_roundw
            case rel => exact ⟨k + 1, _, g, by go_num, by omega, HJ.out.1, HJ.out.2.1, HJ.out.2.2.1, HJ.out.2.2.2⟩
            case measure => simp [intOf]; omega
        · have hk' : k = p.length := by omega
          have HJ := Aside0.mk (show Forest p q p.length t ∧ ToInv w wr w1.heap.size p.length t by
            have h := HI.out.2.1
            rw [hk'] at h
            exact ⟨h, HI.out.2.2.1⟩)
          have hmk2 := print_make_of 22 3 (.int .i64 0) 8 Try.underlying22 info3 rfl (by decide) p.length (by omega)
          clear hk' HI hql
          obtain ⟨rl, hrl, hroots⟩ := HJ.out.1.roots HP.out
          have HRL := Aside0.mk (And.intro hrl hroots)
          clear hrl hroots
          go_wp2
          obtain ⟨wo, hwo⟩ : ∃ wo : World, wo = wr := ⟨_, rfl⟩
          have hgo : w1.heap.size + 1 < wo.heap.size := by rw [hwo]; exact HJ.out.2.lt
          have hgb : w.heap.size ≤ wo.heap.size := by rw [hwo]; exact HJ.out.2.below.size
          rw [← hwo] at HJ ⊢
          clear hwo
          go_loopw [77] (fun i wr => ∃ k : Nat, i = .int .i64 k ∧ Aside0 (k ≤ p.length ∧ ToInv w wr w1.heap.size p.length t ∧ wr.ownsRow w.heap.size 3 1 (.slice (some ⟨wo.heap.size, 0, none⟩) p.length p.length) p.length (encs (Value.int .i64) (filled rl k 0)))) (fun i _ => p.length - (intOf i).toNat)
          case atStart => exact ⟨0, rfl, Nat.zero_le _, HJ.out.2.lift (below_alloc (Below.refl _ _) _), by rw [filled_zero, HRL.out.1]; exact own_made_of (enc := Value.int .i64) (d := (0 : Int)) wo w.heap.size 3 p.length hgb (by omega)⟩
          case round =>
            obtain ⟨k, rfl, HI⟩ := hrel
            have hkl := HI.out.1
            by_cases hk : k < p.length
            · obtain ⟨adp, ep, hxp⟩ := ints_at (Kd.C_below HR0.out HI.out.2.1.below) k hk
              subst ep
              obtain ⟨r, hr, har⟩ := HRL.out.2 k hk
              have hbk := at_bounds HP.out hk
              obtain ⟨b1, hb1⟩ : ∃ b : Nat, at_ p k = b := ⟨(at_ p k).toNat, by omega⟩
              rw [← at_get hk, hb1] at hxp
              rw [hb1] at hr
              have HC := Aside0.mk (HI.out.2.1.root hr)
              have hcc := own_at_of (d := (0 : Int)) HI.out.2.2 (k : Int) (by omega) (by omega)
              rw [Int.toNat_natCast] at hcc
              obtain ⟨hc9, hf9⟩ := hcc
              have hst := HI.out.2.2.stored k (.int .i64 (r : Int))
              have HS := Aside0.mk (show ToInv w (wr.setCell ⟨wo.heap.size, k, none⟩ (.int .i64 (r : Int))) w1.heap.size p.length t ∧ (wr.setCell ⟨wo.heap.size, k, none⟩ (.int .i64 (r : Int))).ownsRow w.heap.size 3 1 (.slice (some ⟨wo.heap.size, 0, none⟩) p.length p.length) p.length (encs (Value.int .i64) (filled rl (k + 1) 0)) from by
                refine ⟨HI.out.2.1.grown hst.2 (by simp; omega) (by simp; omega) (by intro k' h; injection h with h; omega), ?_⟩
                have h2 := hst.1
                have h3 := filled_set rl k 0 (by rw [HRL.out.1]; exact hk)
                have h4 : rl[k]'(by rw [HRL.out.1]; exact hk) = (r : Int) := by rw [← at_get (by rw [HRL.out.1]; exact hk)]; exact har
                rw [h4] at h3
                rw [← h3]
                rwa [show encs (Value.int .i64) ((filled rl k 0).set k (r : Int)) = (encs (Value.int .i64) (filled rl k 0)).set k (.int .i64 (r : Int)) by simp [encs, List.map_set]])
              clear hst har hb1 hbk hr
              go_wp2_with (go_at_call 58; refine HC.out.mono ?_; rintro e w9 ⟨rfl, rfl⟩)
              go_roundw
              case rel => exact ⟨k + 1, by go_num, by omega, HS.out.1, HS.out.2⟩
              case measure => simp [intOf]; omega
            · have hk' : k = p.length := by omega
              have h2 := HI.out.2.2
              rw [hk', ← HRL.out.1, filled_end] at h2
              have HRR := Kd.R_of_own (e := 3) (base := w.heap.size) (h1 := fun _ => rfl) (enc := Value.int .i64) (ok := fun _ => True) h2 (fun _ _ => trivial)
              obtain ⟨-, -, hC⟩ := R_len HRR
              have hjoin := HJ.out.1.isJoin HP.out rl HRL.out.1 HRL.out.2
              have hwf : ∀ x ∈ rl, (Lit.int .i64 x).wf = true := by
                intro x hx
                obtain ⟨i, hi, rfl⟩ := List.mem_iff_getElem.1 hx
                obtain ⟨r, ⟨m, hr⟩, har⟩ := HRL.out.2 i (by rw [← HRL.out.1]; exact hi)
                rw [at_get hi] at har
                have := hr.lt.2.1
                rw [HJ.out.1.len] at this
                exact WalkArith.wf_i64 (by omega)
              have HN := Aside0.mk (numbered_int_walk _ rl.length rl wr hC (by rw [HRL.out.1]; omega) hwf)
              rw [HRL.out.1] at HN
              have HJN := Aside0.mk hjoin
              clear h2 HRR hC hwf hjoin hk'
              go_wp2_with (go_at_call 41; refine HN.out.mono ?_; rintro e w9 ⟨v, rfl, hR9, hB9⟩; have HD := Aside0.mk (And.intro (Kd.R_lower hR9 HI.out.2.1.below.size) (HI.out.2.1.below.trans (hB9.mono HI.out.2.1.below.size))); clear hR9 hB9)
              go_ret2
              exact ⟨_, _, rfl, HJN.out, HD.out.1, HD.out.2⟩
end Go.Proofs.Ytboofecfmhbacaa
