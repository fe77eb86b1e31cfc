/- Texts packed into one: Num, Map, G1, Agg, G2, G3, G4, Acc, G5, Blk, G6, G7, G8, G9, G10, Part, G11, G12, Map2, Tree, G13, G14, G15. -/
import Derived.Maps.OwnSet
import Derived.Maps.OwnOps
import Derived.WalkKit
import Derived.Test.YtboofecfmhbacaaProg
import Derived.Below
import Derived.Deep.Draws
import Derived.Deep.AppendLies
import Derived.Maps.AppendAt
import Derived.OwnWalk
import Derived.Laws.BytesArg
import Derived.Laws.MakeOwn
import Derived.Laws.OwnMore
import Derived.Deep.OwnRows
import Derived.Tactics
import Derived.Lib.ConvBytes
import Derived.Laws.Slices
import Derived.KernelRfl
import Derived.RowKit3
import Derived.Deep.LoopGhost
import Derived.Deep.QuietTactic
import Derived.BigQuiet
import Derived.WideLaws
import Derived.Deep.DeepCutAuto
import Derived.Deep.CutBlock
import Derived.Deep.RegionHeld3
import Derived.Laws.Rows
import Derived.Lib.AppendStr
import Derived.ArgAppend
import Derived.Laws.IdiomCopy
import Derived.OrdersHeld
import Derived.Laws.BitsLemmas
import Derived.RowKit
import Derived.Test.YtboofecfmhbacaaWWords
import Derived.Test.YtboofecfmhbacaaWLast
import Derived.Test.YtboofecfmhbacaaWMore
import Derived.Outline
import Derived.Deep.WholeRow
import Derived.DeepKeys4
import Derived.Lib.LazyBuf
import Derived.Shelf.Abstract
import Derived.Laws.EntriesVeiled
import Derived.StillTailTactics
import Derived.BigRegion
import Derived.ChangeAlike
/- Plain lists: keys are numbered in the order of their first places; no program in sight. -/
namespace Go.Proofs.Ytboofecfmhbacaa.Num
variable {α : Type} [DecidableEq α]

/-- The different keys, in the order in which they come, behind those of m. -/
def firstsFrom : List α → List α → List α
  | m, [] => m
  | m, k :: r => firstsFrom (if k ∈ m then m else m ++ [k]) r
def firsts (l : List α) : List α := firstsFrom [] l
/-- A key's place among others. -/
def spot (m : List α) (x : α) : Int := (m.idxOf x : Int)
/-- The number of each key: its place among the different ones. -/
def num (l : List α) : List Int := l.map fun k => spot (firsts l) k

theorem firstsFrom_append (m a b : List α) : firstsFrom m (a ++ b) = firstsFrom (firstsFrom m a) b := by
  induction a generalizing m with
  | nil => rfl
  | cons k r ih => exact ih _
theorem firsts_snoc (a : List α) (k : α) : firsts (a ++ [k]) = if k ∈ firsts a then firsts a else firsts a ++ [k] := by
  unfold firsts
  rw [firstsFrom_append]
  rfl
theorem prefix_from (m l : List α) : m <+: firstsFrom m l := by
  induction l generalizing m with
  | nil => exact List.prefix_refl _
  | cons k r ih =>
    refine List.IsPrefix.trans ?_ (ih _)
    split
    · exact List.prefix_refl _
    · exact List.prefix_append _ _
theorem mem_from (m l : List α) (x : α) : x ∈ firstsFrom m l ↔ x ∈ m ∨ x ∈ l := by
  induction l generalizing m with
  | nil => simp [firstsFrom]
  | cons k r ih =>
    rw [firstsFrom, ih]
    split
    · rename_i h
      constructor
      · rintro (h1 | h1)
        · exact .inl h1
        · exact .inr (List.mem_cons_of_mem _ h1)
      · rintro (h1 | h1)
        · exact .inl h1
        · rcases List.mem_cons.1 h1 with rfl | h1
          · exact .inl h
          · exact .inr h1
    · simp [or_assoc]
theorem mem_firsts (l : List α) (x : α) : x ∈ firsts l ↔ x ∈ l := by rw [firsts, mem_from]; simp
theorem nodup_from (m l : List α) (h : m.Nodup) : (firstsFrom m l).Nodup := by
  induction l generalizing m with
  | nil => exact h
  | cons k r ih =>
    refine ih _ ?_
    split
    · exact h
    · rename_i hk
      rw [List.nodup_append]
      exact ⟨h, by simp, by intro a ha b hb; simp at hb; subst hb; rintro rfl; exact hk ha⟩
theorem nodup_firsts (l : List α) : (firsts l).Nodup := nodup_from _ _ List.nodup_nil
theorem length_from_le (m l : List α) : (firstsFrom m l).length ≤ m.length + l.length := by
  induction l generalizing m with
  | nil => simp [firstsFrom]
  | cons k r ih =>
    refine Nat.le_trans (ih _) ?_
    split <;> simp <;> omega
theorem length_firsts_le (l : List α) : (firsts l).length ≤ l.length := by
  have := length_from_le [] l
  simpa [firsts] using this
theorem take_prefix (l : List α) (i : Nat) : firsts (l.take i) <+: firsts l := by
  have h : firsts l = firstsFrom (firsts (l.take i)) (l.drop i) := by
    unfold firsts
    rw [← firstsFrom_append, List.take_append_drop]
  rw [h]
  exact prefix_from _ _
theorem idxOf_prefix {a b : List α} (h : a <+: b) {x : α} (hx : x ∈ a) : b.idxOf x = a.idxOf x := by
  obtain ⟨r, rfl⟩ := h
  rw [List.idxOf_append, if_pos hx]
theorem idxOf_take (l : List α) (i : Nat) {x : α} (hx : x ∈ l.take i) : (firsts l).idxOf x = (firsts (l.take i)).idxOf x :=
  idxOf_prefix (take_prefix l i) ((mem_firsts _ _).2 hx)
omit [DecidableEq α] in
theorem take_succ (l : List α) (i : Nat) (h : i < l.length) : l.take (i + 1) = l.take i ++ [l[i]] := List.take_succ_eq_append_getElem h
theorem firsts_succ (l : List α) (i : Nat) (h : i < l.length) : firsts (l.take (i + 1)) = if l[i] ∈ firsts (l.take i) then firsts (l.take i) else firsts (l.take i) ++ [l[i]] := by
  rw [take_succ l i h, firsts_snoc]
theorem num_length (l : List α) : (num l).length = l.length := by simp [num]
theorem num_get (l : List α) (i : Nat) (h : i < l.length) : (num l)[i]'(by rw [num_length]; exact h) = spot (firsts l) l[i] := by simp [num]
/-- A key that has been met. -/
theorem num_old (l : List α) (i : Nat) (h : i < l.length) (hm : l[i] ∈ firsts (l.take i)) : spot (firsts l) l[i] = spot (firsts (l.take i)) l[i] := by
  unfold spot
  rw [idxOf_prefix (take_prefix l i) hm]
/-- A new key. -/
theorem num_new (l : List α) (i : Nat) (h : i < l.length) (hm : l[i] ∉ firsts (l.take i)) : spot (firsts l) l[i] = ((firsts (l.take i)).length : Int) := by
  unfold spot
  have h1 : l[i] ∈ firsts (l.take (i + 1)) := by rw [firsts_succ l i h, if_neg hm]; simp
  rw [idxOf_prefix (take_prefix l (i + 1)) h1, firsts_succ l i h, if_neg hm, List.idxOf_append, if_neg hm]
  simp
/-- What stands in the row after i rounds. -/
def part (l : List α) (i : Nat) : List Int := (num l).take i ++ List.replicate (l.length - i) 0
theorem part_zero (l : List α) : part l 0 = List.replicate l.length 0 := by simp [part]
theorem part_end (l : List α) : part l l.length = num l := by
  simp [part, List.take_of_length_le (Nat.le_of_eq (num_length l))]
theorem part_length (l : List α) (i : Nat) (h : i ≤ l.length) : (part l i).length = l.length := by
  simp [part, num_length]; omega
theorem part_succ (l : List α) (i : Nat) (h : i < l.length) : (part l i).set i (spot (firsts l) l[i]) = part l (i + 1) := by
  have hl : ((num l).take i).length = i := by simp [num_length]; omega
  unfold part
  rw [List.set_append_right _ _ (by omega), hl, Nat.sub_self]
  obtain ⟨m, hm⟩ : ∃ m, l.length - i = m + 1 := ⟨l.length - i - 1, by omega⟩
  rw [hm, List.replicate_succ, List.set_cons_zero, show l.length - (i + 1) = m by omega]
  rw [List.take_succ_eq_append_getElem (by rw [num_length]; exact h), num_get l i h]
  simp
end Go.Proofs.Ytboofecfmhbacaa.Num

/- A map of the call's own that numbers keys in the order in which they came, as the walk needs it: what a look-up gives, and what a store of the next number leaves. -/
namespace Go.Proofs.Ytboofecfmhbacaa
open Go.RowKit Go.WideMaps Go.Maps

/-- Block b is a map from the keys m (as 'enc' writes them) to their places in m. -/
def MapAs {α : Type} [DecidableEq α] (P : Program) (kt et : TypeId) (enc : α → Value) (b : Nat) (w : World) (m : List α) : Prop :=
  ∃ (D : DataW Unit) (n : Nat), n ≤ m.length ∧ w.ownsMap P kt (plainElem P et) b n D ∧
    ∀ x l, keyOf P kt (enc x) = some l → Maps.has D l = decide (x ∈ m) ∧ (x ∈ m → D.atKey l (.lit (.int .i64 0)) = .lit (.int .i64 (Num.spot m x)))

section
variable {α : Type} [DecidableEq α] {P : Program} {kt et : TypeId} {enc : α → Value} {b : Nat} {w : World} {m : List α}
theorem MapAs.made (P : Program) (kt et : TypeId) (enc : α → Value) (w : World) : MapAs P kt et enc w.heap.size (w.alloc (.map #[] 0)) [] :=
  ⟨.map [], 0, Nat.le_refl _, World.ownsMap_made w P kt _, fun x l _ => ⟨by simp [Maps.has], fun h => by cases h⟩⟩
theorem MapAs.lt (h : MapAs P kt et enc b w m) : b < w.heap.size := by
  obtain ⟨D, n, _, h1, _⟩ := h
  exact h1.lt
theorem MapAs.kept {w' : World} {row : Option Nat} (h : MapAs P kt et enc b w m) (hg : w.grownBy w' row) (hne : some b ≠ row) : MapAs P kt et enc b w' m := by
  obtain ⟨D, n, h0, h1, h2⟩ := h
  exact ⟨D, n, h0, h1.kept hg hne, h2⟩
theorem MapAs.setCell (h : MapAs P kt et enc b w m) {a : Addr} (ha : b ≠ a.block) (u : Value) : MapAs P kt et enc b (w.setCell a u) m := by
  obtain ⟨D, n, h0, h1, h2⟩ := h
  exact ⟨D, n, h0, h1.setCell ha u, h2⟩
theorem MapAs.look_in {t : TypeId} (h : MapAs P kt et enc b w m) (K : Keyed P kt) (ht : P.underlying t = some (.map kt et)) (he : P.underlying et = some (.int .i64)) (hz : ∀ w : World, (zeroValue et).run P w = .ok (.int .i64 0) w)
    {x : α} {l : Lit} (hk : keyOf P kt (enc x) = some l) (hm : x ∈ m) :
    (Instr.lookup t (.map (some b)) (enc x) true).run P w = .ok (.tuple #[.int .i64 (Num.spot m x), .bool true]) w := by
  obtain ⟨D, n, h0, h1, h2⟩ := h
  obtain ⟨v, ps, hrun, hv⟩ := h1.look_ok K ht (hz w) (plainElem_int he (by decide)) hk
  obtain ⟨hh, hat⟩ := h2 x l hk
  obtain ⟨c, rfl, hc, hwc⟩ := plainElem_int_inv he hv
  simp only [Prod.mk.injEq] at hc
  rw [hat hm] at hc
  rw [hrun, hh, decide_eq_true hm]
  have : c = Num.spot m x := by simpa using hc.1.symm
  rw [this]
theorem MapAs.look_out {t : TypeId} (h : MapAs P kt et enc b w m) (K : Keyed P kt) (ht : P.underlying t = some (.map kt et)) (he : P.underlying et = some (.int .i64)) (hz : ∀ w : World, (zeroValue et).run P w = .ok (.int .i64 0) w)
    {x : α} {l : Lit} (hk : keyOf P kt (enc x) = some l) (hm : x ∉ m) :
    (Instr.lookup t (.map (some b)) (enc x) true).run P w = .ok (.tuple #[.int .i64 0, .bool false]) w := by
  obtain ⟨D, n, h0, h1, h2⟩ := h
  obtain ⟨v, ps, hrun, hv⟩ := h1.look_ok K ht (hz w) (plainElem_int he (by decide)) hk
  obtain ⟨hh, hat⟩ := h2 x l hk
  obtain ⟨c, rfl, hc, hwc⟩ := plainElem_int_inv he hv
  simp only [Prod.mk.injEq] at hc
  rw [Maps.atKey_of_not_has (by rw [hh]; simp [hm])] at hc
  rw [hrun, hh, decide_eq_false hm]
  have : c = 0 := by simpa using hc.1.symm
  rw [this]
theorem MapAs.put {t : TypeId} (h : MapAs P kt et enc b w m) (K : Keyed P kt) (hinj : ∀ x y : α, enc x = enc y → x = y) (ht : P.underlying t = some (.map kt et)) (he : P.underlying et = some (.int .i64))
    {x : α} {l : Lit} (hk : keyOf P kt (enc x) = some l) (hx : x ∉ m) (hn : m.length < 1099511627776) {v : Value} (hv : v = .int .i64 (m.length : Int)) :
    ∃ w', (Instr.mapUpdate t (.map (some b)) (enc x) v).run P w = .ok () w' ∧ MapAs P kt et enc b w' (m ++ [x]) ∧ w.grownBy w' (some b) := by
  subst hv
  obtain ⟨D, n, h0, h1, h2⟩ := h
  have hw : (Lit.int .i64 (m.length : Int)).wf = true := WalkArith.wf_i64 (by omega)
  obtain ⟨w', hrun, hown, hturn⟩ := h1.store K ht (by unfold maxLen; omega) hk (plainElem_int he hw)
  refine ⟨w', hrun, ⟨_, n + 1, by simp; omega, hown, fun y ly hy => ?_⟩, hturn.grown⟩
  by_cases e : y = x
  · subst e
    obtain rfl : ly = l := by rw [hk] at hy; exact (Option.some.inj hy).symm
    exact ⟨by rw [Maps.has_put_same h1.isMap (K.key hk)]; simp, fun _ => by rw [Maps.atKey_put_same h1.isMap (K.key hk), Num.spot, List.idxOf_append, if_neg hx]; simp⟩
  · have hne : ly ≠ l := fun e2 => e (hinj _ _ (K.inj hy (e2 ▸ hk)))
    obtain ⟨hh, hat⟩ := h2 y ly hy
    refine ⟨by rw [Maps.has_put_other hne, hh]; simp [e], fun hm => ?_⟩
    have hm' : y ∈ m := by
      rcases List.mem_append.1 hm with hm | hm
      · exact hm
      · exact absurd (List.mem_singleton.1 hm) e
    rw [Maps.atKey_put_other hne, hat hm', Num.spot, Num.spot, List.idxOf_append, if_pos hm']
end
end Go.Proofs.Ytboofecfmhbacaa

/- The walk of numbered, for integers. -/
namespace Go.Proofs.Ytboofecfmhbacaa
open Go.RowKit Go.WideMaps Go.Maps Go.Proofs.YtboofecfmhbacaaW.PrintWords Go.Proofs.YtboofecfmhbacaaW.PrintLast Go.Proofs.YtboofecfmhbacaaW.PrintMore
set_option linter.unusedVariables false
set_option linter.unusedSimpArgs false

theorem zero3 (w : World) : (zeroValue 3).run Try.prog w = .ok (.int .i64 0) w := by kernel_rfl
theorem info3 : (Try.prog.info? 3).map (fun i => (i.zero, i.size, i.bytes)) = some (some (.int .i64 0), 1, 8) := by kernel_rfl

/-- What holds at the head of a round of 'numbered': k rounds are over. -/
structure NumInv {α : Type} [DecidableEq α] (kt : TypeId) (enc : α → Value) (l : List α) (w wr : World) (k : Nat) : Prop where
  le : k ≤ l.length
  map : MapAs Try.prog kt 3 enc w.heap.size wr (Num.firsts (l.take k))
  row : wr.ownsRow w.heap.size 3 1 (.slice (some ⟨w.heap.size + 1, 0, none⟩) l.length l.length) l.length (encs (Value.int .i64) (Num.part l k))
  below : Below w.heap.size w wr

section
variable {α : Type} [DecidableEq α] {kt : TypeId} {enc : α → Value} {l : List α} {w wr : World} {k : Nat}
theorem NumInv.start (kt : TypeId) (enc : α → Value) (l : List α) (w : World) (h : l.length ≤ 9223372036854775807) : NumInv kt enc l w ((w.alloc (.map #[] 0)).alloc (.cells (madeCells #[.int .i64 0] l.length) 3)) 0 where
  le := Nat.zero_le _
  map := (MapAs.made Try.prog kt 3 enc w).kept (World.grownBy_alloc _ _ none) (by simp)
  row := by
    have := own_made_of (enc := Value.int .i64) (d := (0 : Int)) (w.alloc (.map #[] 0)) w.heap.size 3 l.length (by simp) h
    simpa [Num.part_zero] using this
  below := ((Below.refl _ _).alloc (Nat.le_refl _) _).alloc (by simp) _
/-- The round of a key that has been met. -/
theorem NumInv.old (h : NumInv kt enc l w wr k) (hk : k < l.length) (hm : l[k] ∈ Num.firsts (l.take k)) {b : Int} (hb : b = Num.spot (Num.firsts (l.take k)) l[k]) :
    NumInv kt enc l w (wr.setCell ⟨w.heap.size + 1, k, none⟩ (.int .i64 b)) (k + 1) where
  le := hk
  map := by
    rw [Num.firsts_succ l k hk, if_pos hm]
    exact h.map.setCell (by simp) _
  row := by
    have h1 := (h.row.stored k (.int .i64 b)).1
    have e : (encs (Value.int .i64) (Num.part l k)).set k (.int .i64 b) = encs (Value.int .i64) (Num.part l (k + 1)) := by
      rw [← Num.part_succ l k hk, Num.num_old l k hk hm, hb]
      simp [encs, List.map_set]
    rwa [e] at h1
  below := h.below.setCell (by simp) _
theorem NumInv.alloc (h : NumInv kt enc l w wr k) (o : Obj) : NumInv kt enc l w (wr.alloc o) k where
  le := h.le
  map := h.map.kept (World.grownBy_alloc wr o none) (by simp)
  row := h.row.alloc o
  below := h.below.alloc h.below.size o
theorem NumInv.cell (h : NumInv kt enc l w wr k) (hk : k < l.length) : (∃ v, wr.cell? ⟨w.heap.size + 1, k, none⟩ = some v) ∧ wr.frozen? ⟨w.heap.size + 1, k, none⟩ = false := by
  have h1 := own_at_of (d := (0 : Int)) h.row (k : Int) (by omega) (by omega)
  simp only [Int.toNat_natCast] at h1
  exact ⟨⟨_, h1.1⟩, h1.2⟩
/-- Behind the store into the map: the round of a new key. -/
theorem NumInv.new {w1 : World} (h : NumInv kt enc l w wr k) (hk : k < l.length) (hm : l[k] ∉ Num.firsts (l.take k)) (hmap : MapAs Try.prog kt 3 enc w.heap.size w1 (Num.firsts (l.take k) ++ [l[k]])) (hg : wr.grownBy w1 (some w.heap.size)) {b : Int} (hb : b = ((Num.firsts (l.take k)).length : Int)) :
    NumInv kt enc l w (w1.setCell ⟨w.heap.size + 1, k, none⟩ (.int .i64 b)) (k + 1) ∧ (∃ v, w1.cell? ⟨w.heap.size + 1, k, none⟩ = some v) ∧ w1.frozen? ⟨w.heap.size + 1, k, none⟩ = false := by
  have hrow := h.row.kept hg (.inr (by simp [Value.ownBlock]))
  have hc := own_at_of (d := (0 : Int)) hrow (k : Int) (by omega) (by omega)
  simp only [Int.toNat_natCast] at hc
  refine ⟨⟨hk, ?_, ?_, ?_⟩, ⟨_, hc.1⟩, hc.2⟩
  · rw [Num.firsts_succ l k hk, if_neg hm]
    exact hmap.setCell (by simp) _
  · have h1 := (hrow.stored k (.int .i64 b)).1
    have e : (encs (Value.int .i64) (Num.part l k)).set k (.int .i64 b) = encs (Value.int .i64) (Num.part l (k + 1)) := by
      rw [← Num.part_succ l k hk, Num.num_new l k hk hm, hb]
      simp [encs, List.map_set]
    rwa [e] at h1
  · exact (h.below.grown hg h.below.size (by simp)).setCell (by simp) _
theorem NumInv.done (h : NumInv kt enc l w wr k) (hk : ¬ k < l.length) :
    Kd.R (Kd.int .i64) 3 wr w.heap.size (fun _ => True) (.slice (some ⟨w.heap.size + 1, 0, none⟩) l.length l.length) (Num.num l) ∧ Below w.heap.size w wr := by
  obtain rfl : k = l.length := Nat.le_antisymm h.le (by omega)
  have h1 := h.row
  rw [Num.part_end] at h1
  exact ⟨Kd.R_of_own (by rw [Num.num_length]; exact h1) (fun _ _ => trivial), h.below⟩
end

theorem law_int : Keyed Try.prog 3 := int_keyed Try.underlying3
theorem int_inj (x y : Int) (h : Value.int .i64 x = Value.int .i64 y) : x = y := by injection h

set_option maxRecDepth 100000 in
set_option maxHeartbeats 1000000 in
theorem numbered_int_walk (A0 : Option Addr) (c0 : Nat) (l : List Int) (w : World) (hr : Kd.C (Kd.int .i64) w A0 l.length l) (hlen : l.length < 1099511627776) (hwf : ∀ x ∈ l, (Lit.int .i64 x).wf = true) :
    Calls Try.prog 41 #[.slice A0 l.length c0] w fun e w' => ∃ v0_ : Value, e = .returned (v0_) ∧ Kd.R (Kd.int .i64) 3 w' w.heap.size (fun _ => True) v0_ (Num.num l) ∧ Below w.heap.size w w' := by
  have HR := Aside0.mk (Kd.reads_of_C (d := (0 : Int)) hr)
  clear hr
  have hmm := @run_makeMap Try.prog
  have hmk := print_make 22 3 .i64 8 Try.underlying22 info3 (by decide) l.length (by omega)
  have HW := Aside0.mk hwf
  clear hwf
  go_enter Try.func41, Try.ntmps41
  go_wp2
  go_loopw [5, 16] (fun n i wr => ∃ k : Nat, i = .int .i64 k ∧ n = .int .i64 (Num.firsts (l.take k)).length ∧ Aside0 (NumInv 3 (Value.int .i64) l w wr k)) (fun _ i _ => l.length - (intOf i).toNat)
  case atStart => exact ⟨0, rfl, rfl, ⟨NumInv.start 3 (Value.int .i64) l w (by omega)⟩⟩
  case round =>
    obtain ⟨k, rfl, rfl, HI⟩ := hrel
    have hkl := HI.out.le
    by_cases hk : k < l.length
    · obtain ⟨ad, e, hx⟩ := (HR.out.below HI.out.below).at_ (k : Int) (by omega) (by omega)
      subst e
      have hfl := Num.length_firsts_le (l.take k)
      have hfk : (Num.firsts (l.take k)).length ≤ k := Nat.le_trans hfl (by simp; omega)
      clear hfl
      have hkey := keyOf_int_mk Try.underlying3 (HW.out l[k] (List.getElem_mem hk))
      have hxe : rdOf 0 l (k : Int) = l[k] := by simp [rdOf, List.getD_eq_getElem?_getD, List.getElem?_eq_getElem hk]
      rw [Int.toNat_natCast, hxe] at hx
      clear hxe
      by_cases hm : l[k] ∈ Num.firsts (l.take k)
      · have hlook := HI.out.map.look_in law_int Try.underlying81 Try.underlying3 zero3 hkey hm
        have HN := Aside0.mk (HI.out.old hk hm rfl)
        obtain ⟨⟨v, hv⟩, hf⟩ := HI.out.cell hk
        have HM := Aside0.mk hm
        clear hm hkey
        generalize Num.spot (Num.firsts (l.take k)) l[k] = b at hlook HN
        generalize hx' : l[k] = x at hlook hx
        have HX := Aside0.mk hx'
        clear hx'
        go_wp2
        go_roundw
        case rel => exact ⟨k + 1, by go_num, by rw [Num.firsts_succ l k hk, if_pos HM.out], HN⟩
        case measure => simp [intOf]; omega
      · have hlook := HI.out.map.look_out law_int Try.underlying81 Try.underlying3 zero3 hkey hm
        obtain ⟨w1, hput, hmap, hg⟩ := HI.out.map.put law_int int_inj Try.underlying81 Try.underlying3 hkey hm (by omega) rfl
        obtain ⟨HN0, ⟨v, hv⟩, hf⟩ := HI.out.new hk hm hmap hg rfl
        have HN := Aside0.mk HN0
        have HM := Aside0.mk hm
        clear HN0 hmap hg hm hkey
        generalize hx' : l[k] = x at hlook hx hput
        have HX := Aside0.mk hx'
        clear hx'
        go_wp2
        go_roundw
        case rel => exact ⟨k + 1, by go_num, by rw [Num.firsts_succ l k hk, if_neg HM.out]; simp, HN⟩
        case measure => simp [intOf]; omega
    · have HD := Aside0.mk (HI.out.done hk)
      go_wp2
      go_ret
      exact ⟨_, rfl, HD.out.1, HD.out.2⟩
end Go.Proofs.Ytboofecfmhbacaa

/- Values of several cells (arrays, structs) as the walk meets them: a variable made, stored whole, loaded whole, an element of a slice loaded whole; the cells stay under one name. -/
namespace Go.Proofs.Ytboofecfmhbacaa
open Go.RowKit
section
variable {P : Program} {ops : Array Oper} {rest : List Oper} {o : Oper} {a : Act} {w : World} {Q : Exit → Act → World → Prop}

theorem wpList_alloc_agg (hgd : o.guard = none) (e : TypeId) (ho : o.op = .alloc e) (Z : Array Value) (hz : ∀ w : World, (zeroValue e).run P w = .ok (.agg Z) w)
    (h : wpList P ops Q rest (a.put o.dst (.pointer (some ⟨w.heap.size, 0, none⟩))) (w.alloc (.cells Z e))) : wpList P ops Q (o :: rest) a w := by
  refine wpList_plain hgd fun K hK => ?_
  unfold Oper.wp execOp
  simp only [ho, Instr.alloc, Sem.run_bind, hz, Result.andThen_ok]
  exact hK _ _ h
theorem wpList_box_agg (hgd : o.guard = none) (e : TypeId) (x : Operand) (ho : o.op = .box e x) (X : Array Value) (hx : a.eval x = .agg X)
    (h : wpList P ops Q rest (a.put o.dst (.pointer (some ⟨w.heap.size, 0, none⟩))) (w.alloc (.cells X e))) : wpList P ops Q (o :: rest) a w := by
  refine wpList_plain hgd fun K hK => ?_
  unfold Oper.wp execOp
  simp only [ho, hx, Instr.box]
  exact hK _ _ h
theorem wpList_store_new (hgd : o.guard = none) (t : TypeId) (x y : Operand) (ho : o.op = .store t x y) (W : World) (Z : Array Value) (hw : w = W.alloc (.cells Z t)) (hx : a.eval x = .pointer (some ⟨W.heap.size, 0, none⟩)) (X : Array Value) (hy : a.eval y = .agg X)
    (hi : (P.info? t).map (·.size) = some X.size) (hs : Z.size = X.size) (h1 : ∀ v ∈ X, v.oneCell' = true)
    (h : wpList P ops Q rest (a.put o.dst undef) (W.alloc (.cells X t))) : wpList P ops Q (o :: rest) a w := by
  subst hw
  refine wpList_plain hgd fun K hK => ?_
  unfold Oper.wp execOp
  simp only [ho, hx, hy, Sem.run_bind, run_storeAt_new W t Z X hi hs (Array.all_eq_true_iff_forall_mem.2 h1)]
  exact hK _ _ h
theorem wpList_load_at (hgd : o.guard = none) (t : TypeId) (x : Operand) (ho : o.op = .load t x) (ad : Addr) (hx : a.eval x = .pointer (some ad)) (X : Array Value) (d : TypeDesc)
    (hu : P.underlying t = some d) (hd : (match d with | .struct _ | .array _ _ => true | _ => false) = true) (hi : (P.info? t).map (·.size) = some X.size)
    (hc : ∀ j v, X.toList[j]? = some v → w.cell? (ad.add j) = some v)
    (h : wpList P ops Q rest (a.put o.dst (.agg X)) w) : wpList P ops Q (o :: rest) a w := by
  refine wpList_plain hgd fun K hK => ?_
  have hl := run_loadCells_list (P := P) w ad X.toList hc
  cases hq : P.info? t with
  | none => simp [hq] at hi
  | some i =>
    have hs : i.size = X.size := by simpa [hq] using hi
    have hagg : (isAgg t).run P w = .ok true w := by
      unfold isAgg
      rw [Sem.run_bind, run_underlying hu w]
      cases d <;> simp_all
    have hv : (loadVar t ad).run P w = .ok (.agg X) w := by
      simp only [Array.length_toList, Array.toArray_toList] at hl
      simp [loadVar, Sem.run_bind, hagg, sizeOf, typeInfo, hq, hs, hl]
    unfold Oper.wp execOp
    simp only [ho, hx, Instr.loadAt, Instr.sureAddr, Sem.run_bind, Sem.run_pure, Result.andThen_ok, hv]
    exact hK _ _ h
end
end Go.Proofs.Ytboofecfmhbacaa

/- The walk of numbered, for arrays of two integers. -/
namespace Go.Proofs.Ytboofecfmhbacaa
open Go.RowKit Go.WideMaps Go.Maps Go.Proofs.YtboofecfmhbacaaW.PrintWords Go.Proofs.YtboofecfmhbacaaW.PrintLast Go.Proofs.YtboofecfmhbacaaW.PrintMore
set_option linter.unusedVariables false
set_option linter.unusedSimpArgs false

/-- An array of n integers, as a value, its cells in a list. -/
def cellsOf (x : List Int) : Array Value := (x.map (Value.int .i64)).toArray
def encArr (x : List Int) : Value := .agg (cellsOf x)
theorem encArr_inj (x y : List Int) (h : encArr x = encArr y) : x = y := by
  have h1 : cellsOf x = cellsOf y := by injection h
  have h2 : x.map (Value.int .i64) = y.map (Value.int .i64) := by simpa [cellsOf] using h1
  exact (List.map_inj_right (fun a b h => by injection h)).1 h2
theorem cellsOf_size (x : List Int) : (cellsOf x).size = x.length := by simp [cellsOf]
theorem cellsOf_one (x : List Int) : ∀ v ∈ cellsOf x, v.oneCell' = true := by
  intro v hv
  simp only [cellsOf, List.mem_toArray, List.mem_map] at hv
  obtain ⟨q, _, rfl⟩ := hv
  rfl
/-- An array of n integers as a kind. -/
def Karr (n : Nat) : Kd (List Int) where
  sz := n
  E := []
  K := fun _ x cs => x.length = n ∧ cs = (cellsOf x).toList
  M := fun _ _ _ x cs => x.length = n ∧ cs = (cellsOf x).toList
  K_len := fun h => by rw [h.2]; simp [cellsOf, h.1]
  K_one := fun h u hu => cellsOf_one _ u (by rw [h.2] at hu; simpa using hu)
  K_below := fun _ h => h
  K_of_M := fun h => h
  M_mono := fun _ h => h
  M_bound := fun h => h
  M_move := fun _ h => h
  M_lower := fun _ h => h

theorem add_add (ad : Addr) (m j : Nat) : (ad.add m).add j = ad.add (m + j) := by
  unfold Addr.add
  by_cases h1 : m = 0 <;> by_cases h2 : j = 0 <;> simp [h1, h2, Nat.add_assoc]
theorem Karr_cells {n : Nat} {w : World} {ad : Addr} {k : Nat} {x : List Int} {cs : List Value} (hK : (Karr n).K w x cs) (hx : ∀ j u, cs[j]? = some u → w.cell? (ad.add (k * (Karr n).sz + j)) = some u) :
    x.length = n ∧ ∀ j v, (cellsOf x).toList[j]? = some v → w.cell? ((ad.add (k * n)).add j) = some v := by
  obtain ⟨hl, rfl⟩ := hK
  exact ⟨hl, fun j v hv => by rw [add_add]; exact hx j v hv⟩

theorem size78 : (Try.prog.info? 78).map (·.size) = some 2 := by kernel_rfl
theorem zero78 (w : World) : (zeroValue 78).run Try.prog w = .ok (.agg (cellsOf [0, 0])) w := by kernel_rfl
theorem keyed78 : Keyed Try.prog 78 := Keyed.of_law (deep_law_laid (m := 5) (by kernel_rfl) (by decide) (of_decide_eq_true (by kernel_rfl)) (by kernel_rfl) (by kernel_rfl))

set_option maxRecDepth 100000 in
set_option maxHeartbeats 1000000 in
theorem numbered_pair_walk (A0 : Option Addr) (c0 : Nat) (l : List (List Int)) (w : World) (hr : (Karr 2).C w A0 l.length l) (hlen : l.length < 1099511627776) (hk2 : ∀ x ∈ l, ∃ q, keyOf Try.prog 78 (encArr x) = some q) :
    Calls Try.prog 57 #[.slice A0 l.length c0] w fun e w' => ∃ v0_ : Value, e = .returned (v0_) ∧ Kd.R (Kd.int .i64) 3 w' w.heap.size (fun _ => True) v0_ (Num.num l) ∧ Below w.heap.size w w' := by
  have HR := Aside0.mk hr
  clear hr
  have hmm := @run_makeMap Try.prog
  have hmk := print_make 22 3 .i64 8 Try.underlying22 info3 (by decide) l.length (by omega)
  have HW := Aside0.mk hk2
  clear hk2
  go_enter Try.func57, Try.ntmps57
  go_wp2
  go_loopw [5, 16] (fun n i wr => ∃ k : Nat, i = .int .i64 k ∧ n = .int .i64 (Num.firsts (l.take k)).length ∧ Aside0 (NumInv 78 encArr l w wr k)) (fun _ i _ => l.length - (intOf i).toNat)
  case atStart => exact ⟨0, rfl, rfl, ⟨NumInv.start 78 encArr l w (by omega)⟩⟩
  case round =>
    obtain ⟨k, rfl, rfl, HI⟩ := hrel
    have hkl := HI.out.le
    by_cases hk : k < l.length
    · obtain ⟨ad, cs, e, hcl, hK, hx⟩ := Kd.C_get (Kd.C_below HR.out HI.out.below) [] (k : Int) (by omega) (by omega)
      subst e
      have hfl := Num.length_firsts_le (l.take k)
      have hfk : (Num.firsts (l.take k)).length ≤ k := Nat.le_trans hfl (by simp; omega)
      clear hfl
      obtain ⟨q, hkey⟩ := HW.out l[k] (List.getElem_mem hk)
      have hxe : l.getD k [] = l[k] := by simp [List.getD_eq_getElem?_getD, List.getElem?_eq_getElem hk]
      rw [Int.toNat_natCast] at hx hK
      rw [hxe] at hK
      clear hxe hcl
      have HX := Aside0.mk (Karr_cells hK hx)
      clear hK hx
      have HZ := Aside0.mk (HI.out.alloc (.cells (cellsOf l[k]) 78))
      have HS := Aside0.mk (show (Try.prog.info? 78).map (·.size) = some (cellsOf l[k]).size by rw [cellsOf_size, HX.out.1]; exact size78)
      have HS2 := Aside0.mk (show (cellsOf [0, 0]).size = (cellsOf l[k]).size by rw [cellsOf_size, cellsOf_size, HX.out.1]; rfl)
      by_cases hm : l[k] ∈ Num.firsts (l.take k)
      · have hlook := HZ.out.map.look_in keyed78 Try.underlying95 Try.underlying3 zero3 hkey hm
        rw [encArr] at hlook
        have HN := Aside0.mk (HZ.out.old hk hm rfl)
        obtain ⟨⟨v, hv⟩, hf⟩ := HZ.out.cell hk
        have HM := Aside0.mk hm
        clear hm hkey
        generalize Num.spot (Num.firsts (l.take k)) l[k] = b at hlook HN
        go_wp2_with (first
          | (with_reducible refine wpList_load_at rfl 78 (.tmp 19) rfl _ rfl (cellsOf l[k]) _ Try.underlying78 rfl HS.out HX.out.2 ?_)
          | (with_reducible refine wpList_alloc_agg rfl 78 rfl (cellsOf [0, 0]) zero78 ?_)
          | (with_reducible refine wpList_store_new rfl 78 (.tmp 7) (.tmp 20) rfl wr (cellsOf [0, 0]) rfl rfl (cellsOf l[k]) rfl HS.out HS2.out (cellsOf_one _) ?_)
          | (with_reducible refine wpList_load_row rfl 78 (.tmp 7) rfl wr.heap.size rfl 78 (cellsOf l[k]) (0, 0) _ (heap_alloc_last wr _) Try.underlying78 rfl HS.out ?_))
        go_roundw
        case rel => exact ⟨k + 1, by go_num, by rw [Num.firsts_succ l k hk, if_pos HM.out], HN⟩
        case measure => simp [intOf]; omega
      · have hlook := HZ.out.map.look_out keyed78 Try.underlying95 Try.underlying3 zero3 hkey hm
        obtain ⟨w1, hput, hmap, hg⟩ := HZ.out.map.put keyed78 encArr_inj Try.underlying95 Try.underlying3 hkey hm (by omega) rfl
        rw [encArr] at hlook hput
        obtain ⟨HN0, ⟨v, hv⟩, hf⟩ := HZ.out.new hk hm hmap hg rfl
        have HN := Aside0.mk HN0
        have HM := Aside0.mk hm
        clear HN0 hmap hg hm hkey
        go_wp2_with (first
          | (with_reducible refine wpList_load_at rfl 78 (.tmp 19) rfl _ rfl (cellsOf l[k]) _ Try.underlying78 rfl HS.out HX.out.2 ?_)
          | (with_reducible refine wpList_alloc_agg rfl 78 rfl (cellsOf [0, 0]) zero78 ?_)
          | (with_reducible refine wpList_store_new rfl 78 (.tmp 7) (.tmp 20) rfl wr (cellsOf [0, 0]) rfl rfl (cellsOf l[k]) rfl HS.out HS2.out (cellsOf_one _) ?_)
          | (with_reducible refine wpList_load_row rfl 78 (.tmp 7) rfl wr.heap.size rfl 78 (cellsOf l[k]) (0, 0) _ (heap_alloc_last wr _) Try.underlying78 rfl HS.out ?_))
        go_roundw
        case rel => exact ⟨k + 1, by go_num, by rw [Num.firsts_succ l k hk, if_neg HM.out]; simp, HN⟩
        case measure => simp [intOf]; omega
    · have HD := Aside0.mk (HI.out.done hk)
      go_wp2
      go_ret
      exact ⟨_, rfl, HD.out.1, HD.out.2⟩
end Go.Proofs.Ytboofecfmhbacaa

/- The walks of numbered, for strings and for words of 66 integers (printed by gen1.py out of the ones for integers and for pairs). -/
namespace Go.Proofs.Ytboofecfmhbacaa
open Go.RowKit Go.WideMaps Go.Maps Go.Proofs.YtboofecfmhbacaaW.PrintWords Go.Proofs.YtboofecfmhbacaaW.PrintLast Go.Proofs.YtboofecfmhbacaaW.PrintMore
set_option linter.unusedVariables false
set_option linter.unusedSimpArgs false
theorem law_string : Keyed Try.prog 9 := string_keyed Try.underlying9
theorem string_inj (x y : ByteArray) (h : Value.string x = Value.string y) : x = y := by injection h

set_option maxRecDepth 100000 in
set_option maxHeartbeats 1000000 in
theorem numbered_string_walk (A0 : Option Addr) (c0 : Nat) (l : List ByteArray) (w : World) (hr : Kd.C Kd.string w A0 l.length l) (hlen : l.length < 1099511627776) (hwf : ∀ x ∈ l, x.size ≤ maxLen) :
    Calls Try.prog 42 #[.slice A0 l.length c0] w fun e w' => ∃ v0_ : Value, e = .returned (v0_) ∧ Kd.R (Kd.int .i64) 3 w' w.heap.size (fun _ => True) v0_ (Num.num l) ∧ Below w.heap.size w w' := by
  have HR := Aside0.mk (Kd.reads_of_C (d := ByteArray.empty) hr)
  clear hr
  have hmm := @run_makeMap Try.prog
  have hmk := print_make 22 3 .i64 8 Try.underlying22 info3 (by decide) l.length (by omega)
  have HW := Aside0.mk hwf
  clear hwf
  go_enter Try.func42, Try.ntmps42
  go_wp2
  go_loopw [5, 16] (fun n i wr => ∃ k : Nat, i = .int .i64 k ∧ n = .int .i64 (Num.firsts (l.take k)).length ∧ Aside0 (NumInv 9 Value.string l w wr k)) (fun _ i _ => l.length - (intOf i).toNat)
  case atStart => exact ⟨0, rfl, rfl, ⟨NumInv.start 9 Value.string l w (by omega)⟩⟩
  case round =>
    obtain ⟨k, rfl, rfl, HI⟩ := hrel
    have hkl := HI.out.le
    by_cases hk : k < l.length
    · obtain ⟨ad, e, hx⟩ := (HR.out.below HI.out.below).at_ (k : Int) (by omega) (by omega)
      subst e
      have hfl := Num.length_firsts_le (l.take k)
      have hfk : (Num.firsts (l.take k)).length ≤ k := Nat.le_trans hfl (by simp; omega)
      clear hfl
      have hkey := keyOf_string_mk Try.underlying9 (HW.out l[k] (List.getElem_mem hk))
      have hxe : rdOf ByteArray.empty l (k : Int) = l[k] := by simp [rdOf, List.getD_eq_getElem?_getD, List.getElem?_eq_getElem hk]
      rw [Int.toNat_natCast, hxe] at hx
      clear hxe
      by_cases hm : l[k] ∈ Num.firsts (l.take k)
      · have hlook := HI.out.map.look_in law_string Try.underlying87 Try.underlying3 zero3 hkey hm
        have HN := Aside0.mk (HI.out.old hk hm rfl)
        obtain ⟨⟨v, hv⟩, hf⟩ := HI.out.cell hk
        have HM := Aside0.mk hm
        clear hm hkey
        generalize Num.spot (Num.firsts (l.take k)) l[k] = b at hlook HN
        generalize hx' : l[k] = x at hlook hx
        have HX := Aside0.mk hx'
        clear hx'
        go_wp2
        go_roundw
        case rel => exact ⟨k + 1, by go_num, by rw [Num.firsts_succ l k hk, if_pos HM.out], HN⟩
        case measure => simp [intOf]; omega
      · have hlook := HI.out.map.look_out law_string Try.underlying87 Try.underlying3 zero3 hkey hm
        obtain ⟨w1, hput, hmap, hg⟩ := HI.out.map.put law_string string_inj Try.underlying87 Try.underlying3 hkey hm (by omega) rfl
        obtain ⟨HN0, ⟨v, hv⟩, hf⟩ := HI.out.new hk hm hmap hg rfl
        have HN := Aside0.mk HN0
        have HM := Aside0.mk hm
        clear HN0 hmap hg hm hkey
        generalize hx' : l[k] = x at hlook hx hput
        have HX := Aside0.mk hx'
        clear hx'
        go_wp2
        go_roundw
        case rel => exact ⟨k + 1, by go_num, by rw [Num.firsts_succ l k hk, if_neg HM.out]; simp, HN⟩
        case measure => simp [intOf]; omega
    · have HD := Aside0.mk (HI.out.done hk)
      go_wp2
      go_ret
      exact ⟨_, rfl, HD.out.1, HD.out.2⟩

def zeros66 : List Int := List.replicate 66 0
theorem zeros66_length : zeros66.length = 66 := by rw [zeros66, List.length_replicate]
theorem size93 : (Try.prog.info? 93).map (·.size) = some 66 := by kernel_rfl
theorem zero93 (w : World) : (zeroValue 93).run Try.prog w = .ok (.agg (cellsOf zeros66)) w := by kernel_rfl
theorem keyed93 : Keyed Try.prog 93 := Keyed.of_law (deep_law_laid (m := 5) (by kernel_rfl) (by decide) (of_decide_eq_true (by kernel_rfl)) (by kernel_rfl) (by kernel_rfl))

set_option maxRecDepth 100000 in
set_option maxHeartbeats 1000000 in
theorem numbered_word_walk (A0 : Option Addr) (c0 : Nat) (l : List (List Int)) (w : World) (hr : (Karr 66).C w A0 l.length l) (hlen : l.length < 1099511627776) (hk2 : ∀ x ∈ l, ∃ q, keyOf Try.prog 93 (encArr x) = some q) :
    Calls Try.prog 71 #[.slice A0 l.length c0] w fun e w' => ∃ v0_ : Value, e = .returned (v0_) ∧ Kd.R (Kd.int .i64) 3 w' w.heap.size (fun _ => True) v0_ (Num.num l) ∧ Below w.heap.size w w' := by
  have HR := Aside0.mk hr
  clear hr
  have hmm := @run_makeMap Try.prog
  have hmk := print_make 22 3 .i64 8 Try.underlying22 info3 (by decide) l.length (by omega)
  have HW := Aside0.mk hk2
  clear hk2
  go_enter Try.func71, Try.ntmps71
  go_wp2
  go_loopw [5, 16] (fun n i wr => ∃ k : Nat, i = .int .i64 k ∧ n = .int .i64 (Num.firsts (l.take k)).length ∧ Aside0 (NumInv 93 encArr l w wr k)) (fun _ i _ => l.length - (intOf i).toNat)
  case atStart => exact ⟨0, rfl, rfl, ⟨NumInv.start 93 encArr l w (by omega)⟩⟩
  case round =>
    obtain ⟨k, rfl, rfl, HI⟩ := hrel
    have hkl := HI.out.le
    by_cases hk : k < l.length
    · obtain ⟨ad, cs, e, hcl, hK, hx⟩ := Kd.C_get (Kd.C_below HR.out HI.out.below) [] (k : Int) (by omega) (by omega)
      subst e
      have hfl := Num.length_firsts_le (l.take k)
      have hfk : (Num.firsts (l.take k)).length ≤ k := Nat.le_trans hfl (by simp; omega)
      clear hfl
      obtain ⟨q, hkey⟩ := HW.out l[k] (List.getElem_mem hk)
      have hxe : l.getD k [] = l[k] := by simp [List.getD_eq_getElem?_getD, List.getElem?_eq_getElem hk]
      rw [Int.toNat_natCast] at hx hK
      rw [hxe] at hK
      clear hxe hcl
      have HX := Aside0.mk (Karr_cells hK hx)
      clear hK hx
      have HZ := Aside0.mk (HI.out.alloc (.cells (cellsOf l[k]) 93))
      have HS := Aside0.mk (show (Try.prog.info? 93).map (·.size) = some (cellsOf l[k]).size by rw [cellsOf_size, HX.out.1]; exact size93)
      have HS2 := Aside0.mk (show (cellsOf zeros66).size = (cellsOf l[k]).size by rw [cellsOf_size, cellsOf_size, HX.out.1, zeros66_length])
      by_cases hm : l[k] ∈ Num.firsts (l.take k)
      · have hlook := HZ.out.map.look_in keyed93 Try.underlying98 Try.underlying3 zero3 hkey hm
        rw [encArr] at hlook
        have HN := Aside0.mk (HZ.out.old hk hm rfl)
        obtain ⟨⟨v, hv⟩, hf⟩ := HZ.out.cell hk
        have HM := Aside0.mk hm
        clear hm hkey
        generalize Num.spot (Num.firsts (l.take k)) l[k] = b at hlook HN
        go_wp2_with (first
          | (with_reducible refine wpList_load_at rfl 93 (.tmp 19) rfl _ rfl (cellsOf l[k]) _ Try.underlying93 rfl HS.out HX.out.2 ?_)
          | (with_reducible refine wpList_alloc_agg rfl 93 rfl (cellsOf zeros66) zero93 ?_)
          | (with_reducible refine wpList_store_new rfl 93 (.tmp 7) (.tmp 20) rfl wr (cellsOf zeros66) rfl rfl (cellsOf l[k]) rfl HS.out HS2.out (cellsOf_one _) ?_)
          | (with_reducible refine wpList_load_row rfl 93 (.tmp 7) rfl wr.heap.size rfl 93 (cellsOf l[k]) (0, 0) _ (heap_alloc_last wr _) Try.underlying93 rfl HS.out ?_))
        go_roundw
        case rel => exact ⟨k + 1, by go_num, by rw [Num.firsts_succ l k hk, if_pos HM.out], HN⟩
        case measure => simp [intOf]; omega
      · have hlook := HZ.out.map.look_out keyed93 Try.underlying98 Try.underlying3 zero3 hkey hm
        obtain ⟨w1, hput, hmap, hg⟩ := HZ.out.map.put keyed93 encArr_inj Try.underlying98 Try.underlying3 hkey hm (by omega) rfl
        rw [encArr] at hlook hput
        obtain ⟨HN0, ⟨v, hv⟩, hf⟩ := HZ.out.new hk hm hmap hg rfl
        have HN := Aside0.mk HN0
        have HM := Aside0.mk hm
        clear HN0 hmap hg hm hkey
        go_wp2_with (first
          | (with_reducible refine wpList_load_at rfl 93 (.tmp 19) rfl _ rfl (cellsOf l[k]) _ Try.underlying93 rfl HS.out HX.out.2 ?_)
          | (with_reducible refine wpList_alloc_agg rfl 93 rfl (cellsOf zeros66) zero93 ?_)
          | (with_reducible refine wpList_store_new rfl 93 (.tmp 7) (.tmp 20) rfl wr (cellsOf zeros66) rfl rfl (cellsOf l[k]) rfl HS.out HS2.out (cellsOf_one _) ?_)
          | (with_reducible refine wpList_load_row rfl 93 (.tmp 7) rfl wr.heap.size rfl 93 (cellsOf l[k]) (0, 0) _ (heap_alloc_last wr _) Try.underlying93 rfl HS.out ?_))
        go_roundw
        case rel => exact ⟨k + 1, by go_num, by rw [Num.firsts_succ l k hk, if_neg HM.out]; simp, HN⟩
        case measure => simp [intOf]; omega
    · have HD := Aside0.mk (HI.out.done hk)
      go_wp2
      go_ret
      exact ⟨_, rfl, HD.out.1, HD.out.2⟩

end Go.Proofs.Ytboofecfmhbacaa

/- The walks of slices.Clone and slices.Equal. -/
namespace Go.Proofs.Ytboofecfmhbacaa
open Go.RowKit Go.WideMaps Go.Maps Go.Proofs.YtboofecfmhbacaaW.PrintWords Go.Proofs.YtboofecfmhbacaaW.PrintLast Go.Proofs.YtboofecfmhbacaaW.PrintMore
set_option linter.unusedVariables false
set_option linter.unusedSimpArgs false

set_option maxRecDepth 100000 in
set_option maxHeartbeats 1000000 in
theorem clone_walk (A0 : Option Addr) (c0 : Nat) (l : List Int) (w : World) (hr : Kd.C (Kd.int .i64) w A0 l.length l) (hlen : l.length * 8 ≤ 140737488355328) :
    Calls Try.prog 15 #[.slice A0 l.length c0] w fun e w' => ∃ v0_ : Value, e = .returned (v0_) ∧ Kd.R (Kd.int .i64) 3 w' w.heap.size (fun _ => True) v0_ l ∧ Below w.heap.size w w' := by
  have HR := Aside0.mk hr
  clear hr
  have hnil := fun w : World => run_eql_slice_nil w 22 3 A0 l.length c0 Try.underlying22
  cases A0 with
  | none =>
    have hl : l = [] := by
      rcases Nat.eq_zero_or_pos l.length with h | h
      · exact List.eq_nil_of_length_eq_zero h
      · obtain ⟨ad, h, _⟩ := HR.out.2.2 h
        cases h
    subst hl
    simp only [Option.isNone_none, List.length_nil] at hnil
    go_enter Try.func15, Try.ntmps15
    go_wp2
    go_ret
    exact ⟨_, rfl, Kd.R_nil _ _ _ _ _, Below.refl _ _⟩
  | some ad =>
    simp only [Option.isNone_some] at hnil
    have HO := Aside0.mk (Kd.R_of_own (h1 := fun _ => rfl) (ok := fun _ => True) (own_lit_of (enc := Value.int .i64) w w.heap.size 3 [] (Nat.le_refl _) (by simp)) (fun _ _ => trivial))
    have HB := Aside0.mk ((Below.refl w.heap.size w).alloc (Nat.le_refl _) (.cells #[] 3))
    have HR1 := Aside0.mk (Kd.C_below HR.out HB.out)
    go_enter Try.func15, Try.ntmps15
    go_wp2_with (at_builtin; refine Kd.R_append_row (h1 := fun _ => rfl) (Value.int .i64) 0 w.heap.size rfl (.tmp 5) (.tmp 6) 22 3 (.int .i64 0) 8 rfl Try.underlying22 info3 rfl (by decide) _ [] l (some ad) l.length c0 (fun _ => True) rfl rfl (fun _ _ => trivial) HO.out HR1.out HB.out (by simp) (by simpa using hlen) ?_; rintro v1 w1 hR hB _ _)
    have HR2 := Aside0.mk hR
    clear hR
    go_wp2
    go_ret
    have HR3 := HR2.out
    rw [List.nil_append] at HR3
    exact ⟨_, rfl, HR3, hB⟩
theorem info9 : (Try.prog.info? 9).map (fun i => (i.zero, i.size, i.bytes)) = some (some (.string ByteArray.empty), 1, 16) := by kernel_rfl
set_option maxRecDepth 100000 in
set_option maxHeartbeats 1000000 in
theorem clone_str_walk (A0 : Option Addr) (c0 : Nat) (l : List ByteArray) (w : World) (hr : Kd.C Kd.string w A0 l.length l) (hlen : l.length * 16 ≤ 140737488355328) :
    Calls Try.prog 16 #[.slice A0 l.length c0] w fun e w' => ∃ v0_ : Value, e = .returned (v0_) ∧ Kd.R Kd.string 9 w' w.heap.size (fun _ => True) v0_ l ∧ Below w.heap.size w w' := by
  have HR := Aside0.mk hr
  clear hr
  have hnil := fun w : World => run_eql_slice_nil w 23 9 A0 l.length c0 Try.underlying23
  cases A0 with
  | none =>
    have hl : l = [] := by
      rcases Nat.eq_zero_or_pos l.length with h | h
      · exact List.eq_nil_of_length_eq_zero h
      · obtain ⟨ad, h, _⟩ := HR.out.2.2 h
        cases h
    subst hl
    simp only [Option.isNone_none, List.length_nil] at hnil
    go_enter Try.func16, Try.ntmps16
    go_wp2
    go_ret
    exact ⟨_, rfl, Kd.R_nil _ _ _ _ _, Below.refl _ _⟩
  | some ad =>
    simp only [Option.isNone_some] at hnil
    have HO := Aside0.mk (Kd.R_of_own (h1 := fun _ => rfl) (ok := fun _ => True) (own_lit_of (enc := Value.string) w w.heap.size 9 [] (Nat.le_refl _) (by simp)) (fun _ _ => trivial))
    have HB := Aside0.mk ((Below.refl w.heap.size w).alloc (Nat.le_refl _) (.cells #[] 9))
    have HR1 := Aside0.mk (Kd.C_below HR.out HB.out)
    go_enter Try.func16, Try.ntmps16
    go_wp2_with (at_builtin; refine Kd.R_append_row (h1 := fun _ => rfl) Value.string ByteArray.empty w.heap.size rfl (.tmp 5) (.tmp 6) 23 9 (.string ByteArray.empty) 16 rfl Try.underlying23 info9 rfl (by decide) _ [] l (some ad) l.length c0 (fun _ => True) rfl rfl (fun _ _ => trivial) HO.out HR1.out HB.out (by simp) (by simpa using hlen) ?_; rintro v1 w1 hR hB _ _)
    have HR2 := Aside0.mk hR
    clear hR
    go_wp2
    go_ret
    have HR3 := HR2.out
    rw [List.nil_append] at HR3
    exact ⟨_, rfl, HR3, hB⟩

set_option maxRecDepth 100000 in
set_option maxHeartbeats 1000000 in
theorem equal_walk (A0 : Option Addr) (c0 : Nat) (l0 : List Int) (A1 : Option Addr) (c1 : Nat) (l1 : List Int) (w : World) (hr0 : Kd.C (Kd.int .i64) w A0 l0.length l0) (hr1 : Kd.C (Kd.int .i64) w A1 l1.length l1) :
    Calls Try.prog 19 #[.slice A0 l0.length c0, .slice A1 l1.length c1] w fun e w' => e = .returned (.bool (decide (l0 = l1))) ∧ Below w.heap.size w w' := by
  have HR0 := Aside0.mk (Kd.reads_of_C (d := (0 : Int)) hr0)
  have HR1 := Aside0.mk (Kd.reads_of_C (d := (0 : Int)) hr1)
  clear hr0 hr1
  by_cases hl : l0.length = l1.length
  · have h1 : ((l0.length : Int) == (l1.length : Int)) = true := beq_iff_eq.mpr (by omega)
    have h2 : ((l0.length : Int) != (l1.length : Int)) = false := bne_eq_false_iff_eq.mpr (by omega)
    have h3 : (l0.length == l1.length) = true := by simpa using hl
    have HL := Aside0.mk hl
    clear hl
    go_enter Try.func19, Try.ntmps19
    go_wp2
    clear h1 h2 h3
    go_loopw [13] (fun i wr => ∃ k : Nat, i = .int .i64 k ∧ Aside0 (k ≤ l0.length ∧ l0.take k = l1.take k ∧ Below w.heap.size w wr)) (fun i _ => l0.length - (intOf i).toNat)
    case atStart => exact ⟨0, rfl, ⟨Nat.zero_le _, rfl, Below.refl _ _⟩⟩
    case round =>
      obtain ⟨k, rfl, HI⟩ := hrel
      have hkl := HI.out.1
      have hb : l0.length ≤ 9223372036854775807 := HR0.out.2.1
      by_cases hk : k < l0.length
      · obtain ⟨ad0, e0, hx0⟩ := (HR0.out.below HI.out.2.2).at_ (k : Int) (by omega) (by omega)
        obtain ⟨ad1, e1, hx1⟩ := (HR1.out.below HI.out.2.2).at_ (k : Int) (by omega) (by rw [← HL.out]; omega)
        subst e0 e1
        have hk1 : k < l1.length := by rw [← HL.out]; exact hk
        have e0 : rdOf 0 l0 (k : Int) = l0[k] := by simp [rdOf, List.getD_eq_getElem?_getD, List.getElem?_eq_getElem hk]
        have e1 : rdOf 0 l1 (k : Int) = l1[k] := by simp [rdOf, List.getD_eq_getElem?_getD, List.getElem?_eq_getElem hk1]
        rw [Int.toNat_natCast] at hx0 hx1
        rw [e0] at hx0
        rw [e1] at hx1
        clear e0 e1
        by_cases hx : l0[k] = l1[k]
        · have h1 : (l0[k] == l1[k]) = true := beq_iff_eq.mpr hx
          have h2 : (l0[k] != l1[k]) = false := bne_eq_false_iff_eq.mpr hx
          have HX := Aside0.mk hx
          clear hx
          go_wp2
          go_quiet (fail)
          go_wp2
          go_roundw
          case rel => exact ⟨k + 1, by go_num, ⟨by omega, by rw [Num.take_succ _ _ hk, Num.take_succ _ _ hk1, HI.out.2.1, HX.out], pw_below_drewN HI.out.2.2 _⟩⟩
          case measure => simp [intOf]; omega
        · have h1 : (l0[k] == l1[k]) = false := beq_eq_false_iff_ne.mpr hx
          have h2 : (l0[k] != l1[k]) = true := bne_iff_ne.mpr hx
          have HX := Aside0.mk hx
          clear hx
          go_wp2
          go_quiet (fail)
          go_wp2
          go_ret
          exact ⟨by rw [decide_eq_false (fun e => HX.out (by subst e; rfl))]; rfl, pw_below_drewN HI.out.2.2 _⟩
      · go_wp2
        go_ret
        have hk' : k = l0.length := by omega
        exact ⟨by rw [decide_eq_true (by have h := HI.out.2.1; rwa [hk', List.take_length, HL.out, List.take_length] at h)]; rfl, HI.out.2.2⟩
  · have h1 : ((l0.length : Int) == (l1.length : Int)) = false := beq_eq_false_iff_ne.mpr (by omega)
    have h2 : ((l0.length : Int) != (l1.length : Int)) = true := bne_iff_ne.mpr (by omega)
    have h3 : (l0.length == l1.length) = false := by simpa using hl
    have HL := Aside0.mk hl
    clear hl
    go_enter Try.func19, Try.ntmps19
    go_wp2
    go_ret
    exact ⟨by rw [decide_eq_false (fun e => HL.out (by rw [e]))]; rfl, Below.refl _ _⟩
end Go.Proofs.Ytboofecfmhbacaa

/- Elements of slices, as the walks here read them. -/
namespace Go.Proofs.Ytboofecfmhbacaa
open Go.RowKit Go.Proofs.YtboofecfmhbacaaW.PrintWords
theorem ints_at {w : World} {k : IntKind} {A : Option Addr} {l : List Int} (h : Kd.C (Kd.int k) w A l.length l) (j : Nat) (hj : j < l.length) : ∃ ad, A = some ad ∧ w.cell? (ad.add j) = some (.int k l[j]) := by
  obtain ⟨ad, e, hc⟩ := (Kd.reads_of_C (d := (0 : Int)) h).2.2 (by omega)
  refine ⟨ad, e, ?_⟩
  rw [hc j hj]
  simp [List.getD_eq_getElem?_getD, List.getElem?_eq_getElem hj]
theorem strs_at {w : World} {A : Option Addr} {l : List ByteArray} (h : Kd.C Kd.string w A l.length l) (j : Nat) (hj : j < l.length) : ∃ ad, A = some ad ∧ w.cell? (ad.add j) = some (.string l[j]) := by
  obtain ⟨ad, e, hc⟩ := (Kd.reads_of_C (d := ByteArray.empty) h).2.2 (by omega)
  refine ⟨ad, e, ?_⟩
  rw [hc j hj]
  simp [List.getD_eq_getElem?_getD, List.getElem?_eq_getElem hj]
theorem rows_at {α : Type} {w : World} {e : Nat} {d : Kd α} {A : Option Addr} {l : List (List α)} (h : Kd.C (Kd.slice e d) w A l.length l) (j : Nat) (hj : j < l.length) :
    ∃ ad A1 c1, A = some ad ∧ w.cell? (ad.add j) = some (.slice A1 l[j].length c1) ∧ l[j].length ≤ c1 ∧ d.C w A1 l[j].length l[j] := by
  obtain ⟨ad, cs, e, _, hK, hx⟩ := Kd.C_get h [] (j : Int) (by omega) (by omega)
  have hxe : l.getD (j : Int).toNat [] = l[j] := by simp [List.getD_eq_getElem?_getD, List.getElem?_eq_getElem hj]
  rw [hxe] at hK
  obtain ⟨A1, c1, rfl, hl, hr⟩ := hK
  refine ⟨ad, A1, c1, e, ?_, hl, hr⟩
  have := hx 0 _ rfl
  simpa [Kd.slice] using this
theorem len_le {α : Type} {d : Kd α} {w : World} {A : Option Addr} {l : List α} (h : d.C w A l.length l) : l.length ≤ 9223372036854775807 := h.2.1
theorem nil_of_none {α : Type} {d : Kd α} {w : World} {l : List α} (h : d.C w none l.length l) : l = [] := by
  rcases Nat.eq_zero_or_pos l.length with h0 | h0
  · exact List.eq_nil_of_length_eq_zero h0
  · obtain ⟨ad, h1, _⟩ := h.2.2 h0
    cases h1

/-- A row of the call's own: its value's form; where it lies, if it has an element. -/
theorem R_shape {α : Type} {d : Kd α} {e : Nat} {w : World} {base : Nat} {ok : Nat → Prop} {v : Value} {xs : List α} {n : Nat} (h : d.R e w base ok v xs) (hn : xs.length = n) : ∃ A c, v = .slice A n c := by
  subst hn
  exact Kd.R_slice h
theorem R_addr {α : Type} {d : Kd α} {e : Nat} {w : World} {base : Nat} {ok : Nat → Prop} {A : Option Addr} {n c : Nat} {xs : List α} (h : d.R e w base ok (.slice A n c) xs) (hn : 0 < n) : ∃ g, A = some ⟨g, 0, none⟩ ∧ base ≤ g ∧ g < w.heap.size := by
  obtain ⟨inner, ho⟩ := Kd.R_own h
  rcases ho.2 with ⟨h1, h2⟩ | ⟨g, cap, cur, h1, h2, h3, _⟩
  · injection h1 with _ h3 _
    omega
  · injection h1 with h4 _ _
    exact ⟨g, h4, h2, (Array.getElem?_eq_some_iff.1 h3).1⟩
theorem R_len {α : Type} {d : Kd α} {e : Nat} {w : World} {base : Nat} {ok : Nat → Prop} {A : Option Addr} {n c : Nat} {xs : List α} (h : d.R e w base ok (.slice A n c) xs) : n = xs.length ∧ n ≤ c ∧ d.C w A n xs := by
  obtain ⟨A', c', he, hl, hc⟩ := Kd.R_reads h
  injection he with h1 h2 h3
  subst h1 h2 h3
  exact ⟨rfl, hl, hc⟩
end Go.Proofs.Ytboofecfmhbacaa

/- The walks of slices.IndexFunc, ContainsFunc and EqualFunc at whatever predicate. -/
namespace Go.Proofs.Ytboofecfmhbacaa
open Go.RowKit Go.WideMaps Go.Maps Go.Proofs.YtboofecfmhbacaaW.PrintWords Go.Proofs.YtboofecfmhbacaaW.PrintLast Go.Proofs.YtboofecfmhbacaaW.PrintMore
set_option linter.unusedVariables false
set_option linter.unusedSimpArgs false

theorem any_take {α : Type} (l : List α) (p : α → Bool) (k : Nat) (h : (l.take k).any p = false) (hk : k < l.length) (hp : p l[k] = false) : (l.take (k + 1)).any p = false := by
  rw [Num.take_succ l k hk, List.any_append, h]
  simp [hp]
theorem any_hit {α : Type} (l : List α) (p : α → Bool) (k : Nat) (hk : k < l.length) (hp : p l[k] = true) : l.any p = true := List.any_eq_true.2 ⟨l[k], List.getElem_mem hk, hp⟩

set_option maxRecDepth 100000 in
set_option maxHeartbeats 1000000 in
theorem indexRows_walk (A0 : Option Addr) (c0 : Nat) (l : List (List Int)) (p : List Int → Bool) (g : Nat) (caps : Array Value) (w : World) (hr : Kd.C (Kd.slice 3 (Kd.int .i64)) w A0 l.length l)
    (eg : ∀ args w, (callFunc g args).run Try.prog w = .ok (.enter g args) w)
    (hp : ∀ W A c x, x ∈ l → Below w.heap.size w W → Kd.C (Kd.int .i64) W A x.length x → x.length ≤ c → Calls Try.prog g (#[.slice A x.length c] ++ caps) W fun e w' => e = .returned (.bool (p x)) ∧ Below W.heap.size W w') :
    Calls Try.prog 66 #[.slice A0 l.length c0, .func (.func g) #[] caps] w fun e w' => ∃ i : Int, e = .returned (.int .i64 i) ∧ (decide (0 ≤ i) = l.any p) ∧ Below w.heap.size w w' := by
  have HR := Aside0.mk hr
  have HP := Aside0.mk hp
  clear hr hp
  go_enter Try.func66, Try.ntmps66
  go_wp2
  go_loopw [8] (fun i wr => ∃ k : Nat, i = .int .i64 k ∧ Aside0 (k ≤ l.length ∧ (l.take k).any p = false ∧ Below w.heap.size w wr)) (fun i _ => l.length - (intOf i).toNat)
  case atStart => exact ⟨0, rfl, ⟨Nat.zero_le _, rfl, Below.refl _ _⟩⟩
  case round =>
    obtain ⟨k, rfl, HI⟩ := hrel
    have hkl := HI.out.1
    have hb := len_le HR.out
    by_cases hk : k < l.length
    · obtain ⟨ad, A1, c1, e0, hx0, hc1, hC1⟩ := rows_at (Kd.C_below HR.out HI.out.2.2) k hk
      subst e0
      have HC := Aside0.mk (HP.out wr A1 c1 l[k] (List.getElem_mem hk) HI.out.2.2 hC1 hc1)
      clear hc1 hC1
      go_wp2_with (go_at_fn g; refine HC.out.mono ?_; rintro e w1 ⟨rfl, hB⟩)
      · have hpx : p l[k] = true := by assumption
        go_ret
        exact ⟨_, rfl, by rw [any_hit l p k hk hpx]; simp, HI.out.2.2.trans (hB.mono HI.out.2.2.size)⟩
      · have hpx : p l[k] = false := by first | assumption | simpa using ‹¬ p l[k] = true›
        go_roundw
        case rel => exact ⟨k + 1, by go_num, ⟨by omega, any_take l p k HI.out.2.1 hk hpx, HI.out.2.2.trans (hB.mono HI.out.2.2.size)⟩⟩
        case measure => simp [intOf]; omega
    · go_wp2
      go_ret
      have hk' : k = l.length := by omega
      exact ⟨_, rfl, by have h := HI.out.2.1; rw [hk', List.take_length] at h; rw [h]; rfl, HI.out.2.2⟩

set_option maxRecDepth 100000 in
set_option maxHeartbeats 1000000 in
theorem indexInts_walk (A0 : Option Addr) (c0 : Nat) (l : List Int) (p : Int → Bool) (g : Nat) (caps : Array Value) (w : World) (hr : Kd.C (Kd.int .i64) w A0 l.length l)
    (eg : ∀ args w, (callFunc g args).run Try.prog w = .ok (.enter g args) w)
    (hp : ∀ W x, x ∈ l → Below w.heap.size w W → Calls Try.prog g (#[.int .i64 x] ++ caps) W fun e w' => e = .returned (.bool (p x)) ∧ Below W.heap.size W w') :
    Calls Try.prog 73 #[.slice A0 l.length c0, .func (.func g) #[] caps] w fun e w' => ∃ i : Int, e = .returned (.int .i64 i) ∧ (decide (0 ≤ i) = l.any p) ∧ Below w.heap.size w w' := by
  have HR := Aside0.mk hr
  have HP := Aside0.mk hp
  clear hr hp
  go_enter Try.func73, Try.ntmps73
  go_wp2
  go_loopw [8] (fun i wr => ∃ k : Nat, i = .int .i64 k ∧ Aside0 (k ≤ l.length ∧ (l.take k).any p = false ∧ Below w.heap.size w wr)) (fun i _ => l.length - (intOf i).toNat)
  case atStart => exact ⟨0, rfl, ⟨Nat.zero_le _, rfl, Below.refl _ _⟩⟩
  case round =>
    obtain ⟨k, rfl, HI⟩ := hrel
    have hkl := HI.out.1
    have hb := len_le HR.out
    by_cases hk : k < l.length
    · obtain ⟨ad, e0, hx0⟩ := ints_at (Kd.C_below HR.out HI.out.2.2) k hk
      subst e0
      have HC := Aside0.mk (HP.out wr l[k] (List.getElem_mem hk) HI.out.2.2)
      go_wp2_with (go_at_fn g; refine HC.out.mono ?_; rintro e w1 ⟨rfl, hB⟩)
      · have hpx : p l[k] = true := by assumption
        go_ret
        exact ⟨_, rfl, by rw [any_hit l p k hk hpx]; simp, HI.out.2.2.trans (hB.mono HI.out.2.2.size)⟩
      · have hpx : p l[k] = false := by first | assumption | simpa using ‹¬ p l[k] = true›
        go_roundw
        case rel => exact ⟨k + 1, by go_num, ⟨by omega, any_take l p k HI.out.2.1 hk hpx, HI.out.2.2.trans (hB.mono HI.out.2.2.size)⟩⟩
        case measure => simp [intOf]; omega
    · go_wp2
      go_ret
      have hk' : k = l.length := by omega
      exact ⟨_, rfl, by have h := HI.out.2.1; rw [hk', List.take_length] at h; rw [h]; rfl, HI.out.2.2⟩

set_option maxRecDepth 100000 in
set_option maxHeartbeats 1000000 in
theorem containsRows_walk (A0 : Option Addr) (c0 : Nat) (l : List (List Int)) (p : List Int → Bool) (g : Nat) (caps : Array Value) (w : World) (hr : Kd.C (Kd.slice 3 (Kd.int .i64)) w A0 l.length l)
    (eg : ∀ args w, (callFunc g args).run Try.prog w = .ok (.enter g args) w)
    (hp : ∀ W A c x, x ∈ l → Below w.heap.size w W → Kd.C (Kd.int .i64) W A x.length x → x.length ≤ c → Calls Try.prog g (#[.slice A x.length c] ++ caps) W fun e w' => e = .returned (.bool (p x)) ∧ Below W.heap.size W w') :
    Calls Try.prog 44 #[.slice A0 l.length c0, .func (.func g) #[] caps] w fun e w' => e = .returned (.bool (l.any p)) ∧ Below w.heap.size w w' := by
  have HC := Aside0.mk (indexRows_walk A0 c0 l p g caps w hr eg hp)
  clear hr hp eg
  go_enter Try.func44, Try.ntmps44
  go_wp2_with (go_at_call 66; refine HC.out.mono ?_; rintro e w1 ⟨i, rfl, hi, hB⟩; have HI := Aside0.mk hi; clear hi)
  go_ret
  exact ⟨by rw [← HI.out]; rfl, hB⟩

set_option maxRecDepth 100000 in
set_option maxHeartbeats 1000000 in
theorem containsInts_walk (A0 : Option Addr) (c0 : Nat) (l : List Int) (p : Int → Bool) (g : Nat) (caps : Array Value) (w : World) (hr : Kd.C (Kd.int .i64) w A0 l.length l)
    (eg : ∀ args w, (callFunc g args).run Try.prog w = .ok (.enter g args) w)
    (hp : ∀ W x, x ∈ l → Below w.heap.size w W → Calls Try.prog g (#[.int .i64 x] ++ caps) W fun e w' => e = .returned (.bool (p x)) ∧ Below W.heap.size W w') :
    Calls Try.prog 70 #[.slice A0 l.length c0, .func (.func g) #[] caps] w fun e w' => e = .returned (.bool (l.any p)) ∧ Below w.heap.size w w' := by
  have HC := Aside0.mk (indexInts_walk A0 c0 l p g caps w hr eg hp)
  clear hr hp eg
  go_enter Try.func70, Try.ntmps70
  go_wp2_with (go_at_call 73; refine HC.out.mono ?_; rintro e w1 ⟨i, rfl, hi, hB⟩; have HI := Aside0.mk hi; clear hi)
  go_ret
  exact ⟨by rw [← HI.out]; rfl, hB⟩

set_option maxRecDepth 100000 in
set_option maxHeartbeats 1000000 in
/-- slices.EqualFunc at lists, with slices.Equal as the function. -/
theorem equalRows_walk (A0 : Option Addr) (c0 : Nat) (l0 : List (List Int)) (A1 : Option Addr) (c1 : Nat) (l1 : List (List Int)) (w : World) (hr0 : Kd.C (Kd.slice 3 (Kd.int .i64)) w A0 l0.length l0) (hr1 : Kd.C (Kd.slice 3 (Kd.int .i64)) w A1 l1.length l1) :
    Calls Try.prog 65 #[.slice A0 l0.length c0, .slice A1 l1.length c1, .func (.func 19) #[] #[]] w fun e w' => e = .returned (.bool (decide (l0 = l1))) ∧ Below w.heap.size w w' := by
  have HR0 := Aside0.mk hr0
  have HR1 := Aside0.mk hr1
  clear hr0 hr1
  by_cases hl : l0.length = l1.length
  · have h1 : ((l0.length : Int) == (l1.length : Int)) = true := beq_iff_eq.mpr (by omega)
    have h2 : ((l0.length : Int) != (l1.length : Int)) = false := bne_eq_false_iff_eq.mpr (by omega)
    have h3 : (l0.length == l1.length) = true := by simpa using hl
    have HL := Aside0.mk hl
    clear hl
    go_enter Try.func65, Try.ntmps65
    go_wp2
    clear h1 h2 h3
    go_loopw [17] (fun i wr => ∃ k : Nat, i = .int .i64 k ∧ Aside0 (k ≤ l0.length ∧ l0.take k = l1.take k ∧ Below w.heap.size w wr)) (fun i _ => l0.length - (intOf i).toNat)
    case atStart => exact ⟨0, rfl, ⟨Nat.zero_le _, rfl, Below.refl _ _⟩⟩
    case round =>
      obtain ⟨k, rfl, HI⟩ := hrel
      have hkl := HI.out.1
      have hb := len_le HR0.out
      by_cases hk : k < l0.length
      · have hk1 : k < l1.length := by rw [← HL.out]; exact hk
        obtain ⟨ad0, B0, d0, e0, hx0, hd0, hD0⟩ := rows_at (Kd.C_below HR0.out HI.out.2.2) k hk
        obtain ⟨ad1, B1, d1, e1, hx1, hd1, hD1⟩ := rows_at (Kd.C_below HR1.out HI.out.2.2) k hk1
        subst e0 e1
        have HC := Aside0.mk (equal_walk B0 d0 l0[k] B1 d1 l1[k] wr hD0 hD1)
        clear hd0 hD0 hd1 hD1
        by_cases hx : l0[k] = l1[k]
        · rw [decide_eq_true hx] at HC
          have HX := Aside0.mk hx
          clear hx
          go_wp2_with (go_at_call 19; refine HC.out.mono ?_; rintro e w1 ⟨rfl, hB⟩)
          go_roundw
          case rel => exact ⟨k + 1, by go_num, ⟨by omega, by rw [Num.take_succ _ _ hk, Num.take_succ _ _ hk1, HI.out.2.1, HX.out], HI.out.2.2.trans (hB.mono HI.out.2.2.size)⟩⟩
          case measure => simp [intOf]; omega
        · rw [decide_eq_false hx] at HC
          have HX := Aside0.mk hx
          clear hx
          go_wp2_with (go_at_call 19; refine HC.out.mono ?_; rintro e w1 ⟨rfl, hB⟩)
          go_ret
          exact ⟨by rw [decide_eq_false (fun e => HX.out (by subst e; rfl))]; rfl, HI.out.2.2.trans (hB.mono HI.out.2.2.size)⟩
      · go_wp2
        go_ret
        have hk' : k = l0.length := by omega
        exact ⟨by rw [decide_eq_true (by have h := HI.out.2.1; rwa [hk', List.take_length, HL.out, List.take_length] at h)]; rfl, HI.out.2.2⟩
  · have h1 : ((l0.length : Int) == (l1.length : Int)) = false := beq_eq_false_iff_ne.mpr (by omega)
    have h2 : ((l0.length : Int) != (l1.length : Int)) = true := bne_iff_ne.mpr (by omega)
    have h3 : (l0.length == l1.length) = false := by simpa using hl
    have HL := Aside0.mk hl
    clear hl
    go_enter Try.func65, Try.ntmps65
    go_wp2
    go_ret
    exact ⟨by rw [decide_eq_false (fun e => HL.out (by rw [e]))]; rfl, Below.refl _ _⟩
end Go.Proofs.Ytboofecfmhbacaa

/- What the functions of package blocks compute, over lists. -/
namespace Go.Proofs.Ytboofecfmhbacaa
/-- Whole numbers that an int can be. -/
def Wf (l : List Int) : Prop := ∀ x ∈ l, (Lit.int .i64 x).wf = true
def Small (l : List Int) : Prop := ∀ x ∈ l, -1 ≤ x ∧ x ≤ 1099511627776
theorem Small.wf {l : List Int} (h : Small l) : Wf l := fun x hx => by
  have := h x hx
  exact WalkArith.wf_i64 (by omega)
/-- A list that is a partition. -/
def rightP (p : List Int) : Prop := p.length ≤ 1024 ∧ Num.num p = p
instance (p : List Int) : Decidable (rightP p) := inferInstanceAs (Decidable (_ ∧ _))
def maxL (a : Int) (r : List Int) : Int := r.foldl (fun x y => if x < y then y else x) a
/-- How many blocks there are. -/
def countP : List Int → Int
  | [] => 0
  | a :: r => maxL a r + 1
theorem maxL_small {a : Int} {r : List Int} (h : Small (a :: r)) : -1 ≤ maxL a r ∧ maxL a r ≤ 1099511627776 := by
  induction r generalizing a with
  | nil => exact h a (List.mem_cons_self)
  | cons b r ih =>
    refine ih (a := if a < b then b else a) ?_
    intro x hx
    rcases List.mem_cons.1 hx with rfl | hx
    · split
      · exact h b (by simp)
      · exact h a (by simp)
    · exact h x (by simp [hx])
theorem num_bounds {α : Type} [DecidableEq α] (l : List α) : ∀ x ∈ Num.num l, 0 ≤ x ∧ x < l.length := by
  intro x hx
  simp only [Num.num, List.mem_map] at hx
  obtain ⟨y, hy, rfl⟩ := hx
  have h1 : (Num.firsts l).idxOf y < (Num.firsts l).length := List.idxOf_lt_length_of_mem ((Num.mem_firsts l y).2 hy)
  have h2 := Num.length_firsts_le l
  unfold Num.spot
  omega
theorem num_small {α : Type} [DecidableEq α] (l : List α) (h : l.length ≤ 1099511627776) : Small (Num.num l) := fun x hx => by
  have := num_bounds l x hx
  omega
theorem rightP.bounds {p : List Int} (h : rightP p) : ∀ x ∈ p, 0 ≤ x ∧ x < p.length := by
  intro x hx
  rw [← h.2] at hx
  exact num_bounds p x hx
theorem rightP.small {p : List Int} (h : rightP p) : Small p := fun x hx => by
  have := h.bounds x hx
  have := h.1
  omega
/-- What is wrong with two partitions. -/
def bothE (p q : List Int) : Int := if ¬ rightP p ∨ ¬ rightP q then 60 else if p.length ≠ q.length then 2 else 0
/-- Lists of what comes next that are right. -/
def nextP (n : Nat) (next : List (List Int)) : Prop := next.length = n ∧ ∀ l ∈ next, l.length ≤ 64 ∧ ∀ x ∈ l, 0 ≤ x ∧ x < n
def badB (n : Nat) (x : Int) : Bool := decide (x < 0) || decide ((n : Int) ≤ x)
def badL (n : Nat) (l : List Int) : Bool := decide (64 < l.length) || l.any (badB n)
theorem nextP_iff (n : Nat) (next : List (List Int)) : nextP n next ↔ next.length = n ∧ next.any (badL n) = false := by
  unfold nextP
  refine and_congr Iff.rfl ?_
  rw [List.any_eq_false]
  refine forall_congr' fun l => forall_congr' fun _ => ?_
  simp only [badL, badB, Bool.or_eq_true, decide_eq_true_eq, List.any_eq_true, not_or, not_exists, not_and]
  constructor
  · rintro ⟨h1, h2⟩
    exact ⟨by omega, fun x hx => by have := h2 x hx; omega⟩
  · rintro ⟨h1, h2⟩
    exact ⟨by omega, fun x hx => by have := h2 x hx; omega⟩
instance (n : Nat) (next : List (List Int)) : Decidable (nextP n next) := decidable_of_iff _ (nextP_iff n next).symm
/-- What is wrong with a partition, and with what comes next. -/
def wrongE (p : List Int) (next : List (List Int)) : Int := if ¬ rightP p then 60 else if ¬ nextP p.length next then 61 else 0

/-- A list that is filled from the left. -/
def filled {α : Type} (full : List α) (k : Nat) (z : α) : List α := full.take k ++ List.replicate (full.length - k) z
theorem filled_zero {α : Type} (full : List α) (z : α) : filled full 0 z = List.replicate full.length z := by simp [filled]
theorem filled_end {α : Type} (full : List α) (z : α) : filled full full.length z = full := by simp [filled]
theorem filled_length {α : Type} (full : List α) (k : Nat) (z : α) (h : k ≤ full.length) : (filled full k z).length = full.length := by simp [filled]; omega
theorem filled_set {α : Type} (full : List α) (k : Nat) (z : α) (h : k < full.length) : (filled full k z).set k full[k] = filled full (k + 1) z := by
  have hl : (full.take k).length = k := by simp; omega
  unfold filled
  rw [List.set_append_right _ _ (by omega), hl, Nat.sub_self]
  obtain ⟨m, hm⟩ : ∃ m, full.length - k = m + 1 := ⟨full.length - k - 1, by omega⟩
  rw [hm, List.replicate_succ, List.set_cons_zero, show full.length - (k + 1) = m by omega, List.take_succ_eq_append_getElem h, List.append_assoc]
  rfl
theorem filled_at {α : Type} (full : List α) (k : Nat) (z : α) (h : k < full.length) : (filled full k z)[k]'(by rw [filled_length _ _ _ (by omega)]; exact h) = z := by
  unfold filled
  have hl : (full.take k).length = k := by simp; omega
  rw [List.getElem_append_right (by omega)]
  simp
/-- Two numbers for each element. -/
def zip2 (p q : List Int) : List (List Int) := List.zipWith (fun a b => [a, b]) p q
/-- The coarsest partition that is finer than both. -/
def meetP (p q : List Int) : List Int := Num.num (zip2 p q)
theorem zip2_length (p q : List Int) (h : p.length = q.length) : (zip2 p q).length = p.length := by simp [zip2, h]
theorem zip2_get (p q : List Int) (k : Nat) (h : k < p.length) (h' : k < q.length) : (zip2 p q)[k]'(by simp [zip2]; omega) = [p[k], q[k]] := by simp [zip2]

/-! #### Members -/
/-- At which places a number stands. -/
def idxs : List Int → Nat → Int → List Int
  | [], _, _ => []
  | x :: r, s, b => if x = b then (s : Int) :: idxs r (s + 1) b else idxs r (s + 1) b
theorem idxs_snoc (l : List Int) (s : Nat) (x b : Int) : idxs (l ++ [x]) s b = if x = b then idxs l s b ++ [((s + l.length : Nat) : Int)] else idxs l s b := by
  induction l generalizing s with
  | nil => simp [idxs]
  | cons y r ih =>
    simp only [List.cons_append, idxs, ih, List.length_cons]
    have e : s + 1 + r.length = s + (r.length + 1) := by omega
    rw [e]
    split <;> split <;> rfl
theorem idxs_length (l : List Int) (s : Nat) (b : Int) : (idxs l s b).length ≤ l.length := by
  induction l generalizing s with
  | nil => exact Nat.le_refl _
  | cons y r ih =>
    have := ih (s + 1)
    unfold idxs
    split <;> simp <;> omega
/-- The elements of the first n blocks. -/
def rowsP (l : List Int) (n : Nat) : List (List Int) := (List.range n).map fun b : Nat => idxs l 0 (b : Int)
def membersP (p : List Int) : List (List Int) := rowsP p (countP p).toNat
theorem rowsP_length (l : List Int) (n : Nat) : (rowsP l n).length = n := by simp [rowsP]
theorem rowsP_get (l : List Int) (n b : Nat) (h : b < n) : (rowsP l n)[b]'(by rw [rowsP_length]; exact h) = idxs l 0 (b : Int) := by simp [rowsP]
theorem maxL_ge (a : Int) (r : List Int) : a ≤ maxL a r ∧ ∀ x ∈ r, x ≤ maxL a r := by
  induction r generalizing a with
  | nil => exact ⟨Int.le_refl _, fun x hx => by cases hx⟩
  | cons b r ih =>
    have h := ih (if a < b then b else a)
    have hb : b ≤ (if a < b then b else a) := by split <;> omega
    have ha : a ≤ (if a < b then b else a) := by split <;> omega
    refine ⟨Int.le_trans ha h.1, fun x hx => ?_⟩
    rcases List.mem_cons.1 hx with rfl | hx
    · exact Int.le_trans hb h.1
    · exact h.2 x hx
theorem countP_cons (a : Int) (r : List Int) : countP (a :: r) = maxL a r + 1 := rfl
theorem lt_count {p : List Int} : ∀ x ∈ p, x < countP p := by
  cases p with
  | nil => intro x hx; cases hx
  | cons a r =>
    intro x hx
    have h := maxL_ge a r
    rw [countP_cons]
    rcases List.mem_cons.1 hx with rfl | hx
    · omega
    · have := h.2 x hx
      omega
theorem maxL_mem (a : Int) (r : List Int) : maxL a r ∈ a :: r := by
  induction r generalizing a with
  | nil => simp [maxL]
  | cons b r ih =>
    have h := ih (if a < b then b else a)
    have e : maxL a (b :: r) = maxL (if a < b then b else a) r := rfl
    rw [e]
    rcases List.mem_cons.1 h with h | h
    · rw [h]
      split <;> simp
    · simp [h]
theorem count_bounds {p : List Int} (h : rightP p) : 0 ≤ countP p ∧ countP p ≤ p.length := by
  cases p with
  | nil => exact ⟨Int.le_refl _, Int.le_refl _⟩
  | cons a r =>
    have := h.bounds _ (maxL_mem a r)
    rw [countP_cons]
    omega

/-! #### Refine -/
/-- An element's block, and the blocks of what comes next of it. -/
def wordOf (p : List Int) (i : Nat) (l : List Int) (j : Nat) : List Int :=
  p.getD i 0 :: (l.length : Int) :: ((l.take j).map fun x => p.getD x.toNat 0) ++ List.replicate (64 - j) 0
def wordsOf (p : List Int) (next : List (List Int)) : List (List Int) := next.mapIdx fun i l => wordOf p i l l.length
/-- Blocks are split once. -/
def refineP (p : List Int) (next : List (List Int)) : List Int := Num.num (wordsOf p next)
theorem wordsOf_length (p : List Int) (next : List (List Int)) : (wordsOf p next).length = next.length := by simp [wordsOf]
theorem wordsOf_get (p : List Int) (next : List (List Int)) (k : Nat) (h : k < next.length) : (wordsOf p next)[k]'(by rw [wordsOf_length]; exact h) = wordOf p k next[k] next[k].length := by simp [wordsOf]
theorem wordOf_length (p : List Int) (i : Nat) (l : List Int) (j : Nat) (hj : j ≤ l.length) (hl : l.length ≤ 64) : (wordOf p i l j).length = 66 := by
  simp [wordOf]
  omega
theorem wordOf_succ (p : List Int) (i : Nat) (l : List Int) (j : Nat) (hj : j < l.length) (hl : l.length ≤ 64) : (wordOf p i l j).set (j + 2) (p.getD l[j].toNat 0) = wordOf p i l (j + 1) := by
  unfold wordOf
  rw [List.cons_append, List.cons_append, List.set_cons_succ, List.set_cons_succ]
  have h1 : ((l.take j).map fun x => p.getD x.toNat 0).length = j := by simp; omega
  rw [List.set_append_right _ _ (by omega), h1, Nat.sub_self]
  obtain ⟨m, hm⟩ : ∃ m, 64 - j = m + 1 := ⟨64 - j - 1, by omega⟩
  rw [hm, List.replicate_succ, List.set_cons_zero, show 64 - (j + 1) = m by omega, List.take_succ_eq_append_getElem hj, List.map_append, List.cons_append, List.cons_append, List.append_assoc]
  rfl
theorem wordOf_zero (p : List Int) (i : Nat) (l : List Int) : ((List.replicate 66 (0 : Int)).set 0 (p.getD i 0)).set 1 (l.length : Int) = wordOf p i l 0 := by
  simp [wordOf, List.replicate_succ]
end Go.Proofs.Ytboofecfmhbacaa

/- The walks of slices.Max, and of package blocks' count, Of, Right, both and wrong. -/
namespace Go.Proofs.Ytboofecfmhbacaa
open Go.RowKit Go.WideMaps Go.Maps Go.Proofs.YtboofecfmhbacaaW.PrintWords Go.Proofs.YtboofecfmhbacaaW.PrintLast Go.Proofs.YtboofecfmhbacaaW.PrintMore
attribute [local go_sem] max2_int min2_int max_two min_two
set_option linter.unusedVariables false
set_option linter.unusedSimpArgs false

theorem maxL_snoc (a : Int) (r : List Int) (x : Int) : maxL a (r ++ [x]) = if maxL a r < x then x else maxL a r := by
  simp only [maxL, List.foldl_append]
  rfl

set_option maxRecDepth 100000 in
set_option maxHeartbeats 1000000 in
theorem max_walk (A0 : Option Addr) (c0 : Nat) (a : Int) (r : List Int) (w : World) (hr : Kd.C (Kd.int .i64) w A0 (a :: r).length (a :: r)) :
    Calls Try.prog 72 #[.slice A0 (a :: r).length c0] w fun e w' => e = .returned (.int .i64 (maxL a r)) ∧ Below w.heap.size w w' := by
  have HR := Aside0.mk hr
  have hb := len_le hr
  clear hr
  have hl : (a :: r).length = r.length + 1 := rfl
  rw [hl] at hb ⊢
  clear hl
  obtain ⟨ad, e0, hx0⟩ := ints_at HR.out 0 (by simp)
  subst e0
  simp only [List.getElem_cons_zero, show ad.add 0 = ad from rfl] at hx0
  have h1 : ((r.length : Int) + 1 < 1) = False := by simp; omega
  go_enter Try.func72, Try.ntmps72
  go_wp2
  go_loopw [3, 4] (fun m i wr => ∃ j : Nat, i = .int .i64 ((j : Int) + 1) ∧ m = .int .i64 (maxL a (r.take j)) ∧ Aside0 (j ≤ r.length ∧ Below w.heap.size w wr)) (fun _ i _ => r.length + 1 - (intOf i).toNat)
  case atStart => exact ⟨0, by go_num, rfl, ⟨Nat.zero_le _, Below.refl _ _⟩⟩
  case round =>
    obtain ⟨j, rfl, rfl, HI⟩ := hrel
    have hjl := HI.out.1
    by_cases hj : j < r.length
    · obtain ⟨ad1, e1, hx1⟩ := ints_at (Kd.C_below HR.out HI.out.2) (j + 1) (by simp; omega)
      obtain rfl : ad = ad1 := by injection e1
      rw [List.getElem_cons_succ, show ad.add (j + 1) = ⟨ad.block, ad.off + (j + 1), none⟩ from rfl] at hx1
      have hs := maxL_snoc a (r.take j) r[j]
      rw [← Num.take_succ r j hj] at hs
      have HS := Aside0.mk hs
      clear hs
      go_wp2
      go_roundw
      case rel => exact ⟨j + 1, by go_num, by rw [HS.out], ⟨by omega, HI.out.2⟩⟩
      case measure => simp [intOf]; omega
    · go_wp2
      go_ret
      have hj' : j = r.length := by omega
      exact ⟨by rw [hj', List.take_length]; rfl, HI.out.2⟩

set_option maxRecDepth 100000 in
set_option maxHeartbeats 1000000 in
theorem count_walk (A0 : Option Addr) (c0 : Nat) (p : List Int) (w : World) (hr : Kd.C (Kd.int .i64) w A0 p.length p) (hs : Small p) :
    Calls Try.prog 55 #[.slice A0 p.length c0] w fun e w' => e = .returned (.int .i64 (countP p)) ∧ Below w.heap.size w w' := by
  cases p with
  | nil =>
    go_enter Try.func55, Try.ntmps55
    go_wp2
    go_ret
    exact ⟨rfl, Below.refl _ _⟩
  | cons a r =>
    have HC := Aside0.mk (max_walk A0 c0 a r w hr)
    obtain ⟨h1, h2⟩ := maxL_small hs
    clear hr hs
    rw [show (a :: r).length = r.length + 1 from rfl] at HC ⊢
    have h3 : (((r.length : Int) + 1) == 0) = false := beq_eq_false_iff_ne.mpr (by omega)
    go_enter Try.func55, Try.ntmps55
    go_wp2_with (go_at_call 72; refine HC.out.mono ?_; rintro e w1 ⟨rfl, hB⟩)
    go_ret
    exact ⟨rfl, hB⟩

set_option maxRecDepth 100000 in
set_option maxHeartbeats 1000000 in
/-- Of, at integers. -/
theorem ofInt_walk (A0 : Option Addr) (c0 : Nat) (l : List Int) (w : World) (hr : Kd.C (Kd.int .i64) w A0 l.length l) (hw : Wf l) :
    Calls Try.prog 17 #[.slice A0 l.length c0] w fun e w' => ∃ v, e = .returned (.tuple #[v, .int .i64 (if 1024 < l.length then 5 else 0)]) ∧ Kd.R (Kd.int .i64) 3 w' w.heap.size (fun _ => True) v (if 1024 < l.length then [] else Num.num l) ∧ Below w.heap.size w w' := by
  have hb := len_le hr
  by_cases h : 1024 < l.length
  · have h1 : decide ((1024 : Int) < (l.length : Int)) = true := decide_eq_true (by omega)
    rw [if_pos h, if_pos h]
    clear hr hw
    go_enter Try.func17, Try.ntmps17
    go_wp2
    go_ret2
    exact ⟨_, rfl, Kd.R_nil _ _ _ _ _, Below.refl _ _⟩
  · have h1 : decide ((1024 : Int) < (l.length : Int)) = false := decide_eq_false (by omega)
    rw [if_neg h, if_neg h]
    have HC := Aside0.mk (numbered_int_walk A0 c0 l w hr (by omega) hw)
    clear hr hw
    go_enter Try.func17, Try.ntmps17
    go_wp2_with (go_at_call 41; refine HC.out.mono ?_; rintro e w1 ⟨v, rfl, hR, hB⟩; have HR := Aside0.mk hR; clear hR)
    go_ret2
    exact ⟨_, rfl, HR.out, hB⟩

set_option maxRecDepth 100000 in
set_option maxHeartbeats 1000000 in
theorem right_walk (A0 : Option Addr) (c0 : Nat) (p : List Int) (w : World) (hr : Kd.C (Kd.int .i64) w A0 p.length p) (hw : Wf p) :
    Calls Try.prog 37 #[.slice A0 p.length c0] w fun e w' => e = .returned (.bool (decide (rightP p))) ∧ Below w.heap.size w w' := by
  have hb := len_le hr
  by_cases h : p.length ≤ 1024
  · have h1 : decide ((p.length : Int) ≤ 1024) = true := decide_eq_true (by omega)
    have HC := Aside0.mk (numbered_int_walk A0 c0 p w hr (by omega) hw)
    have HR := Aside0.mk hr
    have hq : decide (rightP p) = decide (Num.num p = p) := decide_eq_decide.2 (by simp [rightP, h])
    rw [hq]
    clear hr hw hq
    go_enter Try.func37, Try.ntmps37
    go_wp2_with (first
      | (go_at_call 41; refine HC.out.mono ?_; rintro e w1 ⟨v, rfl, hR, hB⟩; obtain ⟨A1, c1, rfl, hc1, hC1⟩ := Kd.R_reads hR; have HE := Aside0.mk (equal_walk A1 c1 (Num.num p) A0 c0 p w1 hC1 (Kd.C_below HR.out hB)); clear hC1 hR)
      | (go_at_call 19; refine HE.out.mono ?_; rintro e w2 ⟨rfl, hB2⟩))
    go_ret
    exact ⟨by simp, hB.trans (hB2.mono hB.size)⟩
  · have h1 : decide ((p.length : Int) ≤ 1024) = false := decide_eq_false (by omega)
    have HH := Aside0.mk h
    clear hr hw h
    go_enter Try.func37, Try.ntmps37
    go_wp2
    go_ret
    exact ⟨by rw [decide_eq_false (fun e => HH.out e.1)]; rfl, Below.refl _ _⟩
end Go.Proofs.Ytboofecfmhbacaa

/- The walks of package blocks' both, and of wrong with its closures. -/
namespace Go.Proofs.Ytboofecfmhbacaa
open Go.RowKit Go.WideMaps Go.Maps Go.Proofs.YtboofecfmhbacaaW.PrintWords Go.Proofs.YtboofecfmhbacaaW.PrintLast Go.Proofs.YtboofecfmhbacaaW.PrintMore
set_option linter.unusedVariables false
set_option linter.unusedSimpArgs false

set_option maxRecDepth 100000 in
set_option maxHeartbeats 1000000 in
theorem both_walk (A0 : Option Addr) (c0 : Nat) (p : List Int) (A1 : Option Addr) (c1 : Nat) (q : List Int) (w : World) (hr0 : Kd.C (Kd.int .i64) w A0 p.length p) (hr1 : Kd.C (Kd.int .i64) w A1 q.length q) (hw0 : Wf p) (hw1 : Wf q) :
    Calls Try.prog 56 #[.slice A0 p.length c0, .slice A1 q.length c1] w fun e w' => e = .returned (.int .i64 (bothE p q)) ∧ Below w.heap.size w w' := by
  have HP := Aside0.mk (right_walk A0 c0 p w hr0 hw0)
  have HQ := Aside0.mk (fun w1 (hB : Below w.heap.size w w1) => right_walk A1 c1 q w1 (Kd.C_below hr1 hB) hw1)
  clear hr0 hr1 hw0 hw1
  by_cases hp : rightP p
  · rw [decide_eq_true hp] at HP
    by_cases hq : rightP q
    · rw [decide_eq_true hq] at HQ
      by_cases hl : p.length = q.length
      · have h1 : ((p.length : Int) != (q.length : Int)) = false := bne_eq_false_iff_eq.mpr (by omega)
        have h3 : (p.length == q.length) = true := by simpa using hl
        have HE : bothE p q = 0 := by simp [bothE, hp, hq, hl]
        rw [HE]
        clear HE hp hq hl
        go_enter Try.func56, Try.ntmps56
        go_wp2_with (first
          | (go_at_call 37; refine HP.out.mono ?_; rintro e w1 ⟨rfl, hB⟩; have HQ1 := Aside0.mk (HQ.out w1 hB); clear HP)
          | (go_at_call 37; refine HQ1.out.mono ?_; rintro e w2 ⟨rfl, hB2⟩))
        go_ret
        exact ⟨rfl, hB.trans (hB2.mono hB.size)⟩
      · have h1 : ((p.length : Int) != (q.length : Int)) = true := bne_iff_ne.mpr (by omega)
        have h3 : (p.length == q.length) = false := by simpa using hl
        have HE : bothE p q = 2 := by simp [bothE, hp, hq, hl]
        rw [HE]
        clear HE hp hq hl
        go_enter Try.func56, Try.ntmps56
        go_wp2_with (first
          | (go_at_call 37; refine HP.out.mono ?_; rintro e w1 ⟨rfl, hB⟩; have HQ1 := Aside0.mk (HQ.out w1 hB); clear HP)
          | (go_at_call 37; refine HQ1.out.mono ?_; rintro e w2 ⟨rfl, hB2⟩))
        go_ret
        exact ⟨rfl, hB.trans (hB2.mono hB.size)⟩
    · rw [decide_eq_false hq] at HQ
      have HE : bothE p q = 60 := by simp [bothE, hq]
      rw [HE]
      clear HE hp hq
      go_enter Try.func56, Try.ntmps56
      go_wp2_with (first
          | (go_at_call 37; refine HP.out.mono ?_; rintro e w1 ⟨rfl, hB⟩; have HQ1 := Aside0.mk (HQ.out w1 hB); clear HP)
          | (go_at_call 37; refine HQ1.out.mono ?_; rintro e w2 ⟨rfl, hB2⟩))
      go_ret
      exact ⟨rfl, hB.trans (hB2.mono hB.size)⟩
  · rw [decide_eq_false hp] at HP
    have HE : bothE p q = 60 := by simp [bothE, hp]
    rw [HE]
    clear HE hp HQ
    go_enter Try.func56, Try.ntmps56
    go_wp2_with (go_at_call 37; refine HP.out.mono ?_; rintro e w1 ⟨rfl, hB⟩)
    go_ret
    exact ⟨rfl, hB⟩

set_option maxRecDepth 100000 in
set_option maxHeartbeats 1000000 in
theorem bad_walk (x : Int) (B : Nat) (A : Option Addr) (n c : Nat) (w : World) (hc : w.cell? ⟨B, 0, none⟩ = some (.slice A n c)) (hn : n ≤ 9223372036854775807) :
    Calls Try.prog 68 #[.int .i64 x, .pointer (some ⟨B, 0, none⟩)] w fun e w' => e = .returned (.bool (badB n x)) ∧ Below w.heap.size w w' := by
  by_cases hx : x < 0
  · have h1 : decide (x < 0) = true := decide_eq_true hx
    go_enter Try.func68, Try.ntmps68
    go_wp2
    go_ret
    exact ⟨by simp [badB, h1], Below.refl _ _⟩
  · have h1 : decide (x < 0) = false := decide_eq_false hx
    go_enter Try.func68, Try.ntmps68
    go_wp2
    go_ret
    exact ⟨by simp [badB, h1], Below.refl _ _⟩

theorem cell_new (w : World) (v : Value) (t : TypeId) : (w.alloc (.cells #[v] t)).cell? ⟨w.heap.size, 0, none⟩ = some v := by
  unfold World.cell?
  rw [heap_alloc_last]
  rfl
theorem cell_old {w : World} (o : Obj) {b i : Nat} (h : b < w.heap.size) : (w.alloc o).cell? ⟨b, i, none⟩ = w.cell? ⟨b, i, none⟩ := World.cell?_of_block (w := w) (Below.heap_alloc w o b h)
theorem alloc_lt {w w1 : World} {o : Obj} {B : Nat} (h : Below B (w.alloc o) w1) : w.heap.size < w1.heap.size := by
  have := h.size
  rw [World.size_alloc] at this
  omega
theorem enters68 : ∀ args w, (callFunc 68 args).run Try.prog w = .ok (.enter 68 args) w := enters_of Try.func68 (by kernel_rfl) rfl
theorem enters69 : ∀ args w, (callFunc 69 args).run Try.prog w = .ok (.enter 69 args) w := enters_of Try.func69 (by kernel_rfl) rfl

set_option maxRecDepth 100000 in
set_option maxHeartbeats 1000000 in
theorem bads_walk (A1 : Option Addr) (l : List Int) (c1 B B2 : Nat) (A : Option Addr) (n c : Nat) (w : World) (hl : Kd.C (Kd.int .i64) w A1 l.length l) (hc : w.cell? ⟨B, 0, none⟩ = some (.slice A n c)) (hn : n ≤ 9223372036854775807)
    (hc2 : w.cell? ⟨B2, 0, none⟩ = some (.func (.func 68) #[] #[.pointer (some ⟨B, 0, none⟩)])) :
    Calls Try.prog 69 #[.slice A1 l.length c1, .pointer (some ⟨B2, 0, none⟩)] w fun e w' => e = .returned (.bool (badL n l)) ∧ Below w.heap.size w w' := by
  have hb := len_le hl
  have hB := World.block_lt_of_cell? w _ hc
  have HC := Aside0.mk (containsInts_walk A1 c1 l (badB n) 68 #[.pointer (some ⟨B, 0, none⟩)] w hl enters68 (fun W x _ hW => bad_walk x B A n c W ((hW.cell hB).trans hc) hn))
  clear hl hB
  by_cases hx : 64 < l.length
  · have h1 : decide ((64 : Int) < (l.length : Int)) = true := decide_eq_true (by omega)
    go_enter Try.func69, Try.ntmps69
    go_wp2
    go_ret
    exact ⟨by simp [badL, hx], Below.refl _ _⟩
  · have h1 : decide ((64 : Int) < (l.length : Int)) = false := decide_eq_false (by omega)
    have HX := Aside0.mk hx
    clear hx
    go_enter Try.func69, Try.ntmps69
    go_wp2_with (go_at_call 70; refine HC.out.mono ?_; rintro e w1 ⟨rfl, hB⟩)
    go_ret
    exact ⟨by simp [badL, HX.out], hB⟩

theorem wrong_call (A1 : Option Addr) (c1 : Nat) (next : List (List Int)) (B n c : Nat) (A : Option Addr) (w : World) (hr1 : Kd.C (Kd.slice 3 (Kd.int .i64)) w A1 next.length next) (hc : w.cell? ⟨B, 0, none⟩ = some (.slice A n c)) (hn : n ≤ 9223372036854775807) :
    Calls Try.prog 44 #[.slice A1 next.length c1, .func (.func 69) #[] #[.pointer (some ⟨w.heap.size, 0, none⟩)]] (w.alloc (.cells #[.func (.func 68) #[] #[.pointer (some ⟨B, 0, none⟩)]] 24)) fun e w' =>
      e = .returned (.bool (next.any (badL n))) ∧ Below w.heap.size w w' := by
  have hB : B < w.heap.size := World.block_lt_of_cell? w _ hc
  have hb : Below w.heap.size w (w.alloc (.cells #[.func (.func 68) #[] #[.pointer (some ⟨B, 0, none⟩)]] 24)) := (Below.refl _ _).alloc (Nat.le_refl _) _
  refine (containsRows_walk A1 c1 next (badL n) 69 #[.pointer (some ⟨w.heap.size, 0, none⟩)] _ (Kd.C_below hr1 hb) enters69 ?_).mono ?_
  · intro W A' c' x _ hW hC _
    refine bads_walk A' x c' B w.heap.size A n c W hC ?_ hn ?_
    · rw [hW.cell (p := ⟨B, 0, none⟩) (by rw [World.size_alloc]; show B < _; omega), cell_old _ hB]
      exact hc
    · rw [hW.cell (p := ⟨w.heap.size, 0, none⟩) (by rw [World.size_alloc]; show w.heap.size < _; omega)]
      exact cell_new w _ 24
  · rintro e w' ⟨rfl, h⟩
    exact ⟨rfl, hb.trans (h.mono (by rw [World.size_alloc]; omega))⟩

set_option maxRecDepth 100000 in
set_option maxHeartbeats 1000000 in
theorem wrong_walk (A0 : Option Addr) (c0 : Nat) (p : List Int) (A1 : Option Addr) (c1 : Nat) (next : List (List Int)) (w : World) (hr0 : Kd.C (Kd.int .i64) w A0 p.length p) (hr1 : Kd.C (Kd.slice 3 (Kd.int .i64)) w A1 next.length next) (hw0 : Wf p) :
    Calls Try.prog 53 #[.slice A0 p.length c0, .slice A1 next.length c1] w fun e w' => e = .returned (.int .i64 (wrongE p next)) ∧ Below w.heap.size w w' := by
  have hb := len_le hr0
  have hB0 : Below w.heap.size w (w.alloc (.cells #[.slice A0 p.length c0] 22)) := (Below.refl _ _).alloc (Nat.le_refl _) _
  have HP := Aside0.mk (right_walk A0 c0 p (w.alloc (.cells #[.slice A0 p.length c0] 22)) (Kd.C_below hr0 hB0) hw0)
  have HR1 := Aside0.mk hr1
  have HB0 := Aside0.mk hB0
  clear hr0 hr1 hw0 hB0
  by_cases hp : rightP p
  · rw [decide_eq_true hp] at HP
    by_cases hl : next.length = p.length
    · have h1 : ((next.length : Int) != (p.length : Int)) = false := bne_eq_false_iff_eq.mpr (by omega)
      have h3 : (next.length == p.length) = true := by simpa using hl
      have HE : wrongE p next = if next.any (badL p.length) then 61 else 0 := by
        simp only [wrongE, hp, not_true_eq_false, if_false, nextP_iff, hl, true_and]
        cases next.any (badL p.length) <;> simp
      rw [HE]
      clear HE hp hl
      cases hany : next.any (badL p.length) with
      | true =>
        have HA := Aside0.mk hany
        clear hany
        go_enter Try.func53, Try.ntmps53
        go_wp2_with (first
          | (go_at_call 37; refine HP.out.mono ?_; rintro e w1 ⟨rfl, hB⟩; have hcw := (hB.cell (p := ⟨w.heap.size, 0, none⟩) (by simp)).trans (cell_new w _ 22); have hzw := alloc_lt hB; have HB1 := Aside0.mk (HB0.out.trans (hB.mono (by simp))); have h0 := wrong_call A1 c1 next w.heap.size p.length c0 A0 w1 (Kd.C_below HR1.out HB1.out) hcw hb; rw [HA.out] at h0; have HC := Aside0.mk h0; clear hB h0)
          | (go_at_call 44; refine HC.out.mono ?_; rintro e w2 ⟨rfl, hB2⟩; have HB2 := Aside0.mk (HB1.out.trans (hB2.mono (Nat.le_of_lt hzw))); clear hB2))
        go_ret
        exact ⟨rfl, HB2.out⟩
      | false =>
        have HA := Aside0.mk hany
        clear hany
        go_enter Try.func53, Try.ntmps53
        go_wp2_with (first
          | (go_at_call 37; refine HP.out.mono ?_; rintro e w1 ⟨rfl, hB⟩; have hcw := (hB.cell (p := ⟨w.heap.size, 0, none⟩) (by simp)).trans (cell_new w _ 22); have hzw := alloc_lt hB; have HB1 := Aside0.mk (HB0.out.trans (hB.mono (by simp))); have h0 := wrong_call A1 c1 next w.heap.size p.length c0 A0 w1 (Kd.C_below HR1.out HB1.out) hcw hb; rw [HA.out] at h0; have HC := Aside0.mk h0; clear hB h0)
          | (go_at_call 44; refine HC.out.mono ?_; rintro e w2 ⟨rfl, hB2⟩; have HB2 := Aside0.mk (HB1.out.trans (hB2.mono (Nat.le_of_lt hzw))); clear hB2))
        go_ret
        exact ⟨rfl, HB2.out⟩
    · have h1 : ((next.length : Int) != (p.length : Int)) = true := bne_iff_ne.mpr (by omega)
      have h3 : (next.length == p.length) = false := by simpa using hl
      have HE : wrongE p next = 61 := by simp [wrongE, hp, nextP, hl]
      rw [HE]
      clear HE hp hl
      go_enter Try.func53, Try.ntmps53
      go_wp2_with (go_at_call 37; refine HP.out.mono ?_; rintro e w1 ⟨rfl, hB⟩; have hcw := (hB.cell (p := ⟨w.heap.size, 0, none⟩) (by simp)).trans (cell_new w _ 22); have hzw := alloc_lt hB; have HB1 := Aside0.mk (HB0.out.trans (hB.mono (by simp))); clear hB)
      go_ret
      exact ⟨rfl, HB1.out.alloc (Nat.le_of_lt hzw) _⟩
  · rw [decide_eq_false hp] at HP
    have HE : wrongE p next = 60 := by simp [wrongE, hp]
    rw [HE]
    clear HE hp
    go_enter Try.func53, Try.ntmps53
    go_wp2_with (go_at_call 37; refine HP.out.mono ?_; rintro e w1 ⟨rfl, hB⟩; have HB1 := Aside0.mk (HB0.out.trans (hB.mono (by simp))); clear hB)
    go_ret
    exact ⟨rfl, HB1.out⟩
end Go.Proofs.Ytboofecfmhbacaa

/- The walks of package blocks' Meet and Finer. -/
namespace Go.Proofs.Ytboofecfmhbacaa
open Go.RowKit Go.WideMaps Go.Maps Go.Proofs.YtboofecfmhbacaaW.PrintWords Go.Proofs.YtboofecfmhbacaaW.PrintLast Go.Proofs.YtboofecfmhbacaaW.PrintMore
set_option linter.unusedVariables false
set_option linter.unusedSimpArgs false

theorem info78 : (Try.prog.info? 78).map (fun i => (i.zero, i.size, i.bytes)) = some (some (.agg (cellsOf [0, 0])), 2, 16) := by kernel_rfl
theorem bothE_wrong {p q : List Int} (h : ¬ (rightP p ∧ rightP q ∧ p.length = q.length)) : bothE p q ≠ 0 := by
  unfold bothE
  by_cases hp : rightP p <;> by_cases hq : rightP q <;> simp_all
theorem bothE_ok {p q : List Int} (hp : rightP p) (hq : rightP q) (hl : p.length = q.length) : bothE p q = 0 := by simp [bothE, hp, hq, hl]

theorem mapM_some {α β : Type} {f : α → Option β} : ∀ (l : List α), (∀ i ∈ l, ∃ y, f i = some y) → ∃ ys, l.mapM f = some ys
  | [], _ => ⟨[], rfl⟩
  | a :: r, h => by
    obtain ⟨y, hy⟩ := h a List.mem_cons_self
    obtain ⟨ys, hys⟩ := mapM_some r (fun i hi => h i (List.mem_cons_of_mem _ hi))
    exact ⟨y :: ys, by simp [List.mapM_cons, hy, hys]⟩
/-- An array of integers is a key. -/
theorem arr_key {P : Program} {t e : TypeId} {n : Nat} (ht : P.underlying t = some (.array n e)) (he : P.underlying e = some (.int .i64)) (hk : P.keyType t = true) (hc : P.cellsOf t = n) (hce : P.cellsOf e = 1) (hs : 0 < P.types.size)
    {x : List Int} (hx : x.length = n) (hw : Wf x) : ∃ q, keyOf P t (encArr x) = some q := by
  obtain ⟨d, hd⟩ : ∃ d, P.types.size = d + 1 := ⟨P.types.size - 1, by omega⟩
  have h1 : ∃ ls, P.keyLits (P.types.size + 1) t (cellsOf x).toList = some ls := by
    have h2 : ∃ ys, (List.range n).mapM (fun i => P.keyLits P.types.size e (((cellsOf x).toList.drop (i * P.cellsOf e)).take (P.cellsOf e))) = some ys := by
      refine mapM_some _ fun i hi => ?_
      have hi' : i < x.length := by rw [hx]; exact List.mem_range.1 hi
      have hl : ((cellsOf x).toList.drop (i * P.cellsOf e)).take (P.cellsOf e) = [.int .i64 x[i]] := by
        rw [hce, Nat.mul_one, cellsOf, List.toList_toArray, ← List.map_drop, ← List.map_take, List.drop_eq_getElem_cons hi']
        rfl
      rw [hl, hd]
      exact ⟨[.int .i64 x[i]], by simp [Program.keyLits, he, hw _ (List.getElem_mem hi')]⟩
    obtain ⟨ys, hys⟩ := h2
    refine ⟨ys.flatten, ?_⟩
    simp only [Program.keyLits, ht]
    rw [if_pos (by rw [hc]; simp [cellsOf, hx]), hys]
    rfl
  obtain ⟨ls, hls⟩ := h1
  refine ⟨.string (keyBytes ls), ?_⟩
  unfold keyOf
  rw [ht]
  have hf : (encArr x).formed P t = true := by simp [encArr, Value.formed, ht, hc, cellsOf, hx]
  simp only [hk, hf, Bool.and_self, if_true]
  show (P.keyLits (P.types.size + 1) t (cellsOf x).toList).map _ = _
  rw [hls]
  rfl
theorem types_pos : 0 < Try.prog.types.size := of_decide_eq_true (by kernel_rfl)
theorem key78 : Try.prog.keyType 78 = true := by kernel_rfl
theorem cells78 : Try.prog.cellsOf 78 = 2 := by kernel_rfl
theorem cells3 : Try.prog.cellsOf 3 = 1 := by kernel_rfl
theorem zip2_keys {p q : List Int} (hp : rightP p) (hq : rightP q) : ∀ x ∈ zip2 p q, ∃ k, keyOf Try.prog 78 (encArr x) = some k := by
  intro x hx
  obtain ⟨i, hi, rfl⟩ := List.getElem_of_mem hx
  have hi1 : i < p.length ∧ i < q.length := by simp [zip2] at hi; omega
  rw [zip2_get p q i hi1.1 hi1.2]
  refine arr_key Try.underlying78 Try.underlying3 key78 cells78 cells3 types_pos rfl ?_
  intro y hy
  rcases List.mem_cons.1 hy with rfl | hy
  · exact hp.small.wf _ (List.getElem_mem _)
  · rw [List.mem_singleton.1 hy]
    exact hq.small.wf _ (List.getElem_mem _)
section
variable {P : Program} {ops : Array Oper} {rest : List Oper} {o : Oper} {a : Act} {Q : Exit → Act → World → Prop}
/-- out[k] = x, x an array, out a row of the call's own. -/
theorem wpList_put_arr {w0 W : World} (n base : Nat) (hN : o.dst = none) (hgd : o.guard = none) (t : TypeId) (p x : Operand) (ho : o.op = .store t p x) (e : TypeId) {g m cap o' : Nat} (k : Nat) (xs : List (List Int)) (x' : List Int) (X : Array Value) (ok : Nat → Prop)
    (haddr : a.eval p = .pointer (some ⟨g, o', none⟩)) (hoff : o' = k * n) (hx : a.eval x = .agg X) (hX : X = cellsOf x') (hl : x'.length = n) (ht : (P.info? t).map (·.size) = some n)
    (HO : (Karr n).R e W base ok (.slice (some ⟨g, 0, none⟩) m cap) xs) (hk : k < xs.length) (HB : Below base w0 W)
    (h : ∀ w1, (Karr n).R e w1 base ok (.slice (some ⟨g, 0, none⟩) m cap) (xs.set k x') → Below base w0 w1 → W.grownBy w1 (some g) → wpList P ops Q rest a w1) : wpList P ops Q (o :: rest) a W := by
  obtain ⟨hm, _, hC⟩ := R_len HO
  subst hm hX
  obtain ⟨ad, c, e0, hcl, hK, hc⟩ := Kd.C_get hC [] (k : Int) (by omega) (by omega)
  injection e0 with e0
  subst e0
  have h2 := hK.2
  have hlen : (cellsOf x').toList.length = n := by simp [cellsOf, hl]
  refine Kd.R_store (Karr n) base hN hgd t p x ho e (k : Int) 0 xs x' (.agg (cellsOf x')) (cellsOf x').toList c ok (fun _ => False) haddr (by rw [hoff]; simp [Karr]) hx rfl (by rw [hlen]; exact ht) (fun q hq => cellsOf_one x' q (by simpa using hq)) HO (by omega) (by omega) hcl ?_ (by rw [hlen, Nat.zero_add]; exact Nat.le_refl n) ⟨hl, ?_⟩ (fun _ hk => hk.elim) HB ?_
  · intro j u hj
    have h1 := hc j u hj
    rwa [show (⟨g, 0, none⟩ : Addr).add ((k : Int).toNat * (Karr n).sz + j) = ⟨g, (k : Int).toNat * (Karr n).sz + j, none⟩ by unfold Addr.add; split <;> simp_all] at h1
  · rw [List.take_zero, List.nil_append, Nat.zero_add, List.drop_of_length_le (by rw [hlen]; exact Nat.le_of_eq hcl), List.append_nil]
  · intro w1 h3 h4 h5
    rw [Int.toNat_natCast] at h3
    exact h w1 h3 h4 h5
end

set_option maxRecDepth 100000 in
set_option maxHeartbeats 1000000 in
/-- Meet, of what is no two partitions. -/
theorem meet_no (A0 : Option Addr) (c0 : Nat) (p : List Int) (A1 : Option Addr) (c1 : Nat) (q : List Int) (w : World) (hr0 : Kd.C (Kd.int .i64) w A0 p.length p) (hr1 : Kd.C (Kd.int .i64) w A1 q.length q) (hw0 : Wf p) (hw1 : Wf q) (hno : bothE p q ≠ 0) :
    Calls Try.prog 30 #[.slice A0 p.length c0, .slice A1 q.length c1] w fun e w' => e = .returned (.tuple #[.slice none 0 0, .int .i64 (bothE p q)]) ∧ Below w.heap.size w w' := by
  have HB := Aside0.mk (both_walk A0 c0 p A1 c1 q w hr0 hr1 hw0 hw1)
  generalize bothE p q = b at HB hno ⊢
  have h1 : (b == 0) = false := beq_eq_false_iff_ne.mpr hno
  have h2 : (b != 0) = true := bne_iff_ne.mpr hno
  clear hno hr0 hr1 hw0 hw1
  go_enter Try.func30, Try.ntmps30
  go_wp2_with (go_at_call 56; refine HB.out.mono ?_; rintro e w1 ⟨rfl, hB⟩)
  go_ret2
  exact ⟨rfl, hB⟩

set_option maxRecDepth 100000 in
set_option maxHeartbeats 1000000 in
theorem meet_yes (A0 : Option Addr) (c0 : Nat) (p : List Int) (A1 : Option Addr) (c1 : Nat) (q : List Int) (w : World) (hr0 : Kd.C (Kd.int .i64) w A0 p.length p) (hr1 : Kd.C (Kd.int .i64) w A1 q.length q) (hp : rightP p) (hq : rightP q) (hl : p.length = q.length) :
    Calls Try.prog 30 #[.slice A0 p.length c0, .slice A1 q.length c1] w fun e w' => ∃ v, e = .returned (.tuple #[v, .int .i64 0]) ∧ Kd.R (Kd.int .i64) 3 w' w.heap.size (fun _ => True) v (meetP p q) ∧ Below w.heap.size w w' := by
  have hb0 := both_walk A0 c0 p A1 c1 q w hr0 hr1 hp.small.wf hq.small.wf
  rw [bothE_ok hp hq hl] at hb0
  have HB := Aside0.mk hb0
  have HR0 := Aside0.mk hr0
  have HR1 := Aside0.mk hr1
  have hn : p.length ≤ 1024 := hp.1
  have HL := Aside0.mk hl
  have HP := Aside0.mk (And.intro hp hq)
  clear hb0 hr0 hr1 hp hq hl
  go_enter Try.func30, Try.ntmps30
  go_wp2_with (first
    | (go_at_call 56; refine HB.out.mono ?_; rintro e w1 ⟨rfl, hB⟩; have HB1 := Aside0.mk hB; clear hB)
    | (refine Kd.R_make (Karr 2) w.heap.size 78 rfl rfl 77 _ _ rfl (p.length : Int) rfl rfl Try.underlying77 _ 16 info78 rfl (by decide) (by decide) [0, 0] (ok := fun _ => True) (okp := fun _ => True) ⟨rfl, rfl⟩ (fun _ h => h) trivial (by omega) (by simp; omega) HB1.out HB1.out.size ?_; rintro v1 w2 hR hB2 _ _; rw [Int.toNat_natCast] at hR; obtain ⟨A2, c2, rfl⟩ := R_shape hR (List.length_replicate ..); have HR := Aside0.mk hR; have HB2 := Aside0.mk hB2; clear hR hB2))
  go_loopw [20] (fun i wr => ∃ k : Nat, i = .int .i64 k ∧ Aside0 (k ≤ p.length ∧ (Karr 2).R 78 wr w.heap.size (fun _ => True) (.slice A2 p.length c2) (filled (zip2 p q) k [0, 0]) ∧ Below w.heap.size w wr)) (fun i _ => p.length - (intOf i).toNat)
  case atStart => exact ⟨0, rfl, ⟨Nat.zero_le _, by rw [filled_zero, zip2_length _ _ HL.out]; exact HR.out, HB2.out⟩⟩
  case round =>
    obtain ⟨k, rfl, HI⟩ := hrel
    have hkl := HI.out.1
    by_cases hk : k < p.length
    · obtain ⟨ad0, e0, hx0⟩ := ints_at (Kd.C_below HR0.out HI.out.2.2) k hk
      have hkq : k < q.length := by rw [← HL.out]; exact hk
      obtain ⟨ad1, e1, hx1⟩ := ints_at (Kd.C_below HR1.out HI.out.2.2) k hkq
      obtain ⟨g, e2, _⟩ := R_addr HI.out.2.1 (by omega)
      subst e0 e1 e2
      go_wp2
      go_still_tail 12, (by kernel_rfl)
      change wpList _ _ _ _ _ wr.drew
      have HJ : Aside0 ((Karr 2).R 78 wr.drew w.heap.size (fun _ => True) (.slice (some ⟨g, 0, none⟩) p.length c2) (filled (zip2 p q) k [0, 0]) ∧ Below w.heap.size w wr.drew) := ⟨HI.out.2.1, HI.out.2.2.drew⟩
      clear HI hx0 hx1
      generalize wr.drew = wd at *
      have HF := Aside0.mk (show (filled (zip2 p q) k [0, 0]).set k [p[k], q[k]] = filled (zip2 p q) (k + 1) [0, 0] by
        rw [← zip2_get p q k hk hkq]
        exact filled_set _ _ _ _)
      have HK := Aside0.mk (show k < (filled (zip2 p q) k [0, 0]).length by rw [filled_length _ _ _ (by rw [zip2_length _ _ HL.out]; omega), zip2_length _ _ HL.out]; exact hk)
      go_wp2_with (refine wpList_put_arr 2 w.heap.size rfl rfl 78 (.tmp 34) (.tmp 33) rfl 78 k (filled (zip2 p q) k [0, 0]) [p[k], q[k]] _ (fun _ => True) rfl rfl rfl rfl rfl size78 HJ.out.1 HK.out HJ.out.2 ?_; rintro w3 hR3 hB3 _; rw [HF.out] at hR3; have HJ3 := Aside0.mk (And.intro hR3 hB3); clear hR3 hB3)
      go_roundw
      case rel => exact ⟨k + 1, by go_num, ⟨by omega, HJ3.out.1, HJ3.out.2⟩⟩
      case measure => simp [intOf]; omega
    · have hk' : k = p.length := by omega
      have hR2 := HI.out.2.1
      rw [hk', ← zip2_length p q HL.out, filled_end, zip2_length p q HL.out] at hR2
      obtain ⟨-, hc2, hC2⟩ := R_len hR2
      have HC := Aside0.mk (numbered_pair_walk A2 c2 (zip2 p q) wr (by rw [zip2_length p q HL.out]; exact hC2) (by rw [zip2_length p q HL.out]; omega) (zip2_keys HP.out.1 HP.out.2))
      rw [zip2_length p q HL.out] at HC
      clear hR2 hC2 hk'
      go_wp2_with (go_at_call 57; refine HC.out.mono ?_; rintro e w3 ⟨v, rfl, hR3, hB3⟩; have HD := Aside0.mk (And.intro (Kd.R_lower hR3 HI.out.2.2.size) (HI.out.2.2.trans (hB3.mono HI.out.2.2.size))); clear hR3 hB3)
      go_ret2
      exact ⟨_, rfl, HD.out.1, HD.out.2⟩

/-- Is each block of a partition in one of another one? -/
def finerP (p q : List Int) : Prop := meetP p q = p
instance (p q : List Int) : Decidable (finerP p q) := inferInstanceAs (Decidable (_ = _))
set_option maxRecDepth 100000 in
set_option maxHeartbeats 1000000 in
theorem finer_no (A0 : Option Addr) (c0 : Nat) (p : List Int) (A1 : Option Addr) (c1 : Nat) (q : List Int) (w : World) (hr0 : Kd.C (Kd.int .i64) w A0 p.length p) (hr1 : Kd.C (Kd.int .i64) w A1 q.length q) (hw0 : Wf p) (hw1 : Wf q) (hno : bothE p q ≠ 0) :
    Calls Try.prog 32 #[.slice A0 p.length c0, .slice A1 q.length c1] w fun e w' => e = .returned (.tuple #[.bool false, .int .i64 (bothE p q)]) ∧ Below w.heap.size w w' := by
  have HM := Aside0.mk (meet_no A0 c0 p A1 c1 q w hr0 hr1 hw0 hw1 hno)
  generalize bothE p q = b at HM hno ⊢
  have h1 : (b == 0) = false := beq_eq_false_iff_ne.mpr hno
  clear hno hr0 hr1 hw0 hw1
  go_enter Try.func32, Try.ntmps32
  go_wp2_with (go_at_call 30; refine HM.out.mono ?_; rintro e w1 ⟨rfl, hB⟩)
  go_ret2
  exact ⟨rfl, hB⟩
set_option maxRecDepth 100000 in
set_option maxHeartbeats 1000000 in
theorem finer_yes (A0 : Option Addr) (c0 : Nat) (p : List Int) (A1 : Option Addr) (c1 : Nat) (q : List Int) (w : World) (hr0 : Kd.C (Kd.int .i64) w A0 p.length p) (hr1 : Kd.C (Kd.int .i64) w A1 q.length q) (hp : rightP p) (hq : rightP q) (hl : p.length = q.length) :
    Calls Try.prog 32 #[.slice A0 p.length c0, .slice A1 q.length c1] w fun e w' => e = .returned (.tuple #[.bool (decide (finerP p q)), .int .i64 0]) ∧ Below w.heap.size w w' := by
  have HM := Aside0.mk (meet_yes A0 c0 p A1 c1 q w hr0 hr1 hp hq hl)
  have HR := Aside0.mk hr0
  clear hr0 hr1 hp hq hl
  go_enter Try.func32, Try.ntmps32
  go_wp2_with (first
    | (go_at_call 30; refine HM.out.mono ?_; rintro e w1 ⟨v, rfl, hR, hB⟩; obtain ⟨A2, c2, rfl, hc2, hC2⟩ := Kd.R_reads hR; have HE := Aside0.mk (equal_walk A2 c2 (meetP p q) A0 c0 p w1 hC2 (Kd.C_below HR.out hB)); clear hC2 hR)
    | (go_at_call 19; refine HE.out.mono ?_; rintro e w2 ⟨rfl, hB2⟩))
  go_ret2
  exact ⟨rfl, hB.trans (hB2.mono hB.size)⟩
end Go.Proofs.Ytboofecfmhbacaa

/- The walks of package blocks' Count and Members. -/
namespace Go.Proofs.Ytboofecfmhbacaa
open Go.RowKit Go.WideMaps Go.Maps Go.Proofs.YtboofecfmhbacaaW.PrintWords Go.Proofs.YtboofecfmhbacaaW.PrintLast Go.Proofs.YtboofecfmhbacaaW.PrintMore
set_option linter.unusedVariables false
set_option linter.unusedSimpArgs false

set_option maxRecDepth 100000 in
set_option maxHeartbeats 1000000 in
theorem countOf_walk (A0 : Option Addr) (c0 : Nat) (p : List Int) (w : World) (hr : Kd.C (Kd.int .i64) w A0 p.length p) (hw : Wf p) :
    Calls Try.prog 34 #[.slice A0 p.length c0] w fun e w' => e = .returned (.tuple #[.int .i64 (if rightP p then countP p else 0), .int .i64 (if rightP p then 0 else 60)]) ∧ Below w.heap.size w w' := by
  have HP := Aside0.mk (right_walk A0 c0 p w hr hw)
  by_cases hp : rightP p
  · rw [decide_eq_true hp] at HP
    rw [if_pos hp, if_pos hp]
    have HC := Aside0.mk (fun w1 (hB : Below w.heap.size w w1) => count_walk A0 c0 p w1 (Kd.C_below hr hB) hp.small)
    clear hp hr hw
    go_enter Try.func34, Try.ntmps34
    go_wp2_with (first
      | (go_at_call 37; refine HP.out.mono ?_; rintro e w1 ⟨rfl, hB⟩; have HC1 := Aside0.mk (HC.out w1 hB))
      | (go_at_call 55; refine HC1.out.mono ?_; rintro e w2 ⟨rfl, hB2⟩))
    go_ret2
    exact ⟨rfl, hB.trans (hB2.mono hB.size)⟩
  · rw [decide_eq_false hp] at HP
    rw [if_neg hp, if_neg hp]
    clear hp hr hw
    go_enter Try.func34, Try.ntmps34
    go_wp2_with (go_at_call 37; refine HP.out.mono ?_; rintro e w1 ⟨rfl, hB⟩)
    go_ret2
    exact ⟨rfl, hB⟩

/-- Lists of the call's own in a row of the call's own, each of which may be appended to. -/
structure Rows (w0 : World) (base : Nat) (W : World) (A : Option Addr) (n c : Nat) (vs : List Value) (ls : List (List Int)) : Prop where
  len : ls.length = n
  outer : W.ownsRow base 22 1 (.slice A n c) n vs
  inner : ∀ b (h : b < n) (h' : b < vs.length) (h'' : b < ls.length), W.ownsRow base 3 1 vs[b] ls[b].length (encs (Value.int .i64) ls[b])
  apart : ∀ a b (ha : a < vs.length) (hb : b < vs.length), a ≠ b → vs[a].ownBlock = none ∨ vs[a].ownBlock ≠ vs[b].ownBlock
  below : Below base w0 W

theorem info22 : (Try.prog.info? 22).map (fun i => (i.zero, i.size, i.bytes)) = some (some (.slice none 0 0), 1, 24) := by kernel_rfl

section
variable {w0 W : World} {base n c : Nat} {A : Option Addr} {vs : List Value} {ls : List (List Int)}
theorem Rows.vlen (h : Rows w0 base W A n c vs ls) : vs.length = n := by have := h.outer.1; omega
theorem Rows.made (w0 W : World) (base n : Nat) (hB : Below base w0 W) (hb : base ≤ W.heap.size) (hn : n ≤ 9223372036854775807) :
    Rows w0 base (W.alloc (.cells (madeCells #[.slice none 0 0] n) 22)) (some ⟨W.heap.size, 0, none⟩) n n (List.replicate n (.slice none 0 0)) (List.replicate n []) where
  len := by simp
  outer := by
    have := own_made_of (enc := fun _ : Unit => Value.slice none 0 0) (d := ()) W base 22 n hb hn
    simpa [encs] using this
  inner := by
    intro b h h' h''
    rw [List.getElem_replicate, List.getElem_replicate]
    exact World.ownsRow_nil _ _ _ _
  apart := by
    intro a b ha hb _
    rw [List.getElem_replicate]
    exact .inl rfl
  below := hB.alloc hb _
theorem Rows.addr (h : Rows w0 base W A n c vs ls) (hn : 0 < n) : ∃ g, A = some ⟨g, 0, none⟩ ∧ base ≤ g ∧ g < W.heap.size := by
  rcases h.outer.2 with ⟨h1, h2⟩ | ⟨g, cap, cur, h1, h2, h3, _⟩
  · injection h1 with h1 h3 _
    omega
  · injection h1 with h4 _ _
    exact ⟨g, h4, h2, (Array.getElem?_eq_some_iff.1 h3).1⟩
theorem Rows.cell {g : Nat} (h : Rows w0 base W (some ⟨g, 0, none⟩) n c vs ls) (b : Nat) (hb : b < n) : W.cell? ⟨g, b, none⟩ = some (vs[b]'(by rw [h.vlen]; exact hb)) ∧ W.frozen? ⟨g, b, none⟩ = false := by
  have hb' : b < vs.length := by rw [h.vlen]; exact hb
  constructor
  · have := h.outer.cells (g := g) rfl b vs[b] (by simp [hb'])
    rwa [add_plain] at this
  · rcases h.outer.2 with ⟨h1, _⟩ | ⟨g', cap, cur, h1, h2, h3, _⟩
    · cases h1
    · injection h1 with h4 _ _
      injection h4 with h4
      injection h4 with h4
      subst h4
      simp [World.frozen?, h3]
/-- out[b] = append(out[b], y). -/
theorem Rows.append {g : Nat} {w1 : World} {v1 : Value} {y : Int} (h : Rows w0 base W (some ⟨g, 0, none⟩) n c vs ls) (b : Nat) (hb : b < n) (hb1 : b < vs.length) (hb2 : b < ls.length)
    (ho : w1.ownsRow base 3 1 v1 (ls[b] ++ [y]).length (encs (Value.int .i64) (ls[b] ++ [y]))) (hB : Below base w0 w1) (hg : W.grownBy w1 vs[b].ownBlock) (hat : v1.ownBlock = vs[b].ownBlock ∨ ∃ k, v1.ownBlock = some k ∧ W.heap.size ≤ k) :
    (∃ v, w1.cell? ⟨g, b, none⟩ = some v) ∧ w1.frozen? ⟨g, b, none⟩ = false ∧ Rows w0 base (w1.setCell ⟨g, b, none⟩ v1) (some ⟨g, 0, none⟩) n c (vs.set b v1) (ls.set b (ls[b] ++ [y])) := by
  have hout : w1.ownsRow base 22 1 (.slice (some ⟨g, 0, none⟩) n c) n vs := by
    refine h.outer.kept hg ?_
    rcases own_type_ne h.outer (h.inner b hb hb1 hb2) (by decide) with h1 | h1
    · exact .inl h1
    · exact .inr h1
  have hin : ∀ a (ha : a < n) (ha' : a < vs.length) (ha'' : a < ls.length), a ≠ b → w1.ownsRow base 3 1 vs[a] ls[a].length (encs (Value.int .i64) ls[a]) := fun a ha ha' ha'' hne => (h.inner a ha ha' ha'').kept hg (h.apart a b ha' hb1 hne)
  have hR1 : Rows w0 base w1 (some ⟨g, 0, none⟩) n c vs (ls.set b []) → True := fun _ => trivial
  have hc : w1.cell? ⟨g, b, none⟩ = some vs[b] := by
    have := hout.cells (g := g) rfl b vs[b] (by simp [hb1])
    rwa [add_plain] at this
  have hf : w1.frozen? ⟨g, b, none⟩ = false := by
    rcases hout.2 with ⟨h1, _⟩ | ⟨g', cap, cur, h1, h2, h3, _⟩
    · cases h1
    · injection h1 with h4 _ _
      injection h4 with h4
      injection h4 with h4
      subst h4
      simp [World.frozen?, h3]
  have hst := hout.stored b v1
  have hgb : base ≤ g := own_base h.outer g rfl
  have hfar : ∀ {m : Nat} {v : Value} {xs : List Value}, w1.ownsRow base 3 1 v m xs → (w1.setCell ⟨g, b, none⟩ v1).ownsRow base 3 1 v m xs := by
    intro m v xs ho'
    refine ho'.kept hst.2 ?_
    rcases own_type_ne ho' hout (by decide) with h1 | h1
    · exact .inl h1
    · exact .inr h1
  refine ⟨⟨_, hc⟩, hf, ⟨by rw [List.length_set]; exact h.len, hst.1, ?_, ?_, hB.setCell hgb _⟩⟩
  · intro a ha ha' ha''
    by_cases e : a = b
    · subst e
      simp only [List.getElem_set_self]
      exact hfar ho
    · rw [List.getElem_set_ne (Ne.symm e), List.getElem_set_ne (Ne.symm e)]
      exact hfar (hin a ha (by simpa using ha') (by simpa using ha'') e)
  · have hlt : ∀ a (ha : a < vs.length), ∀ k, vs[a].ownBlock = some k → k < W.heap.size := by
      intro a ha k hk
      have ha2 : a < n := by rw [← h.vlen]; exact ha
      exact own_lt (h.inner a ha2 ha (by rw [h.len]; exact ha2)) k hk
    intro a d ha hd hne
    have ha' : a < vs.length := by simpa using ha
    have hd' : d < vs.length := by simpa using hd
    by_cases e1 : a = b
    · subst e1
      rw [List.getElem_set_self, List.getElem_set_ne (by omega)]
      rcases hat with hat | ⟨k, hk, hle⟩
      · rw [hat]
        exact h.apart a d ha' hd' hne
      · refine .inr fun e => ?_
        have := hlt d hd' k (by rw [← e, hk])
        omega
    · by_cases e2 : d = b
      · subst e2
        rw [List.getElem_set_ne (by omega), List.getElem_set_self]
        rcases hat with hat | ⟨k, hk, hle⟩
        · rw [hat]
          exact h.apart a d ha' hd' hne
        · refine .inr fun e => ?_
          have := hlt a ha' k (by rw [e, hk])
          omega
      · rw [List.getElem_set_ne (by omega), List.getElem_set_ne (by omega)]
        exact h.apart a d ha' hd' hne
/-- Handed back. -/
theorem Rows.done (h : Rows w0 base W A n c vs ls) : Kd.R (Kd.slice 3 (Kd.int .i64)) 22 W base (fun _ => True) (.slice A n c) ls := by
  refine ⟨fun _ _ => trivial, vs, by rw [h.len]; exact h.outer, by rw [h.vlen, h.len]; simp [Kd.slice], ?_⟩
  intro j p hj
  have hj1 : j < ls.length := (List.getElem?_eq_some_iff.1 hj).1
  have hj0 : j < n := by rw [← h.len]; exact hj1
  have hj2 : j < vs.length := by rw [h.vlen]; exact hj0
  have hp : p = ls[j] := by
    rw [List.getElem?_eq_getElem hj1] at hj
    exact (Option.some.inj hj).symm
  subst hp
  refine ⟨vs[j], ?_, ?_⟩
  · show (vs.drop (j * 1)).take 1 = [vs[j]]
    rw [Nat.mul_one, List.drop_eq_getElem_cons hj2]
    rfl
  · refine Kd.R_of_own (h.inner j hj0 hj2 hj1) fun k hk => ⟨trivial, fun e => ?_⟩
    rcases own_type_ne (h.inner j hj0 hj2 hj1) h.outer (by decide) with h1 | h1
    · rw [h1] at hk
      cases hk
    · exact h1 (hk.trans e)
end

set_option maxRecDepth 100000 in
set_option maxHeartbeats 1000000 in
theorem members_no (A0 : Option Addr) (c0 : Nat) (p : List Int) (w : World) (hr : Kd.C (Kd.int .i64) w A0 p.length p) (hw : Wf p) (hp : ¬ rightP p) :
    Calls Try.prog 36 #[.slice A0 p.length c0] w fun e w' => e = .returned (.tuple #[.slice none 0 0, .int .i64 60]) ∧ Below w.heap.size w w' := by
  have h0 := right_walk A0 c0 p w hr hw
  rw [decide_eq_false hp] at h0
  have HP := Aside0.mk h0
  clear hp hr hw h0
  go_enter Try.func36, Try.ntmps36
  go_wp2_with (go_at_call 37; refine HP.out.mono ?_; rintro e w1 ⟨rfl, hB⟩)
  go_ret2
  exact ⟨rfl, hB⟩

theorem rowsP_snoc (l : List Int) (n b : Nat) (hb : b < n) : (rowsP l n).set b (idxs l 0 (b : Int) ++ [(l.length : Int)]) = rowsP (l ++ [(b : Int)]) n := by
  apply List.ext_getElem
  · simp [rowsP]
  · intro j h1 h2
    have hj : j < n := by simpa [rowsP] using h2
    rw [rowsP_get _ _ _ hj, idxs_snoc, Nat.zero_add]
    by_cases e : j = b
    · subst e
      rw [List.getElem_set_self, if_pos rfl]
    · rw [List.getElem_set_ne (Ne.symm e), rowsP_get _ _ _ hj, if_neg (by omega)]
theorem rowsP_nil (n : Nat) : rowsP [] n = List.replicate n [] := by
  apply List.ext_getElem
  · simp [rowsP]
  · intro j h1 h2
    simp [rowsP, idxs]

set_option maxRecDepth 100000 in
set_option maxHeartbeats 2000000 in
theorem members_yes (A0 : Option Addr) (c0 : Nat) (p : List Int) (w : World) (hr : Kd.C (Kd.int .i64) w A0 p.length p) (hp : rightP p) :
    Calls Try.prog 36 #[.slice A0 p.length c0] w fun e w' => ∃ v, e = .returned (.tuple #[v, .int .i64 0]) ∧ Kd.R (Kd.slice 3 (Kd.int .i64)) 22 w' w.heap.size (fun _ => True) v (membersP p) ∧ Below w.heap.size w w' := by
  have h0 := right_walk A0 c0 p w hr hp.small.wf
  rw [decide_eq_true hp] at h0
  have HP := Aside0.mk h0
  have HR := Aside0.mk hr
  obtain ⟨n, hn⟩ : ∃ n : Nat, countP p = n := ⟨(countP p).toNat, by have := count_bounds hp; omega⟩
  have hn0 : n ≤ 1024 := by have := count_bounds hp; have := hp.1; omega
  have hn1 : p.length ≤ 1024 := hp.1
  have hm : membersP p = rowsP p n := by rw [membersP, hn]; rfl
  have HN := Aside0.mk hn
  have HX := Aside0.mk (show ∀ x ∈ p, 0 ≤ x ∧ x < n from fun x hx => ⟨(hp.bounds x hx).1, by rw [← hn]; exact lt_count x hx⟩)
  have HC := Aside0.mk (fun w1 (hB : Below w.heap.size w w1) => (show Calls Try.prog 55 #[.slice A0 p.length c0] w1 fun e w' => e = .returned (.int .i64 (n : Int)) ∧ Below w1.heap.size w1 w' by rw [← hn]; exact count_walk A0 c0 p w1 (Kd.C_below hr hB) hp.small))
  rw [hm]
  clear hp hr h0 hn hm
  have hmk := print_make_of 36 22 (.slice none 0 0) 24 Try.underlying36 info22 rfl (by decide) n (by omega)
  go_enter Try.func36, Try.ntmps36
  go_wp2_with (first
    | (go_at_call 37; refine HP.out.mono ?_; rintro e w1 ⟨rfl, hB⟩; have HC1 := Aside0.mk (HC.out w1 hB); have HB1 := Aside0.mk hB; clear hB)
    | (go_at_call 55; refine HC1.out.mono ?_; rintro e w2 ⟨rfl, hB2⟩; have HB2 := Aside0.mk (HB1.out.trans (hB2.mono HB1.out.size)); clear hB2))
  go_loopw [15] (fun i wr => ∃ (k : Nat) (vs : List Value), i = .int .i64 k ∧ Aside0 (k ≤ p.length ∧ Rows w w.heap.size wr (some ⟨w2.heap.size, 0, none⟩) n n vs (rowsP (p.take k) n))) (fun i _ => p.length - (intOf i).toNat)
  case atStart => exact ⟨0, _, rfl, ⟨Nat.zero_le _, by rw [List.take_zero, rowsP_nil]; exact Rows.made w w2 w.heap.size n HB2.out HB2.out.size (by omega)⟩⟩
  case round =>
    obtain ⟨k, vs, rfl, HI⟩ := hrel
    have hkl := HI.out.1
    by_cases hk : k < p.length
    · obtain ⟨ad0, e0, hx0⟩ := ints_at (Kd.C_below HR.out HI.out.2.below) k hk
      subst e0
      obtain ⟨b, hb⟩ : ∃ b : Nat, p[k] = b := ⟨p[k].toNat, by have := HX.out p[k] (List.getElem_mem hk); omega⟩
      have hbn : b < n := by have := HX.out p[k] (List.getElem_mem hk); omega
      rw [hb] at hx0
      have HBB := Aside0.mk hb
      clear hb
      obtain ⟨hc, hf⟩ := HI.out.2.cell b hbn
      have hb1 : b < vs.length := by rw [HI.out.2.vlen]; exact hbn
      have hb2 : b < (rowsP (p.take k) n).length := by rw [rowsP_length]; exact hbn
      have HO := Aside0.mk (HI.out.2.inner b hbn hb1 hb2)
      have hl8 := idxs_length (p.take k) 0 (b : Int)
      have HL8 := Aside0.mk (show ((rowsP (p.take k) n)[b].length + 1) * 8 ≤ 140737488355328 by rw [rowsP_get _ _ _ hbn]; simp at hl8; omega)
      have HS := Aside0.mk (show (rowsP (p.take k) n).set b ((rowsP (p.take k) n)[b] ++ [(k : Int)]) = rowsP (p.take (k + 1)) n by
        have h1 := rowsP_snoc (p.take k) n b hbn
        rw [show (p.take k).length = k by simp; omega] at h1
        rw [rowsP_get _ _ _ hbn, h1, Num.take_succ p k hk, HBB.out])
      clear hl8
      go_wp2_with (at_builtin; refine print_append_of (w0 := w) (W := wr) (Value.int .i64) w.heap.size rfl (.tmp 25) (.tmp 27) 22 3 (.int .i64 0) 8 rfl Try.underlying22 info3 rfl (by decide) vs[b] (rowsP (p.take k) n)[b] (k : Int) rfl rfl rfl HO.out HI.out.2.below HI.out.2.below.size HL8.out ?_; rintro v1 w3 hown hB3 hg hat; obtain ⟨⟨v9, hc9⟩, hf9, hrows⟩ := HI.out.2.append b hbn hb1 hb2 hown hB3 hg hat; rw [HS.out] at hrows; obtain ⟨g1, cap1, rfl, -, -⟩ := hown.form (by simp); simp only [List.length_append, List.length_cons, List.length_nil, Nat.zero_add] at hrows; have HJ := Aside0.mk hrows; clear hown hB3 hg hat hrows hc hf)
      go_roundw
      case rel => exact ⟨k + 1, _, by go_num, ⟨by omega, HJ.out⟩⟩
      case measure => simp [intOf]; omega
    · have hk' : k = p.length := by omega
      have HD := Aside0.mk (show Kd.R (Kd.slice 3 (Kd.int .i64)) 22 wr w.heap.size (fun _ => True) (.slice (some ⟨w2.heap.size, 0, none⟩) n n) (rowsP p n) by have h := HI.out.2.done; rwa [hk', List.take_length] at h)
      clear hk'
      go_wp2
      go_ret2
      exact ⟨_, rfl, HD.out, HI.out.2.below⟩
end Go.Proofs.Ytboofecfmhbacaa

/- The walk of package blocks' refine. -/
namespace Go.Proofs.Ytboofecfmhbacaa
open Go.RowKit Go.WideMaps Go.Maps Go.Proofs.YtboofecfmhbacaaW.PrintWords Go.Proofs.YtboofecfmhbacaaW.PrintLast Go.Proofs.YtboofecfmhbacaaW.PrintMore
set_option linter.unusedVariables false
set_option linter.unusedSimpArgs false

theorem info93 : (Try.prog.info? 93).map (fun i => (i.zero, i.size, i.bytes)) = some (some (.agg (cellsOf zeros66)), 66, 528) := by kernel_rfl

/-- out[k][j] = y, the elements of out arrays: what is there, and what comes of it. -/
theorem arr_cell {W : World} {n e base m cap g : Nat} {ok : Nat → Prop} {xs : List (List Int)} (h : (Karr n).R e W base ok (.slice (some ⟨g, 0, none⟩) m cap) xs) (k j : Nat) (hk : k < xs.length) (hj : j < n) :
    (∃ v, W.cell? ⟨g, k * n + j, none⟩ = some v) ∧ W.frozen? ⟨g, k * n + j, none⟩ = false ∧ ∀ y : Int, (Karr n).R e (W.setCell ⟨g, k * n + j, none⟩ (.int .i64 y)) base ok (.slice (some ⟨g, 0, none⟩) m cap) (xs.set k (xs[k].set j y)) ∧ base ≤ g := by
  obtain ⟨hm, _, hC⟩ := R_len h
  subst hm
  obtain ⟨ad, c, e0, hcl, hK, hc⟩ := Kd.C_get hC [] (k : Int) (by omega) (by omega)
  injection e0 with e0
  subst e0
  have hxe : xs.getD (k : Int).toNat [] = xs[k] := by simp [List.getD_eq_getElem?_getD, List.getElem?_eq_getElem hk]
  rw [hxe] at hK
  obtain ⟨hlen, hcs⟩ := hK
  have hcc : ∀ j u, c[j]? = some u → W.cell? ⟨g, (k : Int).toNat * (Karr n).sz + j, none⟩ = some u := by
    intro j u hu
    have h1 := hc j u hu
    rwa [show (⟨g, 0, none⟩ : Addr).add ((k : Int).toNat * (Karr n).sz + j) = ⟨g, (k : Int).toNat * (Karr n).sz + j, none⟩ by unfold Addr.add; split <;> simp_all] at h1
  have hjc : j < c.length := by rw [hcl]; exact hj
  refine ⟨⟨c[j], hcc j _ (List.getElem?_eq_getElem hjc)⟩, ?_, fun y => ⟨?_, Kd.R_base h g rfl⟩⟩
  · obtain ⟨inner, ho⟩ := Kd.R_own h
    rcases ho.2 with ⟨h1, _⟩ | ⟨g', cap', cur, h1, _, h3, _⟩
    · cases h1
    · injection h1 with h4 _ _
      injection h4 with h4
      injection h4 with h4
      subst h4
      simp [World.frozen?, h3]
  · have hsz : (Karr n).sz = n := rfl
    have h1 := Kd.R_seg (okp := fun _ => False) h (k : Int) (by omega) (by omega) hcl hcc (seg := [.int .i64 y]) (j := j) (by rw [hsz]; simp; omega) (x' := xs[k].set j y) ⟨by simpa using hlen, ?_⟩ (fun _ hk => hk.elim)
    · exact h1.1
    · rw [hcs]
      simp only [cellsOf, List.toList_toArray, List.map_set, List.length_singleton]
      rw [List.set_eq_take_append_cons_drop, if_pos (by simpa [hlen] using hj)]
      simp

theorem key93 : Try.prog.keyType 93 = true := by kernel_rfl
theorem cells93 : Try.prog.cellsOf 93 = 66 := by kernel_rfl
theorem small_getD {p : List Int} (h : Small p) (i : Nat) : (Lit.int .i64 (p.getD i 0)).wf = true := by
  rw [List.getD_eq_getElem?_getD]
  by_cases hi : i < p.length
  · rw [List.getElem?_eq_getElem hi]
    exact h.wf _ (List.getElem_mem hi)
  · rw [List.getElem?_eq_none (by omega)]
    decide
theorem words_keys {p : List Int} {next : List (List Int)} (hp : Small p) (hn : nextP p.length next) : ∀ x ∈ wordsOf p next, ∃ q, keyOf Try.prog 93 (encArr x) = some q := by
  intro x hx
  obtain ⟨i, hi, rfl⟩ := List.getElem_of_mem hx
  rw [wordsOf_length] at hi
  rw [wordsOf_get p next i hi]
  have h64 := (hn.2 _ (List.getElem_mem hi)).1
  refine arr_key Try.underlying93 Try.underlying3 key93 cells93 cells3 types_pos (wordOf_length p i next[i] _ (Nat.le_refl _) h64) ?_
  intro y hy
  unfold wordOf at hy
  rcases List.mem_append.1 hy with hy | hy
  · rcases List.mem_cons.1 hy with rfl | hy
    · exact small_getD hp i
    · rcases List.mem_cons.1 hy with rfl | hy
      · exact WalkArith.wf_i64 (by omega)
      · obtain ⟨z, _, rfl⟩ := List.mem_map.1 hy
        exact small_getD hp _
  · rw [List.eq_of_mem_replicate hy]
    decide

set_option maxRecDepth 100000 in
set_option maxHeartbeats 4000000 in
theorem refine_walk (A0 : Option Addr) (c0 : Nat) (p : List Int) (A1 : Option Addr) (c1 : Nat) (next : List (List Int)) (w : World) (hr0 : Kd.C (Kd.int .i64) w A0 p.length p) (hr1 : Kd.C (Kd.slice 3 (Kd.int .i64)) w A1 next.length next) (hp : Small p) (hn : nextP p.length next) (hp1 : p.length ≤ 1024) :
    Calls Try.prog 54 #[.slice A0 p.length c0, .slice A1 next.length c1] w fun e w' => ∃ v, e = .returned v ∧ Kd.R (Kd.int .i64) 3 w' w.heap.size (fun _ => True) v (refineP p next) ∧ Below w.heap.size w w' := by
  have HR0 := Aside0.mk hr0
  have HR1 := Aside0.mk hr1
  have HS := Aside0.mk hp
  have HN := Aside0.mk hn
  have HL := Aside0.mk hn.1
  have HB0 := Aside0.mk (Below.refl w.heap.size w)
  clear hr0 hr1 hp hn
  go_enter Try.func54, Try.ntmps54
  go_wp2_with (refine Kd.R_make (Karr 66) w.heap.size 93 rfl rfl 91 _ _ rfl (p.length : Int) rfl rfl Try.underlying91 _ 528 info93 (by rw [show (Value.agg (cellsOf zeros66)).cells = cellsOf zeros66 from rfl, cellsOf_size, zeros66_length]; rfl) (by decide) (by decide) zeros66 (ok := fun _ => True) (okp := fun _ => True) ⟨zeros66_length, rfl⟩ (fun _ h => h) trivial (by omega) (by simp; omega) HB0.out (Nat.le_refl _) ?_; rintro v1 w2 hR hB2 _ _; rw [Int.toNat_natCast] at hR; obtain ⟨A2, c2, rfl⟩ := R_shape hR (List.length_replicate ..); have HR := Aside0.mk hR; have HB2 := Aside0.mk hB2; clear hR hB2)
  go_loopw [15] (fun i wr => ∃ k : Nat, i = .int .i64 k ∧ Aside0 (k ≤ next.length ∧ (Karr 66).R 93 wr w.heap.size (fun _ => True) (.slice A2 p.length c2) (filled (wordsOf p next) k zeros66) ∧ Below w.heap.size w wr)) (fun i _ => next.length - (intOf i).toNat)
  case atStart => exact ⟨0, rfl, ⟨Nat.zero_le _, by rw [filled_zero, wordsOf_length, HL.out]; exact HR.out, HB2.out⟩⟩
  case round =>
    obtain ⟨k, rfl, HI⟩ := hrel
    have hkl := HI.out.1
    have hn1 : next.length ≤ 1024 := by rw [HL.out]; exact hp1
    by_cases hk : k < next.length
    · have hkp : k < p.length := by rw [← HL.out]; exact hk
      obtain ⟨ad0, e0, hx0⟩ := ints_at (Kd.C_below HR0.out HI.out.2.2) k hkp
      obtain ⟨ad1, B1, d1, e1, hx10, hd1, hD1⟩ := rows_at HR1.out k hk
      have hx1 := pw_cell_below HI.out.2.2 hx10
      clear hx10
      obtain ⟨g, e2, _⟩ := R_addr HI.out.2.1 (by omega)
      subst e0 e1 e2
      have hl64 : next[k].length ≤ 64 := (HN.out.2 _ (List.getElem_mem hk)).1
      have hfl : k < (filled (wordsOf p next) k zeros66).length := by rw [filled_length _ _ _ (by rw [wordsOf_length]; omega), wordsOf_length]; exact hk
      obtain ⟨⟨u0, hc0⟩, hf0, hset0⟩ := arr_cell HI.out.2.1 k 0 hfl (by decide)
      obtain ⟨⟨u1, hc1⟩, hf1, -⟩ := arr_cell HI.out.2.1 k 1 hfl (by decide)
      have HD1 := Aside0.mk hD1
      have HT := Aside0.mk (show (Karr 66).R 93 ((wr.setCell ⟨g, k * 66, none⟩ (.int .i64 p[k])).setCell ⟨g, k * 66 + 1, none⟩ (.int .i64 (next[k].length : Int))).drew w.heap.size (fun _ => True) (.slice (some ⟨g, 0, none⟩) p.length c2) ((filled (wordsOf p next) k zeros66).set k (wordOf p k next[k] 0)) ∧ Below w.heap.size w ((wr.setCell ⟨g, k * 66, none⟩ (.int .i64 p[k])).setCell ⟨g, k * 66 + 1, none⟩ (.int .i64 (next[k].length : Int))).drew from by
        have h1 := hset0 p[k]
        rw [Nat.add_zero] at h1
        have h2 := ((arr_cell h1.1 k 1 (by rw [List.length_set]; exact hfl) (by decide)).2.2 (next[k].length : Int)).1
        rw [List.set_set, List.getElem_set_self, filled_at _ _ _ (by rw [wordsOf_length]; exact hk), show p[k] = p.getD k 0 by simp [List.getD_eq_getElem?_getD, List.getElem?_eq_getElem hkp]] at h2
        have h3 := wordOf_zero p k next[k]
        rw [show zeros66 = List.replicate 66 0 from rfl, h3, show p.getD k 0 = p[k] by simp [List.getD_eq_getElem?_getD, List.getElem?_eq_getElem hkp]] at h2
        exact ⟨h2, ((HI.out.2.2.setCell (p := ⟨g, k * 66, none⟩) h1.2 _).setCell (p := ⟨g, k * 66 + 1, none⟩) h1.2 _).drew⟩)
      have HFL := Aside0.mk hfl
      rw [Nat.add_zero] at hc0 hf0
      clear hD1 hset0
      go_wp2
      go_region
      go_wp2
      clear hx0 hx1 hc0 hc1 hf0 hf1
      obtain ⟨wo, hwo⟩ : ∃ wo : World, wo = wr := ⟨_, rfl⟩
      rw [← hwo] at HI HT ⊢
      clear hwo
      go_loopw [36] (fun i wq => ∃ j : Nat, i = .int .i64 j ∧ Aside0 (j ≤ next[k].length ∧ (Karr 66).R 93 wq w.heap.size (fun _ => True) (.slice (some ⟨g, 0, none⟩) p.length c2) ((filled (wordsOf p next) k zeros66).set k (wordOf p k next[k] j)) ∧ Below w.heap.size w wq)) (fun i _ => next[k].length - (intOf i).toNat)
      case atStart => exact ⟨0, rfl, ⟨Nat.zero_le _, HT.out.1, HT.out.2⟩⟩
      case round =>
        obtain ⟨j, rfl, HJ⟩ := hrel
        have hjl := HJ.out.1
        by_cases hj : j < next[k].length
        · have hxl := List.getElem_mem hj
          have hxb := (HN.out.2 _ (List.getElem_mem hk)).2 next[k][j] hxl
          obtain ⟨b, hb⟩ : ∃ b : Nat, next[k][j] = b := ⟨next[k][j].toNat, by omega⟩
          have hbp : b < p.length := by omega
          obtain ⟨adp, ep, hxp⟩ := ints_at (Kd.C_below HR0.out HJ.out.2.2) b hbp
          obtain rfl : ad0 = adp := by injection ep
          obtain ⟨adl, el, hxj⟩ := ints_at (Kd.C_below HD1.out HJ.out.2.2) j hj
          subst el
          rw [hb] at hxj
          have hfk : k < ((filled (wordsOf p next) k zeros66).set k (wordOf p k next[k] j)).length := by rw [List.length_set]; exact hfl
          obtain ⟨⟨u2, hc2⟩, hf2, hset2⟩ := arr_cell HJ.out.2.1 k (j + 2) hfk (by omega)
          have HJ2 := Aside0.mk (show (Karr 66).R 93 (wr.setCell ⟨g, k * 66 + (j + 2), none⟩ (.int .i64 p[b])).drew w.heap.size (fun _ => True) (.slice (some ⟨g, 0, none⟩) p.length c2) ((filled (wordsOf p next) k zeros66).set k (wordOf p k next[k] (j + 1))) ∧ Below w.heap.size w (wr.setCell ⟨g, k * 66 + (j + 2), none⟩ (.int .i64 p[b])).drew from by
            have h1 := hset2 p[b]
            have h2 := h1.1
            rw [List.set_set, List.getElem_set_self, show p[b] = p.getD next[k][j].toNat 0 by rw [hb]; simp [List.getD_eq_getElem?_getD, List.getElem?_eq_getElem hbp], wordOf_succ p k next[k] j hj hl64, show p.getD next[k][j].toNat 0 = p[b] by rw [hb]; simp [List.getD_eq_getElem?_getD, List.getElem?_eq_getElem hbp]] at h2
            exact ⟨h2, (HJ.out.2.2.setCell (p := ⟨g, k * 66 + (j + 2), none⟩) h1.2 _).drew⟩)
          clear hb hset2 hxb hxl hfk
          go_wp2
          go_region
          go_wp2
          go_roundw
          case rel => exact ⟨j + 1, by go_num, ⟨by omega, HJ2.out.1, HJ2.out.2⟩⟩
          case measure => simp [intOf]; omega
        · have hj' : j = next[k].length := by omega
          have HK := Aside0.mk (show (Karr 66).R 93 wr w.heap.size (fun _ => True) (.slice (some ⟨g, 0, none⟩) p.length c2) (filled (wordsOf p next) (k + 1) zeros66) from by
            have h := HJ.out.2.1
            rw [hj', ← wordsOf_get p next k hk, filled_set] at h
            exact h)
          clear hj'
          go_wp2
          go_roundw
          case rel => exact ⟨k + 1, by go_num, ⟨by omega, HK.out, HJ.out.2.2⟩⟩
          case measure => simp [intOf]; omega
    · have hk' : k = next.length := by omega
      have hR2 := HI.out.2.1
      rw [hk', ← wordsOf_length p next, filled_end] at hR2
      obtain ⟨hq, hc2, hC2⟩ := R_len hR2
      rw [hq] at hC2
      have hlw : (wordsOf p next).length = p.length := by rw [wordsOf_length, HL.out]
      have HC := Aside0.mk (numbered_word_walk A2 c2 (wordsOf p next) wr hC2 (by rw [hlw]; omega) (words_keys HS.out HN.out))
      rw [hlw] at HC
      clear hR2 hC2 hk' hq hlw
      go_wp2_with (go_at_call 71; refine HC.out.mono ?_; rintro e w3 ⟨v, rfl, hR3, hB3⟩; have HD := Aside0.mk (And.intro (Kd.R_lower hR3 HI.out.2.2.size) (HI.out.2.2.trans (hB3.mono HI.out.2.2.size))); clear hR3 hB3)
      go_ret
      exact ⟨_, rfl, HD.out.1, HD.out.2⟩
end Go.Proofs.Ytboofecfmhbacaa

/- Partitions as lists of numbers: what numbering says of equal keys. Plain Lean. -/
namespace Go.Proofs.Ytboofecfmhbacaa
open Num
section
variable {α β γ : Type} [DecidableEq α] [DecidableEq β]

theorem list_snoc {P : List γ → Prop} (h0 : P []) (h1 : ∀ l x, P l → P (l ++ [x])) : ∀ l, P l := by
  intro l
  have h : ∀ n, P (l.take n) := by
    intro n
    induction n with
    | zero => simpa using h0
    | succ n ih =>
      by_cases hn : n < l.length
      · rw [Num.take_succ l n hn]
        exact h1 _ _ ih
      · rw [List.take_of_length_le (by omega)]
        rw [List.take_of_length_le (by omega)] at ih
        exact ih
  have := h l.length
  rwa [List.take_length] at this
theorem spot_inj {m : List α} {x y : α} (hx : x ∈ m) (hy : y ∈ m) (h : spot m x = spot m y) : x = y := by
  unfold spot at h
  have h1 : m.idxOf x = m.idxOf y := by omega
  have h2 : m[m.idxOf x]'(List.idxOf_lt_length_of_mem hx) = x := List.getElem_idxOf _
  have h3 : m[m.idxOf y]'(List.idxOf_lt_length_of_mem hy) = y := List.getElem_idxOf _
  rw [← h2, ← h3]
  simp only [h1]
theorem num_snoc (a : List α) (x : α) : num (a ++ [x]) = num a ++ [if x ∈ a then spot (firsts a) x else ((firsts a).length : Int)] := by
  unfold num
  rw [List.map_append, List.map_singleton]
  have hpre : firsts a <+: firsts (a ++ [x]) := by
    have := take_prefix (a ++ [x]) a.length
    simpa using this
  congr 1
  · refine List.map_congr_left fun k hk => ?_
    unfold spot
    rw [idxOf_prefix hpre ((mem_firsts a k).2 hk)]
  · by_cases hx : x ∈ a
    · rw [if_pos hx]
      unfold spot
      rw [idxOf_prefix hpre ((mem_firsts a x).2 hx)]
    · rw [if_neg hx, firsts_snoc, if_neg (fun h => hx ((mem_firsts a x).1 h))]
      unfold spot
      rw [List.idxOf_append, if_neg (fun h => hx ((mem_firsts a x).1 h))]
      simp
theorem num_mem {a : List α} {x : α} (hx : x ∈ a) : spot (firsts a) x ∈ num a := List.mem_map.2 ⟨x, hx, rfl⟩

/-- Keys that are equal at the same places get the same numbers. -/
theorem num_congr (f : γ → α) (g : γ → β) (z : List γ) (h : ∀ a ∈ z, ∀ b ∈ z, f a = f b ↔ g a = g b) :
    num (z.map f) = num (z.map g) ∧ (firsts (z.map f)).length = (firsts (z.map g)).length ∧ ∀ a ∈ z, spot (firsts (z.map f)) (f a) = spot (firsts (z.map g)) (g a) := by
  refine list_snoc (P := fun z => (∀ a ∈ z, ∀ b ∈ z, f a = f b ↔ g a = g b) → num (z.map f) = num (z.map g) ∧ (firsts (z.map f)).length = (firsts (z.map g)).length ∧ ∀ a ∈ z, spot (firsts (z.map f)) (f a) = spot (firsts (z.map g)) (g a)) ?_ ?_ z h
  · intro _
    exact ⟨rfl, rfl, fun a ha => by cases ha⟩
  · intro l x ih h
    obtain ⟨h1, h2, h3⟩ := ih (fun a ha b hb => h a (List.mem_append_left _ ha) b (List.mem_append_left _ hb))
    have hmem : f x ∈ l.map f ↔ g x ∈ l.map g := by
      simp only [List.mem_map]
      constructor
      · rintro ⟨a, ha, e⟩
        exact ⟨a, ha, (h a (List.mem_append_left _ ha) x (by simp)).1 e⟩
      · rintro ⟨a, ha, e⟩
        exact ⟨a, ha, (h a (List.mem_append_left _ ha) x (by simp)).2 e⟩
    have hpre : ∀ {δ : Type} [DecidableEq δ] (k : γ → δ), firsts (l.map k) <+: firsts ((l ++ [x]).map k) := by
      intro δ _ k
      have := take_prefix ((l ++ [x]).map k) l.length
      simpa using this
    have hlast : (if f x ∈ l.map f then spot (firsts (l.map f)) (f x) else ((firsts (l.map f)).length : Int)) = (if g x ∈ l.map g then spot (firsts (l.map g)) (g x) else ((firsts (l.map g)).length : Int)) := by
      by_cases hx : f x ∈ l.map f
      · rw [if_pos hx, if_pos (hmem.1 hx)]
        obtain ⟨a, ha, e⟩ := List.mem_map.1 hx
        have e2 := (h a (List.mem_append_left _ ha) x (by simp)).1 e
        rw [← e, ← e2]
        exact h3 a ha
      · rw [if_neg hx, if_neg (fun h => hx (hmem.2 h)), h2]
    refine ⟨?_, ?_, ?_⟩
    · rw [List.map_append, List.map_append, List.map_singleton, List.map_singleton, num_snoc, num_snoc, h1, hlast]
    · rw [List.map_append, List.map_append, List.map_singleton, List.map_singleton, firsts_snoc, firsts_snoc]
      by_cases hx : f x ∈ l.map f
      · rw [if_pos ((mem_firsts _ _).2 hx), if_pos ((mem_firsts _ _).2 (hmem.1 hx)), h2]
      · rw [if_neg (fun h => hx ((mem_firsts _ _).1 h)), if_neg (fun h => hx (hmem.2 ((mem_firsts _ _).1 h)))]
        simp [h2]
    · intro a ha
      rcases List.mem_append.1 ha with ha | ha
      · have hf : f a ∈ firsts (l.map f) := (mem_firsts _ _).2 (List.mem_map.2 ⟨a, ha, rfl⟩)
        have hg : g a ∈ firsts (l.map g) := (mem_firsts _ _).2 (List.mem_map.2 ⟨a, ha, rfl⟩)
        have h4 := h3 a ha
        unfold spot at h4 ⊢
        rw [idxOf_prefix (hpre f) hf, idxOf_prefix (hpre g) hg]
        exact h4
      · obtain rfl := List.mem_singleton.1 ha
        have key : ∀ {δ : Type} [DecidableEq δ] (k : γ → δ), spot (firsts ((l ++ [a]).map k)) (k a) = if k a ∈ l.map k then spot (firsts (l.map k)) (k a) else ((firsts (l.map k)).length : Int) := by
          intro δ _ k
          by_cases hx : k a ∈ l.map k
          · rw [if_pos hx]
            unfold spot
            rw [idxOf_prefix (hpre k) ((mem_firsts _ _).2 hx)]
          · rw [if_neg hx, List.map_append, List.map_singleton, firsts_snoc, if_neg (fun h => hx ((mem_firsts _ _).1 h))]
            unfold spot
            rw [List.idxOf_append, if_neg (fun h => hx ((mem_firsts _ _).1 h))]
            simp
        rw [key f, key g]
        exact hlast
/-- Keys that part more have no fewer numbers. -/
theorem firsts_le (f : γ → α) (g : γ → β) (z : List γ) (h : ∀ a ∈ z, ∀ b ∈ z, f a = f b → g a = g b) : (firsts (z.map g)).length ≤ (firsts (z.map f)).length := by
  refine list_snoc (P := fun z => (∀ a ∈ z, ∀ b ∈ z, f a = f b → g a = g b) → (firsts (z.map g)).length ≤ (firsts (z.map f)).length) ?_ ?_ z h
  · intro _
    exact Nat.le_refl _
  · intro l x ih h
    have h1 := ih (fun a ha b hb => h a (List.mem_append_left _ ha) b (List.mem_append_left _ hb))
    rw [List.map_append, List.map_append, List.map_singleton, List.map_singleton, firsts_snoc, firsts_snoc]
    by_cases hx : f x ∈ l.map f
    · obtain ⟨a, ha, e⟩ := List.mem_map.1 hx
      have e2 := h a (List.mem_append_left _ ha) x (by simp) e
      rw [if_pos ((mem_firsts _ _).2 hx), if_pos ((mem_firsts _ _).2 (List.mem_map.2 ⟨a, ha, e2⟩))]
      exact h1
    · rw [if_neg (fun h => hx ((mem_firsts _ _).1 h))]
      split <;> simp <;> omega
/-- .. and if there are as many, the same ones. -/
theorem firsts_eq (f : γ → α) (g : γ → β) (z : List γ) (h : ∀ a ∈ z, ∀ b ∈ z, f a = f b → g a = g b) (hl : (firsts (z.map g)).length = (firsts (z.map f)).length) : ∀ a ∈ z, ∀ b ∈ z, g a = g b → f a = f b := by
  refine list_snoc (P := fun z => (∀ a ∈ z, ∀ b ∈ z, f a = f b → g a = g b) → (firsts (z.map g)).length = (firsts (z.map f)).length → ∀ a ∈ z, ∀ b ∈ z, g a = g b → f a = f b) ?_ ?_ z h hl
  · intro _ _ a ha
    cases ha
  · intro l x ih h hl
    have h0 : ∀ a ∈ l, ∀ b ∈ l, f a = f b → g a = g b := fun a ha b hb => h a (List.mem_append_left _ ha) b (List.mem_append_left _ hb)
    have h1 := firsts_le f g l h0
    rw [List.map_append, List.map_append, List.map_singleton, List.map_singleton, firsts_snoc, firsts_snoc] at hl
    have hfg : f x ∈ l.map f ↔ g x ∈ l.map g := by
      constructor
      · intro hx
        obtain ⟨a, ha, e⟩ := List.mem_map.1 hx
        exact List.mem_map.2 ⟨a, ha, h a (List.mem_append_left _ ha) x (by simp) e⟩
      · intro hx
        refine Decidable.byContradiction fun hn => ?_
        rw [if_pos ((mem_firsts _ _).2 hx), if_neg (fun h => hn ((mem_firsts _ _).1 h))] at hl
        simp at hl
        omega
    have hl0 : (firsts (l.map g)).length = (firsts (l.map f)).length := by
      by_cases hx : f x ∈ l.map f
      · rw [if_pos ((mem_firsts _ _).2 hx), if_pos ((mem_firsts _ _).2 (hfg.1 hx))] at hl
        exact hl
      · rw [if_neg (fun h => hx ((mem_firsts _ _).1 h)), if_neg (fun h => hx (hfg.2 ((mem_firsts _ _).1 h)))] at hl
        simpa using hl
    have h2 := ih h0 hl0
    have h3 : ∀ b ∈ l, g x = g b → f x = f b := by
      intro b hb e
      have hx : f x ∈ l.map f := hfg.2 (List.mem_map.2 ⟨b, hb, e.symm⟩)
      obtain ⟨a, ha, e2⟩ := List.mem_map.1 hx
      have e3 := h a (List.mem_append_left _ ha) x (by simp) e2
      rw [← e2]
      exact h2 a ha b hb (e3.trans e)
    intro a ha b hb e
    rcases List.mem_append.1 ha with ha1 | ha1
    · rcases List.mem_append.1 hb with hb1 | hb1
      · exact h2 a ha1 b hb1 e
      · rw [List.mem_singleton.1 hb1] at e ⊢
        exact (h3 a ha1 e.symm).symm
    · rw [List.mem_singleton.1 ha1] at e ⊢
      rcases List.mem_append.1 hb with hb1 | hb1
      · exact h3 b hb1 e
      · rw [List.mem_singleton.1 hb1]
end

/-- A list by its places. -/
theorem list_range {α : Type} (l : List α) (d : α) : (List.range l.length).map (fun i => l.getD i d) = l := by
  apply List.ext_getElem
  · simp
  · intro i h1 h2
    simp [List.getD_eq_getElem?_getD, List.getElem?_eq_getElem h2]
/-- The i-th number. -/
def at_ (p : List Int) (i : Nat) : Int := p.getD i 0
theorem at_range (p : List Int) : (List.range p.length).map (at_ p) = p := list_range p 0
theorem at_get {p : List Int} {i : Nat} (h : i < p.length) : at_ p i = p[i] := by simp [at_, List.getD_eq_getElem?_getD, List.getElem?_eq_getElem h]
/-- Keys in a range: their numbers. -/
def numR {α : Type} [DecidableEq α] (n : Nat) (f : Nat → α) : List Int := num ((List.range n).map f)
theorem numR_length {α : Type} [DecidableEq α] (n : Nat) (f : Nat → α) : (numR n f).length = n := by simp [numR, num_length]
theorem numR_at {α : Type} [DecidableEq α] (n : Nat) (f : Nat → α) {i : Nat} (hi : i < n) : at_ (numR n f) i = spot (firsts ((List.range n).map f)) (f i) := by
  rw [at_get (by rw [numR_length]; exact hi)]
  unfold numR num
  simp
theorem numR_iff {α : Type} [DecidableEq α] (n : Nat) (f : Nat → α) {i j : Nat} (hi : i < n) (hj : j < n) : at_ (numR n f) i = at_ (numR n f) j ↔ f i = f j := by
  rw [numR_at n f hi, numR_at n f hj]
  constructor
  · intro h
    exact spot_inj ((mem_firsts _ _).2 (List.mem_map.2 ⟨i, List.mem_range.2 hi, rfl⟩)) ((mem_firsts _ _).2 (List.mem_map.2 ⟨j, List.mem_range.2 hj, rfl⟩)) h
  · intro h
    rw [h]
theorem numR_congr {α β : Type} [DecidableEq α] [DecidableEq β] (n : Nat) (f : Nat → α) (g : Nat → β) (h : ∀ i j, i < n → j < n → (f i = f j ↔ g i = g j)) : numR n f = numR n g :=
  (num_congr f g (List.range n) fun a ha b hb => h a b (List.mem_range.1 ha) (List.mem_range.1 hb)).1
theorem num_numR {α : Type} [DecidableEq α] (l : List α) (d : α) : num l = numR l.length (fun i => l.getD i d) := by
  unfold numR
  rw [list_range]
/-- Numbering numbers changes nothing. -/
theorem numR_idem {α : Type} [DecidableEq α] (n : Nat) (f : Nat → α) : num (numR n f) = numR n f := by
  have h : num (numR n f) = numR n (at_ (numR n f)) := by
    have := num_numR (numR n f) 0
    rwa [numR_length] at this
  rw [h]
  exact numR_congr n _ _ fun i j hi hj => numR_iff n f hi hj
theorem numR_right {α : Type} [DecidableEq α] (n : Nat) (f : Nat → α) (h : n ≤ 1024) : rightP (numR n f) := ⟨by rw [numR_length]; exact h, numR_idem n f⟩
theorem rightP.numR {p : List Int} (h : rightP p) : numR p.length (at_ p) = p := by
  have h1 := num_numR p 0
  rw [h.2] at h1
  exact h1.symm
/-- Two partitions of as many elements that put the same ones together are one. -/
theorem right_ext {p q : List Int} (hp : rightP p) (hq : rightP q) (hl : p.length = q.length) (h : ∀ i j, i < p.length → j < p.length → (at_ p i = at_ p j ↔ at_ q i = at_ q j)) : p = q := by
  rw [← hp.numR, ← hq.numR, ← hl]
  exact numR_congr _ _ _ h
theorem countP_eq {q : List Int} {n : Int} (h1 : ∀ x ∈ q, x < n) (h2 : q = [] → n = 0) (h3 : q ≠ [] → n - 1 ∈ q) : countP q = n := by
  cases q with
  | nil => rw [h2 rfl]; rfl
  | cons a r =>
    have h4 := h1 _ (maxL_mem a r)
    have h5 := h3 (by simp)
    have h6 : n - 1 ≤ maxL a r := by
      rcases List.mem_cons.1 h5 with h5 | h5
      · rw [h5]; exact (maxL_ge a r).1
      · exact (maxL_ge a r).2 _ h5
    rw [countP_cons]
    omega
theorem count_num {α : Type} [DecidableEq α] (l : List α) : countP (num l) = (firsts l).length := by
  refine countP_eq ?_ ?_ ?_
  · intro x hx
    obtain ⟨y, hy, rfl⟩ := List.mem_map.1 hx
    have := List.idxOf_lt_length_of_mem ((mem_firsts l y).2 hy)
    unfold spot
    omega
  · intro h
    have : l = [] := by
      have h1 := congrArg List.length h
      rw [num_length] at h1
      exact List.eq_nil_of_length_eq_zero h1
    subst this
    rfl
  · intro h
    have hl : l ≠ [] := fun e => h (by subst e; rfl)
    have hf : firsts l ≠ [] := by
      obtain ⟨x, hx⟩ := List.exists_mem_of_ne_nil l hl
      exact List.ne_nil_of_mem ((mem_firsts l x).2 hx)
    have hpos : 0 < (firsts l).length := List.length_pos_iff.2 hf
    have hlast : (firsts l)[(firsts l).length - 1] ∈ l := (mem_firsts l _).1 (List.getElem_mem _)
    have hsp : spot (firsts l) (firsts l)[(firsts l).length - 1] = ((firsts l).length : Int) - 1 := by
      unfold spot
      rw [(nodup_firsts l).idxOf_getElem]
      omega
    rw [← hsp]
    exact num_mem hlast
theorem count_numR {α : Type} [DecidableEq α] (n : Nat) (f : Nat → α) : countP (numR n f) = (firsts ((List.range n).map f)).length := count_num _

/-! #### Refine -/
/-- What comes next of an element. -/
def nx (next : List (List Int)) (i : Nat) : List Int := next.getD i []
/-- The blocks of what comes next of an element. -/
def after (p : List Int) (next : List (List Int)) (i : Nat) : List Int := (nx next i).map fun x => at_ p x.toNat
/-- Two elements agree. -/
def agree (p : List Int) (next : List (List Int)) (i j : Nat) : Prop := at_ p i = at_ p j ∧ after p next i = after p next j
theorem word_iff (p : List Int) (l l' : List Int) (i j : Nat) : wordOf p i l l.length = wordOf p j l' l'.length ↔ at_ p i = at_ p j ∧ (l.map fun x => at_ p x.toNat) = (l'.map fun x => at_ p x.toNat) := by
  unfold wordOf at_
  rw [List.take_length, List.take_length]
  constructor
  · intro h
    rw [List.cons_append, List.cons_append, List.cons_append, List.cons_append] at h
    injection h with h1 h2
    injection h2 with h2 h3
    have h4 : l.length = l'.length := by omega
    exact ⟨h1, (List.append_inj h3 (by simpa using h4)).1⟩
  · rintro ⟨h1, h2⟩
    have h4 : l.length = l'.length := by simpa using congrArg List.length h2
    rw [h1, h2, h4]
theorem refine_numR (p : List Int) (next : List (List Int)) : refineP p next = numR next.length (fun i => wordOf p i (nx next i) (nx next i).length) := by
  unfold refineP numR
  congr 1
  apply List.ext_getElem
  · simp [wordsOf]
  · intro i h1 h2
    have hi : i < next.length := by simpa using h2
    rw [wordsOf_get p next i hi]
    simp [nx, List.getD_eq_getElem?_getD, List.getElem?_eq_getElem hi]
theorem refine_length (p : List Int) (next : List (List Int)) : (refineP p next).length = next.length := by rw [refine_numR, numR_length]
theorem refine_iff (p : List Int) (next : List (List Int)) {i j : Nat} (hi : i < next.length) (hj : j < next.length) : at_ (refineP p next) i = at_ (refineP p next) j ↔ agree p next i j := by
  rw [refine_numR, numR_iff _ _ hi hj, word_iff]
  rfl
theorem refine_right (p : List Int) (next : List (List Int)) (h : next.length ≤ 1024) : rightP (refineP p next) := by
  rw [refine_numR]
  exact numR_right _ _ h
/-- Partitions that are finer have no fewer blocks; those with as many are the same. -/
def finerB (p q : List Int) : Prop := ∀ i j, i < p.length → j < p.length → at_ p i = at_ p j → at_ q i = at_ q j
theorem count_mono {p q : List Int} (hp : rightP p) (hq : rightP q) (hl : p.length = q.length) (h : finerB p q) : countP q ≤ countP p := by
  have h1 := firsts_le (at_ p) (at_ q) (List.range p.length) (fun a ha b hb e => h a b (List.mem_range.1 ha) (List.mem_range.1 hb) e)
  have h2 := count_numR p.length (at_ p)
  have h3 := count_numR q.length (at_ q)
  rw [hp.numR] at h2
  rw [hq.numR, ← hl] at h3
  omega
theorem count_same {p q : List Int} (hp : rightP p) (hq : rightP q) (hl : p.length = q.length) (h : finerB p q) (hc : countP q = countP p) : p = q := by
  have h2 := count_numR p.length (at_ p)
  have h3 := count_numR q.length (at_ q)
  rw [hp.numR] at h2
  rw [hq.numR, ← hl] at h3
  have h1 := firsts_eq (at_ p) (at_ q) (List.range p.length) (fun a ha b hb e => h a b (List.mem_range.1 ha) (List.mem_range.1 hb) e) (by omega)
  exact right_ext hp hq hl fun i j hi hj => ⟨h i j hi hj, h1 i (List.mem_range.2 hi) j (List.mem_range.2 hj)⟩
theorem refine_finer (p : List Int) (next : List (List Int)) : finerB (refineP p next) p := by
  intro i j hi hj h
  rw [refine_length] at hi hj
  exact ((refine_iff p next hi hj).1 h).1
/-- How often it has been refined. -/
def iterP (p : List Int) (next : List (List Int)) : Nat → List Int
  | 0 => p
  | m + 1 => refineP (iterP p next m) next
theorem iter_right {p : List Int} {next : List (List Int)} (hp : rightP p) (hn : next.length = p.length) : ∀ m, rightP (iterP p next m) ∧ (iterP p next m).length = p.length
  | 0 => ⟨hp, rfl⟩
  | m + 1 => ⟨refine_right _ _ (by rw [hn]; exact hp.1), by rw [iterP, refine_length, hn]⟩
theorem iter_count {p : List Int} {next : List (List Int)} (hp : rightP p) (hn : next.length = p.length) (m : Nat) : countP (iterP p next m) ≤ countP (iterP p next (m + 1)) := by
  have h1 := iter_right hp hn m
  have h2 := iter_right hp hn (m + 1)
  exact count_mono h2.1 h1.1 (by rw [h1.2, h2.2]) (refine_finer _ _)
/-- Refined m times nothing is split any more, and before that each time something. -/
def Stops (p : List Int) (next : List (List Int)) (m : Nat) : Prop := countP (iterP p next (m + 1)) = countP (iterP p next m) ∧ ∀ j, j < m → countP (iterP p next (j + 1)) ≠ countP (iterP p next j)
theorem stops_one {p : List Int} {next : List (List Int)} {m m' : Nat} (h : Stops p next m) (h' : Stops p next m') : m = m' := by
  rcases Nat.lt_trichotomy m m' with hl | hl | hl
  · exact absurd h.1 (h'.2 m hl)
  · exact hl
  · exact absurd h'.1 (h.2 m' hl)
theorem iter_grows {p : List Int} {next : List (List Int)} (hp : rightP p) (hn : next.length = p.length) {m : Nat} (h : ∀ j, j < m → countP (iterP p next (j + 1)) ≠ countP (iterP p next j)) : (m : Int) ≤ countP (iterP p next m) := by
  induction m with
  | zero => have := (count_bounds hp).1; exact this
  | succ m ih =>
    have h1 := ih (fun j hj => h j (by omega))
    have h2 := h m (by omega)
    have h3 := iter_count hp hn m
    omega
theorem iter_le {p : List Int} {next : List (List Int)} (hp : rightP p) (hn : next.length = p.length) {m : Nat} (h : ∀ j, j < m → countP (iterP p next (j + 1)) ≠ countP (iterP p next j)) : m ≤ p.length := by
  have h1 := iter_grows hp hn h
  have h2 := iter_right hp hn m
  have h3 := count_bounds h2.1
  omega
theorem exists_stops {p : List Int} {next : List (List Int)} (hp : rightP p) (hn : next.length = p.length) : ∃ m, Stops p next m := by
  refine Classical.byContradiction fun hno => ?_
  have h : ∀ m, ∀ j, j < m → countP (iterP p next (j + 1)) ≠ countP (iterP p next j) := by
    intro m
    induction m with
    | zero => intro j hj; omega
    | succ m ih =>
      intro j hj
      by_cases e : j = m
      · subst e
        exact fun hc => hno ⟨j, hc, ih⟩
      · exact ih j (by omega)
  have := iter_le hp hn (h (p.length + 1))
  omega
end Go.Proofs.Ytboofecfmhbacaa

/- The walks of package blocks' Refine, Stable and Coarsest. -/
namespace Go.Proofs.Ytboofecfmhbacaa
open Go.RowKit Go.WideMaps Go.Maps Go.Proofs.YtboofecfmhbacaaW.PrintWords Go.Proofs.YtboofecfmhbacaaW.PrintLast Go.Proofs.YtboofecfmhbacaaW.PrintMore
set_option linter.unusedVariables false
set_option linter.unusedSimpArgs false

theorem wrongE_ok {p : List Int} {next : List (List Int)} (hp : rightP p) (hn : nextP p.length next) : wrongE p next = 0 := by simp [wrongE, hp, hn]
theorem wrongE_wrong {p : List Int} {next : List (List Int)} (h : ¬ (rightP p ∧ nextP p.length next)) : wrongE p next ≠ 0 := by
  unfold wrongE
  by_cases hp : rightP p <;> by_cases hn : nextP p.length next <;> simp_all

set_option maxRecDepth 100000 in
set_option maxHeartbeats 1000000 in
theorem refineOf_no (A0 : Option Addr) (c0 : Nat) (p : List Int) (A1 : Option Addr) (c1 : Nat) (next : List (List Int)) (w : World) (hr0 : Kd.C (Kd.int .i64) w A0 p.length p) (hr1 : Kd.C (Kd.slice 3 (Kd.int .i64)) w A1 next.length next) (hw0 : Wf p) (hno : wrongE p next ≠ 0) :
    Calls Try.prog 35 #[.slice A0 p.length c0, .slice A1 next.length c1] w fun e w' => e = .returned (.tuple #[.slice none 0 0, .int .i64 (wrongE p next)]) ∧ Below w.heap.size w w' := by
  have HB := Aside0.mk (wrong_walk A0 c0 p A1 c1 next w hr0 hr1 hw0)
  generalize wrongE p next = b at HB hno ⊢
  have h1 : (b == 0) = false := beq_eq_false_iff_ne.mpr hno
  have h2 : (b != 0) = true := bne_iff_ne.mpr hno
  clear hno hr0 hr1 hw0
  go_enter Try.func35, Try.ntmps35
  go_wp2_with (go_at_call 53; refine HB.out.mono ?_; rintro e w1 ⟨rfl, hB⟩)
  go_ret2
  exact ⟨rfl, hB⟩

set_option maxRecDepth 100000 in
set_option maxHeartbeats 1000000 in
theorem refineOf_yes (A0 : Option Addr) (c0 : Nat) (p : List Int) (A1 : Option Addr) (c1 : Nat) (next : List (List Int)) (w : World) (hr0 : Kd.C (Kd.int .i64) w A0 p.length p) (hr1 : Kd.C (Kd.slice 3 (Kd.int .i64)) w A1 next.length next) (hp : rightP p) (hn : nextP p.length next) :
    Calls Try.prog 35 #[.slice A0 p.length c0, .slice A1 next.length c1] w fun e w' => ∃ v, e = .returned (.tuple #[v, .int .i64 0]) ∧ Kd.R (Kd.int .i64) 3 w' w.heap.size (fun _ => True) v (refineP p next) ∧ Below w.heap.size w w' := by
  have h0 := wrong_walk A0 c0 p A1 c1 next w hr0 hr1 hp.small.wf
  rw [wrongE_ok hp hn] at h0
  have HB := Aside0.mk h0
  have HC := Aside0.mk (fun w1 (hB : Below w.heap.size w w1) => refine_walk A0 c0 p A1 c1 next w1 (Kd.C_below hr0 hB) (Kd.C_below hr1 hB) hp.small hn hp.1)
  clear h0 hr0 hr1 hp hn
  go_enter Try.func35, Try.ntmps35
  go_wp2_with (first
    | (go_at_call 53; refine HB.out.mono ?_; rintro e w1 ⟨rfl, hB⟩; have HB1 := Aside0.mk hB; have HC1 := Aside0.mk (HC.out w1 hB); clear hB)
    | (go_at_call 54; refine HC1.out.mono ?_; rintro e w3 ⟨v, rfl, hR3, hB3⟩; have HD := Aside0.mk (And.intro (Kd.R_lower hR3 HB1.out.size) (HB1.out.trans (hB3.mono HB1.out.size))); clear hR3 hB3))
  go_ret2
  exact ⟨_, rfl, HD.out.1, HD.out.2⟩

/-- Does refining split nothing? -/
def stableP (p : List Int) (next : List (List Int)) : Prop := refineP p next = p
instance (p : List Int) (next : List (List Int)) : Decidable (stableP p next) := inferInstanceAs (Decidable (_ = _))

set_option maxRecDepth 100000 in
set_option maxHeartbeats 1000000 in
theorem stable_no (A0 : Option Addr) (c0 : Nat) (p : List Int) (A1 : Option Addr) (c1 : Nat) (next : List (List Int)) (w : World) (hr0 : Kd.C (Kd.int .i64) w A0 p.length p) (hr1 : Kd.C (Kd.slice 3 (Kd.int .i64)) w A1 next.length next) (hw0 : Wf p) (hno : wrongE p next ≠ 0) :
    Calls Try.prog 29 #[.slice A0 p.length c0, .slice A1 next.length c1] w fun e w' => e = .returned (.tuple #[.bool false, .int .i64 (wrongE p next)]) ∧ Below w.heap.size w w' := by
  have HM := Aside0.mk (refineOf_no A0 c0 p A1 c1 next w hr0 hr1 hw0 hno)
  generalize wrongE p next = b at HM hno ⊢
  have h1 : (b == 0) = false := beq_eq_false_iff_ne.mpr hno
  clear hno hr0 hr1 hw0
  go_enter Try.func29, Try.ntmps29
  go_wp2_with (go_at_call 35; refine HM.out.mono ?_; rintro e w1 ⟨rfl, hB⟩)
  go_ret2
  exact ⟨rfl, hB⟩
set_option maxRecDepth 100000 in
set_option maxHeartbeats 1000000 in
theorem stable_yes (A0 : Option Addr) (c0 : Nat) (p : List Int) (A1 : Option Addr) (c1 : Nat) (next : List (List Int)) (w : World) (hr0 : Kd.C (Kd.int .i64) w A0 p.length p) (hr1 : Kd.C (Kd.slice 3 (Kd.int .i64)) w A1 next.length next) (hp : rightP p) (hn : nextP p.length next) :
    Calls Try.prog 29 #[.slice A0 p.length c0, .slice A1 next.length c1] w fun e w' => e = .returned (.tuple #[.bool (decide (stableP p next)), .int .i64 0]) ∧ Below w.heap.size w w' := by
  have HM := Aside0.mk (refineOf_yes A0 c0 p A1 c1 next w hr0 hr1 hp hn)
  have HR := Aside0.mk hr0
  clear hr0 hr1 hp hn
  go_enter Try.func29, Try.ntmps29
  go_wp2_with (first
    | (go_at_call 35; refine HM.out.mono ?_; rintro e w1 ⟨v, rfl, hR, hB⟩; obtain ⟨A2, c2, rfl, hc2, hC2⟩ := Kd.R_reads hR; have HE := Aside0.mk (equal_walk A2 c2 (refineP p next) A0 c0 p w1 hC2 (Kd.C_below HR.out hB)); clear hC2 hR)
    | (go_at_call 19; refine HE.out.mono ?_; rintro e w2 ⟨rfl, hB2⟩))
  go_ret2
  exact ⟨rfl, hB.trans (hB2.mono hB.size)⟩

set_option maxRecDepth 100000 in
set_option maxHeartbeats 1000000 in
theorem coarsest_no (A0 : Option Addr) (c0 : Nat) (p : List Int) (A1 : Option Addr) (c1 : Nat) (next : List (List Int)) (w : World) (hr0 : Kd.C (Kd.int .i64) w A0 p.length p) (hr1 : Kd.C (Kd.slice 3 (Kd.int .i64)) w A1 next.length next) (hw0 : Wf p) (hno : wrongE p next ≠ 0) :
    Calls Try.prog 27 #[.slice A0 p.length c0, .slice A1 next.length c1] w fun e w' => e = .returned (.tuple #[.slice none 0 0, .int .i64 0, .int .i64 (wrongE p next)]) ∧ Below w.heap.size w w' := by
  have HB := Aside0.mk (wrong_walk A0 c0 p A1 c1 next w hr0 hr1 hw0)
  generalize wrongE p next = b at HB hno ⊢
  have h1 : (b == 0) = false := beq_eq_false_iff_ne.mpr hno
  have h2 : (b != 0) = true := bne_iff_ne.mpr hno
  clear hno hr0 hr1 hw0
  go_enter Try.func27, Try.ntmps27
  go_wp2
  go_step3
  go_wp2_with (go_at_call 53; refine HB.out.mono ?_; rintro e w1 ⟨rfl, hB⟩)
  rw [Exit.noGoto_ret]
  go_ret3
  exact ⟨rfl, hB⟩

set_option maxRecDepth 100000 in
set_option maxHeartbeats 1000000 in
theorem coarsest_yes (A0 : Option Addr) (c0 : Nat) (p : List Int) (A1 : Option Addr) (c1 : Nat) (next : List (List Int)) (w : World) (hr0 : Kd.C (Kd.int .i64) w A0 p.length p) (hr1 : Kd.C (Kd.slice 3 (Kd.int .i64)) w A1 next.length next) (hp : rightP p) (hn : nextP p.length next) :
    Calls Try.prog 27 #[.slice A0 p.length c0, .slice A1 next.length c1] w fun e w' => ∃ (m : Nat) (v : Value), e = .returned (.tuple #[v, .int .i64 m, .int .i64 0]) ∧ Stops p next m ∧ Kd.R (Kd.int .i64) 3 w' w.heap.size (fun _ => True) v (iterP p next m) ∧ Below w.heap.size w w' := by
  have h0 := wrong_walk A0 c0 p A1 c1 next w hr0 hr1 hp.small.wf
  rw [wrongE_ok hp hn] at h0
  have HB := Aside0.mk h0
  have HC := Aside0.mk (fun w1 (hB : Below w.heap.size w w1) => clone_walk A0 c0 p w1 (Kd.C_below hr0 hB) (by have := hp.1; omega))
  have HP := Aside0.mk hp
  have HN := Aside0.mk hn
  have HR1 := Aside0.mk hr1
  clear h0 hr0 hr1 hp hn
  go_enter Try.func27, Try.ntmps27
  go_wp2
  go_step3
  go_wp2_with (first
    | (go_at_call 53; refine HB.out.mono ?_; rintro e w1 ⟨rfl, hB⟩; have HB1 := Aside0.mk hB; have HC1 := Aside0.mk (HC.out w1 hB); clear hB)
    | (go_at_call 15; refine HC1.out.mono ?_; rintro e w3 ⟨v, rfl, hR3, hB3⟩; have HD := Aside0.mk (And.intro (Kd.R_lower hR3 HB1.out.size) (HB1.out.trans (hB3.mono HB1.out.size))); clear hR3 hB3))
  go_step3
  go_wp2
  go_loopg [8, 9] (p.length + 1) (fun gg now n wr => ∃ (m : Nat), n = .int .i64 m ∧ Aside0 (gg + m = p.length + 1 ∧ (∀ j, j < m → countP (iterP p next (j + 1)) ≠ countP (iterP p next j)) ∧ Kd.R (Kd.int .i64) 3 wr w.heap.size (fun _ => True) now (iterP p next m) ∧ Below w.heap.size w wr))
  case atStart => exact ⟨0, rfl, rfl, fun j hj => absurd hj (Nat.not_lt_zero j), HD.out.1, HD.out.2⟩
  case round =>
    obtain ⟨m, rfl, HI⟩ := hrel
    have hir := iter_right HP.out HN.out.1 m
    have hir2 := iter_right HP.out HN.out.1 (m + 1)
    have hle := iter_le HP.out HN.out.1 HI.out.2.1
    have hle0 := HP.out.1
    obtain ⟨A2, c2, hu, hc2, hC2⟩ := Kd.R_reads HI.out.2.2.1
    subst hu
    have hN2 : nextP (iterP p next m).length next := by rw [hir.2]; exact HN.out
    have hE : Calls _ _ _ _ _ := refine_walk A2 c2 (iterP p next m) A1 c1 next wr hC2 (Kd.C_below HR1.out HI.out.2.2.2) hir.1.small hN2 (by rw [hir.2]; exact hle0)
    rw [show refineP (iterP p next m) next = iterP p next (m + 1) from rfl] at hE
    have HG := Aside0.mk (show countP (iterP p next (m + 1)) ≠ countP (iterP p next m) → ∀ j, j < m + 1 → countP (iterP p next (j + 1)) ≠ countP (iterP p next j) from fun hc j hj => by
        by_cases e : j = m
        · subst e; exact hc
        · exact HI.out.2.1 j (by omega))
    have HST := Aside0.mk (show countP (iterP p next (m + 1)) = countP (iterP p next m) → Stops p next m from fun hc => ⟨hc, HI.out.2.1⟩)
    have HGG := Aside0.mk HI.out.1
    have hR := HI.out.2.2.1
    have HIB := Aside0.mk HI.out.2.2.2
    have hs1 := hir.1.small
    have hs2 := hir2.1.small
    clear HI hN2 hir hir2 HP HN
    obtain ⟨now, hnow⟩ : ∃ l, l = iterP p next m := ⟨_, rfl⟩
    obtain ⟨nxt, hnxt⟩ : ∃ l, l = iterP p next (m + 1) := ⟨_, rfl⟩
    rw [← hnow] at hE hR hs1 hC2 HG HST hc2 ⊢
    rw [← hnxt] at hE hs2 HG HST
    have HNOW := Aside0.mk hnow
    have HNXT := Aside0.mk hnxt
    have HE := Aside0.mk hE
    have HR := Aside0.mk hR
    have HK := Aside0.mk (fun w1 (hB : Below wr.heap.size wr w1) => count_walk A2 c2 now w1 (Kd.C_below hC2 hB) hs1)
    have HS2 := Aside0.mk hs2
    clear hE hR hs1 hC2 hs2 hnow hnxt
    by_cases hc : countP nxt = countP now
    · have hb : (countP nxt == countP now) = true := beq_iff_eq.mpr hc
      have HH := Aside0.mk hc
      clear hc
      go_wp2_with (first
        | (go_at_call 54; refine HE.out.mono ?_; rintro e w4 ⟨v1, rfl, hR, hB⟩; obtain ⟨A3, c3, rfl, hc3, hC3⟩ := Kd.R_reads hR; have HB4 := Aside0.mk hB; have HK3 := Aside0.mk (count_walk A3 c3 nxt w4 hC3 HS2.out); clear hR hC3 hB)
        | (go_at_call 55; refine HK3.out.mono ?_; rintro e w5 ⟨rfl, hB5⟩; have HB5 := Aside0.mk (HB4.out.trans (hB5.mono HB4.out.size)); clear hB5 HK3)
        | (go_at_call 55; refine (HK.out _ HB5.out).mono ?_; rintro e w6 ⟨rfl, hB6⟩; have HB6 := Aside0.mk (HB5.out.trans (hB6.mono HB5.out.size)); clear hB6))
      rw [Exit.noGoto_ret]
      go_ret3
      have hsto := HST.out HH.out
      have hfin := Kd.R_below HR.out HB6.out
      rw [HNOW.out] at hfin ⊢
      exact ⟨m, _, rfl, hsto, hfin, HIB.out.trans (HB6.out.mono HIB.out.size)⟩
    · have hb : (countP nxt == countP now) = false := beq_eq_false_iff_ne.mpr hc
      have HH := Aside0.mk hc
      clear hc
      go_wp2_with (first
        | (go_at_call 54; refine HE.out.mono ?_; rintro e w4 ⟨v1, rfl, hR, hB⟩; obtain ⟨A3, c3, rfl, hc3, hC3⟩ := Kd.R_reads hR; have HR4 := Aside0.mk hR; have HB4 := Aside0.mk hB; have HK3 := Aside0.mk (count_walk A3 c3 nxt w4 hC3 HS2.out); clear hR hC3 hB)
        | (go_at_call 55; refine HK3.out.mono ?_; rintro e w5 ⟨rfl, hB5⟩; have HB5' := Aside0.mk hB5; have HB5 := Aside0.mk (HB4.out.trans (hB5.mono HB4.out.size)); clear hB5 HK3)
        | (go_at_call 55; refine (HK.out _ HB5.out).mono ?_; rintro e w6 ⟨rfl, hB6⟩; have HB6' := Aside0.mk (HB5'.out.trans (hB6.mono HB5'.out.size)); have HB6 := Aside0.mk (HB5.out.trans (hB6.mono HB5.out.size)); clear hB6))
      go_roundg (gk - 1)
      case rel =>
        have hR4 := Kd.R_lower (Kd.R_below HR4.out HB6'.out) HIB.out.size
        have hgg := HGG.out
        refine ⟨m + 1, by go_num, by omega, HG.out HH.out, ?_, HIB.out.trans (HB6.out.mono HIB.out.size)⟩
        rw [HNXT.out] at hR4 ⊢
        exact hR4
      case measure => have := HGG.out; omega
end Go.Proofs.Ytboofecfmhbacaa

/- The walk of package blocks' Quotient. -/
namespace Go.Proofs.Ytboofecfmhbacaa
open Go.RowKit Go.WideMaps Go.Maps Go.Proofs.YtboofecfmhbacaaW.PrintWords Go.Proofs.YtboofecfmhbacaaW.PrintLast Go.Proofs.YtboofecfmhbacaaW.PrintMore
set_option linter.unusedVariables false
set_option linter.unusedSimpArgs false

/-- What Quotient has put down when it has seen the last k elements. -/
def quotF (p : List Int) (next : List (List Int)) (n : Nat) : Nat → List (List Int)
  | 0 => List.replicate n []
  | k + 1 => (quotF p next n k).set (at_ p (p.length - 1 - k)).toNat (after p next (p.length - 1 - k))
def quotP (p : List Int) (next : List (List Int)) : List (List Int) := quotF p next (countP p).toNat p.length
theorem quotF_length (p : List Int) (next : List (List Int)) (n : Nat) : ∀ k, (quotF p next n k).length = n
  | 0 => by simp [quotF]
  | k + 1 => by rw [quotF, List.length_set, quotF_length p next n k]
theorem after_get (p : List Int) (next : List (List Int)) (j : Nat) (hj : j < next.length) : after p next j = next[j].map fun x => at_ p x.toNat := by
  simp [after, nx, List.getD_eq_getElem?_getD, List.getElem?_eq_getElem hj]

section
variable {w0 W : World} {base n c : Nat} {A : Option Addr} {vs : List Value} {ls : List (List Int)}
theorem Rows.lift (h : Rows w0 base W A n c vs ls) {w1 : World} (hB : Below W.heap.size W w1) (hb : base ≤ W.heap.size) : Rows w0 base w1 A n c vs ls where
  len := h.len
  outer := own_move h.outer fun k hk => hB.block k (own_lt h.outer k hk)
  inner := fun b h1 h2 h3 => own_move (h.inner b h1 h2 h3) fun k hk => hB.block k (own_lt (h.inner b h1 h2 h3) k hk)
  apart := h.apart
  below := h.below.trans (hB.mono hb)
theorem own_shape {w : World} {bs m e : Nat} {v : Value} {xs : List Value} (h : w.ownsRow bs e 1 v m xs) : ∃ A c, v = .slice A m c := by
  rcases h.2 with ⟨h1, h2⟩ | ⟨g, cap, cur, h1, _⟩
  · exact ⟨none, 0, by rw [h1, h2]⟩
  · exact ⟨_, cap, h1⟩
/-- out[b] = l, a list that has been made since. -/
theorem Rows.store {g : Nat} {w1 : World} {v1 : Value} {l : List Int} (h : Rows w0 base W (some ⟨g, 0, none⟩) n c vs ls) (hb0 : base ≤ W.heap.size) (b : Nat) (hb : b < n)
    (hB : Below W.heap.size W w1) (ho : w1.ownsRow W.heap.size 3 1 v1 l.length (encs (Value.int .i64) l)) :
    (∃ v, w1.cell? ⟨g, b, none⟩ = some v) ∧ w1.frozen? ⟨g, b, none⟩ = false ∧ Rows w0 base (w1.setCell ⟨g, b, none⟩ v1) (some ⟨g, 0, none⟩) n c (vs.set b v1) (ls.set b l) := by
  have h1 := h.lift hB hb0
  obtain ⟨hc, hf⟩ := h1.cell b hb
  have hb1 : b < vs.length := by rw [h.vlen]; exact hb
  have hst := h1.outer.stored b v1
  have hgb : base ≤ g := own_base h1.outer g rfl
  have hfar : ∀ {m : Nat} {bs : Nat} {v : Value} {xs : List Value}, w1.ownsRow bs 3 1 v m xs → (w1.setCell ⟨g, b, none⟩ v1).ownsRow bs 3 1 v m xs := by
    intro m bs v xs ho'
    refine ho'.kept hst.2 ?_
    rcases own_type_ne ho' h1.outer (by decide) with h1 | h1
    · exact .inl h1
    · exact .inr h1
  have hlt : ∀ a (ha : a < vs.length), ∀ k, vs[a].ownBlock = some k → k < W.heap.size := by
    intro a ha k hk
    have ha2 : a < n := by rw [← h.vlen]; exact ha
    exact own_lt (h.inner a ha2 ha (by rw [h.len]; exact ha2)) k hk
  have hne : ∀ a (ha : a < vs.length), vs[a].ownBlock = none ∨ vs[a].ownBlock ≠ v1.ownBlock := by
    intro a ha
    cases hv : vs[a].ownBlock with
    | none => exact .inl rfl
    | some k =>
      refine .inr fun e => ?_
      have h2 := hlt a ha k hv
      have h3 := own_base ho k e.symm
      omega
  refine ⟨⟨_, hc⟩, hf, ⟨by rw [List.length_set]; exact h.len, hst.1, ?_, ?_, h1.below.setCell hgb _⟩⟩
  · intro a ha ha' ha''
    by_cases e : a = b
    · subst e
      simp only [List.getElem_set_self]
      exact hfar (own_weaken ho hb0)
    · rw [List.getElem_set_ne (Ne.symm e), List.getElem_set_ne (Ne.symm e)]
      exact hfar (h1.inner a ha (by simpa using ha') (by simpa using ha''))
  · intro a d ha hd hne'
    have ha' : a < vs.length := by simpa using ha
    have hd' : d < vs.length := by simpa using hd
    by_cases e1 : a = b
    · subst e1
      rw [List.getElem_set_self, List.getElem_set_ne (by omega)]
      rcases hne d hd' with h4 | h4
      · cases hv : v1.ownBlock with
        | none => exact .inl rfl
        | some k => exact .inr (by rw [h4]; simp)
      · exact .inr (Ne.symm h4)
    · by_cases e2 : d = b
      · subst e2
        rw [List.getElem_set_ne (by omega), List.getElem_set_self]
        exact hne a ha'
      · rw [List.getElem_set_ne (by omega), List.getElem_set_ne (by omega)]
        exact h.apart a d ha' hd' hne'
end

set_option maxRecDepth 100000 in
set_option maxHeartbeats 1000000 in
theorem quotient_no (A0 : Option Addr) (c0 : Nat) (p : List Int) (A1 : Option Addr) (c1 : Nat) (next : List (List Int)) (w : World) (hr0 : Kd.C (Kd.int .i64) w A0 p.length p) (hr1 : Kd.C (Kd.slice 3 (Kd.int .i64)) w A1 next.length next) (hw0 : Wf p) (hno : wrongE p next ≠ 0) :
    Calls Try.prog 28 #[.slice A0 p.length c0, .slice A1 next.length c1] w fun e w' => e = .returned (.tuple #[.slice none 0 0, .int .i64 (wrongE p next)]) ∧ Below w.heap.size w w' := by
  have HM := Aside0.mk (stable_no A0 c0 p A1 c1 next w hr0 hr1 hw0 hno)
  generalize wrongE p next = b at HM hno ⊢
  have h1 : (b == 0) = false := beq_eq_false_iff_ne.mpr hno
  have h2 : (b != 0) = true := bne_iff_ne.mpr hno
  clear hno hr0 hr1 hw0
  go_enter Try.func28, Try.ntmps28
  go_wp2_with (go_at_call 29; refine HM.out.mono ?_; rintro e w1 ⟨rfl, hB⟩)
  go_ret2
  exact ⟨rfl, hB⟩
set_option maxRecDepth 100000 in
set_option maxHeartbeats 1000000 in
theorem quotient_split (A0 : Option Addr) (c0 : Nat) (p : List Int) (A1 : Option Addr) (c1 : Nat) (next : List (List Int)) (w : World) (hr0 : Kd.C (Kd.int .i64) w A0 p.length p) (hr1 : Kd.C (Kd.slice 3 (Kd.int .i64)) w A1 next.length next) (hp : rightP p) (hn : nextP p.length next) (hs : ¬ stableP p next) :
    Calls Try.prog 28 #[.slice A0 p.length c0, .slice A1 next.length c1] w fun e w' => e = .returned (.tuple #[.slice none 0 0, .int .i64 62]) ∧ Below w.heap.size w w' := by
  have h0 := stable_yes A0 c0 p A1 c1 next w hr0 hr1 hp hn
  rw [decide_eq_false hs] at h0
  have HM := Aside0.mk h0
  clear h0 hr0 hr1 hp hn hs
  go_enter Try.func28, Try.ntmps28
  go_wp2_with (go_at_call 29; refine HM.out.mono ?_; rintro e w1 ⟨rfl, hB⟩)
  go_ret2
  exact ⟨rfl, hB⟩

set_option maxRecDepth 100000 in
set_option maxHeartbeats 2000000 in
theorem quotient_yes (A0 : Option Addr) (c0 : Nat) (p : List Int) (A1 : Option Addr) (c1 : Nat) (next : List (List Int)) (w : World) (hr0 : Kd.C (Kd.int .i64) w A0 p.length p) (hr1 : Kd.C (Kd.slice 3 (Kd.int .i64)) w A1 next.length next) (hp : rightP p) (hn : nextP p.length next) (hs : stableP p next) :
    Calls Try.prog 28 #[.slice A0 p.length c0, .slice A1 next.length c1] w fun e w' => ∃ v, e = .returned (.tuple #[v, .int .i64 0]) ∧ Kd.R (Kd.slice 3 (Kd.int .i64)) 22 w' w.heap.size (fun _ => True) v (quotP p next) ∧ Below w.heap.size w w' := by
  have h0 := stable_yes A0 c0 p A1 c1 next w hr0 hr1 hp hn
  rw [decide_eq_true hs] at h0
  have HM := Aside0.mk h0
  have HR0 := Aside0.mk hr0
  have HR1 := Aside0.mk hr1
  have HN := Aside0.mk hn
  obtain ⟨n, hcn⟩ : ∃ n : Nat, countP p = n := ⟨(countP p).toNat, by have := count_bounds hp; omega⟩
  have hn0 : n ≤ 1024 := by have := count_bounds hp; have := hp.1; omega
  have hn1 : p.length ≤ 1024 := hp.1
  have HX := Aside0.mk (show ∀ x ∈ p, 0 ≤ x ∧ x < n from fun x hx => ⟨(hp.bounds x hx).1, by rw [← hcn]; exact lt_count x hx⟩)
  have HC := Aside0.mk (fun w1 (hB : Below w.heap.size w w1) => (show Calls Try.prog 55 #[.slice A0 p.length c0] w1 fun e w' => e = .returned (.int .i64 (n : Int)) ∧ Below w1.heap.size w1 w' by rw [← hcn]; exact count_walk A0 c0 p w1 (Kd.C_below hr0 hB) hp.small))
  rw [show quotP p next = quotF p next n p.length by unfold quotP; rw [hcn]; rfl]
  clear hp hr0 hr1 hn h0 hs hcn
  have hmk := print_make_of 36 22 (.slice none 0 0) 24 Try.underlying36 info22 rfl (by decide) n (by omega)
  go_enter Try.func28, Try.ntmps28
  go_wp2_with (first
    | (go_at_call 29; refine HM.out.mono ?_; rintro e w1 ⟨rfl, hB⟩; have HC1 := Aside0.mk (HC.out w1 hB); have HB1 := Aside0.mk hB; clear hB)
    | (go_at_call 55; refine HC1.out.mono ?_; rintro e w2 ⟨rfl, hB2⟩; have HB2 := Aside0.mk (HB1.out.trans (hB2.mono HB1.out.size)); clear hB2))
  go_loopw [9] (fun i wr => ∃ (x : Int) (m : Nat) (vs : List Value), i = .int .i64 x ∧ Aside0 (x = (m : Int) - 1 ∧ m ≤ p.length ∧ Rows w w.heap.size wr (some ⟨w2.heap.size, 0, none⟩) n n vs (quotF p next n (p.length - m)))) (fun i _ => (intOf i + 1).toNat)
  case atStart => exact ⟨_, p.length, _, rfl, rfl, Nat.le_refl _, by rw [Nat.sub_self]; exact Rows.made w w2 w.heap.size n HB2.out HB2.out.size (by omega)⟩
  case round =>
    obtain ⟨x, m, vs, rfl, HI⟩ := hrel
    have hml := HI.out.2.1
    cases m with
    | zero =>
      obtain rfl : x = -1 := by have := HI.out.1; omega
      have HD := Aside0.mk (show Kd.R (Kd.slice 3 (Kd.int .i64)) 22 wr w.heap.size (fun _ => True) (.slice (some ⟨w2.heap.size, 0, none⟩) n n) (quotF p next n p.length) by have h := HI.out.2.2.done; rwa [Nat.sub_zero] at h)
      go_wp2
      go_ret2
      exact ⟨_, rfl, HD.out, HI.out.2.2.below⟩
    | succ j =>
      obtain rfl : x = (j : Int) := by have := HI.out.1; omega
      have hjn : j < next.length := by rw [HN.out.1]; omega
      have HRW := Aside0.mk HI.out.2.2
      obtain ⟨ad0, e0, hx0⟩ := ints_at (Kd.C_below HR0.out HRW.out.below) j (by omega)
      obtain ⟨ad1, B1, d1, e1, hx10, hd1, hD1⟩ := rows_at HR1.out j hjn
      have hx1 := pw_cell_below HRW.out.below hx10
      clear hx10
      subst e0 e1
      have hl64 : next[j].length ≤ 64 := (HN.out.2 _ (List.getElem_mem hjn)).1
      have HD1 := Aside0.mk (Kd.C_below hD1 HRW.out.below)
      clear hD1
      go_wp2
      obtain ⟨wo, hwo⟩ : ∃ wo : World, wo = wr := ⟨_, rfl⟩
      rw [← hwo] at HRW HD1 hx0 hx1 ⊢
      clear hwo
      have HX0 := Aside0.mk hx0
      clear hx0 hx1
      obtain ⟨f, hf⟩ : ∃ f : Int → Int, f = fun x => at_ p x.toNat := ⟨_, rfl⟩
      have HF := Aside0.mk hf
      clear hf
      go_loopw [10, 39] (fun l i wq => ∃ (t : Nat), i = .int .i64 t ∧ Aside0 (t ≤ next[j].length ∧ wq.ownsRow wo.heap.size 3 1 l ((next[j].take t).map f).length (encs (Value.int .i64) ((next[j].take t).map f)) ∧ Below wo.heap.size wo wq)) (fun _ i _ => next[j].length - (intOf i).toNat)
      case atStart => exact ⟨0, rfl, Nat.zero_le _, by rw [List.take_zero]; exact World.ownsRow_nil _ _ _ _, Below.refl _ _⟩
      case round =>
        obtain ⟨t, rfl, HJ⟩ := hrel
        have htl := HJ.out.1
        by_cases ht : t < next[j].length
        · have hxb := (HN.out.2 _ (List.getElem_mem hjn)).2 next[j][t] (List.getElem_mem ht)
          obtain ⟨b, hb⟩ : ∃ b : Nat, next[j][t] = b := ⟨next[j][t].toNat, by omega⟩
          have hbp : b < p.length := by omega
          have HFB := Aside0.mk (show (next[j].take t).map f ++ [p[b]] = (next[j].take (t + 1)).map f by
            rw [Num.take_succ _ t ht, List.map_append, List.map_singleton, hb, HF.out]; simp [at_get hbp])
          obtain ⟨adp, ep, hxp⟩ := ints_at (Kd.C_below (Kd.C_below HR0.out HRW.out.below) (HJ.out.2.2.mono (Nat.le_refl _))) b hbp
          obtain rfl : ad0 = adp := by injection ep
          obtain ⟨adl, el, hxj⟩ := ints_at (Kd.C_below HD1.out HJ.out.2.2) t ht
          subst el
          rw [hb] at hxj
          have HL8 := Aside0.mk (show (((next[j].take t).map f).length + 1) * 8 ≤ 140737488355328 by simp; omega)
          clear hb hxb
          go_wp2_with (at_builtin; refine print_append_of (w0 := wo) (W := wr) (Value.int .i64) wo.heap.size rfl (.tmp 43) (.tmp 48) 22 3 (.int .i64 0) 8 rfl Try.underlying22 info3 rfl (by decide) u10 ((next[j].take t).map f) p[b] rfl rfl rfl HJ.out.2.1 HJ.out.2.2 HJ.out.2.2.size HL8.out ?_; rintro v1 w3 hown hB3 hg hat; rw [HFB.out] at hown; have HJ2 := Aside0.mk (And.intro hown hB3); clear hown hB3 hg hat)
          go_roundw
          case rel => exact ⟨t + 1, by go_num, by omega, HJ2.out.1, HJ2.out.2⟩
          case measure => simp [intOf]; omega
        · obtain ⟨b, hb⟩ : ∃ b : Nat, p[j] = b := ⟨p[j].toNat, by have := HX.out p[j] (List.getElem_mem _); omega⟩
          have hbn : b < n := by have := HX.out p[j] (List.getElem_mem _); omega
          have hx0 := pw_cell_below HJ.out.2.2 HX0.out
          rw [hb] at hx0
          have hown := HJ.out.2.1
          obtain ⟨A4, c4, rfl⟩ : ∃ A c, u10 = .slice A t c := by
            have h := own_shape hown
            rwa [List.length_map, List.length_take, Nat.min_eq_left htl] at h
          rw [List.take_of_length_le (by omega)] at hown
          obtain ⟨⟨v9, hc9⟩, hf9, hrows⟩ := HRW.out.store HRW.out.below.size b hbn HJ.out.2.2 hown
          rw [show next[j].map f = after p next j by rw [HF.out, after_get p next j hjn], show (quotF p next n (p.length - (j + 1))).set b (after p next j) = quotF p next n (p.length - j) by
            rw [show p.length - j = (p.length - (j + 1)) + 1 by omega, quotF, show p.length - 1 - (p.length - (j + 1)) = j by omega, at_get (by omega), hb]; rfl] at hrows
          have HJ2 := Aside0.mk hrows
          clear hrows hown hb
          go_wp2
          go_roundw
          case rel => exact ⟨(j : Int) - 1, j, _, by go_num, rfl, by omega, HJ2.out⟩
          case measure => simp [intOf]
end Go.Proofs.Ytboofecfmhbacaa

/- A map of the call's own from whole numbers to whole numbers, said by a function. -/
namespace Go.Proofs.Ytboofecfmhbacaa
open Go.RowKit Go.WideMaps Go.Maps

/-- Block b is a map that holds g, with at most N keys. -/
def FnMap (P : Program) (kt et : TypeId) (b : Nat) (w : World) (N : Nat) (g : Int → Option Int) : Prop :=
  ∃ (D : DataW Unit) (n : Nat), n ≤ N ∧ w.ownsMap P kt (plainElem P et) b n D ∧
    ∀ x l, keyOf P kt (.int .i64 x) = some l → Maps.has D l = (g x).isSome ∧ ∀ v, g x = some v → D.atKey l (.lit (.int .i64 0)) = .lit (.int .i64 v)

section
variable {P : Program} {kt et : TypeId} {b : Nat} {w : World} {N : Nat} {g : Int → Option Int}
theorem FnMap.made (P : Program) (kt et : TypeId) (w : World) : FnMap P kt et w.heap.size (w.alloc (.map #[] 0)) 0 (fun _ => none) :=
  ⟨.map [], 0, Nat.le_refl _, World.ownsMap_made w P kt _, fun x l _ => ⟨by simp [Maps.has], fun v h => by cases h⟩⟩
theorem FnMap.lt (h : FnMap P kt et b w N g) : b < w.heap.size := by
  obtain ⟨D, n, _, h1, _⟩ := h
  exact h1.lt
theorem FnMap.kept {w' : World} {row : Option Nat} (h : FnMap P kt et b w N g) (hg : w.grownBy w' row) (hne : some b ≠ row) : FnMap P kt et b w' N g := by
  obtain ⟨D, n, h0, h1, h2⟩ := h
  exact ⟨D, n, h0, h1.kept hg hne, h2⟩
theorem FnMap.setCell (h : FnMap P kt et b w N g) {a : Addr} (ha : b ≠ a.block) (u : Value) : FnMap P kt et b (w.setCell a u) N g := by
  obtain ⟨D, n, h0, h1, h2⟩ := h
  exact ⟨D, n, h0, h1.setCell ha u, h2⟩
theorem FnMap.look_in {t : TypeId} (h : FnMap P kt et b w N g) (K : Keyed P kt) (ht : P.underlying t = some (.map kt et)) (he : P.underlying et = some (.int .i64)) (hz : ∀ w : World, (zeroValue et).run P w = .ok (.int .i64 0) w)
    {x : Int} {l : Lit} (hk : keyOf P kt (.int .i64 x) = some l) {v : Int} (hm : g x = some v) :
    (Instr.lookup t (.map (some b)) (.int .i64 x) true).run P w = .ok (.tuple #[.int .i64 v, .bool true]) w := by
  obtain ⟨D, n, h0, h1, h2⟩ := h
  obtain ⟨u, ps, hrun, hv⟩ := h1.look_ok K ht (hz w) (plainElem_int he (by decide)) hk
  obtain ⟨hh, hat⟩ := h2 x l hk
  obtain ⟨c, rfl, hc, hwc⟩ := plainElem_int_inv he hv
  simp only [Prod.mk.injEq] at hc
  rw [hat v hm] at hc
  rw [hrun, hh, hm]
  have : c = v := by simpa using hc.1.symm
  rw [this]
  rfl
theorem FnMap.look_out {t : TypeId} (h : FnMap P kt et b w N g) (K : Keyed P kt) (ht : P.underlying t = some (.map kt et)) (he : P.underlying et = some (.int .i64)) (hz : ∀ w : World, (zeroValue et).run P w = .ok (.int .i64 0) w)
    {x : Int} {l : Lit} (hk : keyOf P kt (.int .i64 x) = some l) (hm : g x = none) :
    (Instr.lookup t (.map (some b)) (.int .i64 x) true).run P w = .ok (.tuple #[.int .i64 0, .bool false]) w := by
  obtain ⟨D, n, h0, h1, h2⟩ := h
  obtain ⟨u, ps, hrun, hv⟩ := h1.look_ok K ht (hz w) (plainElem_int he (by decide)) hk
  obtain ⟨hh, hat⟩ := h2 x l hk
  obtain ⟨c, rfl, hc, hwc⟩ := plainElem_int_inv he hv
  simp only [Prod.mk.injEq] at hc
  rw [hm] at hh
  rw [Maps.atKey_of_not_has (by rw [hh]; rfl)] at hc
  rw [hrun, hh]
  have : c = 0 := by simpa using hc.1.symm
  rw [this]
  rfl
theorem FnMap.put {t : TypeId} (h : FnMap P kt et b w N g) (K : Keyed P kt) (ht : P.underlying t = some (.map kt et)) (he : P.underlying et = some (.int .i64))
    {x : Int} {l : Lit} (hk : keyOf P kt (.int .i64 x) = some l) (hn : N < 1099511627776) {v : Int} (hv : (Lit.int .i64 v).wf = true) :
    ∃ w', (Instr.mapUpdate t (.map (some b)) (.int .i64 x) (.int .i64 v)).run P w = .ok () w' ∧ FnMap P kt et b w' (N + 1) (fun y => if y = x then some v else g y) ∧ w.grownBy w' (some b) := by
  obtain ⟨D, n, h0, h1, h2⟩ := h
  obtain ⟨w', hrun, hown, hturn⟩ := h1.store K ht (by unfold maxLen; omega) hk (plainElem_int he hv)
  refine ⟨w', hrun, ⟨_, n + 1, by omega, hown, fun y ly hy => ?_⟩, hturn.grown⟩
  by_cases e : y = x
  · subst e
    obtain rfl : ly = l := by rw [hk] at hy; exact (Option.some.inj hy).symm
    refine ⟨by rw [Maps.has_put_same h1.isMap (K.key hk)]; simp, fun u hu => ?_⟩
    rw [Maps.atKey_put_same h1.isMap (K.key hk)]
    simp at hu
    rw [hu]
  · have hne : ly ≠ l := fun e2 => e (by have := K.inj hy (e2 ▸ hk); injection this)
    obtain ⟨hh, hat⟩ := h2 y ly hy
    refine ⟨by rw [Maps.has_put_other hne, hh]; simp [e], fun u hu => ?_⟩
    simp only [if_neg e] at hu
    rw [Maps.atKey_put_other hne, hat u hu]
end
end Go.Proofs.Ytboofecfmhbacaa

/- Blocks that are tied together, as a forest in a list; what is connected by two partitions. Plain Lean. -/
namespace Go.Proofs.Ytboofecfmhbacaa

/-- From b to its root r in k steps. -/
def rootN (t : List Int) : Nat → Nat → Nat → Prop
  | 0, b, r => b = r ∧ b < t.length ∧ at_ t b = b
  | k + 1, b, r => b < t.length ∧ ∃ c : Nat, at_ t b = c ∧ c ≠ b ∧ rootN t k c r
def Root (t : List Int) (b r : Nat) : Prop := ∃ k, rootN t k b r
theorem rootN.lt {t : List Int} : ∀ {k b r}, rootN t k b r → b < t.length ∧ r < t.length ∧ at_ t r = r
  | 0, b, r, h => by obtain ⟨rfl, h1, h2⟩ := h; exact ⟨h1, h1, h2⟩
  | k + 1, b, r, h => by obtain ⟨h1, c, h2, h3, h4⟩ := h; exact ⟨h1, (rootN.lt h4).2⟩
theorem rootN.one {t : List Int} : ∀ {k k' b r r'}, rootN t k b r → rootN t k' b r' → r = r'
  | 0, 0, b, r, r', h, h' => by rw [← h.1, ← h'.1]
  | 0, k' + 1, b, r, r', h, h' => by
    obtain ⟨rfl, h1, h2⟩ := h
    obtain ⟨_, c, h3, h4, _⟩ := h'
    omega
  | k + 1, 0, b, r, r', h, h' => by
    obtain ⟨rfl, h1, h2⟩ := h'
    obtain ⟨_, c, h3, h4, _⟩ := h
    omega
  | k + 1, k' + 1, b, r, r', h, h' => by
    obtain ⟨_, c, h3, h4, h5⟩ := h
    obtain ⟨_, c', h3', h4', h5'⟩ := h'
    have : c = c' := by omega
    subst this
    exact rootN.one h5 h5'
theorem Root.one {t : List Int} {b r r' : Nat} (h : Root t b r) (h' : Root t b r') : r = r' := by
  obtain ⟨k, h⟩ := h
  obtain ⟨k', h'⟩ := h'
  exact h.one h'
theorem Root.self {t : List Int} {b : Nat} (h1 : b < t.length) (h2 : at_ t b = b) : Root t b b := ⟨0, rfl, h1, h2⟩
theorem at_set_self {t : List Int} {a : Nat} {x : Int} (h : a < t.length) : at_ (t.set a x) a = x := by simp [at_, List.getD_eq_getElem?_getD, h]
theorem at_set_ne {t : List Int} {a b : Nat} {x : Int} (h : a ≠ b) : at_ (t.set a x) b = at_ t b := by simp [at_, List.getD_eq_getElem?_getD, h]
/-- One root is set behind another one. -/
theorem rootN.link {t : List Int} {a c : Nat} (ha : a < t.length) (hc : c < t.length) (ha1 : at_ t a = a) (hc1 : at_ t c = c) : ∀ {k b r}, rootN t k b r → Root (t.set a c) b (if r = a then c else r)
  | 0, b, r, h => by
    obtain ⟨rfl, h1, h2⟩ := h
    by_cases e : b = a
    · subst e
      rw [if_pos rfl]
      by_cases e2 : c = b
      · subst e2
        exact Root.self (by simpa using h1) (at_set_self h1)
      · exact ⟨1, by simpa using h1, c, at_set_self h1, e2, rfl, by simpa using hc, by rw [at_set_ne (Ne.symm e2)]; exact hc1⟩
    · rw [if_neg e]
      exact Root.self (by simpa using h1) (by rw [at_set_ne (Ne.symm e)]; exact h2)
  | k + 1, b, r, h => by
    obtain ⟨h1, d, h2, h3, h4⟩ := h
    have hne : a ≠ b := by rintro rfl; omega
    obtain ⟨m, hm⟩ := rootN.link ha hc ha1 hc1 h4
    exact ⟨m + 1, by simpa using h1, d, by rw [at_set_ne hne]; exact h2, h3, hm⟩
theorem Root.link {t : List Int} {a c b r : Nat} (ha : a < t.length) (hc : c < t.length) (ha1 : at_ t a = a) (hc1 : at_ t c = c) (h : Root t b r) : Root (t.set a c) b (if r = a then c else r) := by
  obtain ⟨k, h⟩ := h
  exact h.link ha hc ha1 hc1

/-- Elements that are in one block of p, or of q (these among the first k), and what follows from it. -/
inductive Conn (p q : List Int) (k : Nat) : Nat → Nat → Prop
  | same {i j : Nat} : i < p.length → j < p.length → at_ p i = at_ p j → Conn p q k i j
  | tie {i j : Nat} : i < p.length → j < p.length → i < k → j < k → at_ q i = at_ q j → Conn p q k i j
  | symm {i j : Nat} : Conn p q k i j → Conn p q k j i
  | trans {i j m : Nat} : Conn p q k i j → Conn p q k j m → Conn p q k i m
theorem Conn.bounds {p q : List Int} {k i j : Nat} (h : Conn p q k i j) : i < p.length ∧ j < p.length := by
  induction h with
  | same h1 h2 _ => exact ⟨h1, h2⟩
  | tie h1 h2 _ _ _ => exact ⟨h1, h2⟩
  | symm _ ih => exact ⟨ih.2, ih.1⟩
  | trans _ _ ih1 ih2 => exact ⟨ih1.1, ih2.2⟩
theorem Conn.refl {p q : List Int} {k i : Nat} (h : i < p.length) : Conn p q k i i := .same h h rfl
theorem Conn.mono {p q : List Int} {k k' i j : Nat} (hk : k ≤ k') (h : Conn p q k i j) : Conn p q k' i j := by
  induction h with
  | same h1 h2 h3 => exact .same h1 h2 h3
  | tie h1 h2 h3 h4 h5 => exact .tie h1 h2 (by omega) (by omega) h5
  | symm _ ih => exact ih.symm
  | trans _ _ ih1 ih2 => exact ih1.trans ih2
/-- What respects both respects what is connected. -/
theorem Conn.lift {p q : List Int} {k : Nat} {α : Sort _} (f : Nat → α) (h1 : ∀ i j, i < p.length → j < p.length → at_ p i = at_ p j → f i = f j) (h2 : ∀ i j, i < p.length → j < p.length → i < k → j < k → at_ q i = at_ q j → f i = f j) {i j : Nat} (h : Conn p q k i j) : f i = f j := by
  induction h with
  | same a b c => exact h1 _ _ a b c
  | tie a b c d e => exact h2 _ _ a b c d e
  | symm _ ih => exact ih.symm
  | trans _ _ ih1 ih2 => exact ih1.trans ih2
theorem Conn.zero {p q : List Int} {i j : Nat} (h : Conn p q 0 i j) : at_ p i = at_ p j := h.lift (at_ p) (fun _ _ _ _ e => e) (fun i _ _ _ h => absurd h (Nat.not_lt_zero i))

/-- The forest when k elements of q have been seen. -/
structure Forest (p q : List Int) (k : Nat) (t : List Int) : Prop where
  len : t.length = p.length
  root : ∀ b, b < p.length → ∃ r, Root t b r
  tied : ∀ i j r s, i < p.length → j < p.length → Root t (at_ p i).toNat r → Root t (at_ p j).toNat s → (r = s ↔ Conn p q k i j)
/-- The list 0, 1, .. -/
def ids (n : Nat) : List Int := (List.range n).map fun (i : Nat) => (i : Int)
theorem ids_length (n : Nat) : (ids n).length = n := by simp [ids]
theorem ids_get (n i : Nat) (h : i < n) : (ids n)[i]'(by rw [ids_length]; exact h) = (i : Int) := by simp [ids]
theorem at_ids {n i : Nat} (h : i < n) : at_ (ids n) i = i := by rw [at_get (by rw [ids_length]; exact h), ids_get n i h]
theorem at_bounds {p : List Int} (hp : rightP p) {i : Nat} (hi : i < p.length) : 0 ≤ at_ p i ∧ at_ p i < p.length := by rw [at_get hi]; exact hp.bounds _ (List.getElem_mem hi)
theorem Forest.start {p : List Int} (q : List Int) (hp : rightP p) : Forest p q 0 (ids p.length) where
  len := ids_length _
  root := fun b hb => ⟨b, Root.self (by rw [ids_length]; exact hb) (at_ids hb)⟩
  tied := by
    intro i j r s hi hj hr hs
    have h1 := at_bounds hp hi
    have h2 := at_bounds hp hj
    have e1 := hr.one (Root.self (by rw [ids_length]; omega) (at_ids (by omega)))
    have e2 := hs.one (Root.self (by rw [ids_length]; omega) (at_ids (by omega)))
    subst e1 e2
    constructor
    · intro e
      exact .same hi hj (by omega)
    · intro e
      rw [e.zero]
theorem Conn.new {p q : List Int} {k : Nat} (hno : ∀ i, i < k → at_ q i ≠ at_ q k) {i j : Nat} (h : Conn p q (k + 1) i j) : Conn p q k i j := by
  induction h with
  | same h1 h2 h3 => exact .same h1 h2 h3
  | tie h1 h2 h3 h4 h5 =>
    rename_i a b
    by_cases ea : a = k
    · by_cases eb : b = k
      · subst ea eb
        exact .refl h1
      · exact absurd (by rw [← h5, ea]) (hno b (by omega))
    · by_cases eb : b = k
      · exact absurd (by rw [h5, eb]) (hno a (by omega))
      · exact .tie h1 h2 (by omega) (by omega) h5
  | symm _ ih => exact ih.symm
  | trans _ _ ih1 ih2 => exact ih1.trans ih2
theorem Forest.new {p q t : List Int} {k : Nat} (h : Forest p q k t) (hno : ∀ i, i < k → at_ q i ≠ at_ q k) : Forest p q (k + 1) t where
  len := h.len
  root := h.root
  tied := by
    intro i j r s hi hj hr hs
    rw [h.tied i j r s hi hj hr hs]
    exact ⟨fun e => e.mono (by omega), fun e => e.new hno⟩
theorem Forest.link {p q t : List Int} (hp : rightP p) {k f a c : Nat} (h : Forest p q k t) (hk : k < p.length) (hf : f < k) (hq : at_ q f = at_ q k) (ha : Root t (at_ p k).toNat a) (hc : Root t (at_ p f).toNat c) : Forest p q (k + 1) (t.set a c) := by
  obtain ⟨na, ha0⟩ := ha
  obtain ⟨nc, hc0⟩ := hc
  obtain ⟨-, hal, ha1⟩ := ha0.lt
  obtain ⟨-, hcl, hc1⟩ := hc0.lt
  have ha : Root t (at_ p k).toNat a := ⟨na, ha0⟩
  have hc : Root t (at_ p f).toNat c := ⟨nc, hc0⟩
  have hfp : f < p.length := by omega
  have hfk : Conn p q (k + 1) f k := .tie hfp hk (by omega) (by omega) hq
  refine ⟨by rw [List.length_set]; exact h.len, fun b hb => ?_, ?_⟩
  · obtain ⟨r, hr⟩ := h.root b hb
    exact ⟨_, hr.link hal hcl ha1 hc1⟩
  · intro i j r s hi hj hr hs
    have hbi := at_bounds hp hi
    have hbj := at_bounds hp hj
    obtain ⟨r0, hr0⟩ := h.root (at_ p i).toNat (by omega)
    obtain ⟨s0, hs0⟩ := h.root (at_ p j).toNat (by omega)
    have er := hr.one (hr0.link hal hcl ha1 hc1)
    have es := hs.one (hs0.link hal hcl ha1 hc1)
    constructor
    · intro e
      rw [er, es] at e
      by_cases h1 : r0 = a
      · have g1 := ((h.tied i k r0 a hi hk hr0 ha).1 h1).mono (show k ≤ k + 1 by omega)
        by_cases h2 : s0 = a
        · exact g1.trans (((h.tied j k s0 a hj hk hs0 ha).1 h2).mono (by omega)).symm
        · rw [if_pos h1, if_neg h2] at e
          exact g1.trans (hfk.symm.trans (((h.tied j f s0 c hj hfp hs0 hc).1 e.symm).mono (by omega)).symm)
      · by_cases h2 : s0 = a
        · rw [if_neg h1, if_pos h2] at e
          exact (((h.tied i f r0 c hi hfp hr0 hc).1 e).mono (show k ≤ k + 1 by omega)).trans (hfk.trans (((h.tied j k s0 a hj hk hs0 ha).1 h2).mono (by omega)).symm)
        · rw [if_neg h1, if_neg h2] at e
          exact ((h.tied i j r0 s0 hi hj hr0 hs0).1 e).mono (by omega)
    · intro e
      have key : ∀ i j, i < p.length → j < p.length → ∀ r s, Root t (at_ p i).toNat r → Root t (at_ p j).toNat s → (if r = a then c else r) = (if s = a then c else s) →
          (fun x : Nat => ∃ r, Root t (at_ p i).toNat r ∧ x = if r = a then c else r) = (fun x : Nat => ∃ r, Root t (at_ p j).toNat r ∧ x = if r = a then c else r) := by
        intro i j hi hj r s hr hs e
        funext x
        apply propext
        constructor
        · rintro ⟨r', hr', rfl⟩
          rw [hr'.one hr]
          exact ⟨s, hs, e⟩
        · rintro ⟨r', hr', rfl⟩
          rw [hr'.one hs]
          exact ⟨r, hr, e.symm⟩
      have root : ∀ i, i < p.length → ∃ r, Root t (at_ p i).toNat r := fun i hi => h.root _ (by have := at_bounds hp hi; omega)
      have h2 := e.lift (fun i => (fun x : Nat => ∃ r, Root t (at_ p i).toNat r ∧ x = if r = a then c else r))
        (by
          intro i j hi hj e
          obtain ⟨r, hr⟩ := root i hi
          obtain ⟨s, hs⟩ := root j hj
          refine key i j hi hj r s hr hs ?_
          rw [(h.tied i j r s hi hj hr hs).2 (.same hi hj e)])
        (by
          intro i j hi hj hik hjk e5
          obtain ⟨r, hr⟩ := root i hi
          obtain ⟨s, hs⟩ := root j hj
          refine key i j hi hj r s hr hs ?_
          by_cases ei : i = k
          · subst ei
            have e1 := hr.one ha
            rw [if_pos e1]
            by_cases ej : j = i
            · subst ej
              rw [if_pos (hs.one ha)]
            · have e2 := (h.tied j f s c hj hfp hs hc).2 (.tie hj hfp (by omega) hf (by rw [hq, e5]))
              rw [e2]
              split <;> rfl
          · by_cases ej : j = k
            · subst ej
              rw [if_pos (hs.one ha)]
              have e2 := (h.tied i f r c hi hfp hr hc).2 (.tie hi hfp (by omega) hf (by rw [hq, e5]))
              rw [e2]
              split <;> rfl
            · rw [(h.tied i j r s hi hj hr hs).2 (.tie hi hj (by omega) (by omega) e5)])
      have h3 := congrFun h2 (if r0 = a then c else r0)
      have h4 : ∃ r, Root t (at_ p j).toNat r ∧ (if r0 = a then c else r0) = if r = a then c else r := by
        rw [← h3]
        exact ⟨r0, hr0, rfl⟩
      obtain ⟨s', hs', e4⟩ := h4
      rw [hs'.one hs0] at e4
      rw [er, es, e4]
/-- What Join answers. -/
def IsJoin (p q l : List Int) : Prop := rightP l ∧ l.length = p.length ∧ ∀ i j, i < p.length → j < p.length → (at_ l i = at_ l j ↔ Conn p q p.length i j)
theorem IsJoin.one {p q l l' : List Int} (h : IsJoin p q l) (h' : IsJoin p q l') : l = l' :=
  right_ext h.1 h'.1 (by rw [h.2.1, h'.2.1]) fun i j hi hj => by rw [h.2.1] at hi hj; rw [h.2.2 i j hi hj, h'.2.2 i j hi hj]
theorem Forest.isJoin {p q t : List Int} (hp : rightP p) (h : Forest p q p.length t) (out : List Int) (ho : out.length = p.length) (hr : ∀ i, i < p.length → ∃ r : Nat, Root t (at_ p i).toNat r ∧ at_ out i = r) : IsJoin p q (Num.num out) := by
  have e : Num.num out = numR p.length (at_ out) := by rw [num_numR out 0, ho]; rfl
  rw [e]
  refine ⟨numR_right _ _ hp.1, numR_length _ _, fun i j hi hj => ?_⟩
  rw [numR_iff _ _ hi hj]
  obtain ⟨r, hr1, hr2⟩ := hr i hi
  obtain ⟨s, hs1, hs2⟩ := hr j hj
  rw [hr2, hs2, ← h.tied i j r s hi hj hr1 hs1]
  omega
theorem Forest.roots {p q t : List Int} {k : Nat} (hp : rightP p) (h : Forest p q k t) : ∃ rl : List Int, rl.length = p.length ∧ ∀ i, i < p.length → ∃ r : Nat, Root t (at_ p i).toNat r ∧ at_ rl i = r := by
  have h1 : ∀ m, m ≤ p.length → ∃ rl : List Int, rl.length = m ∧ ∀ i, i < m → ∃ r : Nat, Root t (at_ p i).toNat r ∧ at_ rl i = r := by
    intro m
    induction m with
    | zero => exact fun _ => ⟨[], rfl, fun i hi => absurd hi (Nat.not_lt_zero i)⟩
    | succ m ih =>
      intro hm
      obtain ⟨rl, h2, h3⟩ := ih (by omega)
      have hb := at_bounds hp (show m < p.length by omega)
      obtain ⟨r, hr⟩ := h.root (at_ p m).toNat (by omega)
      refine ⟨rl ++ [(r : Int)], by simp [h2], fun i hi => ?_⟩
      by_cases e : i = m
      · subst e
        exact ⟨r, hr, by simp [at_, List.getD_eq_getElem?_getD, ← h2]⟩
      · obtain ⟨r', hr', e'⟩ := h3 i (by omega)
        refine ⟨r', hr', ?_⟩
        rw [← e']
        have : i < rl.length := by omega
        simp [at_, List.getD_eq_getElem?_getD, List.getElem?_append_left this]
  exact h1 _ (Nat.le_refl _)
end Go.Proofs.Ytboofecfmhbacaa

/- The walk of package blocks' Join. -/
namespace Go.Proofs.Ytboofecfmhbacaa
open Go.RowKit Go.WideMaps Go.Maps Go.Proofs.YtboofecfmhbacaaW.PrintWords Go.Proofs.YtboofecfmhbacaaW.PrintLast Go.Proofs.YtboofecfmhbacaaW.PrintMore
set_option linter.unusedVariables false
set_option linter.unusedSimpArgs false

set_option maxRecDepth 100000 in
set_option maxHeartbeats 1000000 in
theorem root_walk (k b r : Nat) (B ga n c : Nat) (t : List Int) (w : World) (hc : w.cell? ⟨B, 0, none⟩ = some (.slice (some ⟨ga, 0, none⟩) n c)) (ht : ∀ i, i < n → w.cell? ⟨ga, i, none⟩ = some (.int .i64 (at_ t i))) (hl : t.length = n) (hr : rootN t k b r) :
    Calls Try.prog 58 #[.int .i64 b, .pointer (some ⟨B, 0, none⟩)] w fun e w' => e = .returned (.int .i64 r) ∧ w' = w := by
  have HT := Aside0.mk ht
  have HL := Aside0.mk hl
  clear ht hl
  go_enter Try.func58, Try.ntmps58
  go_wp2
  go_loopg [0] k (fun gg x wr => ∃ (b' : Nat), x = .int .i64 b' ∧ wr = w ∧ Aside0 (rootN t gg b' r))
  case atStart => exact ⟨b, rfl, rfl, ⟨hr⟩⟩
  case round =>
    obtain ⟨b', rfl, rfl, HI⟩ := hrel
    have hbn : b' < n := by rw [← HL.out]; exact HI.out.lt.1
    have hx := HT.out b' hbn
    cases gk with
    | zero =>
      obtain ⟨rfl, -, h2⟩ := HI.out
      rw [h2] at hx
      have h1 : ((b' : Int) != (b' : Int)) = false := by simp
      go_wp2
      go_ret
      exact ⟨rfl, rfl⟩
    | succ m =>
      obtain ⟨-, d, h2, h3, h4⟩ := HI.out
      rw [h2] at hx
      have h1 : ((d : Int) != (b' : Int)) = true := bne_iff_ne.mpr (by omega)
      have HK := Aside0.mk h4
      clear h2 h3 h4
      go_wp2
      go_roundg m
      case rel => exact ⟨d, rfl, rfl, ⟨HK.out⟩⟩
      case measure => omega

/-- The forest's list as it lies: its row in block ga, the variable behind it. -/
structure ToInv (w wr : World) (ga n : Nat) (t : List Int) : Prop where
  cell : wr.cell? ⟨ga + 1, 0, none⟩ = some (.slice (some ⟨ga, 0, none⟩) n n)
  row : wr.ownsRow w.heap.size 3 1 (.slice (some ⟨ga, 0, none⟩) n n) n (encs (Value.int .i64) t)
  len : t.length = n
  below : Below w.heap.size w wr
  lt : ga + 1 < wr.heap.size
section
variable {w wr : World} {ga n : Nat} {t : List Int}
theorem ToInv.made (w w1 : World) (n : Nat) (hB : Below w.heap.size w w1) (hn : n ≤ 9223372036854775807) :
    ToInv w ((w1.alloc (.cells (madeCells #[.int .i64 0] n) 3)).alloc (.cells #[.slice (some ⟨w1.heap.size, 0, none⟩) n n] 22)) w1.heap.size n (List.replicate n 0) where
  cell := by
    have := cell_new (w1.alloc (.cells (madeCells #[.int .i64 0] n) 3)) (.slice (some ⟨w1.heap.size, 0, none⟩) n n) 22
    rwa [World.size_alloc] at this
  row := (own_made_of (enc := Value.int .i64) (d := (0 : Int)) w1 w.heap.size 3 n hB.size hn).alloc _
  len := by simp
  below := (hB.alloc hB.size _).alloc (by rw [World.size_alloc]; have := hB.size; omega) _
  lt := by rw [World.size_alloc, World.size_alloc]; omega
theorem ToInv.grown {row : Option Nat} {w1 : World} (h : ToInv w wr ga n t) (hg : wr.grownBy w1 row) (h1 : some ga ≠ row) (h2 : some (ga + 1) ≠ row) (hb : ∀ k, row = some k → w.heap.size ≤ k) : ToInv w w1 ga n t where
  cell := (World.cell?_of_block (hg.block _ h.lt h2)).trans h.cell
  row := h.row.kept hg (.inr h1)
  len := h.len
  below := h.below.grown hg h.below.size hb
  lt := Nat.lt_of_lt_of_le h.lt hg.size
theorem ToInv.lift {w1 : World} (h : ToInv w wr ga n t) (hB : Below wr.heap.size wr w1) : ToInv w w1 ga n t :=
  h.grown (grown_of_below hB none) (by simp) (by simp) (by simp)
theorem ToInv.at_ (h : ToInv w wr ga n t) (i : Nat) (hi : i < n) : wr.cell? ⟨ga, i, none⟩ = some (.int .i64 (at_ t i)) ∧ wr.frozen? ⟨ga, i, none⟩ = false := by
  have h1 := own_at_of (d := (0 : Int)) h.row (i : Int) (by omega) (by omega)
  simp only [Int.toNat_natCast] at h1
  refine ⟨?_, h1.2⟩
  rw [h1.1]
  rfl
theorem ToInv.store (h : ToInv w wr ga n t) (i : Nat) (x : Int) : ToInv w (wr.setCell ⟨ga, i, none⟩ (.int .i64 x)) ga n (t.set i x) where
  cell := (World.cell?_of_block (Below.heap_setCell _ _ _ _ (by simp))).trans h.cell
  row := by
    have h1 := (h.row.stored i (.int .i64 x)).1
    rwa [show (encs (Value.int .i64) t).set i (.int .i64 x) = encs (Value.int .i64) (t.set i x) by simp [encs, List.map_set]] at h1
  len := by rw [List.length_set]; exact h.len
  below := h.below.setCell (own_base h.row ga rfl) _
  lt := by rw [World.size_setCell]; exact h.lt
theorem FnMap.below {P : Program} {kt et : TypeId} {b N : Nat} {g : Int → Option Int} {w1 : World} (h : FnMap P kt et b wr N g) (hB : Below wr.heap.size wr w1) : FnMap P kt et b w1 N g := h.kept (grown_of_below hB none) (by simp)
theorem FnMap.more {P : Program} {kt et : TypeId} {b N : Nat} {g : Int → Option Int} (h : FnMap P kt et b wr N g) : FnMap P kt et b wr (N + 1) g := by
  obtain ⟨D, n, h0, h1⟩ := h
  exact ⟨D, n, by omega, h1⟩
theorem ToInv.root (h : ToInv w wr ga n t) {b r : Nat} (hr : Root t b r) : Calls Try.prog 58 #[.int .i64 b, .pointer (some ⟨ga + 1, 0, none⟩)] wr fun e w' => e = .returned (.int .i64 r) ∧ w' = wr := by
  obtain ⟨k, hk⟩ := hr
  exact root_walk k b r (ga + 1) ga n n t wr h.cell (fun i hi => (h.at_ i hi).1) h.len hk
end

/-- What the map of ties says when k elements have been seen. -/
def Told (p q : List Int) (k : Nat) (g : Int → Option Int) : Prop := (∀ y, g y = none → ∀ i, i < k → Go.Proofs.Ytboofecfmhbacaa.at_ q i ≠ y) ∧ ∀ y v, g y = some v → ∃ f, f < k ∧ Go.Proofs.Ytboofecfmhbacaa.at_ q f = y ∧ Go.Proofs.Ytboofecfmhbacaa.at_ p f = v
theorem Told.start (p q : List Int) : Told p q 0 (fun _ => none) := ⟨fun _ _ i hi => absurd hi (Nat.not_lt_zero i), fun _ _ h => by cases h⟩
theorem Told.new {p q : List Int} {k : Nat} {g : Int → Option Int} (h : Told p q k g) (hp : k < p.length) (hq : k < q.length) : Told p q (k + 1) (fun y => if y = q[k] then some p[k] else g y) := by
  refine ⟨fun y hy i hi => ?_, fun y v hv => ?_⟩
  · by_cases e : y = q[k]
    · simp [e] at hy
    · simp only [if_neg e] at hy
      by_cases ei : i = k
      · subst ei
        rw [at_get hq]
        exact Ne.symm e
      · exact h.1 y hy i (by omega)
  · by_cases e : y = q[k]
    · simp only [if_pos e] at hv
      injection hv with hv
      exact ⟨k, by omega, by rw [at_get hq, e], by rw [at_get hp, hv]⟩
    · simp only [if_neg e] at hv
      obtain ⟨f, h1, h2, h3⟩ := h.2 y v hv
      exact ⟨f, by omega, h2, h3⟩
theorem Told.old {p q : List Int} {k : Nat} {g : Int → Option Int} (h : Told p q k g) (hq : k < q.length) {v : Int} (hv : g q[k] = some v) : Told p q (k + 1) g := by
  refine ⟨fun y hy i hi => ?_, fun y v' hv' => ?_⟩
  · by_cases ei : i = k
    · subst ei
      rw [at_get hq]
      rintro rfl
      rw [hy] at hv
      cases hv
    · exact h.1 y hy i (by omega)
  · obtain ⟨f, h1, h2, h3⟩ := h.2 y v' hv'
    exact ⟨f, by omega, h2, h3⟩

set_option maxRecDepth 100000 in
set_option maxHeartbeats 1000000 in
theorem join_no (A0 : Option Addr) (c0 : Nat) (p : List Int) (A1 : Option Addr) (c1 : Nat) (q : List Int) (w : World) (hr0 : Kd.C (Kd.int .i64) w A0 p.length p) (hr1 : Kd.C (Kd.int .i64) w A1 q.length q) (hw0 : Wf p) (hw1 : Wf q) (hno : bothE p q ≠ 0) :
    Calls Try.prog 31 #[.slice A0 p.length c0, .slice A1 q.length c1] w fun e w' => e = .returned (.tuple #[.slice none 0 0, .int .i64 (bothE p q)]) ∧ Below w.heap.size w w' := by
  have HM := Aside0.mk (both_walk A0 c0 p A1 c1 q w hr0 hr1 hw0 hw1)
  generalize bothE p q = b at HM hno ⊢
  have h1 : (b == 0) = false := beq_eq_false_iff_ne.mpr hno
  have h2 : (b != 0) = true := bne_iff_ne.mpr hno
  clear hno hr0 hr1 hw0
  go_enter Try.func31, Try.ntmps31
  go_wp2_with (go_at_call 56; refine HM.out.mono ?_; rintro e w1 ⟨rfl, hB⟩)
  go_ret2
  exact ⟨rfl, hB⟩

set_option maxRecDepth 100000 in
set_option maxHeartbeats 2000000 in
theorem join_yes (A0 : Option Addr) (c0 : Nat) (p : List Int) (A1 : Option Addr) (c1 : Nat) (q : List Int) (w : World) (hr0 : Kd.C (Kd.int .i64) w A0 p.length p) (hr1 : Kd.C (Kd.int .i64) w A1 q.length q) (hp : rightP p) (hq : rightP q) (hl : p.length = q.length) :
    Calls Try.prog 31 #[.slice A0 p.length c0, .slice A1 q.length c1] w fun e w' => ∃ v l, e = .returned (.tuple #[v, .int .i64 0]) ∧ IsJoin p q l ∧ Kd.R (Kd.int .i64) 3 w' w.heap.size (fun _ => True) v l ∧ Below w.heap.size w w' := by
  have h0 := both_walk A0 c0 p A1 c1 q w hr0 hr1 hp.small.wf hq.small.wf
  rw [show bothE p q = 0 by simp [bothE, hp, hq, hl]] at h0
  have HM := Aside0.mk h0
  have HR0 := Aside0.mk hr0
  have HR1 := Aside0.mk hr1
  have HP := Aside0.mk hp
  have HQ := Aside0.mk hq
  have HL := Aside0.mk hl
  have hn1 : p.length ≤ 1024 := hp.1
  clear h0 hr0 hr1 hp hq hl
  have hmk := print_make_of 22 3 (.int .i64 0) 8 Try.underlying22 info3 rfl (by decide) p.length (by omega)
  have hmm := @run_makeMap Try.prog
  go_enter Try.func31, Try.ntmps31
  go_wp2_with (first
    | (go_at_call 56; refine HM.out.mono ?_; rintro e w1 ⟨rfl, hB⟩; have HB1 := Aside0.mk hB; clear hB))
  go_loopw [29] (fun i wr => ∃ k : Nat, i = .int .i64 k ∧ Aside0 (k ≤ p.length ∧ ToInv w wr w1.heap.size p.length (filled (ids p.length) k 0))) (fun i _ => p.length - (intOf i).toNat)
  case atStart => exact ⟨0, rfl, ⟨Nat.zero_le _, by rw [filled_zero, ids_length]; exact ToInv.made w w1 p.length HB1.out (by omega)⟩⟩
  case round =>
    obtain ⟨k, rfl, HI⟩ := hrel
    have hkl := HI.out.1
    by_cases hk : k < p.length
    · have hc := HI.out.2.cell
      obtain ⟨hx, hf⟩ := HI.out.2.at_ k hk
      have HS := Aside0.mk (show ToInv w (wr.setCell ⟨w1.heap.size, k, none⟩ (.int .i64 (k : Int))) w1.heap.size p.length (filled (ids p.length) (k + 1) 0) by
        have h := HI.out.2.store k (k : Int)
        have h2 := filled_set (ids p.length) k 0 (by rw [ids_length]; exact hk)
        rw [ids_get _ _ hk] at h2
        rwa [h2] at h)
      go_wp2
      go_roundw
      case rel => exact ⟨k + 1, by go_num, by omega, HS.out⟩
      case measure => simp [intOf]; omega
    · have hk' : k = p.length := by omega
      have HT := Aside0.mk (show ToInv w wr w1.heap.size p.length (ids p.length) by
        have h := HI.out.2
        rw [hk'] at h
        have h2 := filled_end (ids p.length) (0 : Int)
        rw [ids_length] at h2
        rwa [h2] at h)
      clear hk'
      go_wp2
      obtain ⟨mb, hmb⟩ : ∃ mb, mb = wr.heap.size := ⟨_, rfl⟩
      have HI5 := Aside0.mk (show ToInv w (wr.alloc (.map #[] 0)) w1.heap.size p.length (ids p.length) ∧ FnMap Try.prog 3 3 mb (wr.alloc (.map #[] 0)) 0 (fun _ => none) ∧ w1.heap.size + 1 < mb from
        ⟨HT.out.lift (below_alloc (Below.refl _ _) _), by rw [hmb]; exact FnMap.made Try.prog 3 3 wr, by rw [hmb]; exact HT.out.lt⟩)
      rw [← hmb]
      clear hmb HI HT
      generalize wr.alloc (.map #[] 0) = w5 at HI5 ⊢
      go_loopw [41] (fun i wr => ∃ (k : Nat) (t : List Int) (g : Int → Option Int), i = .int .i64 k ∧ Aside0 (k ≤ p.length ∧ Forest p q k t ∧ ToInv w wr w1.heap.size p.length t ∧ FnMap Try.prog 3 3 mb wr k g ∧ Told p q k g)) (fun i _ => q.length - (intOf i).toNat)
      case atStart => exact ⟨0, _, _, rfl, Nat.zero_le _, Forest.start q HP.out, HI5.out.1, HI5.out.2.1, Told.start p q⟩
      case round =>
        obtain ⟨k, t, g, rfl, HI⟩ := hrel
        have hkl := HI.out.1
        have hql := HL.out
        by_cases hk : k < q.length
        · have hkp : k < p.length := by omega
          have HL2 := Aside0.mk hql
          clear hql
          obtain ⟨adp, ep, hxp⟩ := ints_at (Kd.C_below HR0.out HI.out.2.2.1.below) k hkp
          obtain ⟨adq, eq, hxq⟩ := ints_at (Kd.C_below HR1.out HI.out.2.2.1.below) k hk
          subst ep eq
          have hkey := keyOf_int_mk Try.underlying3 (HQ.out.small.wf _ (List.getElem_mem hk))
          have hmbt := HI5.out.2.2
          cases hg : g q[k] with
          | none =>
            have hlook := HI.out.2.2.2.1.look_out law_int Try.underlying81 Try.underlying3 zero3 hkey hg
            obtain ⟨w6, hput, hmap, hgr⟩ := HI.out.2.2.2.1.put law_int Try.underlying81 Try.underlying3 hkey (by omega) (HP.out.small.wf _ (List.getElem_mem hkp))
            have HJ := Aside0.mk (show Forest p q (k + 1) t ∧ ToInv w w6 w1.heap.size p.length t ∧ FnMap Try.prog 3 3 mb w6 (k + 1) (fun y => if y = q[k] then some p[k] else g y) ∧ Told p q (k + 1) (fun y => if y = q[k] then some p[k] else g y) from
              ⟨HI.out.2.1.new (fun i hi => by rw [at_get hk]; exact HI.out.2.2.2.2.1 _ hg i hi), HI.out.2.2.1.grown hgr (by simp; omega) (by simp; omega) (by rintro k' h; injection h with h; have := HB1.out.size; omega), hmap, HI.out.2.2.2.2.new hkp hk⟩)
            clear hmap hgr hkey hg
            go_wp2
            go_roundw
            case rel => exact ⟨k + 1, t, _, by go_num, by omega, HJ.out.1, HJ.out.2.1, HJ.out.2.2.1, HJ.out.2.2.2⟩
            case measure => simp [intOf]; omega
          | some v =>
            have hlook := HI.out.2.2.2.1.look_in law_int Try.underlying81 Try.underlying3 zero3 hkey hg
            obtain ⟨f, hf, hqf, hpf⟩ := HI.out.2.2.2.2.2 _ _ hg
            have hbk := at_bounds HP.out hkp
            have hbf := at_bounds HP.out (show f < p.length by omega)
            obtain ⟨b1, hb1⟩ : ∃ b : Nat, at_ p k = b := ⟨(at_ p k).toNat, by omega⟩
            obtain ⟨b2, hb2⟩ : ∃ b : Nat, at_ p f = b := ⟨(at_ p f).toNat, by omega⟩
            obtain rfl : v = (b2 : Int) := by rw [← hb2, hpf]
            rw [← at_get hkp, hb1] at hxp
            obtain ⟨a, ha⟩ := HI.out.2.1.root b1 (by omega)
            obtain ⟨c, hc⟩ := HI.out.2.1.root b2 (by omega)
            have hal : a < p.length := by obtain ⟨m, h⟩ := ha; rw [← HI.out.2.1.len]; exact h.lt.2.1
            have HJ := Aside0.mk (show Forest p q (k + 1) (t.set a c) ∧ ToInv w (wr.setCell ⟨w1.heap.size, a, none⟩ (.int .i64 (c : Int))).drew w1.heap.size p.length (t.set a c) ∧ FnMap Try.prog 3 3 mb (wr.setCell ⟨w1.heap.size, a, none⟩ (.int .i64 (c : Int))).drew (k + 1) g ∧ Told p q (k + 1) g from
              ⟨HI.out.2.1.link HP.out hkp hf (by rw [hqf, at_get hk]) (by rw [hb1]; exact ha) (by rw [hb2]; exact hc), (HI.out.2.2.1.store a c).lift (below_drew (Below.refl _ _)), ((HI.out.2.2.2.1.setCell (by simp; omega) _).below (below_drew (Below.refl _ _))).more, HI.out.2.2.2.2.old hk hg⟩)
            have C1 := (HI.out.2.2.1.lift (below_drew (Below.refl _ _))).root ha
            have C2 := (HI.out.2.2.1.lift (below_drew (Below.refl _ _))).root hc
            have hcell := HI.out.2.2.1.cell
            obtain ⟨hx9, hf9⟩ := HI.out.2.2.1.at_ a hal
            clear hkey hg hqf hpf hbk hbf hb1 hb2 ha hc
            go_wp2
            go_still_tail 11, (by kernel_rfl)
            still_call C1
            repeat still_step
            still_call C2
            repeat still_step
            refine wpStill_nil ?_
            change wpList _ _ _ _ _ wr.drew
            go_wp2
            go_roundw
            case rel => exact ⟨k + 1, _, g, by go_num, by omega, HJ.out.1, HJ.out.2.1, HJ.out.2.2.1, HJ.out.2.2.2⟩
            case measure => simp [intOf]; omega
        · have hk' : k = p.length := by omega
          have HJ := Aside0.mk (show Forest p q p.length t ∧ ToInv w wr w1.heap.size p.length t by
            have h := HI.out.2.1
            rw [hk'] at h
            exact ⟨h, HI.out.2.2.1⟩)
          have hmk2 := print_make_of 22 3 (.int .i64 0) 8 Try.underlying22 info3 rfl (by decide) p.length (by omega)
          clear hk' HI hql
          obtain ⟨rl, hrl, hroots⟩ := HJ.out.1.roots HP.out
          have HRL := Aside0.mk (And.intro hrl hroots)
          clear hrl hroots
          go_wp2
          obtain ⟨wo, hwo⟩ : ∃ wo : World, wo = wr := ⟨_, rfl⟩
          have hgo : w1.heap.size + 1 < wo.heap.size := by rw [hwo]; exact HJ.out.2.lt
          have hgb : w.heap.size ≤ wo.heap.size := by rw [hwo]; exact HJ.out.2.below.size
          rw [← hwo] at HJ ⊢
          clear hwo
          go_loopw [77] (fun i wr => ∃ k : Nat, i = .int .i64 k ∧ Aside0 (k ≤ p.length ∧ ToInv w wr w1.heap.size p.length t ∧ wr.ownsRow w.heap.size 3 1 (.slice (some ⟨wo.heap.size, 0, none⟩) p.length p.length) p.length (encs (Value.int .i64) (filled rl k 0)))) (fun i _ => p.length - (intOf i).toNat)
          case atStart => exact ⟨0, rfl, Nat.zero_le _, HJ.out.2.lift (below_alloc (Below.refl _ _) _), by rw [filled_zero, HRL.out.1]; exact own_made_of (enc := Value.int .i64) (d := (0 : Int)) wo w.heap.size 3 p.length hgb (by omega)⟩
          case round =>
            obtain ⟨k, rfl, HI⟩ := hrel
            have hkl := HI.out.1
            by_cases hk : k < p.length
            · obtain ⟨adp, ep, hxp⟩ := ints_at (Kd.C_below HR0.out HI.out.2.1.below) k hk
              subst ep
              obtain ⟨r, hr, har⟩ := HRL.out.2 k hk
              have hbk := at_bounds HP.out hk
              obtain ⟨b1, hb1⟩ : ∃ b : Nat, at_ p k = b := ⟨(at_ p k).toNat, by omega⟩
              rw [← at_get hk, hb1] at hxp
              rw [hb1] at hr
              have HC := Aside0.mk (HI.out.2.1.root hr)
              have hcc := own_at_of (d := (0 : Int)) HI.out.2.2 (k : Int) (by omega) (by omega)
              rw [Int.toNat_natCast] at hcc
              obtain ⟨hc9, hf9⟩ := hcc
              have hst := HI.out.2.2.stored k (.int .i64 (r : Int))
              have HS := Aside0.mk (show ToInv w (wr.setCell ⟨wo.heap.size, k, none⟩ (.int .i64 (r : Int))) w1.heap.size p.length t ∧ (wr.setCell ⟨wo.heap.size, k, none⟩ (.int .i64 (r : Int))).ownsRow w.heap.size 3 1 (.slice (some ⟨wo.heap.size, 0, none⟩) p.length p.length) p.length (encs (Value.int .i64) (filled rl (k + 1) 0)) from by
                refine ⟨HI.out.2.1.grown hst.2 (by simp; omega) (by simp; omega) (by intro k' h; injection h with h; omega), ?_⟩
                have h2 := hst.1
                have h3 := filled_set rl k 0 (by rw [HRL.out.1]; exact hk)
                have h4 : rl[k]'(by rw [HRL.out.1]; exact hk) = (r : Int) := by rw [← at_get (by rw [HRL.out.1]; exact hk)]; exact har
                rw [h4] at h3
                rw [← h3]
                rwa [show encs (Value.int .i64) ((filled rl k 0).set k (r : Int)) = (encs (Value.int .i64) (filled rl k 0)).set k (.int .i64 (r : Int)) by simp [encs, List.map_set]])
              clear hst har hb1 hbk hr
              go_wp2_with (go_at_call 58; refine HC.out.mono ?_; rintro e w9 ⟨rfl, rfl⟩)
              go_roundw
              case rel => exact ⟨k + 1, by go_num, by omega, HS.out.1, HS.out.2⟩
              case measure => simp [intOf]; omega
            · have hk' : k = p.length := by omega
              have h2 := HI.out.2.2
              rw [hk', ← HRL.out.1, filled_end] at h2
              have HRR := Kd.R_of_own (e := 3) (base := w.heap.size) (h1 := fun _ => rfl) (enc := Value.int .i64) (ok := fun _ => True) h2 (fun _ _ => trivial)
              obtain ⟨-, -, hC⟩ := R_len HRR
              have hjoin := HJ.out.1.isJoin HP.out rl HRL.out.1 HRL.out.2
              have hwf : ∀ x ∈ rl, (Lit.int .i64 x).wf = true := by
                intro x hx
                obtain ⟨i, hi, rfl⟩ := List.mem_iff_getElem.1 hx
                obtain ⟨r, ⟨m, hr⟩, har⟩ := HRL.out.2 i (by rw [← HRL.out.1]; exact hi)
                rw [at_get hi] at har
                have := hr.lt.2.1
                rw [HJ.out.1.len] at this
                exact WalkArith.wf_i64 (by omega)
              have HN := Aside0.mk (numbered_int_walk _ rl.length rl wr hC (by rw [HRL.out.1]; omega) hwf)
              rw [HRL.out.1] at HN
              have HJN := Aside0.mk hjoin
              clear h2 HRR hC hwf hjoin hk'
              go_wp2_with (go_at_call 41; refine HN.out.mono ?_; rintro e w9 ⟨v, rfl, hR9, hB9⟩; have HD := Aside0.mk (And.intro (Kd.R_lower hR9 HI.out.2.1.below.size) (HI.out.2.1.below.trans (hB9.mono HI.out.2.1.below.size))); clear hR9 hB9)
              go_ret2
              exact ⟨_, _, rfl, HJN.out, HD.out.1, HD.out.2⟩
end Go.Proofs.Ytboofecfmhbacaa

/- The walks of Of at strings, and of the laws' helpers lists, few, copied. -/
namespace Go.Proofs.Ytboofecfmhbacaa
open Go.RowKit Go.WideMaps Go.Maps Go.Proofs.YtboofecfmhbacaaW.PrintWords Go.Proofs.YtboofecfmhbacaaW.PrintLast Go.Proofs.YtboofecfmhbacaaW.PrintMore
set_option linter.unusedVariables false
set_option linter.unusedSimpArgs false

set_option maxRecDepth 100000 in
set_option maxHeartbeats 1000000 in
/-- Of, at strings. -/
theorem ofString_walk (A0 : Option Addr) (c0 : Nat) (l : List ByteArray) (w : World) (hr : Kd.C Kd.string w A0 l.length l) (hw : ∀ x ∈ l, x.size ≤ maxLen) :
    Calls Try.prog 18 #[.slice A0 l.length c0] w fun e w' => ∃ v, e = .returned (.tuple #[v, .int .i64 (if 1024 < l.length then 5 else 0)]) ∧ Kd.R (Kd.int .i64) 3 w' w.heap.size (fun _ => True) v (if 1024 < l.length then [] else Num.num l) ∧ Below w.heap.size w w' := by
  have hb := len_le hr
  by_cases h : 1024 < l.length
  · have h1 : decide ((1024 : Int) < (l.length : Int)) = true := decide_eq_true (by omega)
    rw [if_pos h, if_pos h]
    clear hr hw
    go_enter Try.func18, Try.ntmps18
    go_wp2
    go_ret2
    exact ⟨_, rfl, Kd.R_nil _ _ _ _ _, Below.refl _ _⟩
  · have h1 : decide ((1024 : Int) < (l.length : Int)) = false := decide_eq_false (by omega)
    rw [if_neg h, if_neg h]
    have HC := Aside0.mk (numbered_string_walk A0 c0 l w hr (by omega) hw)
    clear hr hw
    go_enter Try.func18, Try.ntmps18
    go_wp2_with (go_at_call 42; refine HC.out.mono ?_; rintro e w1 ⟨v, rfl, hR, hB⟩; have HR := Aside0.mk hR; clear hR)
    go_ret2
    exact ⟨_, rfl, HR.out, hB⟩

set_option maxRecDepth 100000 in
set_option maxHeartbeats 1000000 in
theorem lists_walk (A0 : Option Addr) (c0 : Nat) (l0 : List (List Int)) (A1 : Option Addr) (c1 : Nat) (l1 : List (List Int)) (w : World) (hr0 : Kd.C (Kd.slice 3 (Kd.int .i64)) w A0 l0.length l0) (hr1 : Kd.C (Kd.slice 3 (Kd.int .i64)) w A1 l1.length l1) :
    Calls Try.prog 40 #[.slice A0 l0.length c0, .slice A1 l1.length c1] w fun e w' => e = .returned (.bool (decide (l0 = l1))) ∧ Below w.heap.size w w' := by
  have HC := Aside0.mk (equalRows_walk A0 c0 l0 A1 c1 l1 w hr0 hr1)
  clear hr0 hr1
  go_enter Try.func40, Try.ntmps40
  go_wp2_with (go_at_call 65; refine HC.out.mono ?_; rintro e w1 ⟨rfl, hB⟩)
  go_ret
  exact ⟨rfl, hB⟩

theorem enters45 : ∀ args w, (callFunc 45 args).run Try.prog w = .ok (.enter 45 args) w := enters_of Try.func45 (by kernel_rfl) rfl
set_option maxRecDepth 100000 in
set_option maxHeartbeats 1000000 in
theorem few1_walk (A0 : Option Addr) (c0 : Nat) (l : List Int) (w : World) (hb : l.length ≤ 9223372036854775807) :
    Calls Try.prog 45 #[.slice A0 l.length c0] w fun e w' => e = .returned (.bool (decide (70 < l.length))) ∧ Below w.heap.size w w' := by
  by_cases h : 70 < l.length
  · have h1 : decide ((70 : Int) < (l.length : Int)) = true := decide_eq_true (by omega)
    rw [decide_eq_true h]
    go_enter Try.func45, Try.ntmps45
    go_wp2
    go_ret
    exact ⟨rfl, Below.refl _ _⟩
  · have h1 : decide ((70 : Int) < (l.length : Int)) = false := decide_eq_false (by omega)
    rw [decide_eq_false h]
    go_enter Try.func45, Try.ntmps45
    go_wp2
    go_ret
    exact ⟨rfl, Below.refl _ _⟩
/-- Lists that are few and short. -/
def fewB (next : List (List Int)) : Bool := decide (next.length ≤ 40) && !next.any fun l => decide (70 < l.length)
set_option maxRecDepth 100000 in
set_option maxHeartbeats 1000000 in
theorem few_walk (A0 : Option Addr) (c0 : Nat) (l : List (List Int)) (w : World) (hr : Kd.C (Kd.slice 3 (Kd.int .i64)) w A0 l.length l) :
    Calls Try.prog 23 #[.slice A0 l.length c0] w fun e w' => e = .returned (.bool (fewB l)) ∧ Below w.heap.size w w' := by
  have hb := len_le hr
  unfold fewB
  by_cases h : l.length ≤ 40
  · have h1 : decide ((l.length : Int) ≤ 40) = true := decide_eq_true (by omega)
    rw [decide_eq_true h, Bool.true_and]
    have HC := Aside0.mk (containsRows_walk A0 c0 l (fun l => decide (70 < l.length)) 45 #[] w hr enters45 (fun W A c x _ _ hC _ => few1_walk A c x W (len_le hC)))
    clear hr
    generalize l.any _ = b at HC ⊢
    cases b with
    | true =>
      go_enter Try.func23, Try.ntmps23
      go_wp2_with (go_at_call 44; refine HC.out.mono ?_; rintro e w1 ⟨rfl, hB⟩)
      go_ret
      exact ⟨rfl, hB⟩
    | false =>
      go_enter Try.func23, Try.ntmps23
      go_wp2_with (go_at_call 44; refine HC.out.mono ?_; rintro e w1 ⟨rfl, hB⟩)
      go_ret
      exact ⟨rfl, hB⟩
  · have h1 : decide ((l.length : Int) ≤ 40) = false := decide_eq_false (by omega)
    rw [decide_eq_false h, Bool.false_and]
    clear hr
    go_enter Try.func23, Try.ntmps23
    go_wp2
    go_ret
    exact ⟨rfl, Below.refl _ _⟩

set_option maxRecDepth 100000 in
set_option maxHeartbeats 2000000 in
theorem copied_walk (A0 : Option Addr) (c0 : Nat) (l : List (List Int)) (w : World) (hr : Kd.C (Kd.slice 3 (Kd.int .i64)) w A0 l.length l) (hl : l.length ≤ 1000000) (hx : ∀ x ∈ l, x.length ≤ 1000000) :
    Calls Try.prog 46 #[.slice A0 l.length c0] w fun e w' => ∃ v, e = .returned v ∧ Kd.R (Kd.slice 3 (Kd.int .i64)) 22 w' w.heap.size (fun _ => True) v l ∧ Below w.heap.size w w' := by
  have HR := Aside0.mk hr
  have HX := Aside0.mk hx
  clear hr hx
  go_enter Try.func46, Try.ntmps46
  go_wp2
  go_loopw [3, 8] (fun v i wr => ∃ k : Nat, i = .int .i64 k ∧ Aside0 (k ≤ l.length ∧ Kd.R (Kd.slice 3 (Kd.int .i64)) 22 wr w.heap.size (fun _ => True) v (l.take k) ∧ Below w.heap.size w wr)) (fun _ i _ => l.length - (intOf i).toNat)
  case atStart => exact ⟨0, rfl, Nat.zero_le _, by rw [List.take_zero]; exact Kd.R_nil _ _ _ _ _, Below.refl _ _⟩
  case round =>
    obtain ⟨k, rfl, HI⟩ := hrel
    have hkl := HI.out.1
    by_cases hk : k < l.length
    · obtain ⟨ad, A1, d1, e1, hx1, hd1, hD1⟩ := rows_at (Kd.C_below HR.out HI.out.2.2) k hk
      subst e1
      have HC := Aside0.mk (clone_walk A1 d1 l[k] wr hD1 (by have := HX.out _ (List.getElem_mem hk); omega))
      have HT := Aside0.mk (Num.take_succ l k hk)
      have HL8 := Aside0.mk (show ((l.take k).length + 1) * 24 ≤ 140737488355328 by simp; omega)
      clear hD1
      go_wp2_with (first
        | (go_at_call 15; refine HC.out.mono ?_; rintro e w2 ⟨v2, rfl, hR2, hB2⟩; obtain ⟨A2, c2, rfl⟩ := R_shape hR2 rfl; have HK := Aside0.mk (And.intro (Kd.R_below HI.out.2.1 hB2) (And.intro (Kd.R_lower (Kd.R_newR hR2 HI.out.2.1) HI.out.2.2.size) (HI.out.2.2.trans (hB2.mono HI.out.2.2.size)))); clear hR2 hB2)
        | (at_builtin; refine Kd.R_append (Kd.slice 3 (Kd.int .i64)) (w0 := w) (W := w2) w.heap.size rfl (.tmp 12) (.tmp 15) 36 22 (.slice none 0 0) 24 rfl Try.underlying36 info22 rfl (by decide) (by decide) u3 (l.take k) l[k] [.slice A2 l[k].length c2] (fun _ => True) (fun k => True ∧ some k ≠ u3.ownBlock) rfl rfl ⟨_, rfl, HK.out.2.1⟩ (fun _ h => h) (fun _ _ => trivial) HK.out.1 HK.out.2.2 HK.out.2.2.size HL8.out ?_; rintro v1 w3 hR3 hB3 hg3 hat3; rw [← HT.out] at hR3; have HJ := Aside0.mk (And.intro hR3 hB3); clear hR3 hB3 hg3 hat3))
      go_roundw
      case rel => exact ⟨k + 1, by go_num, by omega, HJ.out.1, HJ.out.2⟩
      case measure => simp [intOf]; omega
    · have hk' : k = l.length := by omega
      have HD := Aside0.mk (show Kd.R (Kd.slice 3 (Kd.int .i64)) 22 wr w.heap.size (fun _ => True) u3 l by have h := HI.out.2.1; rwa [hk', List.take_length] at h)
      clear hk'
      go_wp2
      go_ret
      exact ⟨_, rfl, HD.out, HI.out.2.2⟩
end Go.Proofs.Ytboofecfmhbacaa

/- The walk of the laws' helper awake: the chapter's examples. -/
namespace Go.Proofs.Ytboofecfmhbacaa
open Go.RowKit Go.WideMaps Go.Maps Go.Proofs.YtboofecfmhbacaaW.PrintWords Go.Proofs.YtboofecfmhbacaaW.PrintLast Go.Proofs.YtboofecfmhbacaaW.PrintMore
set_option linter.unusedVariables false
set_option linter.unusedSimpArgs false

/-- A literal of whole numbers, as it lies. -/
theorem lit_ints (W : World) (l : List Int) (n : Nat) (hn : l.length = n) (cs : Array Value) (hcs : cs = (encs (Value.int .i64) l).toArray) (hm : n ≤ maxLen) : Kd.C (Kd.int .i64) (W.alloc (.cells cs 3)) (some ⟨W.heap.size, 0, none⟩) n l := by
  subst hn hcs
  have h := World.ownsRow_lit (base := W.heap.size) (e := 3) (size := 1) W (encs (Value.int .i64) l).toArray l.length (Nat.le_refl _) hm (by simp [encs])
  have hR : Kd.R (Kd.int .i64) 3 _ W.heap.size (fun _ => True) _ l := Kd.R_of_own (h1 := fun _ => rfl) (enc := Value.int .i64) h (fun _ _ => trivial)
  exact (R_len hR).2.2
theorem lit_strs (W : World) (l : List ByteArray) (n : Nat) (hn : l.length = n) (cs : Array Value) (hcs : cs = (encs Value.string l).toArray) (hm : n ≤ maxLen) : Kd.C Kd.string (W.alloc (.cells cs 9)) (some ⟨W.heap.size, 0, none⟩) n l := by
  subst hn hcs
  have h := World.ownsRow_lit (base := W.heap.size) (e := 9) (size := 1) W (encs Value.string l).toArray l.length (Nat.le_refl _) hm (by simp [encs])
  have hR : Kd.R Kd.string 9 _ W.heap.size (fun _ => True) _ l := Kd.R_of_own (h1 := fun _ => rfl) (enc := Value.string) h (fun _ _ => trivial)
  exact (R_len hR).2.2
theorem lit_below (W : World) (o : Obj) : Below W.heap.size W (W.alloc o) := below_alloc (Below.refl _ _) o
/-- A literal of lists. -/
theorem lit_rows (W : World) (ls : List (List Int)) (vs : List Value) (n : Nat) (hn : ls.length = n) (hv : vs.length = n) (cs : Array Value) (hcs : cs = vs.toArray) (hm : n ≤ maxLen)
    (h : ∀ j (h1 : j < vs.length) (h2 : j < ls.length), ∃ A c, vs[j] = .slice A ls[j].length c ∧ ls[j].length ≤ c ∧ Kd.C (Kd.int .i64) W A ls[j].length ls[j]) :
    Kd.C (Kd.slice 3 (Kd.int .i64)) (W.alloc (.cells cs 22)) (some ⟨W.heap.size, 0, none⟩) n ls := by
  subst hcs
  have h0 := World.ownsRow_lit (base := W.heap.size) (e := 22) (size := 1) W vs.toArray n (Nat.le_refl _) hm (by simp [hv])
  refine ⟨hn, by unfold maxLen at hm; exact hm, fun hpos => ⟨_, rfl, fun j p hj => ?_⟩⟩
  have hj1 : j < ls.length := (List.getElem?_eq_some_iff.1 hj).1
  have hj2 : j < vs.length := by omega
  have hp : p = ls[j] := by
    rw [List.getElem?_eq_getElem hj1] at hj
    exact (Option.some.inj hj).symm
  subst hp
  obtain ⟨A, c, e1, e2, e3⟩ := h j hj2 hj1
  refine ⟨[vs[j]], rfl, ⟨A, c, by rw [e1], e2, Kd.C_below e3 (lit_below W _)⟩, fun i u hu => ?_⟩
  cases i with
  | zero =>
    have hu' : vs[j] = u := by simpa using hu
    subst hu'
    have := h0.cells rfl j vs[j] (by simp [hj2])
    simpa [Kd.slice] using this
  | succ i => simp at hu
/-- A list is compared with a literal that holds the same. -/
theorem eq_lit (A : Option Addr) (c n : Nat) (l : List Int) (hn : l.length = n) (W : World) (hC : Kd.C (Kd.int .i64) W A n l) (cs : Array Value) (hcs : cs = (encs (Value.int .i64) l).toArray) (hm : n ≤ maxLen) :
    Calls Try.prog 19 #[.slice A n c, .slice (some ⟨W.heap.size, 0, none⟩) n n] (W.alloc (.cells cs 3)) fun e w' => e = .returned (.bool true) ∧ Below W.heap.size W w' := by
  subst hn
  refine (equal_walk A c l (some ⟨W.heap.size, 0, none⟩) l.length l _ (Kd.C_below hC (lit_below W _)) (lit_ints W l _ rfl cs hcs hm)).mono ?_
  rintro e w' ⟨rfl, hB⟩
  exact ⟨by simp, (lit_below W _).trans (hB.mono (by simp))⟩

def exA : List ByteArray := [⟨#[97]⟩, ⟨#[98]⟩, ⟨#[97]⟩, ⟨#[99]⟩]
def exN : List (List Int) := [[1], [2], [3], [3]]
theorem exA_num : Num.num exA = [0, 1, 0, 2] := by decide
theorem ex_meet : meetP [0, 0, 1, 1] [0, 1, 1, 1] = [0, 1, 2, 2] := by decide
theorem ex_join {l : List Int} (h : IsJoin [0, 0, 1, 1] [0, 1, 1, 1] l) : l = [0, 0, 0, 0] := by
  refine right_ext h.1 (by decide) h.2.1 fun i j hi hj => ?_
  rw [h.2.1] at hi hj
  rw [h.2.2 i j hi hj]
  have hall : ∀ i, i < 4 → Conn [0, 0, 1, 1] [0, 1, 1, 1] 4 i 0 := by
    intro i hi
    have h01 : Conn [0, 0, 1, 1] [0, 1, 1, 1] 4 1 0 := .same (by decide) (by decide) (by decide)
    have h21 : Conn [0, 0, 1, 1] [0, 1, 1, 1] 4 2 1 := .tie (by decide) (by decide) (by decide) (by decide) (by decide)
    have h32 : Conn [0, 0, 1, 1] [0, 1, 1, 1] 4 3 2 := .same (by decide) (by decide) (by decide)
    match i, hi with
    | 0, _ => exact .refl (by decide)
    | 1, _ => exact h01
    | 2, _ => exact h21.trans h01
    | 3, _ => exact h32.trans (h21.trans h01)
  have hz : ∀ i, i < 4 → at_ [0, 0, 0, 0] i = 0 := by decide
  constructor
  · intro _
    rw [hz i hi, hz j hj]
  · intro _
    exact (hall i hi).trans (hall j hj).symm
theorem ex_refine : refineP [0, 0, 0, 1] exN = [0, 0, 1, 2] := by decide
theorem ex_stops : Stops [0, 0, 0, 1] exN 2 := by refine ⟨by decide, ?_⟩; decide
theorem ex_iter : iterP [0, 0, 0, 1] exN 2 = [0, 1, 2, 3] := by decide
theorem ex_stops0 : Stops [0, 0, 0, 0] exN 0 := ⟨by decide, fun j hj => absurd hj (Nat.not_lt_zero j)⟩
theorem ex_quot : quotP [0, 0, 0, 0] exN = [[0]] := by decide
theorem ex_next : nextP 4 exN := by decide
theorem ex_right : rightP [0, 0, 0, 1] ∧ rightP [0, 0, 0, 0] ∧ rightP [0, 0, 1, 1] ∧ rightP [0, 1, 1, 1] := by decide
theorem ex_stable : stableP [0, 0, 0, 0] exN := by decide

theorem c_lift {α : Type} {d : Kd α} {W W1 : World} {A : Option Addr} {n : Nat} {l : List α} (h : d.C W A n l) (hB : Below W.heap.size W W1) : d.C W1 A n l := Kd.C_below h hB
theorem r_read {α : Type} {d : Kd α} {e : Nat} {w : World} {base : Nat} {ok : Nat → Prop} {v : Value} {xs : List α} {n : Nat} (h : d.R e w base ok v xs) (hn : xs.length = n) : ∃ A c, v = .slice A n c ∧ d.C w A n xs := by
  subst hn
  obtain ⟨A, c, e1, _, hC⟩ := Kd.R_reads h
  exact ⟨A, c, e1, hC⟩
theorem aw18 (W : World) : Calls Try.prog 18 #[.slice (some ⟨W.heap.size, 0, none⟩) 4 4] (W.alloc (.cells #[.string ⟨#[97]⟩, .string ⟨#[98]⟩, .string ⟨#[97]⟩, .string ⟨#[99]⟩] 9)) fun e w' => ∃ A c, e = .returned (.tuple #[.slice A 4 c, .int .i64 0]) ∧ Kd.C (Kd.int .i64) w' A 4 [0, 1, 0, 2] ∧ Below W.heap.size W w' := by
  refine (ofString_walk _ 4 exA _ (lit_strs W exA 4 rfl _ rfl (by decide)) (by decide)).mono ?_
  rintro e w' ⟨v, rfl, hR, hB⟩
  rw [show (if 1024 < exA.length then [] else Num.num exA) = [0, 1, 0, 2] by decide] at hR
  obtain ⟨A, c, rfl, hC⟩ := r_read hR (n := 4) rfl
  exact ⟨A, c, rfl, hC, (lit_below W _).trans (hB.mono (by simp))⟩
theorem lit2 (W : World) (o : Obj) (l : List Int) (n : Nat) (hn : l.length = n) (cs : Array Value) (hcs : cs = (encs (Value.int .i64) l).toArray) (hm : n ≤ maxLen) : Kd.C (Kd.int .i64) ((W.alloc o).alloc (.cells cs 3)) (some ⟨W.heap.size + 1, 0, none⟩) n l := by
  have h := lit_ints (W.alloc o) l n hn cs hcs hm
  rwa [World.size_alloc] at h
theorem aw30 (W : World) : Calls Try.prog 30 #[.slice (some ⟨W.heap.size, 0, none⟩) 4 4, .slice (some ⟨W.heap.size + 1, 0, none⟩) 4 4] ((W.alloc (.cells #[.int .i64 0, .int .i64 0, .int .i64 1, .int .i64 1] 3)).alloc (.cells #[.int .i64 0, .int .i64 1, .int .i64 1, .int .i64 1] 3)) fun e w' => ∃ A c, e = .returned (.tuple #[.slice A 4 c, .int .i64 0]) ∧ Kd.C (Kd.int .i64) w' A 4 [0, 1, 2, 2] ∧ Below W.heap.size W w' := by
  have h1 := lit_ints W [0, 0, 1, 1] 4 rfl _ rfl (by decide)
  refine (meet_yes _ 4 [0, 0, 1, 1] _ 4 [0, 1, 1, 1] _ (c_lift h1 (lit_below _ _)) (lit2 W _ [0, 1, 1, 1] 4 rfl _ rfl (by decide)) ex_right.2.2.1 ex_right.2.2.2 rfl).mono ?_
  rintro e w' ⟨v, rfl, hR, hB⟩
  rw [ex_meet] at hR
  obtain ⟨A, c, rfl, hC⟩ := r_read hR (n := 4) rfl
  exact ⟨A, c, rfl, hC, (lit_below W _).trans (((lit_below (W.alloc _) _).trans (hB.mono (by simp))).mono (by simp))⟩
theorem aw31 (W : World) : Calls Try.prog 31 #[.slice (some ⟨W.heap.size, 0, none⟩) 4 4, .slice (some ⟨W.heap.size + 1, 0, none⟩) 4 4] ((W.alloc (.cells #[.int .i64 0, .int .i64 0, .int .i64 1, .int .i64 1] 3)).alloc (.cells #[.int .i64 0, .int .i64 1, .int .i64 1, .int .i64 1] 3)) fun e w' => ∃ A c, e = .returned (.tuple #[.slice A 4 c, .int .i64 0]) ∧ Kd.C (Kd.int .i64) w' A 4 [0, 0, 0, 0] ∧ Below W.heap.size W w' := by
  have h1 := lit_ints W [0, 0, 1, 1] 4 rfl _ rfl (by decide)
  refine (join_yes _ 4 [0, 0, 1, 1] _ 4 [0, 1, 1, 1] _ (c_lift h1 (lit_below _ _)) (lit2 W _ [0, 1, 1, 1] 4 rfl _ rfl (by decide)) ex_right.2.2.1 ex_right.2.2.2 rfl).mono ?_
  rintro e w' ⟨v, l, rfl, hJ, hR, hB⟩
  rw [ex_join hJ] at hR
  obtain ⟨A, c, rfl, hC⟩ := r_read hR (n := 4) rfl
  exact ⟨A, c, rfl, hC, (lit_below W _).trans (((lit_below (W.alloc _) _).trans (hB.mono (by simp))).mono (by simp))⟩
/-- What follows of the examples, as it lies. -/
theorem aw_next (W : World) : Kd.C (Kd.slice 3 (Kd.int .i64)) (((((W.alloc (.cells #[.int .i64 1] 3)).alloc (.cells #[.int .i64 2] 3)).alloc (.cells #[.int .i64 3] 3)).alloc (.cells #[.int .i64 3] 3)).alloc (.cells #[.slice (some ⟨W.heap.size, 0, none⟩) 1 1, .slice (some ⟨W.heap.size + 1, 0, none⟩) 1 1, .slice (some ⟨W.heap.size + 2, 0, none⟩) 1 1, .slice (some ⟨W.heap.size + 3, 0, none⟩) 1 1] 22)) (some ⟨W.heap.size + 4, 0, none⟩) 4 exN := by
  have h1 := lit_ints W [1] 1 rfl _ rfl (by decide)
  have h2 := lit2 W (.cells #[.int .i64 1] 3) [2] 1 rfl _ rfl (by decide)
  have h3 := lit2 (W.alloc (.cells #[.int .i64 1] 3)) (.cells #[.int .i64 2] 3) [3] 1 rfl _ rfl (by decide)
  have h4 := lit2 ((W.alloc (.cells #[.int .i64 1] 3)).alloc (.cells #[.int .i64 2] 3)) (.cells #[.int .i64 3] 3) [3] 1 rfl _ rfl (by decide)
  simp only [World.size_alloc] at h3 h4
  have h := lit_rows ((((W.alloc (.cells #[.int .i64 1] 3)).alloc (.cells #[.int .i64 2] 3)).alloc (.cells #[.int .i64 3] 3)).alloc (.cells #[.int .i64 3] 3)) exN [.slice (some ⟨W.heap.size, 0, none⟩) 1 1, .slice (some ⟨W.heap.size + 1, 0, none⟩) 1 1, .slice (some ⟨W.heap.size + 2, 0, none⟩) 1 1, .slice (some ⟨W.heap.size + 3, 0, none⟩) 1 1] 4 rfl rfl _ rfl (by decide) ?_
  · simp only [World.size_alloc] at h
    exact h
  · intro j h5 h6
    match j, h5 with
    | 0, _ => exact ⟨_, 1, rfl, Nat.le_refl _, c_lift (c_lift (c_lift h1 (lit_below _ _)) (lit_below _ _)) (lit_below _ _)⟩
    | 1, _ => exact ⟨_, 1, rfl, Nat.le_refl _, c_lift (c_lift h2 (lit_below _ _)) (lit_below _ _)⟩
    | 2, _ => exact ⟨_, 1, rfl, Nat.le_refl _, c_lift h3 (lit_below _ _)⟩
    | 3, _ => exact ⟨_, 1, rfl, Nat.le_refl _, h4⟩

theorem aw35 (W : World) (N : Option Addr) (hN : Kd.C (Kd.slice 3 (Kd.int .i64)) W N 4 exN) : Calls Try.prog 35 #[.slice (some ⟨W.heap.size, 0, none⟩) 4 4, .slice N 4 4] (W.alloc (.cells #[.int .i64 0, .int .i64 0, .int .i64 0, .int .i64 1] 3)) fun e w' => ∃ A c, e = .returned (.tuple #[.slice A 4 c, .int .i64 0]) ∧ Kd.C (Kd.int .i64) w' A 4 [0, 0, 1, 2] ∧ Below W.heap.size W w' := by
  refine (refineOf_yes _ 4 [0, 0, 0, 1] N 4 exN _ (lit_ints W [0, 0, 0, 1] 4 rfl _ rfl (by decide)) (c_lift hN (lit_below _ _)) ex_right.1 ex_next).mono ?_
  rintro e w' ⟨v, rfl, hR, hB⟩
  rw [ex_refine] at hR
  obtain ⟨A, c, rfl, hC⟩ := r_read hR (n := 4) rfl
  exact ⟨A, c, rfl, hC, (lit_below W _).trans (hB.mono (by simp))⟩

theorem aw27a (W : World) (N : Option Addr) (hN : Kd.C (Kd.slice 3 (Kd.int .i64)) W N 4 exN) : Calls Try.prog 27 #[.slice (some ⟨W.heap.size, 0, none⟩) 4 4, .slice N 4 4] (W.alloc (.cells #[.int .i64 0, .int .i64 0, .int .i64 0, .int .i64 1] 3)) fun e w' => ∃ A c, e = .returned (.tuple #[.slice A 4 c, .int .i64 2, .int .i64 0]) ∧ Kd.C (Kd.int .i64) w' A 4 [0, 1, 2, 3] ∧ Below W.heap.size W w' := by
  refine (coarsest_yes _ 4 [0, 0, 0, 1] N 4 exN _ (lit_ints W [0, 0, 0, 1] 4 rfl _ rfl (by decide)) (c_lift hN (lit_below _ _)) ex_right.1 ex_next).mono ?_
  rintro e w' ⟨m, v, rfl, hS, hR, hB⟩
  obtain rfl := stops_one hS ex_stops
  rw [ex_iter] at hR
  obtain ⟨A, c, rfl, hC⟩ := r_read hR (n := 4) rfl
  exact ⟨A, c, rfl, hC, (lit_below W _).trans (hB.mono (by simp))⟩

theorem aw27b (W : World) (N : Option Addr) (hN : Kd.C (Kd.slice 3 (Kd.int .i64)) W N 4 exN) : Calls Try.prog 27 #[.slice (some ⟨W.heap.size, 0, none⟩) 4 4, .slice N 4 4] (W.alloc (.cells #[.int .i64 0, .int .i64 0, .int .i64 0, .int .i64 0] 3)) fun e w' => ∃ A c, e = .returned (.tuple #[.slice A 4 c, .int .i64 0, .int .i64 0]) ∧ Kd.C (Kd.int .i64) w' A 4 [0, 0, 0, 0] ∧ Below W.heap.size W w' := by
  refine (coarsest_yes _ 4 [0, 0, 0, 0] N 4 exN _ (lit_ints W [0, 0, 0, 0] 4 rfl _ rfl (by decide)) (c_lift hN (lit_below _ _)) ex_right.2.1 ex_next).mono ?_
  rintro e w' ⟨m, v, rfl, hS, hR, hB⟩
  obtain rfl := stops_one hS ex_stops0
  obtain ⟨A, c, rfl, hC⟩ := r_read hR (n := 4) rfl
  exact ⟨A, c, rfl, hC, (lit_below W _).trans (hB.mono (by simp))⟩

theorem aw28 (W : World) (N : Option Addr) (hN : Kd.C (Kd.slice 3 (Kd.int .i64)) W N 4 exN) : Calls Try.prog 28 #[.slice (some ⟨W.heap.size, 0, none⟩) 4 4, .slice N 4 4] (W.alloc (.cells #[.int .i64 0, .int .i64 0, .int .i64 0, .int .i64 0] 3)) fun e w' => ∃ A c, e = .returned (.tuple #[.slice A 1 c, .int .i64 0]) ∧ Kd.C (Kd.slice 3 (Kd.int .i64)) w' A 1 [[0]] ∧ Below W.heap.size W w' := by
  refine (quotient_yes _ 4 [0, 0, 0, 0] N 4 exN _ (lit_ints W [0, 0, 0, 0] 4 rfl _ rfl (by decide)) (c_lift hN (lit_below _ _)) ex_right.2.1 ex_next ex_stable).mono ?_
  rintro e w' ⟨v, rfl, hR, hB⟩
  rw [ex_quot] at hR
  obtain ⟨A, c, rfl, hC⟩ := r_read hR (n := 1) rfl
  exact ⟨A, c, rfl, hC, (lit_below W _).trans (hB.mono (by simp))⟩

theorem aw40 (A : Option Addr) (c : Nat) (W : World) (hC : Kd.C (Kd.slice 3 (Kd.int .i64)) W A 1 [[0]]) : Calls Try.prog 40 #[.slice A 1 c, .slice (some ⟨W.heap.size + 1, 0, none⟩) 1 1] ((W.alloc (.cells #[.int .i64 0] 3)).alloc (.cells #[.slice (some ⟨W.heap.size, 0, none⟩) 1 1] 22)) fun e w' => e = .returned (.bool true) ∧ Below W.heap.size W w' := by
  have h1 := lit_ints W [0] 1 rfl _ rfl (by decide)
  have h2 := lit_rows (W.alloc (.cells #[.int .i64 0] 3)) [[0]] [.slice (some ⟨W.heap.size, 0, none⟩) 1 1] 1 rfl rfl _ rfl (by decide) (by
    intro j h5 h6
    match j, h5 with
    | 0, _ => exact ⟨_, 1, rfl, Nat.le_refl _, h1⟩)
  rw [World.size_alloc] at h2
  refine (lists_walk A c [[0]] _ 1 [[0]] _ (c_lift (c_lift hC (lit_below _ _)) (lit_below _ _)) h2).mono ?_
  rintro e w' ⟨rfl, hB⟩
  exact ⟨by simp, (lit_below W _).trans (((lit_below (W.alloc _) _).trans (hB.mono (by simp))).mono (by simp))⟩
theorem aw35' (W : World) : Calls Try.prog 35 #[.slice (some ⟨W.heap.size + 5, 0, none⟩) 4 4, .slice (some ⟨W.heap.size + 4, 0, none⟩) 4 4] ((((((W.alloc (.cells #[.int .i64 1] 3)).alloc (.cells #[.int .i64 2] 3)).alloc (.cells #[.int .i64 3] 3)).alloc (.cells #[.int .i64 3] 3)).alloc (.cells #[.slice (some ⟨W.heap.size, 0, none⟩) 1 1, .slice (some ⟨W.heap.size + 1, 0, none⟩) 1 1, .slice (some ⟨W.heap.size + 2, 0, none⟩) 1 1, .slice (some ⟨W.heap.size + 3, 0, none⟩) 1 1] 22)).alloc (.cells #[.int .i64 0, .int .i64 0, .int .i64 0, .int .i64 1] 3)) fun e w' => ∃ A c, e = .returned (.tuple #[.slice A 4 c, .int .i64 0]) ∧ Kd.C (Kd.int .i64) w' A 4 [0, 0, 1, 2] ∧ Kd.C (Kd.slice 3 (Kd.int .i64)) w' (some ⟨W.heap.size + 4, 0, none⟩) 4 exN ∧ Below W.heap.size W w' := by
  have hN := aw_next W
  have hb : Below W.heap.size W (((((W.alloc (.cells #[.int .i64 1] 3)).alloc (.cells #[.int .i64 2] 3)).alloc (.cells #[.int .i64 3] 3)).alloc (.cells #[.int .i64 3] 3)).alloc (.cells #[.slice (some ⟨W.heap.size, 0, none⟩) 1 1, .slice (some ⟨W.heap.size + 1, 0, none⟩) 1 1, .slice (some ⟨W.heap.size + 2, 0, none⟩) 1 1, .slice (some ⟨W.heap.size + 3, 0, none⟩) 1 1] 22)) := (((((Below.refl _ _).alloc (Nat.le_refl _) _).alloc (by simp) _).alloc (by simp; omega) _).alloc (by simp; omega) _).alloc (by simp; omega) _
  have h := aw35 (((((W.alloc (.cells #[.int .i64 1] 3)).alloc (.cells #[.int .i64 2] 3)).alloc (.cells #[.int .i64 3] 3)).alloc (.cells #[.int .i64 3] 3)).alloc (.cells #[.slice (some ⟨W.heap.size, 0, none⟩) 1 1, .slice (some ⟨W.heap.size + 1, 0, none⟩) 1 1, .slice (some ⟨W.heap.size + 2, 0, none⟩) 1 1, .slice (some ⟨W.heap.size + 3, 0, none⟩) 1 1] 22)) _ hN
  simp only [World.size_alloc] at h
  refine h.mono ?_
  rintro e w' ⟨A, c, rfl, hC, hB⟩
  have hB2 : Below ((((((W.alloc (.cells #[.int .i64 1] 3)).alloc (.cells #[.int .i64 2] 3)).alloc (.cells #[.int .i64 3] 3)).alloc (.cells #[.int .i64 3] 3)).alloc (.cells #[.slice (some ⟨W.heap.size, 0, none⟩) 1 1, .slice (some ⟨W.heap.size + 1, 0, none⟩) 1 1, .slice (some ⟨W.heap.size + 2, 0, none⟩) 1 1, .slice (some ⟨W.heap.size + 3, 0, none⟩) 1 1] 22))).heap.size (((((W.alloc (.cells #[.int .i64 1] 3)).alloc (.cells #[.int .i64 2] 3)).alloc (.cells #[.int .i64 3] 3)).alloc (.cells #[.int .i64 3] 3)).alloc (.cells #[.slice (some ⟨W.heap.size, 0, none⟩) 1 1, .slice (some ⟨W.heap.size + 1, 0, none⟩) 1 1, .slice (some ⟨W.heap.size + 2, 0, none⟩) 1 1, .slice (some ⟨W.heap.size + 3, 0, none⟩) 1 1] 22)) w' := by simp only [World.size_alloc]; exact hB
  exact ⟨A, c, rfl, hC, c_lift hN hB2, hb.trans (hB2.mono (by simp; omega))⟩

theorem made4 : madeCells #[Value.int .i64 0] 4 = #[.int .i64 0, .int .i64 0, .int .i64 0, .int .i64 0] := by kernel_rfl
set_option maxRecDepth 100000 in
set_option maxHeartbeats 4000000 in
theorem awake_walk (w : World) : Calls Try.prog 14 #[] w fun e w' => e = .returned (.bool true) ∧ Below w.heap.size w w' := by
  have hmk := print_make_of 22 3 (.int .i64 0) 8 Try.underlying22 info3 rfl (by decide) 4 (by decide)
  rw [show ((4 : Nat) : Int) = 4 from rfl, made4] at hmk
  go_enter Try.func14, Try.ntmps14
  go_wp2_with (first
    | (go_at_call 18; refine (aw18 w).mono ?_; rintro e w1 ⟨A1, c1, rfl, hC, hB⟩; have F1_1 := Aside0.mk hC; have HB_1 := Aside0.mk hB; clear hC hB)
    | (go_at_call 30; refine (aw30 w1).mono ?_; rintro e w2 ⟨A2, c2, rfl, hC, hB⟩; have F2_2 := Aside0.mk hC; have F1_2 := Aside0.mk (c_lift F1_1.out hB); clear F1_1; have HB_2 := Aside0.mk (HB_1.out.trans (hB.mono HB_1.out.size)); clear HB_1; clear hC hB)
    | (go_at_call 31; refine (aw31 w2).mono ?_; rintro e w3 ⟨A3, c3, rfl, hC, hB⟩; have F3_3 := Aside0.mk hC; have F1_3 := Aside0.mk (c_lift F1_2.out hB); clear F1_2; have F2_3 := Aside0.mk (c_lift F2_2.out hB); clear F2_2; have HB_3 := Aside0.mk (HB_2.out.trans (hB.mono HB_2.out.size)); clear HB_2; clear hC hB)
    | (go_at_call 35; refine (aw35' w3).mono ?_; rintro e w4 ⟨A4, c4, rfl, hC, hN, hB⟩; have F4_4 := Aside0.mk hC; have FN_4 := Aside0.mk hN; clear hN; have F1_4 := Aside0.mk (c_lift F1_3.out hB); clear F1_3; have F2_4 := Aside0.mk (c_lift F2_3.out hB); clear F2_3; have F3_4 := Aside0.mk (c_lift F3_3.out hB); clear F3_3; have HB_4 := Aside0.mk (HB_3.out.trans (hB.mono HB_3.out.size)); clear HB_3; clear hC hB)
    | (go_at_call 27; refine (aw27a w4 _ FN_4.out).mono ?_; rintro e w5 ⟨A5, c5, rfl, hC, hB⟩; have F5_5 := Aside0.mk hC; have F1_5 := Aside0.mk (c_lift F1_4.out hB); clear F1_4; have F2_5 := Aside0.mk (c_lift F2_4.out hB); clear F2_4; have F3_5 := Aside0.mk (c_lift F3_4.out hB); clear F3_4; have F4_5 := Aside0.mk (c_lift F4_4.out hB); clear F4_4; have FN_5 := Aside0.mk (c_lift FN_4.out hB); clear FN_4; have HB_5 := Aside0.mk (HB_4.out.trans (hB.mono HB_4.out.size)); clear HB_4; clear hC hB)
    | (go_at_call 27; refine (aw27b w5 _ FN_5.out).mono ?_; rintro e w6 ⟨A6, c6, rfl, hC, hB⟩; have F6_6 := Aside0.mk hC; have F1_6 := Aside0.mk (c_lift F1_5.out hB); clear F1_5; have F2_6 := Aside0.mk (c_lift F2_5.out hB); clear F2_5; have F3_6 := Aside0.mk (c_lift F3_5.out hB); clear F3_5; have F4_6 := Aside0.mk (c_lift F4_5.out hB); clear F4_5; have F5_6 := Aside0.mk (c_lift F5_5.out hB); clear F5_5; have FN_6 := Aside0.mk (c_lift FN_5.out hB); clear FN_5; have HB_6 := Aside0.mk (HB_5.out.trans (hB.mono HB_5.out.size)); clear HB_5; clear hC hB)
    | (go_at_call 28; refine (aw28 w6 _ FN_6.out).mono ?_; rintro e w7 ⟨A7, c7, rfl, hC, hB⟩; have F7_7 := Aside0.mk hC; have F1_7 := Aside0.mk (c_lift F1_6.out hB); clear F1_6; have F2_7 := Aside0.mk (c_lift F2_6.out hB); clear F2_6; have F3_7 := Aside0.mk (c_lift F3_6.out hB); clear F3_6; have F4_7 := Aside0.mk (c_lift F4_6.out hB); clear F4_6; have F5_7 := Aside0.mk (c_lift F5_6.out hB); clear F5_6; have F6_7 := Aside0.mk (c_lift F6_6.out hB); clear F6_6; have FN_7 := Aside0.mk (c_lift FN_6.out hB); clear FN_6; have HB_7 := Aside0.mk (HB_6.out.trans (hB.mono HB_6.out.size)); clear HB_6; clear hC hB)
    | (go_at_call 19; refine (eq_lit A1 c1 4 _ rfl w7 F1_7.out _ rfl (by decide)).mono ?_; rintro e w8 ⟨rfl, hB⟩; clear F1_7; have F2_8 := Aside0.mk (c_lift F2_7.out hB); clear F2_7; have F3_8 := Aside0.mk (c_lift F3_7.out hB); clear F3_7; have F4_8 := Aside0.mk (c_lift F4_7.out hB); clear F4_7; have F5_8 := Aside0.mk (c_lift F5_7.out hB); clear F5_7; have F6_8 := Aside0.mk (c_lift F6_7.out hB); clear F6_7; have F7_8 := Aside0.mk (c_lift F7_7.out hB); clear F7_7; have HB_8 := Aside0.mk (HB_7.out.trans (hB.mono HB_7.out.size)); clear HB_7 hB)
    | (go_at_call 19; refine (eq_lit A2 c2 4 _ rfl w8 F2_8.out _ rfl (by decide)).mono ?_; rintro e w9 ⟨rfl, hB⟩; clear F2_8; have F3_9 := Aside0.mk (c_lift F3_8.out hB); clear F3_8; have F4_9 := Aside0.mk (c_lift F4_8.out hB); clear F4_8; have F5_9 := Aside0.mk (c_lift F5_8.out hB); clear F5_8; have F6_9 := Aside0.mk (c_lift F6_8.out hB); clear F6_8; have F7_9 := Aside0.mk (c_lift F7_8.out hB); clear F7_8; have HB_9 := Aside0.mk (HB_8.out.trans (hB.mono HB_8.out.size)); clear HB_8 hB)
    | (go_at_call 19; refine (eq_lit A3 c3 4 _ rfl w9 F3_9.out _ rfl (by decide)).mono ?_; rintro e w10 ⟨rfl, hB⟩; clear F3_9; have F4_10 := Aside0.mk (c_lift F4_9.out hB); clear F4_9; have F5_10 := Aside0.mk (c_lift F5_9.out hB); clear F5_9; have F6_10 := Aside0.mk (c_lift F6_9.out hB); clear F6_9; have F7_10 := Aside0.mk (c_lift F7_9.out hB); clear F7_9; have HB_10 := Aside0.mk (HB_9.out.trans (hB.mono HB_9.out.size)); clear HB_9 hB)
    | (go_at_call 19; refine (eq_lit A4 c4 4 _ rfl w10 F4_10.out _ rfl (by decide)).mono ?_; rintro e w11 ⟨rfl, hB⟩; clear F4_10; have F5_11 := Aside0.mk (c_lift F5_10.out hB); clear F5_10; have F6_11 := Aside0.mk (c_lift F6_10.out hB); clear F6_10; have F7_11 := Aside0.mk (c_lift F7_10.out hB); clear F7_10; have HB_11 := Aside0.mk (HB_10.out.trans (hB.mono HB_10.out.size)); clear HB_10 hB)
    | (go_at_call 19; refine (eq_lit A5 c5 4 _ rfl w11 F5_11.out _ rfl (by decide)).mono ?_; rintro e w12 ⟨rfl, hB⟩; clear F5_11; have F6_12 := Aside0.mk (c_lift F6_11.out hB); clear F6_11; have F7_12 := Aside0.mk (c_lift F7_11.out hB); clear F7_11; have HB_12 := Aside0.mk (HB_11.out.trans (hB.mono HB_11.out.size)); clear HB_11 hB)
    | (go_at_call 19; refine (eq_lit A6 c6 4 _ rfl w12 F6_12.out _ rfl (by decide)).mono ?_; rintro e w13 ⟨rfl, hB⟩; clear F6_12; have F7_13 := Aside0.mk (c_lift F7_12.out hB); clear F7_12; have HB_13 := Aside0.mk (HB_12.out.trans (hB.mono HB_12.out.size)); clear HB_12 hB)
    | (go_at_call 40; refine (aw40 A7 c7 w13 F7_13.out).mono ?_; rintro e w14 ⟨rfl, hB⟩; have HB_14 := Aside0.mk (HB_13.out.trans (hB.mono HB_13.out.size)); clear HB_13 hB))
  go_ret
  exact ⟨rfl, HB_14.out⟩
end Go.Proofs.Ytboofecfmhbacaa
