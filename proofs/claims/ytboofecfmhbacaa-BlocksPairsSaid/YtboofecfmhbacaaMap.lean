/- A map of the call's own that numbers keys in the order in which they came, as the walk needs it: what a look-up gives, and what a store of the next number leaves. -/
import Derived.Maps.OwnSet
import Derived.Maps.OwnOps
import Derived.WalkKit
import Derived.Test.YtboofecfmhbacaaNum
namespace Go.Proofs.Ytboofecfmhbacaa
open Go.RowKit Go.WideMaps Go.Maps

/-- Block b is a map from the keys m (as 'enc' writes them) to their places in m. -/
def MapAs {α : Type} [DecidableEq α] (P : Program) (kt et : TypeId) (enc : α → Value) (b : Nat) (w : World) (m : List α) : Prop :=
  ∃ (D : DataW Unit) (n : Nat), n ≤ m.length ∧ w.ownsMap P kt (plainElem P et) b n D ∧
    ∀ x l, keyOf P kt (enc x) = some l → Maps.has D l = decide (x ∈ m) ∧ (x ∈ m → D.atKey l (.lit (.int .i64 0)) = .lit (.int .i64 (Num.spot m x)))

section
variable {α : Type} [DecidableEq α] {P : Program} {kt et : TypeId} {enc : α → Value} {b : Nat} {w : World} {m : List α}
theorem MapAs.made (P : Program) (kt et : TypeId) (enc : α → Value) (w : World) : MapAs P kt et enc w.heap.size (w.alloc (.map #[] 0)) [] :=
  ⟨.map [], 0, Nat.le_refl _, World.ownsMap_made w P kt _, fun x l _ => ⟨by simp [Maps.has], fun h => by cases h⟩⟩
theorem MapAs.lt (h : MapAs P kt et enc b w m) : b < w.heap.size := by
  obtain ⟨D, n, _, h1, _⟩ := h
  exact h1.lt
theorem MapAs.kept {w' : World} {row : Option Nat} (h : MapAs P kt et enc b w m) (hg : w.grownBy w' row) (hne : some b ≠ row) : MapAs P kt et enc b w' m := by
  obtain ⟨D, n, h0, h1, h2⟩ := h
  exact ⟨D, n, h0, h1.kept hg hne, h2⟩
theorem MapAs.setCell (h : MapAs P kt et enc b w m) {a : Addr} (ha : b ≠ a.block) (u : Value) : MapAs P kt et enc b (w.setCell a u) m := by
  obtain ⟨D, n, h0, h1, h2⟩ := h
  exact ⟨D, n, h0, h1.setCell ha u, h2⟩
theorem MapAs.look_in {t : TypeId} (h : MapAs P kt et enc b w m) (K : Keyed P kt) (ht : P.underlying t = some (.map kt et)) (he : P.underlying et = some (.int .i64)) (hz : ∀ w : World, (zeroValue et).run P w = .ok (.int .i64 0) w)
    {x : α} {l : Lit} (hk : keyOf P kt (enc x) = some l) (hm : x ∈ m) :
    (Instr.lookup t (.map (some b)) (enc x) true).run P w = .ok (.tuple #[.int .i64 (Num.spot m x), .bool true]) w := by
  obtain ⟨D, n, h0, h1, h2⟩ := h
  obtain ⟨v, ps, hrun, hv⟩ := h1.look_ok K ht (hz w) (plainElem_int he (by decide)) hk
  obtain ⟨hh, hat⟩ := h2 x l hk
  obtain ⟨c, rfl, hc, hwc⟩ := plainElem_int_inv he hv
  simp only [Prod.mk.injEq] at hc
  rw [hat hm] at hc
  rw [hrun, hh, decide_eq_true hm]
  have : c = Num.spot m x := by simpa using hc.1.symm
  rw [this]
theorem MapAs.look_out {t : TypeId} (h : MapAs P kt et enc b w m) (K : Keyed P kt) (ht : P.underlying t = some (.map kt et)) (he : P.underlying et = some (.int .i64)) (hz : ∀ w : World, (zeroValue et).run P w = .ok (.int .i64 0) w)
    {x : α} {l : Lit} (hk : keyOf P kt (enc x) = some l) (hm : x ∉ m) :
    (Instr.lookup t (.map (some b)) (enc x) true).run P w = .ok (.tuple #[.int .i64 0, .bool false]) w := by
  obtain ⟨D, n, h0, h1, h2⟩ := h
  obtain ⟨v, ps, hrun, hv⟩ := h1.look_ok K ht (hz w) (plainElem_int he (by decide)) hk
  obtain ⟨hh, hat⟩ := h2 x l hk
  obtain ⟨c, rfl, hc, hwc⟩ := plainElem_int_inv he hv
  simp only [Prod.mk.injEq] at hc
  rw [Maps.atKey_of_not_has (by rw [hh]; simp [hm])] at hc
  rw [hrun, hh, decide_eq_false hm]
  have : c = 0 := by simpa using hc.1.symm
  rw [this]
theorem MapAs.put {t : TypeId} (h : MapAs P kt et enc b w m) (K : Keyed P kt) (hinj : ∀ x y : α, enc x = enc y → x = y) (ht : P.underlying t = some (.map kt et)) (he : P.underlying et = some (.int .i64))
    {x : α} {l : Lit} (hk : keyOf P kt (enc x) = some l) (hx : x ∉ m) (hn : m.length < 1099511627776) {v : Value} (hv : v = .int .i64 (m.length : Int)) :
    ∃ w', (Instr.mapUpdate t (.map (some b)) (enc x) v).run P w = .ok () w' ∧ MapAs P kt et enc b w' (m ++ [x]) ∧ w.grownBy w' (some b) := by
  subst hv
  obtain ⟨D, n, h0, h1, h2⟩ := h
  have hw : (Lit.int .i64 (m.length : Int)).wf = true := WalkArith.wf_i64 (by omega)
  obtain ⟨w', hrun, hown, hturn⟩ := h1.store K ht (by unfold maxLen; omega) hk (plainElem_int he hw)
  refine ⟨w', hrun, ⟨_, n + 1, by simp; omega, hown, fun y ly hy => ?_⟩, hturn.grown⟩
  by_cases e : y = x
  · subst e
    obtain rfl : ly = l := by rw [hk] at hy; exact (Option.some.inj hy).symm
    exact ⟨by rw [Maps.has_put_same h1.isMap (K.key hk)]; simp, fun _ => by rw [Maps.atKey_put_same h1.isMap (K.key hk), Num.spot, List.idxOf_append, if_neg hx]; simp⟩
  · have hne : ly ≠ l := fun e2 => e (hinj _ _ (K.inj hy (e2 ▸ hk)))
    obtain ⟨hh, hat⟩ := h2 y ly hy
    refine ⟨by rw [Maps.has_put_other hne, hh]; simp [e], fun hm => ?_⟩
    have hm' : y ∈ m := by
      rcases List.mem_append.1 hm with hm | hm
      · exact hm
      · exact absurd (List.mem_singleton.1 hm) e
    rw [Maps.atKey_put_other hne, hat hm', Num.spot, Num.spot, List.idxOf_append, if_pos hm']
end
end Go.Proofs.Ytboofecfmhbacaa
