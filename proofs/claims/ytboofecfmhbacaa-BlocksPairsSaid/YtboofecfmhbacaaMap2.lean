/- A map of the call's own from whole numbers to whole numbers, said by a function. -/
import Derived.Test.YtboofecfmhbacaaMap
namespace Go.Proofs.Ytboofecfmhbacaa
open Go.RowKit Go.WideMaps Go.Maps

/-- Block b is a map that holds g, with at most N keys. -/
def FnMap (P : Program) (kt et : TypeId) (b : Nat) (w : World) (N : Nat) (g : Int → Option Int) : Prop :=
  ∃ (D : DataW Unit) (n : Nat), n ≤ N ∧ w.ownsMap P kt (plainElem P et) b n D ∧
    ∀ x l, keyOf P kt (.int .i64 x) = some l → Maps.has D l = (g x).isSome ∧ ∀ v, g x = some v → D.atKey l (.lit (.int .i64 0)) = .lit (.int .i64 v)

section
variable {P : Program} {kt et : TypeId} {b : Nat} {w : World} {N : Nat} {g : Int → Option Int}
theorem FnMap.made (P : Program) (kt et : TypeId) (w : World) : FnMap P kt et w.heap.size (w.alloc (.map #[] 0)) 0 (fun _ => none) :=
  ⟨.map [], 0, Nat.le_refl _, World.ownsMap_made w P kt _, fun x l _ => ⟨by simp [Maps.has], fun v h => by cases h⟩⟩
theorem FnMap.lt (h : FnMap P kt et b w N g) : b < w.heap.size := by
  obtain ⟨D, n, _, h1, _⟩ := h
  exact h1.lt
theorem FnMap.kept {w' : World} {row : Option Nat} (h : FnMap P kt et b w N g) (hg : w.grownBy w' row) (hne : some b ≠ row) : FnMap P kt et b w' N g := by
  obtain ⟨D, n, h0, h1, h2⟩ := h
  exact ⟨D, n, h0, h1.kept hg hne, h2⟩
theorem FnMap.setCell (h : FnMap P kt et b w N g) {a : Addr} (ha : b ≠ a.block) (u : Value) : FnMap P kt et b (w.setCell a u) N g := by
  obtain ⟨D, n, h0, h1, h2⟩ := h
  exact ⟨D, n, h0, h1.setCell ha u, h2⟩
theorem FnMap.look_in {t : TypeId} (h : FnMap P kt et b w N g) (K : Keyed P kt) (ht : P.underlying t = some (.map kt et)) (he : P.underlying et = some (.int .i64)) (hz : ∀ w : World, (zeroValue et).run P w = .ok (.int .i64 0) w)
    {x : Int} {l : Lit} (hk : keyOf P kt (.int .i64 x) = some l) {v : Int} (hm : g x = some v) :
    (Instr.lookup t (.map (some b)) (.int .i64 x) true).run P w = .ok (.tuple #[.int .i64 v, .bool true]) w := by
  obtain ⟨D, n, h0, h1, h2⟩ := h
  obtain ⟨u, ps, hrun, hv⟩ := h1.look_ok K ht (hz w) (plainElem_int he (by decide)) hk
  obtain ⟨hh, hat⟩ := h2 x l hk
  obtain ⟨c, rfl, hc, hwc⟩ := plainElem_int_inv he hv
  simp only [Prod.mk.injEq] at hc
  rw [hat v hm] at hc
  rw [hrun, hh, hm]
  have : c = v := by simpa using hc.1.symm
  rw [this]
  rfl
theorem FnMap.look_out {t : TypeId} (h : FnMap P kt et b w N g) (K : Keyed P kt) (ht : P.underlying t = some (.map kt et)) (he : P.underlying et = some (.int .i64)) (hz : ∀ w : World, (zeroValue et).run P w = .ok (.int .i64 0) w)
    {x : Int} {l : Lit} (hk : keyOf P kt (.int .i64 x) = some l) (hm : g x = none) :
    (Instr.lookup t (.map (some b)) (.int .i64 x) true).run P w = .ok (.tuple #[.int .i64 0, .bool false]) w := by
  obtain ⟨D, n, h0, h1, h2⟩ := h
  obtain ⟨u, ps, hrun, hv⟩ := h1.look_ok K ht (hz w) (plainElem_int he (by decide)) hk
  obtain ⟨hh, hat⟩ := h2 x l hk
  obtain ⟨c, rfl, hc, hwc⟩ := plainElem_int_inv he hv
  simp only [Prod.mk.injEq] at hc
  rw [hm] at hh
  rw [Maps.atKey_of_not_has (by rw [hh]; rfl)] at hc
  rw [hrun, hh]
  have : c = 0 := by simpa using hc.1.symm
  rw [this]
  rfl
theorem FnMap.put {t : TypeId} (h : FnMap P kt et b w N g) (K : Keyed P kt) (ht : P.underlying t = some (.map kt et)) (he : P.underlying et = some (.int .i64))
    {x : Int} {l : Lit} (hk : keyOf P kt (.int .i64 x) = some l) (hn : N < 1099511627776) {v : Int} (hv : (Lit.int .i64 v).wf = true) :
    ∃ w', (Instr.mapUpdate t (.map (some b)) (.int .i64 x) (.int .i64 v)).run P w = .ok () w' ∧ FnMap P kt et b w' (N + 1) (fun y => if y = x then some v else g y) ∧ w.grownBy w' (some b) := by
  obtain ⟨D, n, h0, h1, h2⟩ := h
  obtain ⟨w', hrun, hown, hturn⟩ := h1.store K ht (by unfold maxLen; omega) hk (plainElem_int he hv)
  refine ⟨w', hrun, ⟨_, n + 1, by omega, hown, fun y ly hy => ?_⟩, hturn.grown⟩
  by_cases e : y = x
  · subst e
    obtain rfl : ly = l := by rw [hk] at hy; exact (Option.some.inj hy).symm
    refine ⟨by rw [Maps.has_put_same h1.isMap (K.key hk)]; simp, fun u hu => ?_⟩
    rw [Maps.atKey_put_same h1.isMap (K.key hk)]
    simp at hu
    rw [hu]
  · have hne : ly ≠ l := fun e2 => e (by have := K.inj hy (e2 ▸ hk); injection this)
    obtain ⟨hh, hat⟩ := h2 y ly hy
    refine ⟨by rw [Maps.has_put_other hne, hh]; simp [e], fun u hu => ?_⟩
    simp only [if_neg e] at hu
    rw [Maps.atKey_put_other hne, hat u hu]
end
end Go.Proofs.Ytboofecfmhbacaa
