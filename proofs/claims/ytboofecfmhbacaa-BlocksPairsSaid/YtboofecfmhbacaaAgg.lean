/- Values of several cells (arrays, structs) as the walk meets them: a variable made, stored whole, loaded whole, an element of a slice loaded whole; the cells stay under one name. -/
import Derived.Deep.WholeRow
import Derived.WalkKit
namespace Go.Proofs.Ytboofecfmhbacaa
open Go.RowKit
section
variable {P : Program} {ops : Array Oper} {rest : List Oper} {o : Oper} {a : Act} {w : World} {Q : Exit → Act → World → Prop}

theorem wpList_alloc_agg (hgd : o.guard = none) (e : TypeId) (ho : o.op = .alloc e) (Z : Array Value) (hz : ∀ w : World, (zeroValue e).run P w = .ok (.agg Z) w)
    (h : wpList P ops Q rest (a.put o.dst (.pointer (some ⟨w.heap.size, 0, none⟩))) (w.alloc (.cells Z e))) : wpList P ops Q (o :: rest) a w := by
  refine wpList_plain hgd fun K hK => ?_
  unfold Oper.wp execOp
  simp only [ho, Instr.alloc, Sem.run_bind, hz, Result.andThen_ok]
  exact hK _ _ h
theorem wpList_box_agg (hgd : o.guard = none) (e : TypeId) (x : Operand) (ho : o.op = .box e x) (X : Array Value) (hx : a.eval x = .agg X)
    (h : wpList P ops Q rest (a.put o.dst (.pointer (some ⟨w.heap.size, 0, none⟩))) (w.alloc (.cells X e))) : wpList P ops Q (o :: rest) a w := by
  refine wpList_plain hgd fun K hK => ?_
  unfold Oper.wp execOp
  simp only [ho, hx, Instr.box]
  exact hK _ _ h
theorem wpList_store_new (hgd : o.guard = none) (t : TypeId) (x y : Operand) (ho : o.op = .store t x y) (W : World) (Z : Array Value) (hw : w = W.alloc (.cells Z t)) (hx : a.eval x = .pointer (some ⟨W.heap.size, 0, none⟩)) (X : Array Value) (hy : a.eval y = .agg X)
    (hi : (P.info? t).map (·.size) = some X.size) (hs : Z.size = X.size) (h1 : ∀ v ∈ X, v.oneCell' = true)
    (h : wpList P ops Q rest (a.put o.dst undef) (W.alloc (.cells X t))) : wpList P ops Q (o :: rest) a w := by
  subst hw
  refine wpList_plain hgd fun K hK => ?_
  unfold Oper.wp execOp
  simp only [ho, hx, hy, Sem.run_bind, run_storeAt_new W t Z X hi hs (Array.all_eq_true_iff_forall_mem.2 h1)]
  exact hK _ _ h
theorem wpList_load_at (hgd : o.guard = none) (t : TypeId) (x : Operand) (ho : o.op = .load t x) (ad : Addr) (hx : a.eval x = .pointer (some ad)) (X : Array Value) (d : TypeDesc)
    (hu : P.underlying t = some d) (hd : (match d with | .struct _ | .array _ _ => true | _ => false) = true) (hi : (P.info? t).map (·.size) = some X.size)
    (hc : ∀ j v, X.toList[j]? = some v → w.cell? (ad.add j) = some v)
    (h : wpList P ops Q rest (a.put o.dst (.agg X)) w) : wpList P ops Q (o :: rest) a w := by
  refine wpList_plain hgd fun K hK => ?_
  have hl := run_loadCells_list (P := P) w ad X.toList hc
  cases hq : P.info? t with
  | none => simp [hq] at hi
  | some i =>
    have hs : i.size = X.size := by simpa [hq] using hi
    have hagg : (isAgg t).run P w = .ok true w := by
      unfold isAgg
      rw [Sem.run_bind, run_underlying hu w]
      cases d <;> simp_all
    have hv : (loadVar t ad).run P w = .ok (.agg X) w := by
      simp only [Array.length_toList, Array.toArray_toList] at hl
      simp [loadVar, Sem.run_bind, hagg, sizeOf, typeInfo, hq, hs, hl]
    unfold Oper.wp execOp
    simp only [ho, hx, Instr.loadAt, Instr.sureAddr, Sem.run_bind, Sem.run_pure, Result.andThen_ok, hv]
    exact hK _ _ h
end
end Go.Proofs.Ytboofecfmhbacaa
