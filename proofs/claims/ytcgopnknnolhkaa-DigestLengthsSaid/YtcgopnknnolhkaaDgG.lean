/- digest: the sines. -/
import Derived.Test.YtcgopnknnolhkaaDgG0
set_option linter.unusedVariables false
set_option linter.unusedSimpArgs false
namespace Go.Proofs.Ytcgopnknnolhkaa.Dg
open Go.RowKit U
/-- An operation that is run to its value. -/
theorem wpList_run {P : Program} {ops : Array Oper} {Q : Exit → Act → World → Prop} {rest : List Oper} {o : Oper} {a : Act} {w w' : World} {v : Value} (hgd : o.guard = none) (hr : (execOp a.eval o).run P w = .ok (.value v) w') (h : wpList P ops Q rest (a.put o.dst v) w') : wpList P ops Q (o :: rest) a w :=
  wpList_plain hgd fun _ hK => by unfold Oper.wp; rw [hr]; exact hK _ _ h
set_option maxRecDepth 100000 in
set_option maxHeartbeats 4000000 in
theorem sines_any (w : World) : Calls Try.prog 15 #[] w fun e w' => e = .returned (.agg kcells) ∧ Below w.heap.size w w' := by
  go_enter Try.func15, Try.ntmps15
  refine wp_seq ?_
  refine wp_region_lit ?_
  refine wpList_run rfl (v := .pointer (some ⟨w.heap.size, 0, none⟩)) (w' := w.alloc (.cells Z64 31)) (by kernel_rfl) ?_
  refine wpList_nil ?_
  refine wp_seq ?_
  refine wp_region_lit ?_
  refine wpList_run rfl (v := .agg kcells) (w' := w.alloc (.cells Z64 31)) (by kernel_rfl) ?_
  refine wpList_store_mid rfl 31 (.tmp 0) (.tmp 1) rfl w.heap.size 0 kcells rfl rfl (there64 w) size64 one64 ?_
  refine wpList_nil ?_
  refine wp_ret ?_
  refine bodyPost_ret (v := .agg kcells) ?_ rfl ⟨rfl, below64 w⟩
  exact results_cell rfl rfl (run_loadVar_mid (P := Try.prog) _ w.heap.size 0 31 kcells.toList _ (range64 w) Try.underlying31 rfl (by rw [Array.length_toList]; exact size64))
end Go.Proofs.Ytcgopnknnolhkaa.Dg
