/- A region that draws its order, whose first operations only read and whose last ones come in one forced order: the load of a whole row there. No condition. -/
import Derived.Test.YtkgmoklifkojhaaExt
import Derived.StillTailTactics
namespace Go.Proofs.Ytkgmoklifkojhaa
open Go.RowKit
theorem still_load_blk {P : Program} {ops : Array Oper} {rest : List Oper} {o : Oper} {a : Act} {w : World} {Q : Act → Prop} (hw : Region.wanted o (yielded ops a.tmps) = true) (ty : TypeId) (x : Operand) (ho : o.op = Op.load ty x) (g : Nat)
    (hx : a.eval x = .pointer (some ⟨g, 0, none⟩)) {t : TypeId} {cs : List Value} (hb : Blk w g t cs) {d : TypeDesc} (hu : P.underlying ty = some d) (hd : d.isRow = true) (hi : (P.info? ty).map (·.size) = some cs.length)
    (h : wpStill P ops w Q rest (a.put o.dst (.agg cs.toArray))) : wpStill P ops w Q (o :: rest) a := by
  unfold wpStill
  rw [if_pos hw]
  unfold Oper.still execOp
  simp only [ho, hx, Instr.loadAt, Instr.sureAddr, Sem.run_bind, Sem.run_pure, Result.andThen_ok, run_loadVar_row w g t ty cs.toArray (0, 0) _ hb hu (by cases d <;> first | rfl | cases hd) (by rw [hi, List.size_toArray])]
  exact ⟨rfl, h⟩
end Go.Proofs.Ytkgmoklifkojhaa
