/- sign's nodes: it makes the closure with an empty memo. No condition but the seed's length. -/
import Derived.Test.YtkjckmdiolgmcaaDoorSgN
import Derived.Laws.EntriesVeiled
set_option linter.unusedSimpArgs false
set_option linter.unusedVariables false
namespace Go.Proofs.YtkjckmdiolgmcaaDoor
open Go.RowKit
set_option maxHeartbeats 2000000 in
set_option maxRecDepth 100000 in
theorem nodes_any (seed : ByteArray) (w : World) (hs : seed.size ≤ 1000000) (hK : KTab w) :
    Calls Tryd.prog 15 #[.string seed] w fun e w' => ∃ mb sb ab hm, e = .returned (.func (.func 27) #[] #[.pointer (some ⟨mb, 0, none⟩), .pointer (some ⟨sb, 0, none⟩), .pointer (some ⟨ab, 0, none⟩)]) ∧ NEnv w' seed mb sb ab hm ∧ w.heap.size ≤ hm ∧ Ext w w' := by
  have hmm := @run_makeMap Tryd.prog
  have hmf : ∀ (fn : Fn) (first cap : Array Value) (w : World), (Instr.makeFunc fn first cap).run Tryd.prog w = .ok (.func fn first cap) w := fun _ _ _ _ => rfl
  have HK := Lib.hid hK
  clear hK
  go_enter Tryd.func15, Tryd.ntmps15
  go_wp2_with fail
  go_ret
  refine ⟨w.heap.size + 1 + 1, w.heap.size, w.heap.size + 1 + 1 + 1, w.heap.size + 1, rfl, ?_, Nat.le_succ _, ((((Ext.refl w).alloc _).alloc _).alloc _).alloc _⟩
  refine ⟨?_, ?_, ?_, by simp, by simp; omega, by simp, ?_, (((HK.out.alloc _).alloc _).alloc _).alloc _, hs⟩
  · exact ((Blk.fresh' ((w.alloc (.cells #[.string seed] 9)).alloc (.map #[] 0)) 61 [.map (some (w.heap.size + 1))] _ _ rfl (by simp)).alloc _).one
  · exact ((((Blk.fresh' w 9 [.string seed] _ _ rfl rfl).alloc _).alloc _).alloc _).one
  · exact (Blk.fresh' (((w.alloc (.cells #[.string seed] 9)).alloc (.map #[] 0)).alloc (.cells #[.map (some (w.heap.size + 1))] 61)) 41 [_] _ _ rfl (by simp)).one
  · have h := Memo.made (w.alloc (.cells #[.string seed] 9)) seed
    rw [World.size_alloc] at h
    exact h.ext (((Ext.refl _).alloc _).alloc _)
end Go.Proofs.YtkjckmdiolgmcaaDoor
