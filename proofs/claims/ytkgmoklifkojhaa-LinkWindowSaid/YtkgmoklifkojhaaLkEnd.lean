/- An end of a link in memory; link.New, Send, Waiting, Forged. Conditions: numbers below a bound. -/
import Derived.Test.YtkgmoklifkojhaaLkMem
set_option linter.unusedSimpArgs false
set_option linter.unusedVariables false
namespace Go.Proofs.Ytkgmoklifkojhaa
open Go.RowKit
/-- What an end holds, in plain lists. -/
structure EndS where
  window : Int
  key : Int
  waiting : List (List Int)
  acked : Int
  delivered : Int
  held : Int → Option (List Int)
  owing : Bool
  forged : Int
  tot : Nat
  cnt : Nat
def endC (E : EndS) (SW : Value) (hm : Nat) : List Value := [.int .i64 E.window, .int .u64 E.key, SW, .int .i64 E.acked, .int .i64 E.delivered, .map (some hm), .bool E.owing, .int .i64 E.forged]
theorem endC_one (E : EndS) (WA : Option Addr) (n c hm : Nat) : ∀ v ∈ endC E (.slice WA n c) hm, v.oneCell' = true := fun v hv => by
  simp only [endC, List.mem_cons, List.not_mem_nil, or_false] at hv
  rcases hv with rfl | rfl | rfl | rfl | rfl | rfl | rfl | rfl <;> rfl
/-- A bound for all numbers of an end. -/
structure EndOk (E : EndS) : Prop where
  w0 : 1 ≤ E.window
  w1 : E.window ≤ 16
  k0 : 0 ≤ E.key
  k1 : E.key ≤ 18446744073709551615
  a0 : 0 ≤ E.acked
  a1 : E.acked + E.waiting.length ≤ 1000000000
  d0 : 0 ≤ E.delivered
  d1 : E.delivered + E.cnt ≤ 1000000000
  f0 : 0 ≤ E.forged
  f1 : E.forged ≤ 1000000000
  n1 : E.waiting.length ≤ 1000
  t1 : E.tot ≤ 1000000000
def HeldEq (Mu : Nat → Prop) (w : World) : Option Value → Option (List Int) → Prop
  | none, none => True
  | some v, some m => Msg Mu w v m
  | _, _ => False
theorem HeldEq.keep {Mu Mu' F : Nat → Prop} {w w' : World} {x : Option Value} {y : Option (List Int)} (h : HeldEq Mu w x y) (hk : Kept F w w') (hF : ∀ b, F b → Mu b) (hM : ∀ b, b < w.heap.size → Mu' b → Mu b) : HeldEq Mu' w' x y := by
  cases x <;> cases y
  · trivial
  · exact h.elim
  · exact h.elim
  · exact Msg.keep h hk hF hM
structure IsEnd (Mu Ft : Nat → Prop) (w : World) (p : Nat) (E : EndS) (WA : Option Addr) (wc hm : Nat) (vs : List Value) (h : Int → Option Value) : Prop where
  blk : Blk w p 65 (endC E (.slice WA E.waiting.length wc) hm)
  row : w.ownsRow 0 33 1 (.slice WA E.waiting.length wc) E.waiting.length vs
  msgs : Msgs Mu w vs E.waiting
  map : HeldMap w hm E.tot E.cnt h
  held : ∀ i, in64 i → HeldEq Mu w (h i) (E.held i)
  fp : Ft p
  fh : Ft hm
  fr : ∀ b, (Value.slice WA E.waiting.length wc).ownBlock = some b → Ft b ∧ b ≠ p
  fm : ∀ b, Ft b → Mu b
  fl : ∀ b, Ft b → b < w.heap.size
  ok : EndOk E
def EndAt (Mu Ft : Nat → Prop) (w : World) (p : Nat) (E : EndS) : Prop := (∀ b, Mu b → b < w.heap.size) ∧ ∃ WA wc hm vs h, IsEnd Mu Ft w p E WA wc hm vs h
/-- The blocks that may be written, after new ones of Ft have come. -/
def mor (Mu Ft : Nat → Prop) : Nat → Prop := fun b => Mu b ∨ Ft b
/-- What a method leaves: of what was there only blocks of Ft have changed, and Ft' holds of what was there no other ones. -/
structure Turn (Ft Ft' : Nat → Prop) (w w' : World) : Prop where
  kept : Kept Ft w w'
  old : ∀ b, b < w.heap.size → Ft' b → Ft b
theorem Turn.mor_old {Mu Ft Ft' : Nat → Prop} {w w' : World} (h : Turn Ft Ft' w w') (hm : ∀ b, Ft b → Mu b) : ∀ b, b < w.heap.size → mor Mu Ft' b → Mu b := fun b hb h2 => h2.elim id (fun h3 => hm b (h.old b hb h3))
/-- Another end, whose blocks are apart, is as it was. -/
theorem EndAt.frame {Mu Mu' Ft F : Nat → Prop} {w w' : World} {p : Nat} {E : EndS} (hE : EndAt Mu Ft w p E) (hk : Kept F w w') (hF : ∀ b, F b → Mu b) (hd : ∀ b, F b → ¬ Ft b) (hM : ∀ b, b < w.heap.size → Mu' b → Mu b) (hM2 : ∀ b, Mu b → Mu' b) (hl : ∀ b, Mu' b → b < w'.heap.size) : EndAt Mu' Ft w' p E := by
  obtain ⟨_, WA, wc, hm, vs, h, I⟩ := hE
  exact ⟨hl, WA, wc, hm, vs, h, hk.blk I.blk (fun hf => hd _ hf I.fp), hk.own I.row (fun b hb hf => hd _ hf (I.fr b hb).1), I.msgs.keep hk hF hM, I.map.kept hk (fun hf => hd _ hf I.fh), fun i hi => (I.held i hi).keep hk hF hM, I.fp, I.fh, I.fr, fun b hb => hM2 b (I.fm b hb), fun b hb => Nat.lt_of_lt_of_le (I.fl b hb) hk.size, I.ok⟩
def newE (window key : Int) : EndS := ⟨window, key, [], 0, 0, fun _ => none, false, 0, 0, 0⟩
set_option maxHeartbeats 1000000 in
set_option maxRecDepth 100000 in
theorem new_bad (window key : Int) (w : World) (hw : ¬ (1 ≤ window ∧ window ≤ 16)) :
    Calls Try.prog 28 #[.int .i64 window, .int .u64 key] w fun e w' => e = .returned (.tuple #[.pointer none, .int .i64 1]) ∧ w' = w := by
  by_cases h1 : window < 1
  · go_enter Try.func28, Try.ntmps28
    go_wp2_with fail
    go_ret2
    exact ⟨rfl, rfl⟩
  · have h2 : 16 < window := by omega
    go_enter Try.func28, Try.ntmps28
    go_wp2_with fail
    go_ret2
    exact ⟨rfl, rfl⟩
set_option maxHeartbeats 1000000 in
set_option maxRecDepth 100000 in
theorem new_any (window key : Int) (w : World) (h1 : 1 ≤ window) (h2 : window ≤ 16) (k0 : 0 ≤ key) (k1 : key ≤ 18446744073709551615) :
    Calls Try.prog 28 #[.int .i64 window, .int .u64 key] w fun e w' => ∃ p, e = .returned (.tuple #[.pointer (some ⟨p, 0, none⟩), .int .i64 0]) ∧ Ext w w' ∧ ∃ Ft : Nat → Prop, (∀ b, Ft b → w.heap.size ≤ b ∧ b < w'.heap.size) ∧ ∀ Mu : Nat → Prop, (∀ b, Mu b → b < w.heap.size) → EndAt (mor Mu Ft) Ft w' p (newE window key) := by
  have hmm := @run_makeMap Try.prog
  go_enter Try.func28, Try.ntmps28
  go_wp2_with fail
  go_ret2
  refine ⟨w.heap.size + 1, rfl, ((Ext.refl w).alloc _).alloc _, fun b => b = w.heap.size ∨ b = w.heap.size + 1, fun b hb => ?_, fun Mu hMu => ?_⟩
  · simp only [World.size_alloc]
    omega
  have hk : Kept (fun _ => False) (w.alloc (.map #[] 0)) ((w.alloc (.map #[] 0)).alloc (.cells #[.int .i64 window, .int .u64 key, .slice none 0 0, .int .i64 0, .int .i64 0, .map (some w.heap.size), .bool false, .int .i64 0] 65)) := Kept.of_ext ((Ext.refl _).alloc _)
  refine ⟨fun b hb => ?_, none, 0, w.heap.size, [], fun _ => none, ?_, ?_, Msgs.nil _ _, (HeldMap.made w).kept hk id, fun i _ => trivial, Or.inr rfl, Or.inl rfl, fun b hb => (by cases hb), fun b hb => Or.inr hb, fun b hb => ?_, ?_⟩
  · simp only [World.size_alloc]
    rcases hb with hb | hb
    · have := hMu b hb; omega
    · omega
  · exact Blk.fresh' (w.alloc (.map #[] 0)) 65 _ _ _ rfl (World.size_alloc _ _).symm
  · exact ⟨rfl, Or.inl ⟨rfl, rfl⟩⟩
  · simp only [World.size_alloc]
    omega
  · constructor <;> simp [newE] <;> omega
end Go.Proofs.Ytkgmoklifkojhaa
