/- What the example of the laws on links computes, in plain lists. No condition. -/
import Derived.Test.YtkgmoklifkojhaaLkTwo
set_option linter.unusedSimpArgs false
set_option linter.unusedVariables false
namespace Go.Proofs.Ytkgmoklifkojhaa
open Go.RowKit
def lvA1 : EndS := sendE (newE 2 9) [97]
def lvA2 : EndS := sendE lvA1 [98]
def lvA3 : EndS := sendE lvA2 [99]
def lvP (i : Nat) : List Int := (outL lvA3).getD i []
def lvA4 : EndS := outE lvA3
def lvB1 : EndS := (inE (newE 2 9) (lvP 1)).2
def lvB2 : EndS := (inE lvB1 (lvP 0)).2
def lvQ : List Int := (outL lvB2).getD 0 []
def lvB3 : EndS := outE lvB2
def lvA5 : EndS := (inE lvA4 lvQ).2
def lvA6 : EndS := outE lvA5
set_option maxRecDepth 100000 in
theorem lv_out : (outL lvA3).length = 2 := by kernel_rfl
set_option maxRecDepth 100000 in
theorem lv_in1 : (inE (newE 2 9) (lvP 1)).1 = ([], 0) := by kernel_rfl
set_option maxRecDepth 100000 in
theorem lv_in2 : (inE lvB1 (lvP 0)).1 = ([[97], [98]], 0) := by kernel_rfl
set_option maxRecDepth 100000 in
theorem lv_out2 : (outL lvB2).length = 1 := by kernel_rfl
set_option maxRecDepth 100000 in
theorem lv_in3 : (inE lvA4 lvQ).1.2 = 0 := by kernel_rfl
set_option maxRecDepth 100000 in
theorem lv_out3 : outL lvA5 = [sealL 9 (packL 3 0 [99])] := by kernel_rfl
set_option maxRecDepth 100000 in
theorem lv_end : lvA6.waiting.length = 1 ∧ lvA6.forged = 0 := ⟨by kernel_rfl, by kernel_rfl⟩
end Go.Proofs.Ytkgmoklifkojhaa
