/- Two rows of bytes compared. No condition. -/
import Derived.Test.YtjeecfjeooehhaaGreatDoorGA
import Derived.Stop.BytesEq
set_option linter.unusedSimpArgs false
set_option linter.unusedVariables false
namespace Go.Proofs.YtjeecfjeooehhaaGreatDoor
open Go.RowKit
/-- Two rows of bytes compared. -/
theorem run_equalIn_u8s {P : Program} (w : World) (d : Nat) (t e : TypeId) (n : Nat) (ht : P.underlying t = some (.array n e)) (he : P.underlying e = some (.int .u8)) (hsz : ∀ w, (sizeOf e).run P w = .ok 1 w)
    (l m : List Int) (hl : Byt l) (hm : Byt m) (h1 : l.length = n) (h2 : m.length = n) : (Op.equalIn (d + 2) t (.agg (u8s l).toArray) (.agg (u8s m).toArray)).run P w = .ok (decide (l = m)) w := by
  have hc : ∀ l : List Int, Byt l → u8s l = (l.map fun n => UInt8.ofNat n.toNat).map Extern.Stop.cell := fun l hl => by
    simp only [u8s, List.map_map]
    refine List.map_congr_left fun x hx => ?_
    have := hl x hx
    simp only [Function.comp, Extern.Stop.cell, UInt8.toNat_ofNat']
    have e : x = ((x.toNat % 2 ^ 8 : Nat) : Int) := by omega
    exact congrArg _ e
  rw [hc l hl, hc m hm, run_equalIn_bytes w d t e n ht he hsz _ _ (by simpa using h1) (by simpa using h2)]
  congr 1
  rw [Bool.eq_iff_iff]
  simp only [beq_iff_eq, decide_eq_true_eq]
  constructor
  · intro h
    have h3 : strOf l = strOf m := by unfold strOf; rw [h]
    exact strOf_inj hl hm h3
  · rintro rfl; rfl
end Go.Proofs.YtjeecfjeooehhaaGreatDoor
