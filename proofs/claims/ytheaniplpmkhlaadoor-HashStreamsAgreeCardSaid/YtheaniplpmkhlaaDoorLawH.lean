/- What the laws about hashes share: the tables as the rows list them. No condition. -/
import Derived.Test.YtheaniplpmkhlaaDoorLaw
import Derived.Test.YtheaniplpmkhlaaDoorSanH
import Derived.Test.YtheaniplpmkhlaaDoorCards
import Derived.Test.YtheaniplpmkhlaaDoorTie
import Derived.Deep.DeepHandedRow
namespace Go.Proofs.YtheaniplpmkhlaaDoor
open Go.RowKit Go.WideShapes Go.ChangeShapes
theorem own : ownKnob Tryd.prog.godebug = none := by kernel_rfl
theorem laidOut : laidOutB Tryd.prog = true := by kernel_rfl
theorem gK : Tryd.prog.globalNamed "splicery/hash.constants" = some 1 := by kernel_rfl
theorem gKt : (Tryd.prog.globals[1]?).map (·.type) = some 54 := by kernel_rfl
theorem gR : Tryd.prog.globalNamed "splicery/spliceryref02.constants" = some 0 := by kernel_rfl
theorem gRt : (Tryd.prog.globals[0]?).map (·.type) = some 54 := by kernel_rfl
theorem cells64 : Tryd.prog.cellsOf 54 = 64 := by kernel_rfl
theorem cellsu32 : Tryd.prog.cellsOf 29 = 1 := by kernel_rfl
theorem cellsu8 : Tryd.prog.cellsOf 5 = 1 := by kernel_rfl
theorem cellsstr : Tryd.prog.cellsOf 9 = 1 := by kernel_rfl
theorem laid_k {W : World} {rest : List (String × DataW Unit)} (h : laidMet Tryd.prog (("splicery/hash.constants", Rows.laid_splicery_hash_constants) :: rest) W) : KTab W :=
  tab_of_is (Lib.tabIs_of_head (k := .u32) (zs := kc) gK gKt Tryd.underlying54 Tryd.underlying29 cellsu32 cells64 h) gK
theorem laid_r {W : World} {rest : List (String × DataW Unit)} (h : laidMet Tryd.prog (("splicery/spliceryref02.constants", Rows.laid_splicery_spliceryref02_constants) :: rest) W) : RTab W :=
  tab_of_is (Lib.tabIs_of_head (k := .u32) (zs := kc) gR gRt Tryd.underlying54 Tryd.underlying29 cellsu32 cells64 h) gR
end Go.Proofs.YtheaniplpmkhlaaDoor
