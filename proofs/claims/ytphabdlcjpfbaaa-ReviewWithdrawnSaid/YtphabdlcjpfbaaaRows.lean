/-
  No cell of these rows narrows 'for every input' (looked for: loops, veiled, ifaces, maps, wideKeys, modest, calm, conditions, laid).
  DERIVED. THE GIVEN ROWS OF THIS SEAT. 4 by the template 'for every input the law returns true; each argument reads behind the call as it read before'; 0 by the template 'total and deterministic' (their statements: YtphabdlcjpfbaaaTotals.lean).
  GIVEN WITH THE SEED: the statements are not yours to turn. If you find one false, say at which input.
  Laid BY PROGRAM, IN A SANDBOX (cutbox-rows.mjs): the forced cells as the released guide's own fill.sh prints them over the translation b26afb6c35e5ff28… (all of the seat's roots in one cut). By AI agents, Wed Nov 11 2026. No macro, syntax, notation, axiom, sorry.
-/
import Derived.Test.YtphabdlcjpfbaaaChecked
import GoSem.Claim
import GoSem.ClaimJoined
import GoSem.ClaimMapViews
import Derived.JoinedTies
import Derived.KernelRfl
namespace Go.Proofs.Ytphabdlcjpfbaaa
/- THE CELL 'sum', in the pinned program and in every row, IS THE sha256 OF THE DUMP (.gsa) THAT YtphabdlcjpfbaaaProg.lean LOADS. Nothing in Lean hashes anything: it is a label: what it is worth is what the hold of that sum in a sandbox is worth. -/
noncomputable def Try.pinned : Pinned := { name := "ytphabdlcjpfbaaa", sum := "b26afb6c35e5ff28e4f0461563d06c212cc16bc4538c8d8f6222ee85fd70c73c", checked := Try.checked }
namespace Rows
def none {H : Type} : Left H := { results := [], args := [] }

/-- 'splicerylaw37.ReviewValid': WHATEVER THE INPUT: true; the input reads as it did. -/
def reviewValidSpec : ChangeSpec := { name := "reviewValid", fn := fun _ => fun
  | [d1, d2, d3, d4] => { results := [.lit (.bool true)], args := [d1, d2, d3, d4] }
  | _ => none }
def reviewValidRow : OpenClaim := { program := "ytphabdlcjpfbaaa", sum := "b26afb6c35e5ff28e4f0461563d06c212cc16bc4538c8d8f6222ee85fd70c73c", func := "splicery/splicerylaw37.ReviewValid", spec := "reviewValid", unfollowed := true, recurses := true, plainKeys := false, apart := false }
def ReviewValidSaid : Prop := reviewValidRow.holds Try.pinned (OpenSpec.ofChange reviewValidSpec)

/-- ITS FALSE NEIGHBOUR: 'it returns false'. Refute it at one input. -/
def reviewValidWrong : ChangeSpec := { name := "reviewValid", fn := fun _ => fun
  | [d1, d2, d3, d4] => { results := [.lit (.bool false)], args := [d1, d2, d3, d4] }
  | _ => none }
def ReviewValidWrongFalsely : Prop := reviewValidRow.holds Try.pinned (OpenSpec.ofChange reviewValidWrong)

/-- 'splicerylaw37.ReviewEncodes': WHATEVER THE INPUT: true; the input reads as it did. -/
def reviewEncodesSpec : ChangeSpec := { name := "reviewEncodes", fn := fun _ => fun
  | [d1, d2, d3, d4] => { results := [.lit (.bool true)], args := [d1, d2, d3, d4] }
  | _ => none }
def reviewEncodesRow : OpenClaim := { program := "ytphabdlcjpfbaaa", sum := "b26afb6c35e5ff28e4f0461563d06c212cc16bc4538c8d8f6222ee85fd70c73c", func := "splicery/splicerylaw37.ReviewEncodes", spec := "reviewEncodes", unfollowed := true, recurses := true, plainKeys := false, apart := false }
def ReviewEncodesSaid : Prop := reviewEncodesRow.holds Try.pinned (OpenSpec.ofChange reviewEncodesSpec)

/-- ITS FALSE NEIGHBOUR: 'it returns false'. Refute it at one input. -/
def reviewEncodesWrong : ChangeSpec := { name := "reviewEncodes", fn := fun _ => fun
  | [d1, d2, d3, d4] => { results := [.lit (.bool false)], args := [d1, d2, d3, d4] }
  | _ => none }
def ReviewEncodesWrongFalsely : Prop := reviewEncodesRow.holds Try.pinned (OpenSpec.ofChange reviewEncodesWrong)

/-- 'splicerylaw37.ReviewStanding': WHATEVER THE INPUT: true; the input reads as it did. -/
def reviewStandingSpec : ChangeSpec := { name := "reviewStanding", fn := fun _ => fun
  | [d1, d2, d3, d4] => { results := [.lit (.bool true)], args := [d1, d2, d3, d4] }
  | _ => none }
def reviewStandingRow : OpenClaim := { program := "ytphabdlcjpfbaaa", sum := "b26afb6c35e5ff28e4f0461563d06c212cc16bc4538c8d8f6222ee85fd70c73c", func := "splicery/splicerylaw37.ReviewStanding", spec := "reviewStanding", unfollowed := true, recurses := true, plainKeys := false, apart := false }
def ReviewStandingSaid : Prop := reviewStandingRow.holds Try.pinned (OpenSpec.ofChange reviewStandingSpec)

/-- ITS FALSE NEIGHBOUR: 'it returns false'. Refute it at one input. -/
def reviewStandingWrong : ChangeSpec := { name := "reviewStanding", fn := fun _ => fun
  | [d1, d2, d3, d4] => { results := [.lit (.bool false)], args := [d1, d2, d3, d4] }
  | _ => none }
def ReviewStandingWrongFalsely : Prop := reviewStandingRow.holds Try.pinned (OpenSpec.ofChange reviewStandingWrong)

/-- 'splicerylaw37.ReviewWithdrawn': WHATEVER THE INPUT: true; the input reads as it did. -/
def reviewWithdrawnSpec : ChangeSpec := { name := "reviewWithdrawn", fn := fun _ => fun
  | [d1, d2, d3] => { results := [.lit (.bool true)], args := [d1, d2, d3] }
  | _ => none }
def reviewWithdrawnRow : OpenClaim := { program := "ytphabdlcjpfbaaa", sum := "b26afb6c35e5ff28e4f0461563d06c212cc16bc4538c8d8f6222ee85fd70c73c", func := "splicery/splicerylaw37.ReviewWithdrawn", spec := "reviewWithdrawn", unfollowed := true, recurses := true, plainKeys := false, apart := false }
def ReviewWithdrawnSaid : Prop := reviewWithdrawnRow.holds Try.pinned (OpenSpec.ofChange reviewWithdrawnSpec)

/-- ITS FALSE NEIGHBOUR: 'it returns false'. Refute it at one input. -/
def reviewWithdrawnWrong : ChangeSpec := { name := "reviewWithdrawn", fn := fun _ => fun
  | [d1, d2, d3] => { results := [.lit (.bool false)], args := [d1, d2, d3] }
  | _ => none }
def ReviewWithdrawnWrongFalsely : Prop := reviewWithdrawnRow.holds Try.pinned (OpenSpec.ofChange reviewWithdrawnWrong)

/- THE SECOND FORM. 'bulk': how many values and letters a reading holds, each counted each time it is reached (what is shared counts as often as it is met; a slice's spare places count too). A statement '..UptoSaid' is the law's where the arguments, and the package variables that the reading takes, are together of bulk at most 1048576: NARROWER than '..Said'. Prove '..Said' where nothing that the law and all that it calls make is longer than what came in: it says more and counts as full. Else prove '..UptoSaid'. A law counts once. -/
mutual
def uptoBulk {H : Type} : DataW H → Nat
  | .lit (.string bytes) => bytes.length + 1
  | .lit _ => 1
  | .nil => 1
  | .ptr d => uptoBulk d + 1
  | .slice elems spare => uptoBulkAll elems + uptoBulkAll spare + 1
  | .agg parts => uptoBulkAll parts + 1
  | .iface _ d => uptoBulk d + 1
  | .map entries => uptoBulkEntries entries + 1
  | .held _ => 1
def uptoBulkAll {H : Type} : List (DataW H) → Nat
  | [] => 0
  | d :: r => uptoBulk d + uptoBulkAll r
def uptoBulkEntries {H : Type} : List (Lit × DataW H) → Nat
  | [] => 0
  | x :: r => uptoBulkEntry x + uptoBulkEntries r
def uptoBulkEntry {H : Type} : Lit × DataW H → Nat
  | (.string bytes, d) => bytes.length + uptoBulk d + 1
  | (_, d) => uptoBulk d + 1
 end
def uptoSmall : (H : Type) → List (DataW H) → Bool := fun _ ds => decide (uptoBulkAll ds ≤ 1048576)
def OpenSpec.upto (s : _root_.Go.ChangeSpec) : _root_.Go.OpenSpec := { _root_.Go.OpenSpec.ofChange s with cond := some uptoSmall }

/-- 'splicerylaw37.ReviewValid', WHERE WHAT IT READS IS OF BULK AT MOST 1048576: true; the input reads as it did. -/
def reviewValidUptoRow : OpenClaim := { program := "ytphabdlcjpfbaaa", sum := "b26afb6c35e5ff28e4f0461563d06c212cc16bc4538c8d8f6222ee85fd70c73c", func := "splicery/splicerylaw37.ReviewValid", spec := "reviewValid", unfollowed := true, recurses := true, plainKeys := false, apart := false, narrowed := true }
def ReviewValidUptoSaid : Prop := reviewValidUptoRow.holds Try.pinned (OpenSpec.upto reviewValidSpec)

/-- 'splicerylaw37.ReviewEncodes', WHERE WHAT IT READS IS OF BULK AT MOST 1048576: true; the input reads as it did. -/
def reviewEncodesUptoRow : OpenClaim := { program := "ytphabdlcjpfbaaa", sum := "b26afb6c35e5ff28e4f0461563d06c212cc16bc4538c8d8f6222ee85fd70c73c", func := "splicery/splicerylaw37.ReviewEncodes", spec := "reviewEncodes", unfollowed := true, recurses := true, plainKeys := false, apart := false, narrowed := true }
def ReviewEncodesUptoSaid : Prop := reviewEncodesUptoRow.holds Try.pinned (OpenSpec.upto reviewEncodesSpec)

/-- 'splicerylaw37.ReviewStanding', WHERE WHAT IT READS IS OF BULK AT MOST 1048576: true; the input reads as it did. -/
def reviewStandingUptoRow : OpenClaim := { program := "ytphabdlcjpfbaaa", sum := "b26afb6c35e5ff28e4f0461563d06c212cc16bc4538c8d8f6222ee85fd70c73c", func := "splicery/splicerylaw37.ReviewStanding", spec := "reviewStanding", unfollowed := true, recurses := true, plainKeys := false, apart := false, narrowed := true }
def ReviewStandingUptoSaid : Prop := reviewStandingUptoRow.holds Try.pinned (OpenSpec.upto reviewStandingSpec)

/-- 'splicerylaw37.ReviewWithdrawn', WHERE WHAT IT READS IS OF BULK AT MOST 1048576: true; the input reads as it did. -/
def reviewWithdrawnUptoRow : OpenClaim := { program := "ytphabdlcjpfbaaa", sum := "b26afb6c35e5ff28e4f0461563d06c212cc16bc4538c8d8f6222ee85fd70c73c", func := "splicery/splicerylaw37.ReviewWithdrawn", spec := "reviewWithdrawn", unfollowed := true, recurses := true, plainKeys := false, apart := false, narrowed := true }
def ReviewWithdrawnUptoSaid : Prop := reviewWithdrawnUptoRow.holds Try.pinned (OpenSpec.upto reviewWithdrawnSpec)

end Rows
end Go.Proofs.Ytphabdlcjpfbaaa
