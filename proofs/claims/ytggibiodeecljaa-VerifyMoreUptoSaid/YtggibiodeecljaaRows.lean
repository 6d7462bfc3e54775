/-
  No cell of these rows narrows 'for every input' (looked for: loops, veiled, ifaces, maps, wideKeys, modest, calm, conditions, laid).
  DERIVED. THE GIVEN ROWS OF THIS SEAT. 6 by the template 'for every input the law returns true; each argument reads behind the call as it read before'; 0 by the template 'total and deterministic' (their statements: YtggibiodeecljaaTotals.lean).
  GIVEN WITH THE SEED: the statements are not yours to turn. If you find one false, say at which input.
  Laid BY PROGRAM, IN A SANDBOX (cutbox-rows.mjs): the forced cells as the released guide's own fill.sh prints them over the translation 210bf73364825be2… (all of the seat's roots in one cut). By AI agents, Wed Nov 11 2026. No macro, syntax, notation, axiom, sorry.
-/
import Derived.Test.YtggibiodeecljaaChecked
import GoSem.Claim
import GoSem.ClaimJoined
import GoSem.ClaimMapViews
import Derived.JoinedTies
import Derived.KernelRfl
namespace Go.Proofs.Ytggibiodeecljaa
/- THE CELL 'sum', in the pinned program and in every row, IS THE sha256 OF THE DUMP (.gsa) THAT YtggibiodeecljaaProg.lean LOADS. Nothing in Lean hashes anything: it is a label: what it is worth is what the hold of that sum in a sandbox is worth. -/
noncomputable def Try.pinned : Pinned := { name := "ytggibiodeecljaa", sum := "210bf73364825be249489c07c1aa83b342e399f3f809bff1c2f6675af9604789", checked := Try.checked }
namespace Rows
def none {H : Type} : Left H := { results := [], args := [] }

/-- 'tableaulaw17.EmitSame': WHATEVER THE INPUT: true; the input reads as it did. -/
def emitSameSpec : ChangeSpec := { name := "emitSame", fn := fun _ => fun
  | [d1, d2] => { results := [.lit (.bool true)], args := [d1, d2] }
  | _ => none }
def emitSameRow : OpenClaim := { program := "ytggibiodeecljaa", sum := "210bf73364825be249489c07c1aa83b342e399f3f809bff1c2f6675af9604789", func := "tableau/tableaulaw17.EmitSame", spec := "emitSame", unfollowed := true, recurses := true, apart := false }
def EmitSameSaid : Prop := emitSameRow.holds Try.pinned (OpenSpec.ofChange emitSameSpec)

/-- ITS FALSE NEIGHBOUR: 'it returns false'. Refute it at one input. -/
def emitSameWrong : ChangeSpec := { name := "emitSame", fn := fun _ => fun
  | [d1, d2] => { results := [.lit (.bool false)], args := [d1, d2] }
  | _ => none }
def EmitSameWrongFalsely : Prop := emitSameRow.holds Try.pinned (OpenSpec.ofChange emitSameWrong)

/-- 'tableaulaw18.BoundAbles': WHATEVER THE INPUT: true; the input reads as it did. -/
def boundAblesSpec : ChangeSpec := { name := "boundAbles", fn := fun _ => fun
  | [d1, d2] => { results := [.lit (.bool true)], args := [d1, d2] }
  | _ => none }
def boundAblesRow : OpenClaim := { program := "ytggibiodeecljaa", sum := "210bf73364825be249489c07c1aa83b342e399f3f809bff1c2f6675af9604789", func := "tableau/tableaulaw18.BoundAbles", spec := "boundAbles", unfollowed := true, recurses := true, apart := false }
def BoundAblesSaid : Prop := boundAblesRow.holds Try.pinned (OpenSpec.ofChange boundAblesSpec)

/-- ITS FALSE NEIGHBOUR: 'it returns false'. Refute it at one input. -/
def boundAblesWrong : ChangeSpec := { name := "boundAbles", fn := fun _ => fun
  | [d1, d2] => { results := [.lit (.bool false)], args := [d1, d2] }
  | _ => none }
def BoundAblesWrongFalsely : Prop := boundAblesRow.holds Try.pinned (OpenSpec.ofChange boundAblesWrong)

/-- 'tableaulaw18.BoundCodes': WHATEVER THE INPUT: true; the input reads as it did. -/
def boundCodesSpec : ChangeSpec := { name := "boundCodes", fn := fun _ => fun
  | [d1, d2] => { results := [.lit (.bool true)], args := [d1, d2] }
  | _ => none }
def boundCodesRow : OpenClaim := { program := "ytggibiodeecljaa", sum := "210bf73364825be249489c07c1aa83b342e399f3f809bff1c2f6675af9604789", func := "tableau/tableaulaw18.BoundCodes", spec := "boundCodes", unfollowed := true, recurses := true, apart := false }
def BoundCodesSaid : Prop := boundCodesRow.holds Try.pinned (OpenSpec.ofChange boundCodesSpec)

/-- ITS FALSE NEIGHBOUR: 'it returns false'. Refute it at one input. -/
def boundCodesWrong : ChangeSpec := { name := "boundCodes", fn := fun _ => fun
  | [d1, d2] => { results := [.lit (.bool false)], args := [d1, d2] }
  | _ => none }
def BoundCodesWrongFalsely : Prop := boundCodesRow.holds Try.pinned (OpenSpec.ofChange boundCodesWrong)

/-- 'tableaulaw18.BoundGrows': WHATEVER THE INPUT: true; the input reads as it did. -/
def boundGrowsSpec : ChangeSpec := { name := "boundGrows", fn := fun _ => fun
  | [d1, d2, d3] => { results := [.lit (.bool true)], args := [d1, d2, d3] }
  | _ => none }
def boundGrowsRow : OpenClaim := { program := "ytggibiodeecljaa", sum := "210bf73364825be249489c07c1aa83b342e399f3f809bff1c2f6675af9604789", func := "tableau/tableaulaw18.BoundGrows", spec := "boundGrows", unfollowed := true, recurses := true, apart := false }
def BoundGrowsSaid : Prop := boundGrowsRow.holds Try.pinned (OpenSpec.ofChange boundGrowsSpec)

/-- ITS FALSE NEIGHBOUR: 'it returns false'. Refute it at one input. -/
def boundGrowsWrong : ChangeSpec := { name := "boundGrows", fn := fun _ => fun
  | [d1, d2, d3] => { results := [.lit (.bool false)], args := [d1, d2, d3] }
  | _ => none }
def BoundGrowsWrongFalsely : Prop := boundGrowsRow.holds Try.pinned (OpenSpec.ofChange boundGrowsWrong)

/-- 'tableaulaw18.BoundRounds': WHATEVER THE INPUT: true; the input reads as it did. -/
def boundRoundsSpec : ChangeSpec := { name := "boundRounds", fn := fun _ => fun
  | [d1, d2, d3] => { results := [.lit (.bool true)], args := [d1, d2, d3] }
  | _ => none }
def boundRoundsRow : OpenClaim := { program := "ytggibiodeecljaa", sum := "210bf73364825be249489c07c1aa83b342e399f3f809bff1c2f6675af9604789", func := "tableau/tableaulaw18.BoundRounds", spec := "boundRounds", unfollowed := true, recurses := true, apart := false }
def BoundRoundsSaid : Prop := boundRoundsRow.holds Try.pinned (OpenSpec.ofChange boundRoundsSpec)

/-- ITS FALSE NEIGHBOUR: 'it returns false'. Refute it at one input. -/
def boundRoundsWrong : ChangeSpec := { name := "boundRounds", fn := fun _ => fun
  | [d1, d2, d3] => { results := [.lit (.bool false)], args := [d1, d2, d3] }
  | _ => none }
def BoundRoundsWrongFalsely : Prop := boundRoundsRow.holds Try.pinned (OpenSpec.ofChange boundRoundsWrong)

/-- 'tableaulaw20.VerifyMore': WHATEVER THE INPUT: true; the input reads as it did. -/
def verifyMoreSpec : ChangeSpec := { name := "verifyMore", fn := fun _ => fun
  | [d1, d2] => { results := [.lit (.bool true)], args := [d1, d2] }
  | _ => none }
def verifyMoreRow : OpenClaim := { program := "ytggibiodeecljaa", sum := "210bf73364825be249489c07c1aa83b342e399f3f809bff1c2f6675af9604789", func := "tableau/tableaulaw20.VerifyMore", spec := "verifyMore", unfollowed := true, recurses := true, apart := false }
def VerifyMoreSaid : Prop := verifyMoreRow.holds Try.pinned (OpenSpec.ofChange verifyMoreSpec)

/-- ITS FALSE NEIGHBOUR: 'it returns false'. Refute it at one input. -/
def verifyMoreWrong : ChangeSpec := { name := "verifyMore", fn := fun _ => fun
  | [d1, d2] => { results := [.lit (.bool false)], args := [d1, d2] }
  | _ => none }
def VerifyMoreWrongFalsely : Prop := verifyMoreRow.holds Try.pinned (OpenSpec.ofChange verifyMoreWrong)

/- THE SECOND FORM. 'bulk': how many values and letters a reading holds, each counted each time it is reached (what is shared counts as often as it is met; a slice's spare places count too). A statement '..UptoSaid' is the law's where the arguments, and the package variables that the reading takes, are together of bulk at most 1048576: NARROWER than '..Said'. Prove '..Said' where nothing that the law and all that it calls make is longer than what came in: it says more and counts as full. Else prove '..UptoSaid'. A law counts once. -/
mutual
def uptoBulk {H : Type} : DataW H → Nat
  | .lit (.string bytes) => bytes.length + 1
  | .lit _ => 1
  | .nil => 1
  | .ptr d => uptoBulk d + 1
  | .slice elems spare => uptoBulkAll elems + uptoBulkAll spare + 1
  | .agg parts => uptoBulkAll parts + 1
  | .iface _ d => uptoBulk d + 1
  | .map entries => uptoBulkEntries entries + 1
  | .held _ => 1
def uptoBulkAll {H : Type} : List (DataW H) → Nat
  | [] => 0
  | d :: r => uptoBulk d + uptoBulkAll r
def uptoBulkEntries {H : Type} : List (Lit × DataW H) → Nat
  | [] => 0
  | x :: r => uptoBulkEntry x + uptoBulkEntries r
def uptoBulkEntry {H : Type} : Lit × DataW H → Nat
  | (.string bytes, d) => bytes.length + uptoBulk d + 1
  | (_, d) => uptoBulk d + 1
 end
def uptoSmall : (H : Type) → List (DataW H) → Bool := fun _ ds => decide (uptoBulkAll ds ≤ 1048576)
def OpenSpec.upto (s : _root_.Go.ChangeSpec) : _root_.Go.OpenSpec := { _root_.Go.OpenSpec.ofChange s with cond := some uptoSmall }

/-- 'tableaulaw17.EmitSame', WHERE WHAT IT READS IS OF BULK AT MOST 1048576: true; the input reads as it did. -/
def emitSameUptoRow : OpenClaim := { program := "ytggibiodeecljaa", sum := "210bf73364825be249489c07c1aa83b342e399f3f809bff1c2f6675af9604789", func := "tableau/tableaulaw17.EmitSame", spec := "emitSame", unfollowed := true, recurses := true, apart := false, narrowed := true }
def EmitSameUptoSaid : Prop := emitSameUptoRow.holds Try.pinned (OpenSpec.upto emitSameSpec)

/-- 'tableaulaw18.BoundAbles', WHERE WHAT IT READS IS OF BULK AT MOST 1048576: true; the input reads as it did. -/
def boundAblesUptoRow : OpenClaim := { program := "ytggibiodeecljaa", sum := "210bf73364825be249489c07c1aa83b342e399f3f809bff1c2f6675af9604789", func := "tableau/tableaulaw18.BoundAbles", spec := "boundAbles", unfollowed := true, recurses := true, apart := false, narrowed := true }
def BoundAblesUptoSaid : Prop := boundAblesUptoRow.holds Try.pinned (OpenSpec.upto boundAblesSpec)

/-- 'tableaulaw18.BoundCodes', WHERE WHAT IT READS IS OF BULK AT MOST 1048576: true; the input reads as it did. -/
def boundCodesUptoRow : OpenClaim := { program := "ytggibiodeecljaa", sum := "210bf73364825be249489c07c1aa83b342e399f3f809bff1c2f6675af9604789", func := "tableau/tableaulaw18.BoundCodes", spec := "boundCodes", unfollowed := true, recurses := true, apart := false, narrowed := true }
def BoundCodesUptoSaid : Prop := boundCodesUptoRow.holds Try.pinned (OpenSpec.upto boundCodesSpec)

/-- 'tableaulaw18.BoundGrows', WHERE WHAT IT READS IS OF BULK AT MOST 1048576: true; the input reads as it did. -/
def boundGrowsUptoRow : OpenClaim := { program := "ytggibiodeecljaa", sum := "210bf73364825be249489c07c1aa83b342e399f3f809bff1c2f6675af9604789", func := "tableau/tableaulaw18.BoundGrows", spec := "boundGrows", unfollowed := true, recurses := true, apart := false, narrowed := true }
def BoundGrowsUptoSaid : Prop := boundGrowsUptoRow.holds Try.pinned (OpenSpec.upto boundGrowsSpec)

/-- 'tableaulaw18.BoundRounds', WHERE WHAT IT READS IS OF BULK AT MOST 1048576: true; the input reads as it did. -/
def boundRoundsUptoRow : OpenClaim := { program := "ytggibiodeecljaa", sum := "210bf73364825be249489c07c1aa83b342e399f3f809bff1c2f6675af9604789", func := "tableau/tableaulaw18.BoundRounds", spec := "boundRounds", unfollowed := true, recurses := true, apart := false, narrowed := true }
def BoundRoundsUptoSaid : Prop := boundRoundsUptoRow.holds Try.pinned (OpenSpec.upto boundRoundsSpec)

/-- 'tableaulaw20.VerifyMore', WHERE WHAT IT READS IS OF BULK AT MOST 1048576: true; the input reads as it did. -/
def verifyMoreUptoRow : OpenClaim := { program := "ytggibiodeecljaa", sum := "210bf73364825be249489c07c1aa83b342e399f3f809bff1c2f6675af9604789", func := "tableau/tableaulaw20.VerifyMore", spec := "verifyMore", unfollowed := true, recurses := true, apart := false, narrowed := true }
def VerifyMoreUptoSaid : Prop := verifyMoreUptoRow.holds Try.pinned (OpenSpec.upto verifyMoreSpec)

end Rows
end Go.Proofs.Ytggibiodeecljaa
