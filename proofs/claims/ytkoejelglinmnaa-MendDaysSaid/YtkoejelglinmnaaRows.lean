/-
  No cell of these rows narrows 'for every input' (looked for: loops, veiled, ifaces, maps, wideKeys, modest, calm, conditions, laid).
  DERIVED. THE GIVEN ROWS OF THIS SEAT. 5 by the template 'for every input the law returns true; each argument reads behind the call as it read before'; 0 by the template 'total and deterministic' (their statements: YtkoejelglinmnaaTotals.lean).
  GIVEN WITH THE SEED: the statements are not yours to turn. If you find one false, say at which input.
  Laid BY PROGRAM, IN A SANDBOX (cutbox-rows.mjs): the forced cells as the released guide's own fill.sh prints them over the translation ddac531adabdeba7… (all of the seat's roots in one cut). By AI agents, Wed Nov 11 2026. No macro, syntax, notation, axiom, sorry.
-/
import Derived.Test.YtkoejelglinmnaaChecked
import GoSem.Claim
import GoSem.ClaimJoined
import GoSem.ClaimMapViews
import Derived.JoinedTies
import Derived.KernelRfl
namespace Go.Proofs.Ytkoejelglinmnaa
/- THE CELL 'sum', in the pinned program and in every row, IS THE sha256 OF THE DUMP (.gsa) THAT YtkoejelglinmnaaProg.lean LOADS. Nothing in Lean hashes anything: it is a label: what it is worth is what the hold of that sum in a sandbox is worth. -/
noncomputable def Try.pinned : Pinned := { name := "ytkoejelglinmnaa", sum := "ddac531adabdeba782042e428edf143a991a35bf86dbcafed59cfaef10bce21b", checked := Try.checked }
namespace Rows
def none {H : Type} : Left H := { results := [], args := [] }

/-- 'pecialaw06.MendCopies': WHATEVER THE INPUT: true; the input reads as it did. -/
def mendCopiesSpec : ChangeSpec := { name := "mendCopies", fn := fun _ => fun
  | [d1, d2, d3, d4] => { results := [.lit (.bool true)], args := [d1, d2, d3, d4] }
  | _ => none }
def mendCopiesRow : OpenClaim := { program := "ytkoejelglinmnaa", sum := "ddac531adabdeba782042e428edf143a991a35bf86dbcafed59cfaef10bce21b", func := "pecia/pecialaw06.MendCopies", spec := "mendCopies", inPlace := ["slices.overlaps[int]"], unfollowed := true, recurses := true, apart := false }
def MendCopiesSaid : Prop := mendCopiesRow.holds Try.pinned (OpenSpec.ofChange mendCopiesSpec)

/-- ITS FALSE NEIGHBOUR: 'it returns false'. Refute it at one input. -/
def mendCopiesWrong : ChangeSpec := { name := "mendCopies", fn := fun _ => fun
  | [d1, d2, d3, d4] => { results := [.lit (.bool false)], args := [d1, d2, d3, d4] }
  | _ => none }
def MendCopiesWrongFalsely : Prop := mendCopiesRow.holds Try.pinned (OpenSpec.ofChange mendCopiesWrong)

/-- 'pecialaw06.MendMore': WHATEVER THE INPUT: true; the input reads as it did. -/
def mendMoreSpec : ChangeSpec := { name := "mendMore", fn := fun _ => fun
  | [d1, d2, d3, d4, d5] => { results := [.lit (.bool true)], args := [d1, d2, d3, d4, d5] }
  | _ => none }
def mendMoreRow : OpenClaim := { program := "ytkoejelglinmnaa", sum := "ddac531adabdeba782042e428edf143a991a35bf86dbcafed59cfaef10bce21b", func := "pecia/pecialaw06.MendMore", spec := "mendMore", inPlace := ["slices.overlaps[int]"], unfollowed := true, recurses := true, apart := false }
def MendMoreSaid : Prop := mendMoreRow.holds Try.pinned (OpenSpec.ofChange mendMoreSpec)

/-- ITS FALSE NEIGHBOUR: 'it returns false'. Refute it at one input. -/
def mendMoreWrong : ChangeSpec := { name := "mendMore", fn := fun _ => fun
  | [d1, d2, d3, d4, d5] => { results := [.lit (.bool false)], args := [d1, d2, d3, d4, d5] }
  | _ => none }
def MendMoreWrongFalsely : Prop := mendMoreRow.holds Try.pinned (OpenSpec.ofChange mendMoreWrong)

/-- 'pecialaw06.MendParts': WHATEVER THE INPUT: true; the input reads as it did. -/
def mendPartsSpec : ChangeSpec := { name := "mendParts", fn := fun _ => fun
  | [d1, d2, d3] => { results := [.lit (.bool true)], args := [d1, d2, d3] }
  | _ => none }
def mendPartsRow : OpenClaim := { program := "ytkoejelglinmnaa", sum := "ddac531adabdeba782042e428edf143a991a35bf86dbcafed59cfaef10bce21b", func := "pecia/pecialaw06.MendParts", spec := "mendParts", inPlace := ["slices.overlaps[int]"], unfollowed := true, recurses := true, apart := false }
def MendPartsSaid : Prop := mendPartsRow.holds Try.pinned (OpenSpec.ofChange mendPartsSpec)

/-- ITS FALSE NEIGHBOUR: 'it returns false'. Refute it at one input. -/
def mendPartsWrong : ChangeSpec := { name := "mendParts", fn := fun _ => fun
  | [d1, d2, d3] => { results := [.lit (.bool false)], args := [d1, d2, d3] }
  | _ => none }
def MendPartsWrongFalsely : Prop := mendPartsRow.holds Try.pinned (OpenSpec.ofChange mendPartsWrong)

/-- 'pecialaw06.MendExchange': WHATEVER THE INPUT: true; the input reads as it did. -/
def mendExchangeSpec : ChangeSpec := { name := "mendExchange", fn := fun _ => fun
  | [d1, d2, d3] => { results := [.lit (.bool true)], args := [d1, d2, d3] }
  | _ => none }
def mendExchangeRow : OpenClaim := { program := "ytkoejelglinmnaa", sum := "ddac531adabdeba782042e428edf143a991a35bf86dbcafed59cfaef10bce21b", func := "pecia/pecialaw06.MendExchange", spec := "mendExchange", inPlace := ["slices.overlaps[int]"], unfollowed := true, recurses := true, apart := false }
def MendExchangeSaid : Prop := mendExchangeRow.holds Try.pinned (OpenSpec.ofChange mendExchangeSpec)

/-- ITS FALSE NEIGHBOUR: 'it returns false'. Refute it at one input. -/
def mendExchangeWrong : ChangeSpec := { name := "mendExchange", fn := fun _ => fun
  | [d1, d2, d3] => { results := [.lit (.bool false)], args := [d1, d2, d3] }
  | _ => none }
def MendExchangeWrongFalsely : Prop := mendExchangeRow.holds Try.pinned (OpenSpec.ofChange mendExchangeWrong)

/-- 'pecialaw06.MendDays': WHATEVER THE INPUT: true; the input reads as it did. -/
def mendDaysSpec : ChangeSpec := { name := "mendDays", fn := fun _ => fun
  | [d1, d2] => { results := [.lit (.bool true)], args := [d1, d2] }
  | _ => none }
def mendDaysRow : OpenClaim := { program := "ytkoejelglinmnaa", sum := "ddac531adabdeba782042e428edf143a991a35bf86dbcafed59cfaef10bce21b", func := "pecia/pecialaw06.MendDays", spec := "mendDays", inPlace := ["slices.overlaps[int]"], unfollowed := true, recurses := true, apart := false }
def MendDaysSaid : Prop := mendDaysRow.holds Try.pinned (OpenSpec.ofChange mendDaysSpec)

/-- ITS FALSE NEIGHBOUR: 'it returns false'. Refute it at one input. -/
def mendDaysWrong : ChangeSpec := { name := "mendDays", fn := fun _ => fun
  | [d1, d2] => { results := [.lit (.bool false)], args := [d1, d2] }
  | _ => none }
def MendDaysWrongFalsely : Prop := mendDaysRow.holds Try.pinned (OpenSpec.ofChange mendDaysWrong)

/- THE SECOND FORM. 'bulk': how many values and letters a reading holds, each counted each time it is reached (what is shared counts as often as it is met; a slice's spare places count too). A statement '..UptoSaid' is the law's where the arguments, and the package variables that the reading takes, are together of bulk at most 1048576: NARROWER than '..Said'. Prove '..Said' where nothing that the law and all that it calls make is longer than what came in: it says more and counts as full. Else prove '..UptoSaid'. A law counts once. -/
mutual
def uptoBulk {H : Type} : DataW H → Nat
  | .lit (.string bytes) => bytes.length + 1
  | .lit _ => 1
  | .nil => 1
  | .ptr d => uptoBulk d + 1
  | .slice elems spare => uptoBulkAll elems + uptoBulkAll spare + 1
  | .agg parts => uptoBulkAll parts + 1
  | .iface _ d => uptoBulk d + 1
  | .map entries => uptoBulkEntries entries + 1
  | .held _ => 1
def uptoBulkAll {H : Type} : List (DataW H) → Nat
  | [] => 0
  | d :: r => uptoBulk d + uptoBulkAll r
def uptoBulkEntries {H : Type} : List (Lit × DataW H) → Nat
  | [] => 0
  | x :: r => uptoBulkEntry x + uptoBulkEntries r
def uptoBulkEntry {H : Type} : Lit × DataW H → Nat
  | (.string bytes, d) => bytes.length + uptoBulk d + 1
  | (_, d) => uptoBulk d + 1
 end
def uptoSmall : (H : Type) → List (DataW H) → Bool := fun _ ds => decide (uptoBulkAll ds ≤ 1048576)
def OpenSpec.upto (s : _root_.Go.ChangeSpec) : _root_.Go.OpenSpec := { _root_.Go.OpenSpec.ofChange s with cond := some uptoSmall }

/-- 'pecialaw06.MendCopies', WHERE WHAT IT READS IS OF BULK AT MOST 1048576: true; the input reads as it did. -/
def mendCopiesUptoRow : OpenClaim := { program := "ytkoejelglinmnaa", sum := "ddac531adabdeba782042e428edf143a991a35bf86dbcafed59cfaef10bce21b", func := "pecia/pecialaw06.MendCopies", spec := "mendCopies", inPlace := ["slices.overlaps[int]"], unfollowed := true, recurses := true, apart := false, narrowed := true }
def MendCopiesUptoSaid : Prop := mendCopiesUptoRow.holds Try.pinned (OpenSpec.upto mendCopiesSpec)

/-- 'pecialaw06.MendMore', WHERE WHAT IT READS IS OF BULK AT MOST 1048576: true; the input reads as it did. -/
def mendMoreUptoRow : OpenClaim := { program := "ytkoejelglinmnaa", sum := "ddac531adabdeba782042e428edf143a991a35bf86dbcafed59cfaef10bce21b", func := "pecia/pecialaw06.MendMore", spec := "mendMore", inPlace := ["slices.overlaps[int]"], unfollowed := true, recurses := true, apart := false, narrowed := true }
def MendMoreUptoSaid : Prop := mendMoreUptoRow.holds Try.pinned (OpenSpec.upto mendMoreSpec)

/-- 'pecialaw06.MendParts', WHERE WHAT IT READS IS OF BULK AT MOST 1048576: true; the input reads as it did. -/
def mendPartsUptoRow : OpenClaim := { program := "ytkoejelglinmnaa", sum := "ddac531adabdeba782042e428edf143a991a35bf86dbcafed59cfaef10bce21b", func := "pecia/pecialaw06.MendParts", spec := "mendParts", inPlace := ["slices.overlaps[int]"], unfollowed := true, recurses := true, apart := false, narrowed := true }
def MendPartsUptoSaid : Prop := mendPartsUptoRow.holds Try.pinned (OpenSpec.upto mendPartsSpec)

/-- 'pecialaw06.MendExchange', WHERE WHAT IT READS IS OF BULK AT MOST 1048576: true; the input reads as it did. -/
def mendExchangeUptoRow : OpenClaim := { program := "ytkoejelglinmnaa", sum := "ddac531adabdeba782042e428edf143a991a35bf86dbcafed59cfaef10bce21b", func := "pecia/pecialaw06.MendExchange", spec := "mendExchange", inPlace := ["slices.overlaps[int]"], unfollowed := true, recurses := true, apart := false, narrowed := true }
def MendExchangeUptoSaid : Prop := mendExchangeUptoRow.holds Try.pinned (OpenSpec.upto mendExchangeSpec)

/-- 'pecialaw06.MendDays', WHERE WHAT IT READS IS OF BULK AT MOST 1048576: true; the input reads as it did. -/
def mendDaysUptoRow : OpenClaim := { program := "ytkoejelglinmnaa", sum := "ddac531adabdeba782042e428edf143a991a35bf86dbcafed59cfaef10bce21b", func := "pecia/pecialaw06.MendDays", spec := "mendDays", inPlace := ["slices.overlaps[int]"], unfollowed := true, recurses := true, apart := false, narrowed := true }
def MendDaysUptoSaid : Prop := mendDaysUptoRow.holds Try.pinned (OpenSpec.upto mendDaysSpec)

end Rows
end Go.Proofs.Ytkoejelglinmnaa
