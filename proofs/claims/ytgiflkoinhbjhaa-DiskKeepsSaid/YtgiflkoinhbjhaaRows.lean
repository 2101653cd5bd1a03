/-
  No cell of these rows narrows 'for every input' (looked for: loops, veiled, ifaces, maps, wideKeys, modest, calm, conditions, laid).
  DERIVED. THE GIVEN ROWS OF THIS SEAT. 10 by the template 'for every input the law returns true; each argument reads behind the call as it read before'; 0 by the template 'total and deterministic' (their statements: YtgiflkoinhbjhaaTotals.lean).
  GIVEN WITH THE SEED: the statements are not yours to turn. If you find one false, say at which input.
  Laid BY PROGRAM, IN A SANDBOX (cutbox-rows.mjs): the forced cells as the released guide's own fill.sh prints them over the translation bd58a0d8859e0d3e… (all of the seat's roots in one cut). By AI agents, Wed Nov 11 2026. No macro, syntax, notation, axiom, sorry.
-/
import Derived.Test.YtgiflkoinhbjhaaChecked
import GoSem.Claim
import GoSem.ClaimJoined
import GoSem.ClaimMapViews
import Derived.JoinedTies
import Derived.KernelRfl
namespace Go.Proofs.Ytgiflkoinhbjhaa
/- THE CELL 'sum', in the pinned program and in every row, IS THE sha256 OF THE DUMP (.gsa) THAT YtgiflkoinhbjhaaProg.lean LOADS. Nothing in Lean hashes anything: it is a label: what it is worth is what the hold of that sum in a sandbox is worth. -/
noncomputable def Try.pinned : Pinned := { name := "ytgiflkoinhbjhaa", sum := "bd58a0d8859e0d3e1cc6460eed55ca6ea280e18efac7b701360acfc81db9928c", checked := Try.checked }
namespace Rows
def none {H : Type} : Left H := { results := [], args := [] }

/-- 'emenderlaw03.MarkWithin': WHATEVER THE INPUT: true; the input reads as it did. -/
def markWithinSpec : ChangeSpec := { name := "markWithin", fn := fun _ => fun
  | [d1, d2, d3] => { results := [.lit (.bool true)], args := [d1, d2, d3] }
  | _ => none }
def markWithinRow : OpenClaim := { program := "ytgiflkoinhbjhaa", sum := "bd58a0d8859e0d3e1cc6460eed55ca6ea280e18efac7b701360acfc81db9928c", func := "emender/emenderlaw03.MarkWithin", spec := "markWithin", apart := false }
def MarkWithinSaid : Prop := markWithinRow.holds Try.pinned (OpenSpec.ofChange markWithinSpec)

/-- ITS FALSE NEIGHBOUR: 'it returns false'. Refute it at one input. -/
def markWithinWrong : ChangeSpec := { name := "markWithin", fn := fun _ => fun
  | [d1, d2, d3] => { results := [.lit (.bool false)], args := [d1, d2, d3] }
  | _ => none }
def MarkWithinWrongFalsely : Prop := markWithinRow.holds Try.pinned (OpenSpec.ofChange markWithinWrong)

/-- 'emenderlaw03.MarkSum': WHATEVER THE INPUT: true; the input reads as it did. -/
def markSumSpec : ChangeSpec := { name := "markSum", fn := fun _ => fun
  | [d] => { results := [.lit (.bool true)], args := [d] }
  | _ => none }
def markSumRow : OpenClaim := { program := "ytgiflkoinhbjhaa", sum := "bd58a0d8859e0d3e1cc6460eed55ca6ea280e18efac7b701360acfc81db9928c", func := "emender/emenderlaw03.MarkSum", spec := "markSum", apart := false }
def MarkSumSaid : Prop := markSumRow.holds Try.pinned (OpenSpec.ofChange markSumSpec)

/-- ITS FALSE NEIGHBOUR: 'it returns false'. Refute it at one input. -/
def markSumWrong : ChangeSpec := { name := "markSum", fn := fun _ => fun
  | [d] => { results := [.lit (.bool false)], args := [d] }
  | _ => none }
def MarkSumWrongFalsely : Prop := markSumRow.holds Try.pinned (OpenSpec.ofChange markSumWrong)

/-- 'emenderlaw03.MarkLists': WHATEVER THE INPUT: true; the input reads as it did. -/
def markListsSpec : ChangeSpec := { name := "markLists", fn := fun _ => fun
  | [d1, d2] => { results := [.lit (.bool true)], args := [d1, d2] }
  | _ => none }
def markListsRow : OpenClaim := { program := "ytgiflkoinhbjhaa", sum := "bd58a0d8859e0d3e1cc6460eed55ca6ea280e18efac7b701360acfc81db9928c", func := "emender/emenderlaw03.MarkLists", spec := "markLists", apart := false }
def MarkListsSaid : Prop := markListsRow.holds Try.pinned (OpenSpec.ofChange markListsSpec)

/-- ITS FALSE NEIGHBOUR: 'it returns false'. Refute it at one input. -/
def markListsWrong : ChangeSpec := { name := "markLists", fn := fun _ => fun
  | [d1, d2] => { results := [.lit (.bool false)], args := [d1, d2] }
  | _ => none }
def MarkListsWrongFalsely : Prop := markListsRow.holds Try.pinned (OpenSpec.ofChange markListsWrong)

/-- 'emenderlaw03.MarkOrder': WHATEVER THE INPUT: true; the input reads as it did. -/
def markOrderSpec : ChangeSpec := { name := "markOrder", fn := fun _ => fun
  | [d1, d2, d3] => { results := [.lit (.bool true)], args := [d1, d2, d3] }
  | _ => none }
def markOrderRow : OpenClaim := { program := "ytgiflkoinhbjhaa", sum := "bd58a0d8859e0d3e1cc6460eed55ca6ea280e18efac7b701360acfc81db9928c", func := "emender/emenderlaw03.MarkOrder", spec := "markOrder", apart := false }
def MarkOrderSaid : Prop := markOrderRow.holds Try.pinned (OpenSpec.ofChange markOrderSpec)

/-- ITS FALSE NEIGHBOUR: 'it returns false'. Refute it at one input. -/
def markOrderWrong : ChangeSpec := { name := "markOrder", fn := fun _ => fun
  | [d1, d2, d3] => { results := [.lit (.bool false)], args := [d1, d2, d3] }
  | _ => none }
def MarkOrderWrongFalsely : Prop := markOrderRow.holds Try.pinned (OpenSpec.ofChange markOrderWrong)

/-- 'emenderlaw03.MarkTurns': WHATEVER THE INPUT: true; the input reads as it did. -/
def markTurnsSpec : ChangeSpec := { name := "markTurns", fn := fun _ => fun
  | [d1, d2] => { results := [.lit (.bool true)], args := [d1, d2] }
  | _ => none }
def markTurnsRow : OpenClaim := { program := "ytgiflkoinhbjhaa", sum := "bd58a0d8859e0d3e1cc6460eed55ca6ea280e18efac7b701360acfc81db9928c", func := "emender/emenderlaw03.MarkTurns", spec := "markTurns", apart := false }
def MarkTurnsSaid : Prop := markTurnsRow.holds Try.pinned (OpenSpec.ofChange markTurnsSpec)

/-- ITS FALSE NEIGHBOUR: 'it returns false'. Refute it at one input. -/
def markTurnsWrong : ChangeSpec := { name := "markTurns", fn := fun _ => fun
  | [d1, d2] => { results := [.lit (.bool false)], args := [d1, d2] }
  | _ => none }
def MarkTurnsWrongFalsely : Prop := markTurnsRow.holds Try.pinned (OpenSpec.ofChange markTurnsWrong)

/-- 'emenderlaw03.MarkRules': WHATEVER THE INPUT: true; the input reads as it did. -/
def markRulesSpec : ChangeSpec := { name := "markRules", fn := fun _ => fun
  | [d1, d2] => { results := [.lit (.bool true)], args := [d1, d2] }
  | _ => none }
def markRulesRow : OpenClaim := { program := "ytgiflkoinhbjhaa", sum := "bd58a0d8859e0d3e1cc6460eed55ca6ea280e18efac7b701360acfc81db9928c", func := "emender/emenderlaw03.MarkRules", spec := "markRules", apart := false }
def MarkRulesSaid : Prop := markRulesRow.holds Try.pinned (OpenSpec.ofChange markRulesSpec)

/-- ITS FALSE NEIGHBOUR: 'it returns false'. Refute it at one input. -/
def markRulesWrong : ChangeSpec := { name := "markRules", fn := fun _ => fun
  | [d1, d2] => { results := [.lit (.bool false)], args := [d1, d2] }
  | _ => none }
def MarkRulesWrongFalsely : Prop := markRulesRow.holds Try.pinned (OpenSpec.ofChange markRulesWrong)

/-- 'emenderlaw17.DiskKeeps': WHATEVER THE INPUT: true; the input reads as it did. -/
def diskKeepsSpec : ChangeSpec := { name := "diskKeeps", fn := fun _ => fun
  | [d1, d2, d3] => { results := [.lit (.bool true)], args := [d1, d2, d3] }
  | _ => none }
def diskKeepsRow : OpenClaim := { program := "ytgiflkoinhbjhaa", sum := "bd58a0d8859e0d3e1cc6460eed55ca6ea280e18efac7b701360acfc81db9928c", func := "emender/emenderlaw17.DiskKeeps", spec := "diskKeeps", apart := false }
def DiskKeepsSaid : Prop := diskKeepsRow.holds Try.pinned (OpenSpec.ofChange diskKeepsSpec)

/-- ITS FALSE NEIGHBOUR: 'it returns false'. Refute it at one input. -/
def diskKeepsWrong : ChangeSpec := { name := "diskKeeps", fn := fun _ => fun
  | [d1, d2, d3] => { results := [.lit (.bool false)], args := [d1, d2, d3] }
  | _ => none }
def DiskKeepsWrongFalsely : Prop := diskKeepsRow.holds Try.pinned (OpenSpec.ofChange diskKeepsWrong)

/-- 'emenderlaw17.DiskCopies': WHATEVER THE INPUT: true; the input reads as it did. -/
def diskCopiesSpec : ChangeSpec := { name := "diskCopies", fn := fun _ => fun
  | [d1, d2] => { results := [.lit (.bool true)], args := [d1, d2] }
  | _ => none }
def diskCopiesRow : OpenClaim := { program := "ytgiflkoinhbjhaa", sum := "bd58a0d8859e0d3e1cc6460eed55ca6ea280e18efac7b701360acfc81db9928c", func := "emender/emenderlaw17.DiskCopies", spec := "diskCopies", apart := false }
def DiskCopiesSaid : Prop := diskCopiesRow.holds Try.pinned (OpenSpec.ofChange diskCopiesSpec)

/-- ITS FALSE NEIGHBOUR: 'it returns false'. Refute it at one input. -/
def diskCopiesWrong : ChangeSpec := { name := "diskCopies", fn := fun _ => fun
  | [d1, d2] => { results := [.lit (.bool false)], args := [d1, d2] }
  | _ => none }
def DiskCopiesWrongFalsely : Prop := diskCopiesRow.holds Try.pinned (OpenSpec.ofChange diskCopiesWrong)

/-- 'emenderlaw17.DiskZero': WHATEVER THE INPUT: true; the input reads as it did. -/
def diskZeroSpec : ChangeSpec := { name := "diskZero", fn := fun _ => fun
  | [d1, d2] => { results := [.lit (.bool true)], args := [d1, d2] }
  | _ => none }
def diskZeroRow : OpenClaim := { program := "ytgiflkoinhbjhaa", sum := "bd58a0d8859e0d3e1cc6460eed55ca6ea280e18efac7b701360acfc81db9928c", func := "emender/emenderlaw17.DiskZero", spec := "diskZero", apart := false }
def DiskZeroSaid : Prop := diskZeroRow.holds Try.pinned (OpenSpec.ofChange diskZeroSpec)

/-- ITS FALSE NEIGHBOUR: 'it returns false'. Refute it at one input. -/
def diskZeroWrong : ChangeSpec := { name := "diskZero", fn := fun _ => fun
  | [d1, d2] => { results := [.lit (.bool false)], args := [d1, d2] }
  | _ => none }
def DiskZeroWrongFalsely : Prop := diskZeroRow.holds Try.pinned (OpenSpec.ofChange diskZeroWrong)

/-- 'emenderlaw17.DiskPlays': WHATEVER THE INPUT: true; the input reads as it did. -/
def diskPlaysSpec : ChangeSpec := { name := "diskPlays", fn := fun _ => fun
  | [d1, d2, d3, d4] => { results := [.lit (.bool true)], args := [d1, d2, d3, d4] }
  | _ => none }
def diskPlaysRow : OpenClaim := { program := "ytgiflkoinhbjhaa", sum := "bd58a0d8859e0d3e1cc6460eed55ca6ea280e18efac7b701360acfc81db9928c", func := "emender/emenderlaw17.DiskPlays", spec := "diskPlays", apart := false }
def DiskPlaysSaid : Prop := diskPlaysRow.holds Try.pinned (OpenSpec.ofChange diskPlaysSpec)

/-- ITS FALSE NEIGHBOUR: 'it returns false'. Refute it at one input. -/
def diskPlaysWrong : ChangeSpec := { name := "diskPlays", fn := fun _ => fun
  | [d1, d2, d3, d4] => { results := [.lit (.bool false)], args := [d1, d2, d3, d4] }
  | _ => none }
def DiskPlaysWrongFalsely : Prop := diskPlaysRow.holds Try.pinned (OpenSpec.ofChange diskPlaysWrong)

/- THE SECOND FORM. 'bulk': how many values and letters a reading holds, each counted each time it is reached (what is shared counts as often as it is met; a slice's spare places count too). A statement '..UptoSaid' is the law's where the arguments, and the package variables that the reading takes, are together of bulk at most 1048576: NARROWER than '..Said'. Prove '..Said' where nothing that the law and all that it calls make is longer than what came in: it says more and counts as full. Else prove '..UptoSaid'. A law counts once. -/
mutual
def uptoBulk {H : Type} : DataW H → Nat
  | .lit (.string bytes) => bytes.length + 1
  | .lit _ => 1
  | .nil => 1
  | .ptr d => uptoBulk d + 1
  | .slice elems spare => uptoBulkAll elems + uptoBulkAll spare + 1
  | .agg parts => uptoBulkAll parts + 1
  | .iface _ d => uptoBulk d + 1
  | .map entries => uptoBulkEntries entries + 1
  | .held _ => 1
def uptoBulkAll {H : Type} : List (DataW H) → Nat
  | [] => 0
  | d :: r => uptoBulk d + uptoBulkAll r
def uptoBulkEntries {H : Type} : List (Lit × DataW H) → Nat
  | [] => 0
  | x :: r => uptoBulkEntry x + uptoBulkEntries r
def uptoBulkEntry {H : Type} : Lit × DataW H → Nat
  | (.string bytes, d) => bytes.length + uptoBulk d + 1
  | (_, d) => uptoBulk d + 1
 end
def uptoSmall : (H : Type) → List (DataW H) → Bool := fun _ ds => decide (uptoBulkAll ds ≤ 1048576)
def OpenSpec.upto (s : _root_.Go.ChangeSpec) : _root_.Go.OpenSpec := { _root_.Go.OpenSpec.ofChange s with cond := some uptoSmall }

/-- 'emenderlaw03.MarkWithin', WHERE WHAT IT READS IS OF BULK AT MOST 1048576: true; the input reads as it did. -/
def markWithinUptoRow : OpenClaim := { program := "ytgiflkoinhbjhaa", sum := "bd58a0d8859e0d3e1cc6460eed55ca6ea280e18efac7b701360acfc81db9928c", func := "emender/emenderlaw03.MarkWithin", spec := "markWithin", apart := false, narrowed := true }
def MarkWithinUptoSaid : Prop := markWithinUptoRow.holds Try.pinned (OpenSpec.upto markWithinSpec)

/-- 'emenderlaw03.MarkSum', WHERE WHAT IT READS IS OF BULK AT MOST 1048576: true; the input reads as it did. -/
def markSumUptoRow : OpenClaim := { program := "ytgiflkoinhbjhaa", sum := "bd58a0d8859e0d3e1cc6460eed55ca6ea280e18efac7b701360acfc81db9928c", func := "emender/emenderlaw03.MarkSum", spec := "markSum", apart := false, narrowed := true }
def MarkSumUptoSaid : Prop := markSumUptoRow.holds Try.pinned (OpenSpec.upto markSumSpec)

/-- 'emenderlaw03.MarkLists', WHERE WHAT IT READS IS OF BULK AT MOST 1048576: true; the input reads as it did. -/
def markListsUptoRow : OpenClaim := { program := "ytgiflkoinhbjhaa", sum := "bd58a0d8859e0d3e1cc6460eed55ca6ea280e18efac7b701360acfc81db9928c", func := "emender/emenderlaw03.MarkLists", spec := "markLists", apart := false, narrowed := true }
def MarkListsUptoSaid : Prop := markListsUptoRow.holds Try.pinned (OpenSpec.upto markListsSpec)

/-- 'emenderlaw03.MarkOrder', WHERE WHAT IT READS IS OF BULK AT MOST 1048576: true; the input reads as it did. -/
def markOrderUptoRow : OpenClaim := { program := "ytgiflkoinhbjhaa", sum := "bd58a0d8859e0d3e1cc6460eed55ca6ea280e18efac7b701360acfc81db9928c", func := "emender/emenderlaw03.MarkOrder", spec := "markOrder", apart := false, narrowed := true }
def MarkOrderUptoSaid : Prop := markOrderUptoRow.holds Try.pinned (OpenSpec.upto markOrderSpec)

/-- 'emenderlaw03.MarkTurns', WHERE WHAT IT READS IS OF BULK AT MOST 1048576: true; the input reads as it did. -/
def markTurnsUptoRow : OpenClaim := { program := "ytgiflkoinhbjhaa", sum := "bd58a0d8859e0d3e1cc6460eed55ca6ea280e18efac7b701360acfc81db9928c", func := "emender/emenderlaw03.MarkTurns", spec := "markTurns", apart := false, narrowed := true }
def MarkTurnsUptoSaid : Prop := markTurnsUptoRow.holds Try.pinned (OpenSpec.upto markTurnsSpec)

/-- 'emenderlaw03.MarkRules', WHERE WHAT IT READS IS OF BULK AT MOST 1048576: true; the input reads as it did. -/
def markRulesUptoRow : OpenClaim := { program := "ytgiflkoinhbjhaa", sum := "bd58a0d8859e0d3e1cc6460eed55ca6ea280e18efac7b701360acfc81db9928c", func := "emender/emenderlaw03.MarkRules", spec := "markRules", apart := false, narrowed := true }
def MarkRulesUptoSaid : Prop := markRulesUptoRow.holds Try.pinned (OpenSpec.upto markRulesSpec)

/-- 'emenderlaw17.DiskKeeps', WHERE WHAT IT READS IS OF BULK AT MOST 1048576: true; the input reads as it did. -/
def diskKeepsUptoRow : OpenClaim := { program := "ytgiflkoinhbjhaa", sum := "bd58a0d8859e0d3e1cc6460eed55ca6ea280e18efac7b701360acfc81db9928c", func := "emender/emenderlaw17.DiskKeeps", spec := "diskKeeps", apart := false, narrowed := true }
def DiskKeepsUptoSaid : Prop := diskKeepsUptoRow.holds Try.pinned (OpenSpec.upto diskKeepsSpec)

/-- 'emenderlaw17.DiskCopies', WHERE WHAT IT READS IS OF BULK AT MOST 1048576: true; the input reads as it did. -/
def diskCopiesUptoRow : OpenClaim := { program := "ytgiflkoinhbjhaa", sum := "bd58a0d8859e0d3e1cc6460eed55ca6ea280e18efac7b701360acfc81db9928c", func := "emender/emenderlaw17.DiskCopies", spec := "diskCopies", apart := false, narrowed := true }
def DiskCopiesUptoSaid : Prop := diskCopiesUptoRow.holds Try.pinned (OpenSpec.upto diskCopiesSpec)

/-- 'emenderlaw17.DiskZero', WHERE WHAT IT READS IS OF BULK AT MOST 1048576: true; the input reads as it did. -/
def diskZeroUptoRow : OpenClaim := { program := "ytgiflkoinhbjhaa", sum := "bd58a0d8859e0d3e1cc6460eed55ca6ea280e18efac7b701360acfc81db9928c", func := "emender/emenderlaw17.DiskZero", spec := "diskZero", apart := false, narrowed := true }
def DiskZeroUptoSaid : Prop := diskZeroUptoRow.holds Try.pinned (OpenSpec.upto diskZeroSpec)

/-- 'emenderlaw17.DiskPlays', WHERE WHAT IT READS IS OF BULK AT MOST 1048576: true; the input reads as it did. -/
def diskPlaysUptoRow : OpenClaim := { program := "ytgiflkoinhbjhaa", sum := "bd58a0d8859e0d3e1cc6460eed55ca6ea280e18efac7b701360acfc81db9928c", func := "emender/emenderlaw17.DiskPlays", spec := "diskPlays", apart := false, narrowed := true }
def DiskPlaysUptoSaid : Prop := diskPlaysUptoRow.holds Try.pinned (OpenSpec.upto diskPlaysSpec)

end Rows
end Go.Proofs.Ytgiflkoinhbjhaa
