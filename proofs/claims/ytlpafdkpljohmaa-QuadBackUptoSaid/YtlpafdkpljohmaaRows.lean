/-
  No cell of these rows narrows 'for every input' (looked for: loops, veiled, ifaces, maps, wideKeys, modest, calm, conditions, laid).
  DERIVED. THE GIVEN ROWS OF THIS SEAT. 11 by the template 'for every input the law returns true; each argument reads behind the call as it read before'; 0 by the template 'total and deterministic' (their statements: YtlpafdkpljohmaaTotals.lean).
  GIVEN WITH THE SEED: the statements are not yours to turn. If you find one false, say at which input.
  Laid BY PROGRAM, IN A SANDBOX (cutbox-rows.mjs): the forced cells as the released guide's own fill.sh prints them over the translation 4c111cd678aecace… (all of the seat's roots in one cut). By AI agents, Wed Nov 11 2026. No macro, syntax, notation, axiom, sorry.
-/
import Derived.Test.YtlpafdkpljohmaaChecked
import GoSem.Claim
import GoSem.ClaimJoined
import GoSem.ClaimMapViews
import Derived.JoinedTies
import Derived.KernelRfl
namespace Go.Proofs.Ytlpafdkpljohmaa
/- THE CELL 'sum', in the pinned program and in every row, IS THE sha256 OF THE DUMP (.gsa) THAT YtlpafdkpljohmaaProg.lean LOADS. Nothing in Lean hashes anything: it is a label: what it is worth is what the hold of that sum in a sandbox is worth. -/
noncomputable def Try.pinned : Pinned := { name := "ytlpafdkpljohmaa", sum := "4c111cd678aecace8e1dacccb86e043a5b11fb5a769f5bc9a696af57cc869ac5", checked := Try.checked }
namespace Rows
def none {H : Type} : Left H := { results := [], args := [] }

/-- 'emenderlaw02.SumSums': WHATEVER THE INPUT: true; the input reads as it did. -/
def sumSumsSpec : ChangeSpec := { name := "sumSums", fn := fun _ => fun
  | [d1, d2] => { results := [.lit (.bool true)], args := [d1, d2] }
  | _ => none }
def sumSumsRow : OpenClaim := { program := "ytlpafdkpljohmaa", sum := "4c111cd678aecace8e1dacccb86e043a5b11fb5a769f5bc9a696af57cc869ac5", func := "emender/emenderlaw02.SumSums", spec := "sumSums", unfollowed := true, recurses := true, apart := false }
def SumSumsSaid : Prop := sumSumsRow.holds Try.pinned (OpenSpec.ofChange sumSumsSpec)

/-- ITS FALSE NEIGHBOUR: 'it returns false'. Refute it at one input. -/
def sumSumsWrong : ChangeSpec := { name := "sumSums", fn := fun _ => fun
  | [d1, d2] => { results := [.lit (.bool false)], args := [d1, d2] }
  | _ => none }
def SumSumsWrongFalsely : Prop := sumSumsRow.holds Try.pinned (OpenSpec.ofChange sumSumsWrong)

/-- 'emenderlaw02.SumTells': WHATEVER THE INPUT: true; the input reads as it did. -/
def sumTellsSpec : ChangeSpec := { name := "sumTells", fn := fun _ => fun
  | [d1, d2, d3] => { results := [.lit (.bool true)], args := [d1, d2, d3] }
  | _ => none }
def sumTellsRow : OpenClaim := { program := "ytlpafdkpljohmaa", sum := "4c111cd678aecace8e1dacccb86e043a5b11fb5a769f5bc9a696af57cc869ac5", func := "emender/emenderlaw02.SumTells", spec := "sumTells", unfollowed := true, recurses := true, apart := false }
def SumTellsSaid : Prop := sumTellsRow.holds Try.pinned (OpenSpec.ofChange sumTellsSpec)

/-- ITS FALSE NEIGHBOUR: 'it returns false'. Refute it at one input. -/
def sumTellsWrong : ChangeSpec := { name := "sumTells", fn := fun _ => fun
  | [d1, d2, d3] => { results := [.lit (.bool false)], args := [d1, d2, d3] }
  | _ => none }
def SumTellsWrongFalsely : Prop := sumTellsRow.holds Try.pinned (OpenSpec.ofChange sumTellsWrong)

/-- 'emenderlaw02.SumJoins': WHATEVER THE INPUT: true; the input reads as it did. -/
def sumJoinsSpec : ChangeSpec := { name := "sumJoins", fn := fun _ => fun
  | [d1, d2, d3] => { results := [.lit (.bool true)], args := [d1, d2, d3] }
  | _ => none }
def sumJoinsRow : OpenClaim := { program := "ytlpafdkpljohmaa", sum := "4c111cd678aecace8e1dacccb86e043a5b11fb5a769f5bc9a696af57cc869ac5", func := "emender/emenderlaw02.SumJoins", spec := "sumJoins", unfollowed := true, recurses := true, apart := false }
def SumJoinsSaid : Prop := sumJoinsRow.holds Try.pinned (OpenSpec.ofChange sumJoinsSpec)

/-- ITS FALSE NEIGHBOUR: 'it returns false'. Refute it at one input. -/
def sumJoinsWrong : ChangeSpec := { name := "sumJoins", fn := fun _ => fun
  | [d1, d2, d3] => { results := [.lit (.bool false)], args := [d1, d2, d3] }
  | _ => none }
def SumJoinsWrongFalsely : Prop := sumJoinsRow.holds Try.pinned (OpenSpec.ofChange sumJoinsWrong)

/-- 'emenderlaw02.SumParts': WHATEVER THE INPUT: true; the input reads as it did. -/
def sumPartsSpec : ChangeSpec := { name := "sumParts", fn := fun _ => fun
  | [d1, d2] => { results := [.lit (.bool true)], args := [d1, d2] }
  | _ => none }
def sumPartsRow : OpenClaim := { program := "ytlpafdkpljohmaa", sum := "4c111cd678aecace8e1dacccb86e043a5b11fb5a769f5bc9a696af57cc869ac5", func := "emender/emenderlaw02.SumParts", spec := "sumParts", unfollowed := true, recurses := true, apart := false }
def SumPartsSaid : Prop := sumPartsRow.holds Try.pinned (OpenSpec.ofChange sumPartsSpec)

/-- ITS FALSE NEIGHBOUR: 'it returns false'. Refute it at one input. -/
def sumPartsWrong : ChangeSpec := { name := "sumParts", fn := fun _ => fun
  | [d1, d2] => { results := [.lit (.bool false)], args := [d1, d2] }
  | _ => none }
def SumPartsWrongFalsely : Prop := sumPartsRow.holds Try.pinned (OpenSpec.ofChange sumPartsWrong)

/-- 'emenderlaw02.SumZero': WHATEVER THE INPUT: true; the input reads as it did. -/
def sumZeroSpec : ChangeSpec := { name := "sumZero", fn := fun _ => fun
  | [d] => { results := [.lit (.bool true)], args := [d] }
  | _ => none }
def sumZeroRow : OpenClaim := { program := "ytlpafdkpljohmaa", sum := "4c111cd678aecace8e1dacccb86e043a5b11fb5a769f5bc9a696af57cc869ac5", func := "emender/emenderlaw02.SumZero", spec := "sumZero", unfollowed := true, recurses := true, apart := false }
def SumZeroSaid : Prop := sumZeroRow.holds Try.pinned (OpenSpec.ofChange sumZeroSpec)

/-- ITS FALSE NEIGHBOUR: 'it returns false'. Refute it at one input. -/
def sumZeroWrong : ChangeSpec := { name := "sumZero", fn := fun _ => fun
  | [d] => { results := [.lit (.bool false)], args := [d] }
  | _ => none }
def SumZeroWrongFalsely : Prop := sumZeroRow.holds Try.pinned (OpenSpec.ofChange sumZeroWrong)

/-- 'emenderlaw01.QuadPuts': WHATEVER THE INPUT: true; the input reads as it did. -/
def quadPutsSpec : ChangeSpec := { name := "quadPuts", fn := fun _ => fun
  | [d1, d2] => { results := [.lit (.bool true)], args := [d1, d2] }
  | _ => none }
def quadPutsRow : OpenClaim := { program := "ytlpafdkpljohmaa", sum := "4c111cd678aecace8e1dacccb86e043a5b11fb5a769f5bc9a696af57cc869ac5", func := "emender/emenderlaw01.QuadPuts", spec := "quadPuts", unfollowed := true, recurses := true, apart := false }
def QuadPutsSaid : Prop := quadPutsRow.holds Try.pinned (OpenSpec.ofChange quadPutsSpec)

/-- ITS FALSE NEIGHBOUR: 'it returns false'. Refute it at one input. -/
def quadPutsWrong : ChangeSpec := { name := "quadPuts", fn := fun _ => fun
  | [d1, d2] => { results := [.lit (.bool false)], args := [d1, d2] }
  | _ => none }
def QuadPutsWrongFalsely : Prop := quadPutsRow.holds Try.pinned (OpenSpec.ofChange quadPutsWrong)

/-- 'emenderlaw01.QuadJoins': WHATEVER THE INPUT: true; the input reads as it did. -/
def quadJoinsSpec : ChangeSpec := { name := "quadJoins", fn := fun _ => fun
  | [d1, d2, d3] => { results := [.lit (.bool true)], args := [d1, d2, d3] }
  | _ => none }
def quadJoinsRow : OpenClaim := { program := "ytlpafdkpljohmaa", sum := "4c111cd678aecace8e1dacccb86e043a5b11fb5a769f5bc9a696af57cc869ac5", func := "emender/emenderlaw01.QuadJoins", spec := "quadJoins", unfollowed := true, recurses := true, apart := false }
def QuadJoinsSaid : Prop := quadJoinsRow.holds Try.pinned (OpenSpec.ofChange quadJoinsSpec)

/-- ITS FALSE NEIGHBOUR: 'it returns false'. Refute it at one input. -/
def quadJoinsWrong : ChangeSpec := { name := "quadJoins", fn := fun _ => fun
  | [d1, d2, d3] => { results := [.lit (.bool false)], args := [d1, d2, d3] }
  | _ => none }
def QuadJoinsWrongFalsely : Prop := quadJoinsRow.holds Try.pinned (OpenSpec.ofChange quadJoinsWrong)

/-- 'emenderlaw01.QuadOrder': WHATEVER THE INPUT: true; the input reads as it did. -/
def quadOrderSpec : ChangeSpec := { name := "quadOrder", fn := fun _ => fun
  | [d1, d2] => { results := [.lit (.bool true)], args := [d1, d2] }
  | _ => none }
def quadOrderRow : OpenClaim := { program := "ytlpafdkpljohmaa", sum := "4c111cd678aecace8e1dacccb86e043a5b11fb5a769f5bc9a696af57cc869ac5", func := "emender/emenderlaw01.QuadOrder", spec := "quadOrder", unfollowed := true, recurses := true, apart := false }
def QuadOrderSaid : Prop := quadOrderRow.holds Try.pinned (OpenSpec.ofChange quadOrderSpec)

/-- ITS FALSE NEIGHBOUR: 'it returns false'. Refute it at one input. -/
def quadOrderWrong : ChangeSpec := { name := "quadOrder", fn := fun _ => fun
  | [d1, d2] => { results := [.lit (.bool false)], args := [d1, d2] }
  | _ => none }
def QuadOrderWrongFalsely : Prop := quadOrderRow.holds Try.pinned (OpenSpec.ofChange quadOrderWrong)

/-- 'emenderlaw01.QuadLeast': WHATEVER THE INPUT: true; the input reads as it did. -/
def quadLeastSpec : ChangeSpec := { name := "quadLeast", fn := fun _ => fun
  | [d1, d2] => { results := [.lit (.bool true)], args := [d1, d2] }
  | _ => none }
def quadLeastRow : OpenClaim := { program := "ytlpafdkpljohmaa", sum := "4c111cd678aecace8e1dacccb86e043a5b11fb5a769f5bc9a696af57cc869ac5", func := "emender/emenderlaw01.QuadLeast", spec := "quadLeast", unfollowed := true, recurses := true, apart := false }
def QuadLeastSaid : Prop := quadLeastRow.holds Try.pinned (OpenSpec.ofChange quadLeastSpec)

/-- ITS FALSE NEIGHBOUR: 'it returns false'. Refute it at one input. -/
def quadLeastWrong : ChangeSpec := { name := "quadLeast", fn := fun _ => fun
  | [d1, d2] => { results := [.lit (.bool false)], args := [d1, d2] }
  | _ => none }
def QuadLeastWrongFalsely : Prop := quadLeastRow.holds Try.pinned (OpenSpec.ofChange quadLeastWrong)

/-- 'emenderlaw01.QuadGets': WHATEVER THE INPUT: true; the input reads as it did. -/
def quadGetsSpec : ChangeSpec := { name := "quadGets", fn := fun _ => fun
  | [d1, d2] => { results := [.lit (.bool true)], args := [d1, d2] }
  | _ => none }
def quadGetsRow : OpenClaim := { program := "ytlpafdkpljohmaa", sum := "4c111cd678aecace8e1dacccb86e043a5b11fb5a769f5bc9a696af57cc869ac5", func := "emender/emenderlaw01.QuadGets", spec := "quadGets", unfollowed := true, recurses := true, apart := false }
def QuadGetsSaid : Prop := quadGetsRow.holds Try.pinned (OpenSpec.ofChange quadGetsSpec)

/-- ITS FALSE NEIGHBOUR: 'it returns false'. Refute it at one input. -/
def quadGetsWrong : ChangeSpec := { name := "quadGets", fn := fun _ => fun
  | [d1, d2] => { results := [.lit (.bool false)], args := [d1, d2] }
  | _ => none }
def QuadGetsWrongFalsely : Prop := quadGetsRow.holds Try.pinned (OpenSpec.ofChange quadGetsWrong)

/-- 'emenderlaw01.QuadBack': WHATEVER THE INPUT: true; the input reads as it did. -/
def quadBackSpec : ChangeSpec := { name := "quadBack", fn := fun _ => fun
  | [d1, d2] => { results := [.lit (.bool true)], args := [d1, d2] }
  | _ => none }
def quadBackRow : OpenClaim := { program := "ytlpafdkpljohmaa", sum := "4c111cd678aecace8e1dacccb86e043a5b11fb5a769f5bc9a696af57cc869ac5", func := "emender/emenderlaw01.QuadBack", spec := "quadBack", unfollowed := true, recurses := true, apart := false }
def QuadBackSaid : Prop := quadBackRow.holds Try.pinned (OpenSpec.ofChange quadBackSpec)

/-- ITS FALSE NEIGHBOUR: 'it returns false'. Refute it at one input. -/
def quadBackWrong : ChangeSpec := { name := "quadBack", fn := fun _ => fun
  | [d1, d2] => { results := [.lit (.bool false)], args := [d1, d2] }
  | _ => none }
def QuadBackWrongFalsely : Prop := quadBackRow.holds Try.pinned (OpenSpec.ofChange quadBackWrong)

/- THE SECOND FORM. 'bulk': how many values and letters a reading holds, each counted each time it is reached (what is shared counts as often as it is met; a slice's spare places count too). A statement '..UptoSaid' is the law's where the arguments, and the package variables that the reading takes, are together of bulk at most 1048576: NARROWER than '..Said'. Prove '..Said' where nothing that the law and all that it calls make is longer than what came in: it says more and counts as full. Else prove '..UptoSaid'. A law counts once. -/
mutual
def uptoBulk {H : Type} : DataW H → Nat
  | .lit (.string bytes) => bytes.length + 1
  | .lit _ => 1
  | .nil => 1
  | .ptr d => uptoBulk d + 1
  | .slice elems spare => uptoBulkAll elems + uptoBulkAll spare + 1
  | .agg parts => uptoBulkAll parts + 1
  | .iface _ d => uptoBulk d + 1
  | .map entries => uptoBulkEntries entries + 1
  | .held _ => 1
def uptoBulkAll {H : Type} : List (DataW H) → Nat
  | [] => 0
  | d :: r => uptoBulk d + uptoBulkAll r
def uptoBulkEntries {H : Type} : List (Lit × DataW H) → Nat
  | [] => 0
  | x :: r => uptoBulkEntry x + uptoBulkEntries r
def uptoBulkEntry {H : Type} : Lit × DataW H → Nat
  | (.string bytes, d) => bytes.length + uptoBulk d + 1
  | (_, d) => uptoBulk d + 1
 end
def uptoSmall : (H : Type) → List (DataW H) → Bool := fun _ ds => decide (uptoBulkAll ds ≤ 1048576)
def OpenSpec.upto (s : _root_.Go.ChangeSpec) : _root_.Go.OpenSpec := { _root_.Go.OpenSpec.ofChange s with cond := some uptoSmall }

/-- 'emenderlaw02.SumSums', WHERE WHAT IT READS IS OF BULK AT MOST 1048576: true; the input reads as it did. -/
def sumSumsUptoRow : OpenClaim := { program := "ytlpafdkpljohmaa", sum := "4c111cd678aecace8e1dacccb86e043a5b11fb5a769f5bc9a696af57cc869ac5", func := "emender/emenderlaw02.SumSums", spec := "sumSums", unfollowed := true, recurses := true, apart := false, narrowed := true }
def SumSumsUptoSaid : Prop := sumSumsUptoRow.holds Try.pinned (OpenSpec.upto sumSumsSpec)

/-- 'emenderlaw02.SumTells', WHERE WHAT IT READS IS OF BULK AT MOST 1048576: true; the input reads as it did. -/
def sumTellsUptoRow : OpenClaim := { program := "ytlpafdkpljohmaa", sum := "4c111cd678aecace8e1dacccb86e043a5b11fb5a769f5bc9a696af57cc869ac5", func := "emender/emenderlaw02.SumTells", spec := "sumTells", unfollowed := true, recurses := true, apart := false, narrowed := true }
def SumTellsUptoSaid : Prop := sumTellsUptoRow.holds Try.pinned (OpenSpec.upto sumTellsSpec)

/-- 'emenderlaw02.SumJoins', WHERE WHAT IT READS IS OF BULK AT MOST 1048576: true; the input reads as it did. -/
def sumJoinsUptoRow : OpenClaim := { program := "ytlpafdkpljohmaa", sum := "4c111cd678aecace8e1dacccb86e043a5b11fb5a769f5bc9a696af57cc869ac5", func := "emender/emenderlaw02.SumJoins", spec := "sumJoins", unfollowed := true, recurses := true, apart := false, narrowed := true }
def SumJoinsUptoSaid : Prop := sumJoinsUptoRow.holds Try.pinned (OpenSpec.upto sumJoinsSpec)

/-- 'emenderlaw02.SumParts', WHERE WHAT IT READS IS OF BULK AT MOST 1048576: true; the input reads as it did. -/
def sumPartsUptoRow : OpenClaim := { program := "ytlpafdkpljohmaa", sum := "4c111cd678aecace8e1dacccb86e043a5b11fb5a769f5bc9a696af57cc869ac5", func := "emender/emenderlaw02.SumParts", spec := "sumParts", unfollowed := true, recurses := true, apart := false, narrowed := true }
def SumPartsUptoSaid : Prop := sumPartsUptoRow.holds Try.pinned (OpenSpec.upto sumPartsSpec)

/-- 'emenderlaw02.SumZero', WHERE WHAT IT READS IS OF BULK AT MOST 1048576: true; the input reads as it did. -/
def sumZeroUptoRow : OpenClaim := { program := "ytlpafdkpljohmaa", sum := "4c111cd678aecace8e1dacccb86e043a5b11fb5a769f5bc9a696af57cc869ac5", func := "emender/emenderlaw02.SumZero", spec := "sumZero", unfollowed := true, recurses := true, apart := false, narrowed := true }
def SumZeroUptoSaid : Prop := sumZeroUptoRow.holds Try.pinned (OpenSpec.upto sumZeroSpec)

/-- 'emenderlaw01.QuadPuts', WHERE WHAT IT READS IS OF BULK AT MOST 1048576: true; the input reads as it did. -/
def quadPutsUptoRow : OpenClaim := { program := "ytlpafdkpljohmaa", sum := "4c111cd678aecace8e1dacccb86e043a5b11fb5a769f5bc9a696af57cc869ac5", func := "emender/emenderlaw01.QuadPuts", spec := "quadPuts", unfollowed := true, recurses := true, apart := false, narrowed := true }
def QuadPutsUptoSaid : Prop := quadPutsUptoRow.holds Try.pinned (OpenSpec.upto quadPutsSpec)

/-- 'emenderlaw01.QuadJoins', WHERE WHAT IT READS IS OF BULK AT MOST 1048576: true; the input reads as it did. -/
def quadJoinsUptoRow : OpenClaim := { program := "ytlpafdkpljohmaa", sum := "4c111cd678aecace8e1dacccb86e043a5b11fb5a769f5bc9a696af57cc869ac5", func := "emender/emenderlaw01.QuadJoins", spec := "quadJoins", unfollowed := true, recurses := true, apart := false, narrowed := true }
def QuadJoinsUptoSaid : Prop := quadJoinsUptoRow.holds Try.pinned (OpenSpec.upto quadJoinsSpec)

/-- 'emenderlaw01.QuadOrder', WHERE WHAT IT READS IS OF BULK AT MOST 1048576: true; the input reads as it did. -/
def quadOrderUptoRow : OpenClaim := { program := "ytlpafdkpljohmaa", sum := "4c111cd678aecace8e1dacccb86e043a5b11fb5a769f5bc9a696af57cc869ac5", func := "emender/emenderlaw01.QuadOrder", spec := "quadOrder", unfollowed := true, recurses := true, apart := false, narrowed := true }
def QuadOrderUptoSaid : Prop := quadOrderUptoRow.holds Try.pinned (OpenSpec.upto quadOrderSpec)

/-- 'emenderlaw01.QuadLeast', WHERE WHAT IT READS IS OF BULK AT MOST 1048576: true; the input reads as it did. -/
def quadLeastUptoRow : OpenClaim := { program := "ytlpafdkpljohmaa", sum := "4c111cd678aecace8e1dacccb86e043a5b11fb5a769f5bc9a696af57cc869ac5", func := "emender/emenderlaw01.QuadLeast", spec := "quadLeast", unfollowed := true, recurses := true, apart := false, narrowed := true }
def QuadLeastUptoSaid : Prop := quadLeastUptoRow.holds Try.pinned (OpenSpec.upto quadLeastSpec)

/-- 'emenderlaw01.QuadGets', WHERE WHAT IT READS IS OF BULK AT MOST 1048576: true; the input reads as it did. -/
def quadGetsUptoRow : OpenClaim := { program := "ytlpafdkpljohmaa", sum := "4c111cd678aecace8e1dacccb86e043a5b11fb5a769f5bc9a696af57cc869ac5", func := "emender/emenderlaw01.QuadGets", spec := "quadGets", unfollowed := true, recurses := true, apart := false, narrowed := true }
def QuadGetsUptoSaid : Prop := quadGetsUptoRow.holds Try.pinned (OpenSpec.upto quadGetsSpec)

/-- 'emenderlaw01.QuadBack', WHERE WHAT IT READS IS OF BULK AT MOST 1048576: true; the input reads as it did. -/
def quadBackUptoRow : OpenClaim := { program := "ytlpafdkpljohmaa", sum := "4c111cd678aecace8e1dacccb86e043a5b11fb5a769f5bc9a696af57cc869ac5", func := "emender/emenderlaw01.QuadBack", spec := "quadBack", unfollowed := true, recurses := true, apart := false, narrowed := true }
def QuadBackUptoSaid : Prop := quadBackUptoRow.holds Try.pinned (OpenSpec.upto quadBackSpec)

end Rows
end Go.Proofs.Ytlpafdkpljohmaa
