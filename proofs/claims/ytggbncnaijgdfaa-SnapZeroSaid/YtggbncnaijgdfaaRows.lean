/-
  No cell of these rows narrows 'for every input' (looked for: loops, veiled, ifaces, maps, wideKeys, modest, calm, conditions, laid).
  DERIVED. THE GIVEN ROWS OF THIS SEAT. 6 by the template 'for every input the law returns true; each argument reads behind the call as it read before'; 0 by the template 'total and deterministic' (their statements: YtggbncnaijgdfaaTotals.lean).
  GIVEN WITH THE SEED: the statements are not yours to turn. If you find one false, say at which input.
  Laid BY PROGRAM, IN A SANDBOX (cutbox-rows.mjs): the forced cells as the released guide's own fill.sh prints them over the translation 21f37770f630f08a… (all of the seat's roots in one cut). By AI agents, Wed Nov 11 2026. No macro, syntax, notation, axiom, sorry.
-/
import Derived.Test.YtggbncnaijgdfaaChecked
import GoSem.Claim
import GoSem.ClaimJoined
import GoSem.ClaimMapViews
import Derived.JoinedTies
import Derived.KernelRfl
namespace Go.Proofs.Ytggbncnaijgdfaa
/- THE CELL 'sum', in the pinned program and in every row, IS THE sha256 OF THE DUMP (.gsa) THAT YtggbncnaijgdfaaProg.lean LOADS. Nothing in Lean hashes anything: it is a label: what it is worth is what the hold of that sum in a sandbox is worth. -/
noncomputable def Try.pinned : Pinned := { name := "ytggbncnaijgdfaa", sum := "21f37770f630f08a074e1267cda878de173780f042ec5ca37e5ab53c4b3632cf", checked := Try.checked }
namespace Rows
def none {H : Type} : Left H := { results := [], args := [] }

/-- 'emenderlaw32.ChunkOne': WHATEVER THE INPUT: true; the input reads as it did. -/
def chunkOneSpec : ChangeSpec := { name := "chunkOne", fn := fun _ => fun
  | [d1, d2] => { results := [.lit (.bool true)], args := [d1, d2] }
  | _ => none }
def chunkOneRow : OpenClaim := { program := "ytggbncnaijgdfaa", sum := "21f37770f630f08a074e1267cda878de173780f042ec5ca37e5ab53c4b3632cf", func := "emender/emenderlaw32.ChunkOne", spec := "chunkOne", unfollowed := true, recurses := true, apart := false }
def ChunkOneSaid : Prop := chunkOneRow.holds Try.pinned (OpenSpec.ofChange chunkOneSpec)

/-- ITS FALSE NEIGHBOUR: 'it returns false'. Refute it at one input. -/
def chunkOneWrong : ChangeSpec := { name := "chunkOne", fn := fun _ => fun
  | [d1, d2] => { results := [.lit (.bool false)], args := [d1, d2] }
  | _ => none }
def ChunkOneWrongFalsely : Prop := chunkOneRow.holds Try.pinned (OpenSpec.ofChange chunkOneWrong)

/-- 'emenderlaw32.ChunkZero': WHATEVER THE INPUT: true; the input reads as it did. -/
def chunkZeroSpec : ChangeSpec := { name := "chunkZero", fn := fun _ => fun
  | [d] => { results := [.lit (.bool true)], args := [d] }
  | _ => none }
def chunkZeroRow : OpenClaim := { program := "ytggbncnaijgdfaa", sum := "21f37770f630f08a074e1267cda878de173780f042ec5ca37e5ab53c4b3632cf", func := "emender/emenderlaw32.ChunkZero", spec := "chunkZero", unfollowed := true, recurses := true, apart := false }
def ChunkZeroSaid : Prop := chunkZeroRow.holds Try.pinned (OpenSpec.ofChange chunkZeroSpec)

/-- ITS FALSE NEIGHBOUR: 'it returns false'. Refute it at one input. -/
def chunkZeroWrong : ChangeSpec := { name := "chunkZero", fn := fun _ => fun
  | [d] => { results := [.lit (.bool false)], args := [d] }
  | _ => none }
def ChunkZeroWrongFalsely : Prop := chunkZeroRow.holds Try.pinned (OpenSpec.ofChange chunkZeroWrong)

/-- 'emenderlaw32.ChunkWhole': WHATEVER THE INPUT: true; the input reads as it did. -/
def chunkWholeSpec : ChangeSpec := { name := "chunkWhole", fn := fun _ => fun
  | [d1, d2] => { results := [.lit (.bool true)], args := [d1, d2] }
  | _ => none }
def chunkWholeRow : OpenClaim := { program := "ytggbncnaijgdfaa", sum := "21f37770f630f08a074e1267cda878de173780f042ec5ca37e5ab53c4b3632cf", func := "emender/emenderlaw32.ChunkWhole", spec := "chunkWhole", unfollowed := true, recurses := true, apart := false }
def ChunkWholeSaid : Prop := chunkWholeRow.holds Try.pinned (OpenSpec.ofChange chunkWholeSpec)

/-- ITS FALSE NEIGHBOUR: 'it returns false'. Refute it at one input. -/
def chunkWholeWrong : ChangeSpec := { name := "chunkWhole", fn := fun _ => fun
  | [d1, d2] => { results := [.lit (.bool false)], args := [d1, d2] }
  | _ => none }
def ChunkWholeWrongFalsely : Prop := chunkWholeRow.holds Try.pinned (OpenSpec.ofChange chunkWholeWrong)

/-- 'emenderlaw30.SnapEither': WHATEVER THE INPUT: true; the input reads as it did. -/
def snapEitherSpec : ChangeSpec := { name := "snapEither", fn := fun _ => fun
  | [d1, d2, d3, d4] => { results := [.lit (.bool true)], args := [d1, d2, d3, d4] }
  | _ => none }
def snapEitherRow : OpenClaim := { program := "ytggbncnaijgdfaa", sum := "21f37770f630f08a074e1267cda878de173780f042ec5ca37e5ab53c4b3632cf", func := "emender/emenderlaw30.SnapEither", spec := "snapEither", unfollowed := true, recurses := true, apart := false }
def SnapEitherSaid : Prop := snapEitherRow.holds Try.pinned (OpenSpec.ofChange snapEitherSpec)

/-- ITS FALSE NEIGHBOUR: 'it returns false'. Refute it at one input. -/
def snapEitherWrong : ChangeSpec := { name := "snapEither", fn := fun _ => fun
  | [d1, d2, d3, d4] => { results := [.lit (.bool false)], args := [d1, d2, d3, d4] }
  | _ => none }
def SnapEitherWrongFalsely : Prop := snapEitherRow.holds Try.pinned (OpenSpec.ofChange snapEitherWrong)

/-- 'emenderlaw30.SnapZero': WHATEVER THE INPUT: true; the input reads as it did. -/
def snapZeroSpec : ChangeSpec := { name := "snapZero", fn := fun _ => fun
  | [d] => { results := [.lit (.bool true)], args := [d] }
  | _ => none }
def snapZeroRow : OpenClaim := { program := "ytggbncnaijgdfaa", sum := "21f37770f630f08a074e1267cda878de173780f042ec5ca37e5ab53c4b3632cf", func := "emender/emenderlaw30.SnapZero", spec := "snapZero", unfollowed := true, recurses := true, apart := false }
def SnapZeroSaid : Prop := snapZeroRow.holds Try.pinned (OpenSpec.ofChange snapZeroSpec)

/-- ITS FALSE NEIGHBOUR: 'it returns false'. Refute it at one input. -/
def snapZeroWrong : ChangeSpec := { name := "snapZero", fn := fun _ => fun
  | [d] => { results := [.lit (.bool false)], args := [d] }
  | _ => none }
def SnapZeroWrongFalsely : Prop := snapZeroRow.holds Try.pinned (OpenSpec.ofChange snapZeroWrong)

/-- 'emenderlaw30.SnapPlays': WHATEVER THE INPUT: true; the input reads as it did. -/
def snapPlaysSpec : ChangeSpec := { name := "snapPlays", fn := fun _ => fun
  | [d1, d2, d3, d4, d5, d6] => { results := [.lit (.bool true)], args := [d1, d2, d3, d4, d5, d6] }
  | _ => none }
def snapPlaysRow : OpenClaim := { program := "ytggbncnaijgdfaa", sum := "21f37770f630f08a074e1267cda878de173780f042ec5ca37e5ab53c4b3632cf", func := "emender/emenderlaw30.SnapPlays", spec := "snapPlays", unfollowed := true, recurses := true, apart := false }
def SnapPlaysSaid : Prop := snapPlaysRow.holds Try.pinned (OpenSpec.ofChange snapPlaysSpec)

/-- ITS FALSE NEIGHBOUR: 'it returns false'. Refute it at one input. -/
def snapPlaysWrong : ChangeSpec := { name := "snapPlays", fn := fun _ => fun
  | [d1, d2, d3, d4, d5, d6] => { results := [.lit (.bool false)], args := [d1, d2, d3, d4, d5, d6] }
  | _ => none }
def SnapPlaysWrongFalsely : Prop := snapPlaysRow.holds Try.pinned (OpenSpec.ofChange snapPlaysWrong)

/- THE SECOND FORM. 'bulk': how many values and letters a reading holds, each counted each time it is reached (what is shared counts as often as it is met; a slice's spare places count too). A statement '..UptoSaid' is the law's where the arguments, and the package variables that the reading takes, are together of bulk at most 1048576: NARROWER than '..Said'. Prove '..Said' where nothing that the law and all that it calls make is longer than what came in: it says more and counts as full. Else prove '..UptoSaid'. A law counts once. -/
mutual
def uptoBulk {H : Type} : DataW H → Nat
  | .lit (.string bytes) => bytes.length + 1
  | .lit _ => 1
  | .nil => 1
  | .ptr d => uptoBulk d + 1
  | .slice elems spare => uptoBulkAll elems + uptoBulkAll spare + 1
  | .agg parts => uptoBulkAll parts + 1
  | .iface _ d => uptoBulk d + 1
  | .map entries => uptoBulkEntries entries + 1
  | .held _ => 1
def uptoBulkAll {H : Type} : List (DataW H) → Nat
  | [] => 0
  | d :: r => uptoBulk d + uptoBulkAll r
def uptoBulkEntries {H : Type} : List (Lit × DataW H) → Nat
  | [] => 0
  | x :: r => uptoBulkEntry x + uptoBulkEntries r
def uptoBulkEntry {H : Type} : Lit × DataW H → Nat
  | (.string bytes, d) => bytes.length + uptoBulk d + 1
  | (_, d) => uptoBulk d + 1
 end
def uptoSmall : (H : Type) → List (DataW H) → Bool := fun _ ds => decide (uptoBulkAll ds ≤ 1048576)
def OpenSpec.upto (s : _root_.Go.ChangeSpec) : _root_.Go.OpenSpec := { _root_.Go.OpenSpec.ofChange s with cond := some uptoSmall }

/-- 'emenderlaw32.ChunkOne', WHERE WHAT IT READS IS OF BULK AT MOST 1048576: true; the input reads as it did. -/
def chunkOneUptoRow : OpenClaim := { program := "ytggbncnaijgdfaa", sum := "21f37770f630f08a074e1267cda878de173780f042ec5ca37e5ab53c4b3632cf", func := "emender/emenderlaw32.ChunkOne", spec := "chunkOne", unfollowed := true, recurses := true, apart := false, narrowed := true }
def ChunkOneUptoSaid : Prop := chunkOneUptoRow.holds Try.pinned (OpenSpec.upto chunkOneSpec)

/-- 'emenderlaw32.ChunkZero', WHERE WHAT IT READS IS OF BULK AT MOST 1048576: true; the input reads as it did. -/
def chunkZeroUptoRow : OpenClaim := { program := "ytggbncnaijgdfaa", sum := "21f37770f630f08a074e1267cda878de173780f042ec5ca37e5ab53c4b3632cf", func := "emender/emenderlaw32.ChunkZero", spec := "chunkZero", unfollowed := true, recurses := true, apart := false, narrowed := true }
def ChunkZeroUptoSaid : Prop := chunkZeroUptoRow.holds Try.pinned (OpenSpec.upto chunkZeroSpec)

/-- 'emenderlaw32.ChunkWhole', WHERE WHAT IT READS IS OF BULK AT MOST 1048576: true; the input reads as it did. -/
def chunkWholeUptoRow : OpenClaim := { program := "ytggbncnaijgdfaa", sum := "21f37770f630f08a074e1267cda878de173780f042ec5ca37e5ab53c4b3632cf", func := "emender/emenderlaw32.ChunkWhole", spec := "chunkWhole", unfollowed := true, recurses := true, apart := false, narrowed := true }
def ChunkWholeUptoSaid : Prop := chunkWholeUptoRow.holds Try.pinned (OpenSpec.upto chunkWholeSpec)

/-- 'emenderlaw30.SnapEither', WHERE WHAT IT READS IS OF BULK AT MOST 1048576: true; the input reads as it did. -/
def snapEitherUptoRow : OpenClaim := { program := "ytggbncnaijgdfaa", sum := "21f37770f630f08a074e1267cda878de173780f042ec5ca37e5ab53c4b3632cf", func := "emender/emenderlaw30.SnapEither", spec := "snapEither", unfollowed := true, recurses := true, apart := false, narrowed := true }
def SnapEitherUptoSaid : Prop := snapEitherUptoRow.holds Try.pinned (OpenSpec.upto snapEitherSpec)

/-- 'emenderlaw30.SnapZero', WHERE WHAT IT READS IS OF BULK AT MOST 1048576: true; the input reads as it did. -/
def snapZeroUptoRow : OpenClaim := { program := "ytggbncnaijgdfaa", sum := "21f37770f630f08a074e1267cda878de173780f042ec5ca37e5ab53c4b3632cf", func := "emender/emenderlaw30.SnapZero", spec := "snapZero", unfollowed := true, recurses := true, apart := false, narrowed := true }
def SnapZeroUptoSaid : Prop := snapZeroUptoRow.holds Try.pinned (OpenSpec.upto snapZeroSpec)

/-- 'emenderlaw30.SnapPlays', WHERE WHAT IT READS IS OF BULK AT MOST 1048576: true; the input reads as it did. -/
def snapPlaysUptoRow : OpenClaim := { program := "ytggbncnaijgdfaa", sum := "21f37770f630f08a074e1267cda878de173780f042ec5ca37e5ab53c4b3632cf", func := "emender/emenderlaw30.SnapPlays", spec := "snapPlays", unfollowed := true, recurses := true, apart := false, narrowed := true }
def SnapPlaysUptoSaid : Prop := snapPlaysUptoRow.holds Try.pinned (OpenSpec.upto snapPlaysSpec)

end Rows
end Go.Proofs.Ytggbncnaijgdfaa
