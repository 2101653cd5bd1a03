/-
  No cell of these rows narrows 'for every input' (looked for: loops, veiled, ifaces, maps, wideKeys, modest, calm, conditions, laid).
  DERIVED. THE GIVEN ROWS OF THIS SEAT. 16 by the template 'for every input the law returns true; each argument reads behind the call as it read before'; 0 by the template 'total and deterministic' (their statements: YtmbnjgnmblgjoaaTotals.lean).
  GIVEN WITH THE SEED: the statements are not yours to turn. If you find one false, say at which input.
  Laid BY PROGRAM, IN A SANDBOX (cutbox-rows.mjs): the forced cells as the released guide's own fill.sh prints them over the translation 2b3e45fab00b1073… (all of the seat's roots in one cut). By AI agents, Wed Nov 11 2026. No macro, syntax, notation, axiom, sorry.
-/
import Derived.Test.YtmbnjgnmblgjoaaChecked
import GoSem.Claim
import GoSem.ClaimJoined
import GoSem.ClaimMapViews
import Derived.JoinedTies
import Derived.KernelRfl
namespace Go.Proofs.Ytmbnjgnmblgjoaa
/- THE CELL 'sum', in the pinned program and in every row, IS THE sha256 OF THE DUMP (.gsa) THAT YtmbnjgnmblgjoaaProg.lean LOADS. Nothing in Lean hashes anything: it is a label: what it is worth is what the hold of that sum in a sandbox is worth. -/
noncomputable def Try.pinned : Pinned := { name := "ytmbnjgnmblgjoaa", sum := "2b3e45fab00b10732f55e63aea64a5d4e9bac4caf660c3c3661561cc80836677", checked := Try.checked }
namespace Rows
def none {H : Type} : Left H := { results := [], args := [] }

/-- 'emendertop.WholeSent': WHATEVER THE INPUT: true; the input reads as it did. -/
def wholeSentSpec : ChangeSpec := { name := "wholeSent", fn := fun _ => fun
  | [d1, d2] => { results := [.lit (.bool true)], args := [d1, d2] }
  | _ => none }
def wholeSentRow : OpenClaim := { program := "ytmbnjgnmblgjoaa", sum := "2b3e45fab00b10732f55e63aea64a5d4e9bac4caf660c3c3661561cc80836677", func := "emender/emendertop.WholeSent", spec := "wholeSent", unfollowed := true, recurses := true, apart := false }
def WholeSentSaid : Prop := wholeSentRow.holds Try.pinned (OpenSpec.ofChange wholeSentSpec)

/-- ITS FALSE NEIGHBOUR: 'it returns false'. Refute it at one input. -/
def wholeSentWrong : ChangeSpec := { name := "wholeSent", fn := fun _ => fun
  | [d1, d2] => { results := [.lit (.bool false)], args := [d1, d2] }
  | _ => none }
def WholeSentWrongFalsely : Prop := wholeSentRow.holds Try.pinned (OpenSpec.ofChange wholeSentWrong)

/-- 'emenderlaw17.DiskPlays': WHATEVER THE INPUT: true; the input reads as it did. -/
def diskPlaysSpec : ChangeSpec := { name := "diskPlays", fn := fun _ => fun
  | [d1, d2, d3, d4] => { results := [.lit (.bool true)], args := [d1, d2, d3, d4] }
  | _ => none }
def diskPlaysRow : OpenClaim := { program := "ytmbnjgnmblgjoaa", sum := "2b3e45fab00b10732f55e63aea64a5d4e9bac4caf660c3c3661561cc80836677", func := "emender/emenderlaw17.DiskPlays", spec := "diskPlays", apart := false }
def DiskPlaysSaid : Prop := diskPlaysRow.holds Try.pinned (OpenSpec.ofChange diskPlaysSpec)

/-- ITS FALSE NEIGHBOUR: 'it returns false'. Refute it at one input. -/
def diskPlaysWrong : ChangeSpec := { name := "diskPlays", fn := fun _ => fun
  | [d1, d2, d3, d4] => { results := [.lit (.bool false)], args := [d1, d2, d3, d4] }
  | _ => none }
def DiskPlaysWrongFalsely : Prop := diskPlaysRow.holds Try.pinned (OpenSpec.ofChange diskPlaysWrong)

/-- 'emenderlaw32.ChunkOne': WHATEVER THE INPUT: true; the input reads as it did. -/
def chunkOneSpec : ChangeSpec := { name := "chunkOne", fn := fun _ => fun
  | [d1, d2] => { results := [.lit (.bool true)], args := [d1, d2] }
  | _ => none }
def chunkOneRow : OpenClaim := { program := "ytmbnjgnmblgjoaa", sum := "2b3e45fab00b10732f55e63aea64a5d4e9bac4caf660c3c3661561cc80836677", func := "emender/emenderlaw32.ChunkOne", spec := "chunkOne", unfollowed := true, recurses := true, apart := false }
def ChunkOneSaid : Prop := chunkOneRow.holds Try.pinned (OpenSpec.ofChange chunkOneSpec)

/-- ITS FALSE NEIGHBOUR: 'it returns false'. Refute it at one input. -/
def chunkOneWrong : ChangeSpec := { name := "chunkOne", fn := fun _ => fun
  | [d1, d2] => { results := [.lit (.bool false)], args := [d1, d2] }
  | _ => none }
def ChunkOneWrongFalsely : Prop := chunkOneRow.holds Try.pinned (OpenSpec.ofChange chunkOneWrong)

/-- 'emenderlaw16.CodecTorn': WHATEVER THE INPUT: true; the input reads as it did. -/
def codecTornSpec : ChangeSpec := { name := "codecTorn", fn := fun _ => fun
  | [d1, d2, d3, d4, d5] => { results := [.lit (.bool true)], args := [d1, d2, d3, d4, d5] }
  | _ => none }
def codecTornRow : OpenClaim := { program := "ytmbnjgnmblgjoaa", sum := "2b3e45fab00b10732f55e63aea64a5d4e9bac4caf660c3c3661561cc80836677", func := "emender/emenderlaw16.CodecTorn", spec := "codecTorn", unfollowed := true, recurses := true, apart := false }
def CodecTornSaid : Prop := codecTornRow.holds Try.pinned (OpenSpec.ofChange codecTornSpec)

/-- ITS FALSE NEIGHBOUR: 'it returns false'. Refute it at one input. -/
def codecTornWrong : ChangeSpec := { name := "codecTorn", fn := fun _ => fun
  | [d1, d2, d3, d4, d5] => { results := [.lit (.bool false)], args := [d1, d2, d3, d4, d5] }
  | _ => none }
def CodecTornWrongFalsely : Prop := codecTornRow.holds Try.pinned (OpenSpec.ofChange codecTornWrong)

/-- 'emenderlaw32.ChunkWhole': WHATEVER THE INPUT: true; the input reads as it did. -/
def chunkWholeSpec : ChangeSpec := { name := "chunkWhole", fn := fun _ => fun
  | [d1, d2] => { results := [.lit (.bool true)], args := [d1, d2] }
  | _ => none }
def chunkWholeRow : OpenClaim := { program := "ytmbnjgnmblgjoaa", sum := "2b3e45fab00b10732f55e63aea64a5d4e9bac4caf660c3c3661561cc80836677", func := "emender/emenderlaw32.ChunkWhole", spec := "chunkWhole", unfollowed := true, recurses := true, apart := false }
def ChunkWholeSaid : Prop := chunkWholeRow.holds Try.pinned (OpenSpec.ofChange chunkWholeSpec)

/-- ITS FALSE NEIGHBOUR: 'it returns false'. Refute it at one input. -/
def chunkWholeWrong : ChangeSpec := { name := "chunkWhole", fn := fun _ => fun
  | [d1, d2] => { results := [.lit (.bool false)], args := [d1, d2] }
  | _ => none }
def ChunkWholeWrongFalsely : Prop := chunkWholeRow.holds Try.pinned (OpenSpec.ofChange chunkWholeWrong)

/-- 'emenderlaw16.CodecPuts': WHATEVER THE INPUT: true; the input reads as it did. -/
def codecPutsSpec : ChangeSpec := { name := "codecPuts", fn := fun _ => fun
  | [d1, d2, d3] => { results := [.lit (.bool true)], args := [d1, d2, d3] }
  | _ => none }
def codecPutsRow : OpenClaim := { program := "ytmbnjgnmblgjoaa", sum := "2b3e45fab00b10732f55e63aea64a5d4e9bac4caf660c3c3661561cc80836677", func := "emender/emenderlaw16.CodecPuts", spec := "codecPuts", unfollowed := true, recurses := true, apart := false }
def CodecPutsSaid : Prop := codecPutsRow.holds Try.pinned (OpenSpec.ofChange codecPutsSpec)

/-- ITS FALSE NEIGHBOUR: 'it returns false'. Refute it at one input. -/
def codecPutsWrong : ChangeSpec := { name := "codecPuts", fn := fun _ => fun
  | [d1, d2, d3] => { results := [.lit (.bool false)], args := [d1, d2, d3] }
  | _ => none }
def CodecPutsWrongFalsely : Prop := codecPutsRow.holds Try.pinned (OpenSpec.ofChange codecPutsWrong)

/-- 'emenderlaw30.SnapEither': WHATEVER THE INPUT: true; the input reads as it did. -/
def snapEitherSpec : ChangeSpec := { name := "snapEither", fn := fun _ => fun
  | [d1, d2, d3, d4] => { results := [.lit (.bool true)], args := [d1, d2, d3, d4] }
  | _ => none }
def snapEitherRow : OpenClaim := { program := "ytmbnjgnmblgjoaa", sum := "2b3e45fab00b10732f55e63aea64a5d4e9bac4caf660c3c3661561cc80836677", func := "emender/emenderlaw30.SnapEither", spec := "snapEither", unfollowed := true, recurses := true, apart := false }
def SnapEitherSaid : Prop := snapEitherRow.holds Try.pinned (OpenSpec.ofChange snapEitherSpec)

/-- ITS FALSE NEIGHBOUR: 'it returns false'. Refute it at one input. -/
def snapEitherWrong : ChangeSpec := { name := "snapEither", fn := fun _ => fun
  | [d1, d2, d3, d4] => { results := [.lit (.bool false)], args := [d1, d2, d3, d4] }
  | _ => none }
def SnapEitherWrongFalsely : Prop := snapEitherRow.holds Try.pinned (OpenSpec.ofChange snapEitherWrong)

/-- 'emenderlaw30.SnapPlays': WHATEVER THE INPUT: true; the input reads as it did. -/
def snapPlaysSpec : ChangeSpec := { name := "snapPlays", fn := fun _ => fun
  | [d1, d2, d3, d4, d5, d6] => { results := [.lit (.bool true)], args := [d1, d2, d3, d4, d5, d6] }
  | _ => none }
def snapPlaysRow : OpenClaim := { program := "ytmbnjgnmblgjoaa", sum := "2b3e45fab00b10732f55e63aea64a5d4e9bac4caf660c3c3661561cc80836677", func := "emender/emenderlaw30.SnapPlays", spec := "snapPlays", unfollowed := true, recurses := true, apart := false }
def SnapPlaysSaid : Prop := snapPlaysRow.holds Try.pinned (OpenSpec.ofChange snapPlaysSpec)

/-- ITS FALSE NEIGHBOUR: 'it returns false'. Refute it at one input. -/
def snapPlaysWrong : ChangeSpec := { name := "snapPlays", fn := fun _ => fun
  | [d1, d2, d3, d4, d5, d6] => { results := [.lit (.bool false)], args := [d1, d2, d3, d4, d5, d6] }
  | _ => none }
def SnapPlaysWrongFalsely : Prop := snapPlaysRow.holds Try.pinned (OpenSpec.ofChange snapPlaysWrong)

/-- 'emenderlaw16.CodecGets': WHATEVER THE INPUT: true; the input reads as it did. -/
def codecGetsSpec : ChangeSpec := { name := "codecGets", fn := fun _ => fun
  | [d] => { results := [.lit (.bool true)], args := [d] }
  | _ => none }
def codecGetsRow : OpenClaim := { program := "ytmbnjgnmblgjoaa", sum := "2b3e45fab00b10732f55e63aea64a5d4e9bac4caf660c3c3661561cc80836677", func := "emender/emenderlaw16.CodecGets", spec := "codecGets", unfollowed := true, recurses := true, apart := false }
def CodecGetsSaid : Prop := codecGetsRow.holds Try.pinned (OpenSpec.ofChange codecGetsSpec)

/-- ITS FALSE NEIGHBOUR: 'it returns false'. Refute it at one input. -/
def codecGetsWrong : ChangeSpec := { name := "codecGets", fn := fun _ => fun
  | [d] => { results := [.lit (.bool false)], args := [d] }
  | _ => none }
def CodecGetsWrongFalsely : Prop := codecGetsRow.holds Try.pinned (OpenSpec.ofChange codecGetsWrong)

/-- 'emenderlaw18.JournalTorn': WHATEVER THE INPUT: true; the input reads as it did. -/
def journalTornSpec : ChangeSpec := { name := "journalTorn", fn := fun _ => fun
  | [d] => { results := [.lit (.bool true)], args := [d] }
  | _ => none }
def journalTornRow : OpenClaim := { program := "ytmbnjgnmblgjoaa", sum := "2b3e45fab00b10732f55e63aea64a5d4e9bac4caf660c3c3661561cc80836677", func := "emender/emenderlaw18.JournalTorn", spec := "journalTorn", unfollowed := true, recurses := true, apart := false }
def JournalTornSaid : Prop := journalTornRow.holds Try.pinned (OpenSpec.ofChange journalTornSpec)

/-- ITS FALSE NEIGHBOUR: 'it returns false'. Refute it at one input. -/
def journalTornWrong : ChangeSpec := { name := "journalTorn", fn := fun _ => fun
  | [d] => { results := [.lit (.bool false)], args := [d] }
  | _ => none }
def JournalTornWrongFalsely : Prop := journalTornRow.holds Try.pinned (OpenSpec.ofChange journalTornWrong)

/-- 'emenderlaw16.CodecBack': WHATEVER THE INPUT: true; the input reads as it did. -/
def codecBackSpec : ChangeSpec := { name := "codecBack", fn := fun _ => fun
  | [d1, d2, d3] => { results := [.lit (.bool true)], args := [d1, d2, d3] }
  | _ => none }
def codecBackRow : OpenClaim := { program := "ytmbnjgnmblgjoaa", sum := "2b3e45fab00b10732f55e63aea64a5d4e9bac4caf660c3c3661561cc80836677", func := "emender/emenderlaw16.CodecBack", spec := "codecBack", unfollowed := true, recurses := true, apart := false }
def CodecBackSaid : Prop := codecBackRow.holds Try.pinned (OpenSpec.ofChange codecBackSpec)

/-- ITS FALSE NEIGHBOUR: 'it returns false'. Refute it at one input. -/
def codecBackWrong : ChangeSpec := { name := "codecBack", fn := fun _ => fun
  | [d1, d2, d3] => { results := [.lit (.bool false)], args := [d1, d2, d3] }
  | _ => none }
def CodecBackWrongFalsely : Prop := codecBackRow.holds Try.pinned (OpenSpec.ofChange codecBackWrong)

/-- 'emenderlaw16.CodecOne': WHATEVER THE INPUT: true; the input reads as it did. -/
def codecOneSpec : ChangeSpec := { name := "codecOne", fn := fun _ => fun
  | [d] => { results := [.lit (.bool true)], args := [d] }
  | _ => none }
def codecOneRow : OpenClaim := { program := "ytmbnjgnmblgjoaa", sum := "2b3e45fab00b10732f55e63aea64a5d4e9bac4caf660c3c3661561cc80836677", func := "emender/emenderlaw16.CodecOne", spec := "codecOne", unfollowed := true, recurses := true, apart := false }
def CodecOneSaid : Prop := codecOneRow.holds Try.pinned (OpenSpec.ofChange codecOneSpec)

/-- ITS FALSE NEIGHBOUR: 'it returns false'. Refute it at one input. -/
def codecOneWrong : ChangeSpec := { name := "codecOne", fn := fun _ => fun
  | [d] => { results := [.lit (.bool false)], args := [d] }
  | _ => none }
def CodecOneWrongFalsely : Prop := codecOneRow.holds Try.pinned (OpenSpec.ofChange codecOneWrong)

/-- 'emenderlaw18.JournalJoins': WHATEVER THE INPUT: true; the input reads as it did. -/
def journalJoinsSpec : ChangeSpec := { name := "journalJoins", fn := fun _ => fun
  | [d1, d2] => { results := [.lit (.bool true)], args := [d1, d2] }
  | _ => none }
def journalJoinsRow : OpenClaim := { program := "ytmbnjgnmblgjoaa", sum := "2b3e45fab00b10732f55e63aea64a5d4e9bac4caf660c3c3661561cc80836677", func := "emender/emenderlaw18.JournalJoins", spec := "journalJoins", unfollowed := true, recurses := true, apart := false }
def JournalJoinsSaid : Prop := journalJoinsRow.holds Try.pinned (OpenSpec.ofChange journalJoinsSpec)

/-- ITS FALSE NEIGHBOUR: 'it returns false'. Refute it at one input. -/
def journalJoinsWrong : ChangeSpec := { name := "journalJoins", fn := fun _ => fun
  | [d1, d2] => { results := [.lit (.bool false)], args := [d1, d2] }
  | _ => none }
def JournalJoinsWrongFalsely : Prop := journalJoinsRow.holds Try.pinned (OpenSpec.ofChange journalJoinsWrong)

/-- 'emenderlaw18.JournalAll': WHATEVER THE INPUT: true; the input reads as it did. -/
def journalAllSpec : ChangeSpec := { name := "journalAll", fn := fun _ => fun
  | [d1, d2] => { results := [.lit (.bool true)], args := [d1, d2] }
  | _ => none }
def journalAllRow : OpenClaim := { program := "ytmbnjgnmblgjoaa", sum := "2b3e45fab00b10732f55e63aea64a5d4e9bac4caf660c3c3661561cc80836677", func := "emender/emenderlaw18.JournalAll", spec := "journalAll", unfollowed := true, recurses := true, apart := false }
def JournalAllSaid : Prop := journalAllRow.holds Try.pinned (OpenSpec.ofChange journalAllSpec)

/-- ITS FALSE NEIGHBOUR: 'it returns false'. Refute it at one input. -/
def journalAllWrong : ChangeSpec := { name := "journalAll", fn := fun _ => fun
  | [d1, d2] => { results := [.lit (.bool false)], args := [d1, d2] }
  | _ => none }
def JournalAllWrongFalsely : Prop := journalAllRow.holds Try.pinned (OpenSpec.ofChange journalAllWrong)

/-- 'emenderlaw18.JournalKeeps': WHATEVER THE INPUT: true; the input reads as it did. -/
def journalKeepsSpec : ChangeSpec := { name := "journalKeeps", fn := fun _ => fun
  | [d1, d2, d3] => { results := [.lit (.bool true)], args := [d1, d2, d3] }
  | _ => none }
def journalKeepsRow : OpenClaim := { program := "ytmbnjgnmblgjoaa", sum := "2b3e45fab00b10732f55e63aea64a5d4e9bac4caf660c3c3661561cc80836677", func := "emender/emenderlaw18.JournalKeeps", spec := "journalKeeps", unfollowed := true, recurses := true, apart := false }
def JournalKeepsSaid : Prop := journalKeepsRow.holds Try.pinned (OpenSpec.ofChange journalKeepsSpec)

/-- ITS FALSE NEIGHBOUR: 'it returns false'. Refute it at one input. -/
def journalKeepsWrong : ChangeSpec := { name := "journalKeeps", fn := fun _ => fun
  | [d1, d2, d3] => { results := [.lit (.bool false)], args := [d1, d2, d3] }
  | _ => none }
def JournalKeepsWrongFalsely : Prop := journalKeepsRow.holds Try.pinned (OpenSpec.ofChange journalKeepsWrong)

/-- 'emenderlaw18.JournalPlays': WHATEVER THE INPUT: true; the input reads as it did. -/
def journalPlaysSpec : ChangeSpec := { name := "journalPlays", fn := fun _ => fun
  | [d1, d2, d3, d4, d5] => { results := [.lit (.bool true)], args := [d1, d2, d3, d4, d5] }
  | _ => none }
def journalPlaysRow : OpenClaim := { program := "ytmbnjgnmblgjoaa", sum := "2b3e45fab00b10732f55e63aea64a5d4e9bac4caf660c3c3661561cc80836677", func := "emender/emenderlaw18.JournalPlays", spec := "journalPlays", unfollowed := true, recurses := true, apart := false }
def JournalPlaysSaid : Prop := journalPlaysRow.holds Try.pinned (OpenSpec.ofChange journalPlaysSpec)

/-- ITS FALSE NEIGHBOUR: 'it returns false'. Refute it at one input. -/
def journalPlaysWrong : ChangeSpec := { name := "journalPlays", fn := fun _ => fun
  | [d1, d2, d3, d4, d5] => { results := [.lit (.bool false)], args := [d1, d2, d3, d4, d5] }
  | _ => none }
def JournalPlaysWrongFalsely : Prop := journalPlaysRow.holds Try.pinned (OpenSpec.ofChange journalPlaysWrong)

/- THE SECOND FORM. 'bulk': how many values and letters a reading holds, each counted each time it is reached (what is shared counts as often as it is met; a slice's spare places count too). A statement '..UptoSaid' is the law's where the arguments, and the package variables that the reading takes, are together of bulk at most 1048576: NARROWER than '..Said'. Prove '..Said' where nothing that the law and all that it calls make is longer than what came in: it says more and counts as full. Else prove '..UptoSaid'. A law counts once. -/
mutual
def uptoBulk {H : Type} : DataW H → Nat
  | .lit (.string bytes) => bytes.length + 1
  | .lit _ => 1
  | .nil => 1
  | .ptr d => uptoBulk d + 1
  | .slice elems spare => uptoBulkAll elems + uptoBulkAll spare + 1
  | .agg parts => uptoBulkAll parts + 1
  | .iface _ d => uptoBulk d + 1
  | .map entries => uptoBulkEntries entries + 1
  | .held _ => 1
def uptoBulkAll {H : Type} : List (DataW H) → Nat
  | [] => 0
  | d :: r => uptoBulk d + uptoBulkAll r
def uptoBulkEntries {H : Type} : List (Lit × DataW H) → Nat
  | [] => 0
  | x :: r => uptoBulkEntry x + uptoBulkEntries r
def uptoBulkEntry {H : Type} : Lit × DataW H → Nat
  | (.string bytes, d) => bytes.length + uptoBulk d + 1
  | (_, d) => uptoBulk d + 1
 end
def uptoSmall : (H : Type) → List (DataW H) → Bool := fun _ ds => decide (uptoBulkAll ds ≤ 1048576)
def OpenSpec.upto (s : _root_.Go.ChangeSpec) : _root_.Go.OpenSpec := { _root_.Go.OpenSpec.ofChange s with cond := some uptoSmall }

/-- 'emendertop.WholeSent', WHERE WHAT IT READS IS OF BULK AT MOST 1048576: true; the input reads as it did. -/
def wholeSentUptoRow : OpenClaim := { program := "ytmbnjgnmblgjoaa", sum := "2b3e45fab00b10732f55e63aea64a5d4e9bac4caf660c3c3661561cc80836677", func := "emender/emendertop.WholeSent", spec := "wholeSent", unfollowed := true, recurses := true, apart := false, narrowed := true }
def WholeSentUptoSaid : Prop := wholeSentUptoRow.holds Try.pinned (OpenSpec.upto wholeSentSpec)

/-- 'emenderlaw17.DiskPlays', WHERE WHAT IT READS IS OF BULK AT MOST 1048576: true; the input reads as it did. -/
def diskPlaysUptoRow : OpenClaim := { program := "ytmbnjgnmblgjoaa", sum := "2b3e45fab00b10732f55e63aea64a5d4e9bac4caf660c3c3661561cc80836677", func := "emender/emenderlaw17.DiskPlays", spec := "diskPlays", apart := false, narrowed := true }
def DiskPlaysUptoSaid : Prop := diskPlaysUptoRow.holds Try.pinned (OpenSpec.upto diskPlaysSpec)

/-- 'emenderlaw32.ChunkOne', WHERE WHAT IT READS IS OF BULK AT MOST 1048576: true; the input reads as it did. -/
def chunkOneUptoRow : OpenClaim := { program := "ytmbnjgnmblgjoaa", sum := "2b3e45fab00b10732f55e63aea64a5d4e9bac4caf660c3c3661561cc80836677", func := "emender/emenderlaw32.ChunkOne", spec := "chunkOne", unfollowed := true, recurses := true, apart := false, narrowed := true }
def ChunkOneUptoSaid : Prop := chunkOneUptoRow.holds Try.pinned (OpenSpec.upto chunkOneSpec)

/-- 'emenderlaw16.CodecTorn', WHERE WHAT IT READS IS OF BULK AT MOST 1048576: true; the input reads as it did. -/
def codecTornUptoRow : OpenClaim := { program := "ytmbnjgnmblgjoaa", sum := "2b3e45fab00b10732f55e63aea64a5d4e9bac4caf660c3c3661561cc80836677", func := "emender/emenderlaw16.CodecTorn", spec := "codecTorn", unfollowed := true, recurses := true, apart := false, narrowed := true }
def CodecTornUptoSaid : Prop := codecTornUptoRow.holds Try.pinned (OpenSpec.upto codecTornSpec)

/-- 'emenderlaw32.ChunkWhole', WHERE WHAT IT READS IS OF BULK AT MOST 1048576: true; the input reads as it did. -/
def chunkWholeUptoRow : OpenClaim := { program := "ytmbnjgnmblgjoaa", sum := "2b3e45fab00b10732f55e63aea64a5d4e9bac4caf660c3c3661561cc80836677", func := "emender/emenderlaw32.ChunkWhole", spec := "chunkWhole", unfollowed := true, recurses := true, apart := false, narrowed := true }
def ChunkWholeUptoSaid : Prop := chunkWholeUptoRow.holds Try.pinned (OpenSpec.upto chunkWholeSpec)

/-- 'emenderlaw16.CodecPuts', WHERE WHAT IT READS IS OF BULK AT MOST 1048576: true; the input reads as it did. -/
def codecPutsUptoRow : OpenClaim := { program := "ytmbnjgnmblgjoaa", sum := "2b3e45fab00b10732f55e63aea64a5d4e9bac4caf660c3c3661561cc80836677", func := "emender/emenderlaw16.CodecPuts", spec := "codecPuts", unfollowed := true, recurses := true, apart := false, narrowed := true }
def CodecPutsUptoSaid : Prop := codecPutsUptoRow.holds Try.pinned (OpenSpec.upto codecPutsSpec)

/-- 'emenderlaw30.SnapEither', WHERE WHAT IT READS IS OF BULK AT MOST 1048576: true; the input reads as it did. -/
def snapEitherUptoRow : OpenClaim := { program := "ytmbnjgnmblgjoaa", sum := "2b3e45fab00b10732f55e63aea64a5d4e9bac4caf660c3c3661561cc80836677", func := "emender/emenderlaw30.SnapEither", spec := "snapEither", unfollowed := true, recurses := true, apart := false, narrowed := true }
def SnapEitherUptoSaid : Prop := snapEitherUptoRow.holds Try.pinned (OpenSpec.upto snapEitherSpec)

/-- 'emenderlaw30.SnapPlays', WHERE WHAT IT READS IS OF BULK AT MOST 1048576: true; the input reads as it did. -/
def snapPlaysUptoRow : OpenClaim := { program := "ytmbnjgnmblgjoaa", sum := "2b3e45fab00b10732f55e63aea64a5d4e9bac4caf660c3c3661561cc80836677", func := "emender/emenderlaw30.SnapPlays", spec := "snapPlays", unfollowed := true, recurses := true, apart := false, narrowed := true }
def SnapPlaysUptoSaid : Prop := snapPlaysUptoRow.holds Try.pinned (OpenSpec.upto snapPlaysSpec)

/-- 'emenderlaw16.CodecGets', WHERE WHAT IT READS IS OF BULK AT MOST 1048576: true; the input reads as it did. -/
def codecGetsUptoRow : OpenClaim := { program := "ytmbnjgnmblgjoaa", sum := "2b3e45fab00b10732f55e63aea64a5d4e9bac4caf660c3c3661561cc80836677", func := "emender/emenderlaw16.CodecGets", spec := "codecGets", unfollowed := true, recurses := true, apart := false, narrowed := true }
def CodecGetsUptoSaid : Prop := codecGetsUptoRow.holds Try.pinned (OpenSpec.upto codecGetsSpec)

/-- 'emenderlaw18.JournalTorn', WHERE WHAT IT READS IS OF BULK AT MOST 1048576: true; the input reads as it did. -/
def journalTornUptoRow : OpenClaim := { program := "ytmbnjgnmblgjoaa", sum := "2b3e45fab00b10732f55e63aea64a5d4e9bac4caf660c3c3661561cc80836677", func := "emender/emenderlaw18.JournalTorn", spec := "journalTorn", unfollowed := true, recurses := true, apart := false, narrowed := true }
def JournalTornUptoSaid : Prop := journalTornUptoRow.holds Try.pinned (OpenSpec.upto journalTornSpec)

/-- 'emenderlaw16.CodecBack', WHERE WHAT IT READS IS OF BULK AT MOST 1048576: true; the input reads as it did. -/
def codecBackUptoRow : OpenClaim := { program := "ytmbnjgnmblgjoaa", sum := "2b3e45fab00b10732f55e63aea64a5d4e9bac4caf660c3c3661561cc80836677", func := "emender/emenderlaw16.CodecBack", spec := "codecBack", unfollowed := true, recurses := true, apart := false, narrowed := true }
def CodecBackUptoSaid : Prop := codecBackUptoRow.holds Try.pinned (OpenSpec.upto codecBackSpec)

/-- 'emenderlaw16.CodecOne', WHERE WHAT IT READS IS OF BULK AT MOST 1048576: true; the input reads as it did. -/
def codecOneUptoRow : OpenClaim := { program := "ytmbnjgnmblgjoaa", sum := "2b3e45fab00b10732f55e63aea64a5d4e9bac4caf660c3c3661561cc80836677", func := "emender/emenderlaw16.CodecOne", spec := "codecOne", unfollowed := true, recurses := true, apart := false, narrowed := true }
def CodecOneUptoSaid : Prop := codecOneUptoRow.holds Try.pinned (OpenSpec.upto codecOneSpec)

/-- 'emenderlaw18.JournalJoins', WHERE WHAT IT READS IS OF BULK AT MOST 1048576: true; the input reads as it did. -/
def journalJoinsUptoRow : OpenClaim := { program := "ytmbnjgnmblgjoaa", sum := "2b3e45fab00b10732f55e63aea64a5d4e9bac4caf660c3c3661561cc80836677", func := "emender/emenderlaw18.JournalJoins", spec := "journalJoins", unfollowed := true, recurses := true, apart := false, narrowed := true }
def JournalJoinsUptoSaid : Prop := journalJoinsUptoRow.holds Try.pinned (OpenSpec.upto journalJoinsSpec)

/-- 'emenderlaw18.JournalAll', WHERE WHAT IT READS IS OF BULK AT MOST 1048576: true; the input reads as it did. -/
def journalAllUptoRow : OpenClaim := { program := "ytmbnjgnmblgjoaa", sum := "2b3e45fab00b10732f55e63aea64a5d4e9bac4caf660c3c3661561cc80836677", func := "emender/emenderlaw18.JournalAll", spec := "journalAll", unfollowed := true, recurses := true, apart := false, narrowed := true }
def JournalAllUptoSaid : Prop := journalAllUptoRow.holds Try.pinned (OpenSpec.upto journalAllSpec)

/-- 'emenderlaw18.JournalKeeps', WHERE WHAT IT READS IS OF BULK AT MOST 1048576: true; the input reads as it did. -/
def journalKeepsUptoRow : OpenClaim := { program := "ytmbnjgnmblgjoaa", sum := "2b3e45fab00b10732f55e63aea64a5d4e9bac4caf660c3c3661561cc80836677", func := "emender/emenderlaw18.JournalKeeps", spec := "journalKeeps", unfollowed := true, recurses := true, apart := false, narrowed := true }
def JournalKeepsUptoSaid : Prop := journalKeepsUptoRow.holds Try.pinned (OpenSpec.upto journalKeepsSpec)

/-- 'emenderlaw18.JournalPlays', WHERE WHAT IT READS IS OF BULK AT MOST 1048576: true; the input reads as it did. -/
def journalPlaysUptoRow : OpenClaim := { program := "ytmbnjgnmblgjoaa", sum := "2b3e45fab00b10732f55e63aea64a5d4e9bac4caf660c3c3661561cc80836677", func := "emender/emenderlaw18.JournalPlays", spec := "journalPlays", unfollowed := true, recurses := true, apart := false, narrowed := true }
def JournalPlaysUptoSaid : Prop := journalPlaysUptoRow.holds Try.pinned (OpenSpec.upto journalPlaysSpec)

end Rows
end Go.Proofs.Ytmbnjgnmblgjoaa
