/-
  No cell of these rows narrows 'for every input' (looked for: loops, veiled, ifaces, maps, wideKeys, modest, calm, conditions, laid).
  DERIVED. THE GIVEN ROWS OF THIS SEAT. 21 by the template 'for every input the law returns true; each argument reads behind the call as it read before'; 0 by the template 'total and deterministic' (their statements: YtkkagnpidfnmpaaTotals.lean).
  GIVEN WITH THE SEED: the statements are not yours to turn. If you find one false, say at which input.
  Laid BY PROGRAM, IN A SANDBOX (cutbox-rows.mjs): the forced cells as the released guide's own fill.sh prints them over the translation cdd088c36db0b037… (all of the seat's roots in one cut). By AI agents, Wed Nov 11 2026. No macro, syntax, notation, axiom, sorry.
-/
import Derived.Test.YtkkagnpidfnmpaaChecked
import GoSem.Claim
import GoSem.ClaimJoined
import GoSem.ClaimMapViews
import Derived.JoinedTies
import Derived.KernelRfl
namespace Go.Proofs.Ytkkagnpidfnmpaa
/- THE CELL 'sum', in the pinned program and in every row, IS THE sha256 OF THE DUMP (.gsa) THAT YtkkagnpidfnmpaaProg.lean LOADS. Nothing in Lean hashes anything: it is a label: what it is worth is what the hold of that sum in a sandbox is worth. -/
noncomputable def Try.pinned : Pinned := { name := "ytkkagnpidfnmpaa", sum := "cdd088c36db0b03786f8a4f65df20b8de4f55c0b2ceb8535b7f1fb0cc762fcf8", checked := Try.checked }
namespace Rows
def none {H : Type} : Left H := { results := [], args := [] }

/-- 'carracklaw06.FactKeys': WHATEVER THE INPUT: true; the input reads as it did. -/
def factKeysSpec : ChangeSpec := { name := "factKeys", fn := fun _ => fun
  | [d1, d2] => { results := [.lit (.bool true)], args := [d1, d2] }
  | _ => none }
def factKeysRow : OpenClaim := { program := "ytkkagnpidfnmpaa", sum := "cdd088c36db0b03786f8a4f65df20b8de4f55c0b2ceb8535b7f1fb0cc762fcf8", func := "carrack/carracklaw06.FactKeys", spec := "factKeys", apart := false }
def FactKeysSaid : Prop := factKeysRow.holds Try.pinned (OpenSpec.ofChange factKeysSpec)

/-- ITS FALSE NEIGHBOUR: 'it returns false'. Refute it at one input. -/
def factKeysWrong : ChangeSpec := { name := "factKeys", fn := fun _ => fun
  | [d1, d2] => { results := [.lit (.bool false)], args := [d1, d2] }
  | _ => none }
def FactKeysWrongFalsely : Prop := factKeysRow.holds Try.pinned (OpenSpec.ofChange factKeysWrong)

/-- 'carracklaw06.FactOrder': WHATEVER THE INPUT: true; the input reads as it did. -/
def factOrderSpec : ChangeSpec := { name := "factOrder", fn := fun _ => fun
  | [d1, d2, d3] => { results := [.lit (.bool true)], args := [d1, d2, d3] }
  | _ => none }
def factOrderRow : OpenClaim := { program := "ytkkagnpidfnmpaa", sum := "cdd088c36db0b03786f8a4f65df20b8de4f55c0b2ceb8535b7f1fb0cc762fcf8", func := "carrack/carracklaw06.FactOrder", spec := "factOrder", apart := false }
def FactOrderSaid : Prop := factOrderRow.holds Try.pinned (OpenSpec.ofChange factOrderSpec)

/-- ITS FALSE NEIGHBOUR: 'it returns false'. Refute it at one input. -/
def factOrderWrong : ChangeSpec := { name := "factOrder", fn := fun _ => fun
  | [d1, d2, d3] => { results := [.lit (.bool false)], args := [d1, d2, d3] }
  | _ => none }
def FactOrderWrongFalsely : Prop := factOrderRow.holds Try.pinned (OpenSpec.ofChange factOrderWrong)

/-- 'carracklaw06.FactValues': WHATEVER THE INPUT: true; the input reads as it did. -/
def factValuesSpec : ChangeSpec := { name := "factValues", fn := fun _ => fun
  | [d1, d2, d3] => { results := [.lit (.bool true)], args := [d1, d2, d3] }
  | _ => none }
def factValuesRow : OpenClaim := { program := "ytkkagnpidfnmpaa", sum := "cdd088c36db0b03786f8a4f65df20b8de4f55c0b2ceb8535b7f1fb0cc762fcf8", func := "carrack/carracklaw06.FactValues", spec := "factValues", apart := false }
def FactValuesSaid : Prop := factValuesRow.holds Try.pinned (OpenSpec.ofChange factValuesSpec)

/-- ITS FALSE NEIGHBOUR: 'it returns false'. Refute it at one input. -/
def factValuesWrong : ChangeSpec := { name := "factValues", fn := fun _ => fun
  | [d1, d2, d3] => { results := [.lit (.bool false)], args := [d1, d2, d3] }
  | _ => none }
def FactValuesWrongFalsely : Prop := factValuesRow.holds Try.pinned (OpenSpec.ofChange factValuesWrong)

/-- 'carracklaw06.FactNil': WHATEVER THE INPUT: true; the input reads as it did. -/
def factNilSpec : ChangeSpec := { name := "factNil", fn := fun _ => fun
  | [d] => { results := [.lit (.bool true)], args := [d] }
  | _ => none }
def factNilRow : OpenClaim := { program := "ytkkagnpidfnmpaa", sum := "cdd088c36db0b03786f8a4f65df20b8de4f55c0b2ceb8535b7f1fb0cc762fcf8", func := "carrack/carracklaw06.FactNil", spec := "factNil", apart := false }
def FactNilSaid : Prop := factNilRow.holds Try.pinned (OpenSpec.ofChange factNilSpec)

/-- ITS FALSE NEIGHBOUR: 'it returns false'. Refute it at one input. -/
def factNilWrong : ChangeSpec := { name := "factNil", fn := fun _ => fun
  | [d] => { results := [.lit (.bool false)], args := [d] }
  | _ => none }
def FactNilWrongFalsely : Prop := factNilRow.holds Try.pinned (OpenSpec.ofChange factNilWrong)

/-- 'carracklaw06.FactReads': WHATEVER THE INPUT: true; the input reads as it did. -/
def factReadsSpec : ChangeSpec := { name := "factReads", fn := fun _ => fun
  | [d] => { results := [.lit (.bool true)], args := [d] }
  | _ => none }
def factReadsRow : OpenClaim := { program := "ytkkagnpidfnmpaa", sum := "cdd088c36db0b03786f8a4f65df20b8de4f55c0b2ceb8535b7f1fb0cc762fcf8", func := "carrack/carracklaw06.FactReads", spec := "factReads", apart := false }
def FactReadsSaid : Prop := factReadsRow.holds Try.pinned (OpenSpec.ofChange factReadsSpec)

/-- ITS FALSE NEIGHBOUR: 'it returns false'. Refute it at one input. -/
def factReadsWrong : ChangeSpec := { name := "factReads", fn := fun _ => fun
  | [d] => { results := [.lit (.bool false)], args := [d] }
  | _ => none }
def FactReadsWrongFalsely : Prop := factReadsRow.holds Try.pinned (OpenSpec.ofChange factReadsWrong)

/-- 'carracklaw06.FactBack': WHATEVER THE INPUT: true; the input reads as it did. -/
def factBackSpec : ChangeSpec := { name := "factBack", fn := fun _ => fun
  | [d1, d2, d3] => { results := [.lit (.bool true)], args := [d1, d2, d3] }
  | _ => none }
def factBackRow : OpenClaim := { program := "ytkkagnpidfnmpaa", sum := "cdd088c36db0b03786f8a4f65df20b8de4f55c0b2ceb8535b7f1fb0cc762fcf8", func := "carrack/carracklaw06.FactBack", spec := "factBack", apart := false }
def FactBackSaid : Prop := factBackRow.holds Try.pinned (OpenSpec.ofChange factBackSpec)

/-- ITS FALSE NEIGHBOUR: 'it returns false'. Refute it at one input. -/
def factBackWrong : ChangeSpec := { name := "factBack", fn := fun _ => fun
  | [d1, d2, d3] => { results := [.lit (.bool false)], args := [d1, d2, d3] }
  | _ => none }
def FactBackWrongFalsely : Prop := factBackRow.holds Try.pinned (OpenSpec.ofChange factBackWrong)

/-- 'carracklaw05.PathParses': WHATEVER THE INPUT: true; the input reads as it did. -/
def pathParsesSpec : ChangeSpec := { name := "pathParses", fn := fun _ => fun
  | [d] => { results := [.lit (.bool true)], args := [d] }
  | _ => none }
def pathParsesRow : OpenClaim := { program := "ytkkagnpidfnmpaa", sum := "cdd088c36db0b03786f8a4f65df20b8de4f55c0b2ceb8535b7f1fb0cc762fcf8", func := "carrack/carracklaw05.PathParses", spec := "pathParses", inPlace := ["internal/bytealg.IndexByteString", "internal/bytealg.IndexString", "internal/abi.NoEscape", "internal/bytealg.MakeNoZero"], named := ["internal/bytealg.MaxLen"], apart := false }
def PathParsesSaid : Prop := pathParsesRow.holds Try.pinned (OpenSpec.ofChange pathParsesSpec)

/-- ITS FALSE NEIGHBOUR: 'it returns false'. Refute it at one input. -/
def pathParsesWrong : ChangeSpec := { name := "pathParses", fn := fun _ => fun
  | [d] => { results := [.lit (.bool false)], args := [d] }
  | _ => none }
def PathParsesWrongFalsely : Prop := pathParsesRow.holds Try.pinned (OpenSpec.ofChange pathParsesWrong)

/-- 'carracklaw05.PathJoins': WHATEVER THE INPUT: true; the input reads as it did. -/
def pathJoinsSpec : ChangeSpec := { name := "pathJoins", fn := fun _ => fun
  | [d] => { results := [.lit (.bool true)], args := [d] }
  | _ => none }
def pathJoinsRow : OpenClaim := { program := "ytkkagnpidfnmpaa", sum := "cdd088c36db0b03786f8a4f65df20b8de4f55c0b2ceb8535b7f1fb0cc762fcf8", func := "carrack/carracklaw05.PathJoins", spec := "pathJoins", inPlace := ["internal/abi.NoEscape", "internal/bytealg.MakeNoZero", "internal/bytealg.IndexByteString", "internal/bytealg.IndexString"], named := ["internal/bytealg.MaxLen"], apart := false }
def PathJoinsSaid : Prop := pathJoinsRow.holds Try.pinned (OpenSpec.ofChange pathJoinsSpec)

/-- ITS FALSE NEIGHBOUR: 'it returns false'. Refute it at one input. -/
def pathJoinsWrong : ChangeSpec := { name := "pathJoins", fn := fun _ => fun
  | [d] => { results := [.lit (.bool false)], args := [d] }
  | _ => none }
def PathJoinsWrongFalsely : Prop := pathJoinsRow.holds Try.pinned (OpenSpec.ofChange pathJoinsWrong)

/-- 'carracklaw05.PathBack': WHATEVER THE INPUT: true; the input reads as it did. -/
def pathBackSpec : ChangeSpec := { name := "pathBack", fn := fun _ => fun
  | [d1, d2] => { results := [.lit (.bool true)], args := [d1, d2] }
  | _ => none }
def pathBackRow : OpenClaim := { program := "ytkkagnpidfnmpaa", sum := "cdd088c36db0b03786f8a4f65df20b8de4f55c0b2ceb8535b7f1fb0cc762fcf8", func := "carrack/carracklaw05.PathBack", spec := "pathBack", inPlace := ["internal/bytealg.IndexByteString", "internal/bytealg.IndexString", "internal/abi.NoEscape", "internal/bytealg.MakeNoZero"], named := ["internal/bytealg.MaxLen"], apart := false }
def PathBackSaid : Prop := pathBackRow.holds Try.pinned (OpenSpec.ofChange pathBackSpec)

/-- ITS FALSE NEIGHBOUR: 'it returns false'. Refute it at one input. -/
def pathBackWrong : ChangeSpec := { name := "pathBack", fn := fun _ => fun
  | [d1, d2] => { results := [.lit (.bool false)], args := [d1, d2] }
  | _ => none }
def PathBackWrongFalsely : Prop := pathBackRow.holds Try.pinned (OpenSpec.ofChange pathBackWrong)

/-- 'carracklaw05.PathSplits': WHATEVER THE INPUT: true; the input reads as it did. -/
def pathSplitsSpec : ChangeSpec := { name := "pathSplits", fn := fun _ => fun
  | [d1, d2] => { results := [.lit (.bool true)], args := [d1, d2] }
  | _ => none }
def pathSplitsRow : OpenClaim := { program := "ytkkagnpidfnmpaa", sum := "cdd088c36db0b03786f8a4f65df20b8de4f55c0b2ceb8535b7f1fb0cc762fcf8", func := "carrack/carracklaw05.PathSplits", spec := "pathSplits", inPlace := ["internal/bytealg.IndexByteString", "internal/bytealg.IndexString", "internal/abi.NoEscape", "internal/bytealg.MakeNoZero"], named := ["internal/bytealg.MaxLen"], apart := false }
def PathSplitsSaid : Prop := pathSplitsRow.holds Try.pinned (OpenSpec.ofChange pathSplitsSpec)

/-- ITS FALSE NEIGHBOUR: 'it returns false'. Refute it at one input. -/
def pathSplitsWrong : ChangeSpec := { name := "pathSplits", fn := fun _ => fun
  | [d1, d2] => { results := [.lit (.bool false)], args := [d1, d2] }
  | _ => none }
def PathSplitsWrongFalsely : Prop := pathSplitsRow.holds Try.pinned (OpenSpec.ofChange pathSplitsWrong)

/-- 'carracklaw05.PathUnder': WHATEVER THE INPUT: true; the input reads as it did. -/
def pathUnderSpec : ChangeSpec := { name := "pathUnder", fn := fun _ => fun
  | [d1, d2, d3] => { results := [.lit (.bool true)], args := [d1, d2, d3] }
  | _ => none }
def pathUnderRow : OpenClaim := { program := "ytkkagnpidfnmpaa", sum := "cdd088c36db0b03786f8a4f65df20b8de4f55c0b2ceb8535b7f1fb0cc762fcf8", func := "carrack/carracklaw05.PathUnder", spec := "pathUnder", inPlace := ["internal/bytealg.IndexByteString", "internal/bytealg.IndexString", "internal/abi.NoEscape", "internal/bytealg.MakeNoZero"], named := ["internal/bytealg.MaxLen"], apart := false }
def PathUnderSaid : Prop := pathUnderRow.holds Try.pinned (OpenSpec.ofChange pathUnderSpec)

/-- ITS FALSE NEIGHBOUR: 'it returns false'. Refute it at one input. -/
def pathUnderWrong : ChangeSpec := { name := "pathUnder", fn := fun _ => fun
  | [d1, d2, d3] => { results := [.lit (.bool false)], args := [d1, d2, d3] }
  | _ => none }
def PathUnderWrongFalsely : Prop := pathUnderRow.holds Try.pinned (OpenSpec.ofChange pathUnderWrong)

/-- 'carracklaw06.FactFresh': WHATEVER THE INPUT: true; the input reads as it did. -/
def factFreshSpec : ChangeSpec := { name := "factFresh", fn := fun _ => fun
  | [d1, d2, d3] => { results := [.lit (.bool true)], args := [d1, d2, d3] }
  | _ => none }
def factFreshRow : OpenClaim := { program := "ytkkagnpidfnmpaa", sum := "cdd088c36db0b03786f8a4f65df20b8de4f55c0b2ceb8535b7f1fb0cc762fcf8", func := "carrack/carracklaw06.FactFresh", spec := "factFresh", inPlace := ["slices.overlaps[carrack/api.Fact]"], unfollowed := true, recurses := true, apart := false }
def FactFreshSaid : Prop := factFreshRow.holds Try.pinned (OpenSpec.ofChange factFreshSpec)

/-- ITS FALSE NEIGHBOUR: 'it returns false'. Refute it at one input. -/
def factFreshWrong : ChangeSpec := { name := "factFresh", fn := fun _ => fun
  | [d1, d2, d3] => { results := [.lit (.bool false)], args := [d1, d2, d3] }
  | _ => none }
def FactFreshWrongFalsely : Prop := factFreshRow.holds Try.pinned (OpenSpec.ofChange factFreshWrong)

/-- 'carracklaw06.FactApplies': WHATEVER THE INPUT: true; the input reads as it did. -/
def factAppliesSpec : ChangeSpec := { name := "factApplies", fn := fun _ => fun
  | [d1, d2, d3] => { results := [.lit (.bool true)], args := [d1, d2, d3] }
  | _ => none }
def factAppliesRow : OpenClaim := { program := "ytkkagnpidfnmpaa", sum := "cdd088c36db0b03786f8a4f65df20b8de4f55c0b2ceb8535b7f1fb0cc762fcf8", func := "carrack/carracklaw06.FactApplies", spec := "factApplies", inPlace := ["slices.overlaps[carrack/api.Fact]"], unfollowed := true, recurses := true, apart := false }
def FactAppliesSaid : Prop := factAppliesRow.holds Try.pinned (OpenSpec.ofChange factAppliesSpec)

/-- ITS FALSE NEIGHBOUR: 'it returns false'. Refute it at one input. -/
def factAppliesWrong : ChangeSpec := { name := "factApplies", fn := fun _ => fun
  | [d1, d2, d3] => { results := [.lit (.bool false)], args := [d1, d2, d3] }
  | _ => none }
def FactAppliesWrongFalsely : Prop := factAppliesRow.holds Try.pinned (OpenSpec.ofChange factAppliesWrong)

/-- 'carracklaw06.FactChanges': WHATEVER THE INPUT: true; the input reads as it did. -/
def factChangesSpec : ChangeSpec := { name := "factChanges", fn := fun _ => fun
  | [d1, d2, d3] => { results := [.lit (.bool true)], args := [d1, d2, d3] }
  | _ => none }
def factChangesRow : OpenClaim := { program := "ytkkagnpidfnmpaa", sum := "cdd088c36db0b03786f8a4f65df20b8de4f55c0b2ceb8535b7f1fb0cc762fcf8", func := "carrack/carracklaw06.FactChanges", spec := "factChanges", inPlace := ["slices.overlaps[carrack/api.Fact]"], unfollowed := true, recurses := true, apart := false }
def FactChangesSaid : Prop := factChangesRow.holds Try.pinned (OpenSpec.ofChange factChangesSpec)

/-- ITS FALSE NEIGHBOUR: 'it returns false'. Refute it at one input. -/
def factChangesWrong : ChangeSpec := { name := "factChanges", fn := fun _ => fun
  | [d1, d2, d3] => { results := [.lit (.bool false)], args := [d1, d2, d3] }
  | _ => none }
def FactChangesWrongFalsely : Prop := factChangesRow.holds Try.pinned (OpenSpec.ofChange factChangesWrong)

/-- 'carracklaw07.ModelPlays': WHATEVER THE INPUT: true; the input reads as it did. -/
def modelPlaysSpec : ChangeSpec := { name := "modelPlays", fn := fun _ => fun
  | [d1, d2] => { results := [.lit (.bool true)], args := [d1, d2] }
  | _ => none }
def modelPlaysRow : OpenClaim := { program := "ytkkagnpidfnmpaa", sum := "cdd088c36db0b03786f8a4f65df20b8de4f55c0b2ceb8535b7f1fb0cc762fcf8", func := "carrack/carracklaw07.ModelPlays", spec := "modelPlays", inPlace := ["internal/bytealg.IndexByteString", "internal/bytealg.IndexString", "slices.overlaps[carrack/api.Name]", "slices.overlaps[carrack/api.Inode]"], unfollowed := true, recurses := true, named := ["internal/bytealg.MaxLen"], apart := false }
def ModelPlaysSaid : Prop := modelPlaysRow.holds Try.pinned (OpenSpec.ofChange modelPlaysSpec)

/-- ITS FALSE NEIGHBOUR: 'it returns false'. Refute it at one input. -/
def modelPlaysWrong : ChangeSpec := { name := "modelPlays", fn := fun _ => fun
  | [d1, d2] => { results := [.lit (.bool false)], args := [d1, d2] }
  | _ => none }
def ModelPlaysWrongFalsely : Prop := modelPlaysRow.holds Try.pinned (OpenSpec.ofChange modelPlaysWrong)

/-- 'carracklaw07.ModelFresh': WHATEVER THE INPUT: true; the input reads as it did. -/
def modelFreshSpec : ChangeSpec := { name := "modelFresh", fn := fun _ => fun
  | [d1, d2] => { results := [.lit (.bool true)], args := [d1, d2] }
  | _ => none }
def modelFreshRow : OpenClaim := { program := "ytkkagnpidfnmpaa", sum := "cdd088c36db0b03786f8a4f65df20b8de4f55c0b2ceb8535b7f1fb0cc762fcf8", func := "carrack/carracklaw07.ModelFresh", spec := "modelFresh", inPlace := ["internal/bytealg.IndexByteString", "internal/bytealg.IndexString", "slices.overlaps[carrack/api.Name]", "slices.overlaps[carrack/api.Inode]"], unfollowed := true, recurses := true, named := ["internal/bytealg.MaxLen"], apart := false }
def ModelFreshSaid : Prop := modelFreshRow.holds Try.pinned (OpenSpec.ofChange modelFreshSpec)

/-- ITS FALSE NEIGHBOUR: 'it returns false'. Refute it at one input. -/
def modelFreshWrong : ChangeSpec := { name := "modelFresh", fn := fun _ => fun
  | [d1, d2] => { results := [.lit (.bool false)], args := [d1, d2] }
  | _ => none }
def ModelFreshWrongFalsely : Prop := modelFreshRow.holds Try.pinned (OpenSpec.ofChange modelFreshWrong)

/-- 'carracklaw07.ModelWrites': WHATEVER THE INPUT: true; the input reads as it did. -/
def modelWritesSpec : ChangeSpec := { name := "modelWrites", fn := fun _ => fun
  | [d1, d2, d3, d4] => { results := [.lit (.bool true)], args := [d1, d2, d3, d4] }
  | _ => none }
def modelWritesRow : OpenClaim := { program := "ytkkagnpidfnmpaa", sum := "cdd088c36db0b03786f8a4f65df20b8de4f55c0b2ceb8535b7f1fb0cc762fcf8", func := "carrack/carracklaw07.ModelWrites", spec := "modelWrites", inPlace := ["internal/bytealg.IndexByteString", "internal/bytealg.IndexString", "slices.overlaps[carrack/api.Name]", "slices.overlaps[carrack/api.Inode]"], unfollowed := true, recurses := true, named := ["internal/bytealg.MaxLen"], apart := false }
def ModelWritesSaid : Prop := modelWritesRow.holds Try.pinned (OpenSpec.ofChange modelWritesSpec)

/-- ITS FALSE NEIGHBOUR: 'it returns false'. Refute it at one input. -/
def modelWritesWrong : ChangeSpec := { name := "modelWrites", fn := fun _ => fun
  | [d1, d2, d3, d4] => { results := [.lit (.bool false)], args := [d1, d2, d3, d4] }
  | _ => none }
def ModelWritesWrongFalsely : Prop := modelWritesRow.holds Try.pinned (OpenSpec.ofChange modelWritesWrong)

/-- 'carracklaw07.ModelRenames': WHATEVER THE INPUT: true; the input reads as it did. -/
def modelRenamesSpec : ChangeSpec := { name := "modelRenames", fn := fun _ => fun
  | [d1, d2, d3] => { results := [.lit (.bool true)], args := [d1, d2, d3] }
  | _ => none }
def modelRenamesRow : OpenClaim := { program := "ytkkagnpidfnmpaa", sum := "cdd088c36db0b03786f8a4f65df20b8de4f55c0b2ceb8535b7f1fb0cc762fcf8", func := "carrack/carracklaw07.ModelRenames", spec := "modelRenames", inPlace := ["internal/bytealg.IndexByteString", "internal/bytealg.IndexString", "slices.overlaps[carrack/api.Name]", "slices.overlaps[carrack/api.Inode]"], unfollowed := true, recurses := true, named := ["internal/bytealg.MaxLen"], apart := false }
def ModelRenamesSaid : Prop := modelRenamesRow.holds Try.pinned (OpenSpec.ofChange modelRenamesSpec)

/-- ITS FALSE NEIGHBOUR: 'it returns false'. Refute it at one input. -/
def modelRenamesWrong : ChangeSpec := { name := "modelRenames", fn := fun _ => fun
  | [d1, d2, d3] => { results := [.lit (.bool false)], args := [d1, d2, d3] }
  | _ => none }
def ModelRenamesWrongFalsely : Prop := modelRenamesRow.holds Try.pinned (OpenSpec.ofChange modelRenamesWrong)

/-- 'carracklaw07.ModelLinks': WHATEVER THE INPUT: true; the input reads as it did. -/
def modelLinksSpec : ChangeSpec := { name := "modelLinks", fn := fun _ => fun
  | [d1, d2, d3] => { results := [.lit (.bool true)], args := [d1, d2, d3] }
  | _ => none }
def modelLinksRow : OpenClaim := { program := "ytkkagnpidfnmpaa", sum := "cdd088c36db0b03786f8a4f65df20b8de4f55c0b2ceb8535b7f1fb0cc762fcf8", func := "carrack/carracklaw07.ModelLinks", spec := "modelLinks", inPlace := ["internal/bytealg.IndexByteString", "internal/bytealg.IndexString", "slices.overlaps[carrack/api.Name]", "slices.overlaps[carrack/api.Inode]"], unfollowed := true, recurses := true, named := ["internal/bytealg.MaxLen"], apart := false }
def ModelLinksSaid : Prop := modelLinksRow.holds Try.pinned (OpenSpec.ofChange modelLinksSpec)

/-- ITS FALSE NEIGHBOUR: 'it returns false'. Refute it at one input. -/
def modelLinksWrong : ChangeSpec := { name := "modelLinks", fn := fun _ => fun
  | [d1, d2, d3] => { results := [.lit (.bool false)], args := [d1, d2, d3] }
  | _ => none }
def ModelLinksWrongFalsely : Prop := modelLinksRow.holds Try.pinned (OpenSpec.ofChange modelLinksWrong)

/-- 'carracklaw07.ModelMakes': WHATEVER THE INPUT: true; the input reads as it did. -/
def modelMakesSpec : ChangeSpec := { name := "modelMakes", fn := fun _ => fun
  | [d1, d2, d3] => { results := [.lit (.bool true)], args := [d1, d2, d3] }
  | _ => none }
def modelMakesRow : OpenClaim := { program := "ytkkagnpidfnmpaa", sum := "cdd088c36db0b03786f8a4f65df20b8de4f55c0b2ceb8535b7f1fb0cc762fcf8", func := "carrack/carracklaw07.ModelMakes", spec := "modelMakes", inPlace := ["internal/bytealg.IndexByteString", "internal/bytealg.IndexString", "slices.overlaps[carrack/api.Name]", "slices.overlaps[carrack/api.Inode]"], unfollowed := true, recurses := true, named := ["internal/bytealg.MaxLen"], apart := false }
def ModelMakesSaid : Prop := modelMakesRow.holds Try.pinned (OpenSpec.ofChange modelMakesSpec)

/-- ITS FALSE NEIGHBOUR: 'it returns false'. Refute it at one input. -/
def modelMakesWrong : ChangeSpec := { name := "modelMakes", fn := fun _ => fun
  | [d1, d2, d3] => { results := [.lit (.bool false)], args := [d1, d2, d3] }
  | _ => none }
def ModelMakesWrongFalsely : Prop := modelMakesRow.holds Try.pinned (OpenSpec.ofChange modelMakesWrong)

/-- 'carracklaw07.ModelRight': WHATEVER THE INPUT: true; the input reads as it did. -/
def modelRightSpec : ChangeSpec := { name := "modelRight", fn := fun _ => fun
  | [d1, d2] => { results := [.lit (.bool true)], args := [d1, d2] }
  | _ => none }
def modelRightRow : OpenClaim := { program := "ytkkagnpidfnmpaa", sum := "cdd088c36db0b03786f8a4f65df20b8de4f55c0b2ceb8535b7f1fb0cc762fcf8", func := "carrack/carracklaw07.ModelRight", spec := "modelRight", inPlace := ["internal/bytealg.IndexByteString", "internal/bytealg.IndexString", "slices.overlaps[carrack/api.Name]", "slices.overlaps[carrack/api.Inode]"], unfollowed := true, recurses := true, named := ["internal/bytealg.MaxLen"], apart := false }
def ModelRightSaid : Prop := modelRightRow.holds Try.pinned (OpenSpec.ofChange modelRightSpec)

/-- ITS FALSE NEIGHBOUR: 'it returns false'. Refute it at one input. -/
def modelRightWrong : ChangeSpec := { name := "modelRight", fn := fun _ => fun
  | [d1, d2] => { results := [.lit (.bool false)], args := [d1, d2] }
  | _ => none }
def ModelRightWrongFalsely : Prop := modelRightRow.holds Try.pinned (OpenSpec.ofChange modelRightWrong)

/- THE SECOND FORM. 'bulk': how many values and letters a reading holds, each counted each time it is reached (what is shared counts as often as it is met; a slice's spare places count too). A statement '..UptoSaid' is the law's where the arguments, and the package variables that the reading takes, are together of bulk at most 1048576: NARROWER than '..Said'. Prove '..Said' where nothing that the law and all that it calls make is longer than what came in: it says more and counts as full. Else prove '..UptoSaid'. A law counts once. -/
mutual
def uptoBulk {H : Type} : DataW H → Nat
  | .lit (.string bytes) => bytes.length + 1
  | .lit _ => 1
  | .nil => 1
  | .ptr d => uptoBulk d + 1
  | .slice elems spare => uptoBulkAll elems + uptoBulkAll spare + 1
  | .agg parts => uptoBulkAll parts + 1
  | .iface _ d => uptoBulk d + 1
  | .map entries => uptoBulkEntries entries + 1
  | .held _ => 1
def uptoBulkAll {H : Type} : List (DataW H) → Nat
  | [] => 0
  | d :: r => uptoBulk d + uptoBulkAll r
def uptoBulkEntries {H : Type} : List (Lit × DataW H) → Nat
  | [] => 0
  | x :: r => uptoBulkEntry x + uptoBulkEntries r
def uptoBulkEntry {H : Type} : Lit × DataW H → Nat
  | (.string bytes, d) => bytes.length + uptoBulk d + 1
  | (_, d) => uptoBulk d + 1
 end
def uptoSmall : (H : Type) → List (DataW H) → Bool := fun _ ds => decide (uptoBulkAll ds ≤ 1048576)
def OpenSpec.upto (s : _root_.Go.ChangeSpec) : _root_.Go.OpenSpec := { _root_.Go.OpenSpec.ofChange s with cond := some uptoSmall }

/-- 'carracklaw06.FactKeys', WHERE WHAT IT READS IS OF BULK AT MOST 1048576: true; the input reads as it did. -/
def factKeysUptoRow : OpenClaim := { program := "ytkkagnpidfnmpaa", sum := "cdd088c36db0b03786f8a4f65df20b8de4f55c0b2ceb8535b7f1fb0cc762fcf8", func := "carrack/carracklaw06.FactKeys", spec := "factKeys", apart := false, narrowed := true }
def FactKeysUptoSaid : Prop := factKeysUptoRow.holds Try.pinned (OpenSpec.upto factKeysSpec)

/-- 'carracklaw06.FactOrder', WHERE WHAT IT READS IS OF BULK AT MOST 1048576: true; the input reads as it did. -/
def factOrderUptoRow : OpenClaim := { program := "ytkkagnpidfnmpaa", sum := "cdd088c36db0b03786f8a4f65df20b8de4f55c0b2ceb8535b7f1fb0cc762fcf8", func := "carrack/carracklaw06.FactOrder", spec := "factOrder", apart := false, narrowed := true }
def FactOrderUptoSaid : Prop := factOrderUptoRow.holds Try.pinned (OpenSpec.upto factOrderSpec)

/-- 'carracklaw06.FactValues', WHERE WHAT IT READS IS OF BULK AT MOST 1048576: true; the input reads as it did. -/
def factValuesUptoRow : OpenClaim := { program := "ytkkagnpidfnmpaa", sum := "cdd088c36db0b03786f8a4f65df20b8de4f55c0b2ceb8535b7f1fb0cc762fcf8", func := "carrack/carracklaw06.FactValues", spec := "factValues", apart := false, narrowed := true }
def FactValuesUptoSaid : Prop := factValuesUptoRow.holds Try.pinned (OpenSpec.upto factValuesSpec)

/-- 'carracklaw06.FactNil', WHERE WHAT IT READS IS OF BULK AT MOST 1048576: true; the input reads as it did. -/
def factNilUptoRow : OpenClaim := { program := "ytkkagnpidfnmpaa", sum := "cdd088c36db0b03786f8a4f65df20b8de4f55c0b2ceb8535b7f1fb0cc762fcf8", func := "carrack/carracklaw06.FactNil", spec := "factNil", apart := false, narrowed := true }
def FactNilUptoSaid : Prop := factNilUptoRow.holds Try.pinned (OpenSpec.upto factNilSpec)

/-- 'carracklaw06.FactReads', WHERE WHAT IT READS IS OF BULK AT MOST 1048576: true; the input reads as it did. -/
def factReadsUptoRow : OpenClaim := { program := "ytkkagnpidfnmpaa", sum := "cdd088c36db0b03786f8a4f65df20b8de4f55c0b2ceb8535b7f1fb0cc762fcf8", func := "carrack/carracklaw06.FactReads", spec := "factReads", apart := false, narrowed := true }
def FactReadsUptoSaid : Prop := factReadsUptoRow.holds Try.pinned (OpenSpec.upto factReadsSpec)

/-- 'carracklaw06.FactBack', WHERE WHAT IT READS IS OF BULK AT MOST 1048576: true; the input reads as it did. -/
def factBackUptoRow : OpenClaim := { program := "ytkkagnpidfnmpaa", sum := "cdd088c36db0b03786f8a4f65df20b8de4f55c0b2ceb8535b7f1fb0cc762fcf8", func := "carrack/carracklaw06.FactBack", spec := "factBack", apart := false, narrowed := true }
def FactBackUptoSaid : Prop := factBackUptoRow.holds Try.pinned (OpenSpec.upto factBackSpec)

/-- 'carracklaw05.PathParses', WHERE WHAT IT READS IS OF BULK AT MOST 1048576: true; the input reads as it did. -/
def pathParsesUptoRow : OpenClaim := { program := "ytkkagnpidfnmpaa", sum := "cdd088c36db0b03786f8a4f65df20b8de4f55c0b2ceb8535b7f1fb0cc762fcf8", func := "carrack/carracklaw05.PathParses", spec := "pathParses", inPlace := ["internal/bytealg.IndexByteString", "internal/bytealg.IndexString", "internal/abi.NoEscape", "internal/bytealg.MakeNoZero"], named := ["internal/bytealg.MaxLen"], apart := false, narrowed := true }
def PathParsesUptoSaid : Prop := pathParsesUptoRow.holds Try.pinned (OpenSpec.upto pathParsesSpec)

/-- 'carracklaw05.PathJoins', WHERE WHAT IT READS IS OF BULK AT MOST 1048576: true; the input reads as it did. -/
def pathJoinsUptoRow : OpenClaim := { program := "ytkkagnpidfnmpaa", sum := "cdd088c36db0b03786f8a4f65df20b8de4f55c0b2ceb8535b7f1fb0cc762fcf8", func := "carrack/carracklaw05.PathJoins", spec := "pathJoins", inPlace := ["internal/abi.NoEscape", "internal/bytealg.MakeNoZero", "internal/bytealg.IndexByteString", "internal/bytealg.IndexString"], named := ["internal/bytealg.MaxLen"], apart := false, narrowed := true }
def PathJoinsUptoSaid : Prop := pathJoinsUptoRow.holds Try.pinned (OpenSpec.upto pathJoinsSpec)

/-- 'carracklaw05.PathBack', WHERE WHAT IT READS IS OF BULK AT MOST 1048576: true; the input reads as it did. -/
def pathBackUptoRow : OpenClaim := { program := "ytkkagnpidfnmpaa", sum := "cdd088c36db0b03786f8a4f65df20b8de4f55c0b2ceb8535b7f1fb0cc762fcf8", func := "carrack/carracklaw05.PathBack", spec := "pathBack", inPlace := ["internal/bytealg.IndexByteString", "internal/bytealg.IndexString", "internal/abi.NoEscape", "internal/bytealg.MakeNoZero"], named := ["internal/bytealg.MaxLen"], apart := false, narrowed := true }
def PathBackUptoSaid : Prop := pathBackUptoRow.holds Try.pinned (OpenSpec.upto pathBackSpec)

/-- 'carracklaw05.PathSplits', WHERE WHAT IT READS IS OF BULK AT MOST 1048576: true; the input reads as it did. -/
def pathSplitsUptoRow : OpenClaim := { program := "ytkkagnpidfnmpaa", sum := "cdd088c36db0b03786f8a4f65df20b8de4f55c0b2ceb8535b7f1fb0cc762fcf8", func := "carrack/carracklaw05.PathSplits", spec := "pathSplits", inPlace := ["internal/bytealg.IndexByteString", "internal/bytealg.IndexString", "internal/abi.NoEscape", "internal/bytealg.MakeNoZero"], named := ["internal/bytealg.MaxLen"], apart := false, narrowed := true }
def PathSplitsUptoSaid : Prop := pathSplitsUptoRow.holds Try.pinned (OpenSpec.upto pathSplitsSpec)

/-- 'carracklaw05.PathUnder', WHERE WHAT IT READS IS OF BULK AT MOST 1048576: true; the input reads as it did. -/
def pathUnderUptoRow : OpenClaim := { program := "ytkkagnpidfnmpaa", sum := "cdd088c36db0b03786f8a4f65df20b8de4f55c0b2ceb8535b7f1fb0cc762fcf8", func := "carrack/carracklaw05.PathUnder", spec := "pathUnder", inPlace := ["internal/bytealg.IndexByteString", "internal/bytealg.IndexString", "internal/abi.NoEscape", "internal/bytealg.MakeNoZero"], named := ["internal/bytealg.MaxLen"], apart := false, narrowed := true }
def PathUnderUptoSaid : Prop := pathUnderUptoRow.holds Try.pinned (OpenSpec.upto pathUnderSpec)

/-- 'carracklaw06.FactFresh', WHERE WHAT IT READS IS OF BULK AT MOST 1048576: true; the input reads as it did. -/
def factFreshUptoRow : OpenClaim := { program := "ytkkagnpidfnmpaa", sum := "cdd088c36db0b03786f8a4f65df20b8de4f55c0b2ceb8535b7f1fb0cc762fcf8", func := "carrack/carracklaw06.FactFresh", spec := "factFresh", inPlace := ["slices.overlaps[carrack/api.Fact]"], unfollowed := true, recurses := true, apart := false, narrowed := true }
def FactFreshUptoSaid : Prop := factFreshUptoRow.holds Try.pinned (OpenSpec.upto factFreshSpec)

/-- 'carracklaw06.FactApplies', WHERE WHAT IT READS IS OF BULK AT MOST 1048576: true; the input reads as it did. -/
def factAppliesUptoRow : OpenClaim := { program := "ytkkagnpidfnmpaa", sum := "cdd088c36db0b03786f8a4f65df20b8de4f55c0b2ceb8535b7f1fb0cc762fcf8", func := "carrack/carracklaw06.FactApplies", spec := "factApplies", inPlace := ["slices.overlaps[carrack/api.Fact]"], unfollowed := true, recurses := true, apart := false, narrowed := true }
def FactAppliesUptoSaid : Prop := factAppliesUptoRow.holds Try.pinned (OpenSpec.upto factAppliesSpec)

/-- 'carracklaw06.FactChanges', WHERE WHAT IT READS IS OF BULK AT MOST 1048576: true; the input reads as it did. -/
def factChangesUptoRow : OpenClaim := { program := "ytkkagnpidfnmpaa", sum := "cdd088c36db0b03786f8a4f65df20b8de4f55c0b2ceb8535b7f1fb0cc762fcf8", func := "carrack/carracklaw06.FactChanges", spec := "factChanges", inPlace := ["slices.overlaps[carrack/api.Fact]"], unfollowed := true, recurses := true, apart := false, narrowed := true }
def FactChangesUptoSaid : Prop := factChangesUptoRow.holds Try.pinned (OpenSpec.upto factChangesSpec)

/-- 'carracklaw07.ModelPlays', WHERE WHAT IT READS IS OF BULK AT MOST 1048576: true; the input reads as it did. -/
def modelPlaysUptoRow : OpenClaim := { program := "ytkkagnpidfnmpaa", sum := "cdd088c36db0b03786f8a4f65df20b8de4f55c0b2ceb8535b7f1fb0cc762fcf8", func := "carrack/carracklaw07.ModelPlays", spec := "modelPlays", inPlace := ["internal/bytealg.IndexByteString", "internal/bytealg.IndexString", "slices.overlaps[carrack/api.Name]", "slices.overlaps[carrack/api.Inode]"], unfollowed := true, recurses := true, named := ["internal/bytealg.MaxLen"], apart := false, narrowed := true }
def ModelPlaysUptoSaid : Prop := modelPlaysUptoRow.holds Try.pinned (OpenSpec.upto modelPlaysSpec)

/-- 'carracklaw07.ModelFresh', WHERE WHAT IT READS IS OF BULK AT MOST 1048576: true; the input reads as it did. -/
def modelFreshUptoRow : OpenClaim := { program := "ytkkagnpidfnmpaa", sum := "cdd088c36db0b03786f8a4f65df20b8de4f55c0b2ceb8535b7f1fb0cc762fcf8", func := "carrack/carracklaw07.ModelFresh", spec := "modelFresh", inPlace := ["internal/bytealg.IndexByteString", "internal/bytealg.IndexString", "slices.overlaps[carrack/api.Name]", "slices.overlaps[carrack/api.Inode]"], unfollowed := true, recurses := true, named := ["internal/bytealg.MaxLen"], apart := false, narrowed := true }
def ModelFreshUptoSaid : Prop := modelFreshUptoRow.holds Try.pinned (OpenSpec.upto modelFreshSpec)

/-- 'carracklaw07.ModelWrites', WHERE WHAT IT READS IS OF BULK AT MOST 1048576: true; the input reads as it did. -/
def modelWritesUptoRow : OpenClaim := { program := "ytkkagnpidfnmpaa", sum := "cdd088c36db0b03786f8a4f65df20b8de4f55c0b2ceb8535b7f1fb0cc762fcf8", func := "carrack/carracklaw07.ModelWrites", spec := "modelWrites", inPlace := ["internal/bytealg.IndexByteString", "internal/bytealg.IndexString", "slices.overlaps[carrack/api.Name]", "slices.overlaps[carrack/api.Inode]"], unfollowed := true, recurses := true, named := ["internal/bytealg.MaxLen"], apart := false, narrowed := true }
def ModelWritesUptoSaid : Prop := modelWritesUptoRow.holds Try.pinned (OpenSpec.upto modelWritesSpec)

/-- 'carracklaw07.ModelRenames', WHERE WHAT IT READS IS OF BULK AT MOST 1048576: true; the input reads as it did. -/
def modelRenamesUptoRow : OpenClaim := { program := "ytkkagnpidfnmpaa", sum := "cdd088c36db0b03786f8a4f65df20b8de4f55c0b2ceb8535b7f1fb0cc762fcf8", func := "carrack/carracklaw07.ModelRenames", spec := "modelRenames", inPlace := ["internal/bytealg.IndexByteString", "internal/bytealg.IndexString", "slices.overlaps[carrack/api.Name]", "slices.overlaps[carrack/api.Inode]"], unfollowed := true, recurses := true, named := ["internal/bytealg.MaxLen"], apart := false, narrowed := true }
def ModelRenamesUptoSaid : Prop := modelRenamesUptoRow.holds Try.pinned (OpenSpec.upto modelRenamesSpec)

/-- 'carracklaw07.ModelLinks', WHERE WHAT IT READS IS OF BULK AT MOST 1048576: true; the input reads as it did. -/
def modelLinksUptoRow : OpenClaim := { program := "ytkkagnpidfnmpaa", sum := "cdd088c36db0b03786f8a4f65df20b8de4f55c0b2ceb8535b7f1fb0cc762fcf8", func := "carrack/carracklaw07.ModelLinks", spec := "modelLinks", inPlace := ["internal/bytealg.IndexByteString", "internal/bytealg.IndexString", "slices.overlaps[carrack/api.Name]", "slices.overlaps[carrack/api.Inode]"], unfollowed := true, recurses := true, named := ["internal/bytealg.MaxLen"], apart := false, narrowed := true }
def ModelLinksUptoSaid : Prop := modelLinksUptoRow.holds Try.pinned (OpenSpec.upto modelLinksSpec)

/-- 'carracklaw07.ModelMakes', WHERE WHAT IT READS IS OF BULK AT MOST 1048576: true; the input reads as it did. -/
def modelMakesUptoRow : OpenClaim := { program := "ytkkagnpidfnmpaa", sum := "cdd088c36db0b03786f8a4f65df20b8de4f55c0b2ceb8535b7f1fb0cc762fcf8", func := "carrack/carracklaw07.ModelMakes", spec := "modelMakes", inPlace := ["internal/bytealg.IndexByteString", "internal/bytealg.IndexString", "slices.overlaps[carrack/api.Name]", "slices.overlaps[carrack/api.Inode]"], unfollowed := true, recurses := true, named := ["internal/bytealg.MaxLen"], apart := false, narrowed := true }
def ModelMakesUptoSaid : Prop := modelMakesUptoRow.holds Try.pinned (OpenSpec.upto modelMakesSpec)

/-- 'carracklaw07.ModelRight', WHERE WHAT IT READS IS OF BULK AT MOST 1048576: true; the input reads as it did. -/
def modelRightUptoRow : OpenClaim := { program := "ytkkagnpidfnmpaa", sum := "cdd088c36db0b03786f8a4f65df20b8de4f55c0b2ceb8535b7f1fb0cc762fcf8", func := "carrack/carracklaw07.ModelRight", spec := "modelRight", inPlace := ["internal/bytealg.IndexByteString", "internal/bytealg.IndexString", "slices.overlaps[carrack/api.Name]", "slices.overlaps[carrack/api.Inode]"], unfollowed := true, recurses := true, named := ["internal/bytealg.MaxLen"], apart := false, narrowed := true }
def ModelRightUptoSaid : Prop := modelRightUptoRow.holds Try.pinned (OpenSpec.upto modelRightSpec)

end Rows
end Go.Proofs.Ytkkagnpidfnmpaa
