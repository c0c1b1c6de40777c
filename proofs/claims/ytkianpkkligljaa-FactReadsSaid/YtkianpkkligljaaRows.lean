/-
  No cell of these rows narrows 'for every input' (looked for: loops, veiled, ifaces, maps, wideKeys, modest, calm, conditions, laid).
  DERIVED. THE GIVEN ROWS OF THIS SEAT. 5 by the template 'for every input the law returns true; each argument reads behind the call as it read before'; 0 by the template 'total and deterministic' (their statements: YtkianpkkligljaaTotals.lean).
  GIVEN WITH THE SEED: the statements are not yours to turn. If you find one false, say at which input.
  Laid BY PROGRAM, IN A SANDBOX (cutbox-rows.mjs): the forced cells as the released guide's own fill.sh prints them over the translation e32d13a610f2b6de… (all of the seat's roots in one cut). By AI agents, Wed Nov 11 2026. No macro, syntax, notation, axiom, sorry.
-/
import Derived.Test.YtkianpkkligljaaChecked
import GoSem.Claim
import GoSem.ClaimJoined
import GoSem.ClaimMapViews
import Derived.JoinedTies
import Derived.KernelRfl
namespace Go.Proofs.Ytkianpkkligljaa
/- THE CELL 'sum', in the pinned program and in every row, IS THE sha256 OF THE DUMP (.gsa) THAT YtkianpkkligljaaProg.lean LOADS. Nothing in Lean hashes anything: it is a label: what it is worth is what the hold of that sum in a sandbox is worth. -/
noncomputable def Try.pinned : Pinned := { name := "ytkianpkkligljaa", sum := "e32d13a610f2b6de6d8345d42f0c2493b44278134a7c6da5fcc66123f6ee76f4", checked := Try.checked }
namespace Rows
def none {H : Type} : Left H := { results := [], args := [] }

/-- 'carracklaw06.FactKeys': WHATEVER THE INPUT: true; the input reads as it did. -/
def factKeysSpec : ChangeSpec := { name := "factKeys", fn := fun _ => fun
  | [d1, d2] => { results := [.lit (.bool true)], args := [d1, d2] }
  | _ => none }
def factKeysRow : OpenClaim := { program := "ytkianpkkligljaa", sum := "e32d13a610f2b6de6d8345d42f0c2493b44278134a7c6da5fcc66123f6ee76f4", func := "carrack/carracklaw06.FactKeys", spec := "factKeys", apart := false }
def FactKeysSaid : Prop := factKeysRow.holds Try.pinned (OpenSpec.ofChange factKeysSpec)

/-- ITS FALSE NEIGHBOUR: 'it returns false'. Refute it at one input. -/
def factKeysWrong : ChangeSpec := { name := "factKeys", fn := fun _ => fun
  | [d1, d2] => { results := [.lit (.bool false)], args := [d1, d2] }
  | _ => none }
def FactKeysWrongFalsely : Prop := factKeysRow.holds Try.pinned (OpenSpec.ofChange factKeysWrong)

/-- 'carracklaw06.FactOrder': WHATEVER THE INPUT: true; the input reads as it did. -/
def factOrderSpec : ChangeSpec := { name := "factOrder", fn := fun _ => fun
  | [d1, d2, d3] => { results := [.lit (.bool true)], args := [d1, d2, d3] }
  | _ => none }
def factOrderRow : OpenClaim := { program := "ytkianpkkligljaa", sum := "e32d13a610f2b6de6d8345d42f0c2493b44278134a7c6da5fcc66123f6ee76f4", func := "carrack/carracklaw06.FactOrder", spec := "factOrder", apart := false }
def FactOrderSaid : Prop := factOrderRow.holds Try.pinned (OpenSpec.ofChange factOrderSpec)

/-- ITS FALSE NEIGHBOUR: 'it returns false'. Refute it at one input. -/
def factOrderWrong : ChangeSpec := { name := "factOrder", fn := fun _ => fun
  | [d1, d2, d3] => { results := [.lit (.bool false)], args := [d1, d2, d3] }
  | _ => none }
def FactOrderWrongFalsely : Prop := factOrderRow.holds Try.pinned (OpenSpec.ofChange factOrderWrong)

/-- 'carracklaw06.FactValues': WHATEVER THE INPUT: true; the input reads as it did. -/
def factValuesSpec : ChangeSpec := { name := "factValues", fn := fun _ => fun
  | [d1, d2, d3] => { results := [.lit (.bool true)], args := [d1, d2, d3] }
  | _ => none }
def factValuesRow : OpenClaim := { program := "ytkianpkkligljaa", sum := "e32d13a610f2b6de6d8345d42f0c2493b44278134a7c6da5fcc66123f6ee76f4", func := "carrack/carracklaw06.FactValues", spec := "factValues", apart := false }
def FactValuesSaid : Prop := factValuesRow.holds Try.pinned (OpenSpec.ofChange factValuesSpec)

/-- ITS FALSE NEIGHBOUR: 'it returns false'. Refute it at one input. -/
def factValuesWrong : ChangeSpec := { name := "factValues", fn := fun _ => fun
  | [d1, d2, d3] => { results := [.lit (.bool false)], args := [d1, d2, d3] }
  | _ => none }
def FactValuesWrongFalsely : Prop := factValuesRow.holds Try.pinned (OpenSpec.ofChange factValuesWrong)

/-- 'carracklaw06.FactReads': WHATEVER THE INPUT: true; the input reads as it did. -/
def factReadsSpec : ChangeSpec := { name := "factReads", fn := fun _ => fun
  | [d] => { results := [.lit (.bool true)], args := [d] }
  | _ => none }
def factReadsRow : OpenClaim := { program := "ytkianpkkligljaa", sum := "e32d13a610f2b6de6d8345d42f0c2493b44278134a7c6da5fcc66123f6ee76f4", func := "carrack/carracklaw06.FactReads", spec := "factReads", apart := false }
def FactReadsSaid : Prop := factReadsRow.holds Try.pinned (OpenSpec.ofChange factReadsSpec)

/-- ITS FALSE NEIGHBOUR: 'it returns false'. Refute it at one input. -/
def factReadsWrong : ChangeSpec := { name := "factReads", fn := fun _ => fun
  | [d] => { results := [.lit (.bool false)], args := [d] }
  | _ => none }
def FactReadsWrongFalsely : Prop := factReadsRow.holds Try.pinned (OpenSpec.ofChange factReadsWrong)

/-- 'carracklaw06.FactBack': WHATEVER THE INPUT: true; the input reads as it did. -/
def factBackSpec : ChangeSpec := { name := "factBack", fn := fun _ => fun
  | [d1, d2, d3] => { results := [.lit (.bool true)], args := [d1, d2, d3] }
  | _ => none }
def factBackRow : OpenClaim := { program := "ytkianpkkligljaa", sum := "e32d13a610f2b6de6d8345d42f0c2493b44278134a7c6da5fcc66123f6ee76f4", func := "carrack/carracklaw06.FactBack", spec := "factBack", apart := false }
def FactBackSaid : Prop := factBackRow.holds Try.pinned (OpenSpec.ofChange factBackSpec)

/-- ITS FALSE NEIGHBOUR: 'it returns false'. Refute it at one input. -/
def factBackWrong : ChangeSpec := { name := "factBack", fn := fun _ => fun
  | [d1, d2, d3] => { results := [.lit (.bool false)], args := [d1, d2, d3] }
  | _ => none }
def FactBackWrongFalsely : Prop := factBackRow.holds Try.pinned (OpenSpec.ofChange factBackWrong)

/- THE SECOND FORM. 'bulk': how many values and letters a reading holds, each counted each time it is reached (what is shared counts as often as it is met; a slice's spare places count too). A statement '..UptoSaid' is the law's where the arguments, and the package variables that the reading takes, are together of bulk at most 1048576: NARROWER than '..Said'. Prove '..Said' where nothing that the law and all that it calls make is longer than what came in: it says more and counts as full. Else prove '..UptoSaid'. A law counts once. -/
mutual
def uptoBulk {H : Type} : DataW H → Nat
  | .lit (.string bytes) => bytes.length + 1
  | .lit _ => 1
  | .nil => 1
  | .ptr d => uptoBulk d + 1
  | .slice elems spare => uptoBulkAll elems + uptoBulkAll spare + 1
  | .agg parts => uptoBulkAll parts + 1
  | .iface _ d => uptoBulk d + 1
  | .map entries => uptoBulkEntries entries + 1
  | .held _ => 1
def uptoBulkAll {H : Type} : List (DataW H) → Nat
  | [] => 0
  | d :: r => uptoBulk d + uptoBulkAll r
def uptoBulkEntries {H : Type} : List (Lit × DataW H) → Nat
  | [] => 0
  | x :: r => uptoBulkEntry x + uptoBulkEntries r
def uptoBulkEntry {H : Type} : Lit × DataW H → Nat
  | (.string bytes, d) => bytes.length + uptoBulk d + 1
  | (_, d) => uptoBulk d + 1
 end
def uptoSmall : (H : Type) → List (DataW H) → Bool := fun _ ds => decide (uptoBulkAll ds ≤ 1048576)
def OpenSpec.upto (s : _root_.Go.ChangeSpec) : _root_.Go.OpenSpec := { _root_.Go.OpenSpec.ofChange s with cond := some uptoSmall }

/-- 'carracklaw06.FactKeys', WHERE WHAT IT READS IS OF BULK AT MOST 1048576: true; the input reads as it did. -/
def factKeysUptoRow : OpenClaim := { program := "ytkianpkkligljaa", sum := "e32d13a610f2b6de6d8345d42f0c2493b44278134a7c6da5fcc66123f6ee76f4", func := "carrack/carracklaw06.FactKeys", spec := "factKeys", apart := false, narrowed := true }
def FactKeysUptoSaid : Prop := factKeysUptoRow.holds Try.pinned (OpenSpec.upto factKeysSpec)

/-- 'carracklaw06.FactOrder', WHERE WHAT IT READS IS OF BULK AT MOST 1048576: true; the input reads as it did. -/
def factOrderUptoRow : OpenClaim := { program := "ytkianpkkligljaa", sum := "e32d13a610f2b6de6d8345d42f0c2493b44278134a7c6da5fcc66123f6ee76f4", func := "carrack/carracklaw06.FactOrder", spec := "factOrder", apart := false, narrowed := true }
def FactOrderUptoSaid : Prop := factOrderUptoRow.holds Try.pinned (OpenSpec.upto factOrderSpec)

/-- 'carracklaw06.FactValues', WHERE WHAT IT READS IS OF BULK AT MOST 1048576: true; the input reads as it did. -/
def factValuesUptoRow : OpenClaim := { program := "ytkianpkkligljaa", sum := "e32d13a610f2b6de6d8345d42f0c2493b44278134a7c6da5fcc66123f6ee76f4", func := "carrack/carracklaw06.FactValues", spec := "factValues", apart := false, narrowed := true }
def FactValuesUptoSaid : Prop := factValuesUptoRow.holds Try.pinned (OpenSpec.upto factValuesSpec)

/-- 'carracklaw06.FactReads', WHERE WHAT IT READS IS OF BULK AT MOST 1048576: true; the input reads as it did. -/
def factReadsUptoRow : OpenClaim := { program := "ytkianpkkligljaa", sum := "e32d13a610f2b6de6d8345d42f0c2493b44278134a7c6da5fcc66123f6ee76f4", func := "carrack/carracklaw06.FactReads", spec := "factReads", apart := false, narrowed := true }
def FactReadsUptoSaid : Prop := factReadsUptoRow.holds Try.pinned (OpenSpec.upto factReadsSpec)

/-- 'carracklaw06.FactBack', WHERE WHAT IT READS IS OF BULK AT MOST 1048576: true; the input reads as it did. -/
def factBackUptoRow : OpenClaim := { program := "ytkianpkkligljaa", sum := "e32d13a610f2b6de6d8345d42f0c2493b44278134a7c6da5fcc66123f6ee76f4", func := "carrack/carracklaw06.FactBack", spec := "factBack", apart := false, narrowed := true }
def FactBackUptoSaid : Prop := factBackUptoRow.holds Try.pinned (OpenSpec.upto factBackSpec)

end Rows
end Go.Proofs.Ytkianpkkligljaa
