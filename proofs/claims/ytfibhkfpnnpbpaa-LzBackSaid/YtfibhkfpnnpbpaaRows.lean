/-
  No cell of these rows narrows 'for every input' (looked for: loops, veiled, ifaces, maps, wideKeys, modest, calm, conditions, laid).
  DERIVED. THE GIVEN ROWS OF THIS SEAT. 5 by the template 'for every input the law returns true; each argument reads behind the call as it read before'; 0 by the template 'total and deterministic' (their statements: YtfibhkfpnnpbpaaTotals.lean).
  GIVEN WITH THE SEED: the statements are not yours to turn. If you find one false, say at which input.
  Laid BY PROGRAM, IN A SANDBOX (cutbox-rows.mjs): the forced cells as the released guide's own fill.sh prints them over the translation 08d19d785c11891c… (all of the seat's roots in one cut). By AI agents, Wed Nov 11 2026. No macro, syntax, notation, axiom, sorry.
-/
import Derived.Test.YtfibhkfpnnpbpaaChecked
import GoSem.Claim
import GoSem.ClaimJoined
import GoSem.ClaimMapViews
import Derived.JoinedTies
import Derived.KernelRfl
namespace Go.Proofs.Ytfibhkfpnnpbpaa
/- THE CELL 'sum', in the pinned program and in every row, IS THE sha256 OF THE DUMP (.gsa) THAT YtfibhkfpnnpbpaaProg.lean LOADS. Nothing in Lean hashes anything: it is a label: what it is worth is what the hold of that sum in a sandbox is worth. -/
noncomputable def Try.pinned : Pinned := { name := "ytfibhkfpnnpbpaa", sum := "08d19d785c11891c4315f1b8380279079135c3f4a6bea6a70ea9bfe26f2deb43", checked := Try.checked }
namespace Rows
def none {H : Type} : Left H := { results := [], args := [] }

/-- 'florilegiumlaw04.LzForms': WHATEVER THE INPUT: true; the input reads as it did. -/
def lzFormsSpec : ChangeSpec := { name := "lzForms", fn := fun _ => fun
  | [d1, d2] => { results := [.lit (.bool true)], args := [d1, d2] }
  | _ => none }
def lzFormsRow : OpenClaim := { program := "ytfibhkfpnnpbpaa", sum := "08d19d785c11891c4315f1b8380279079135c3f4a6bea6a70ea9bfe26f2deb43", func := "florilegium/florilegiumlaw04.LzForms", spec := "lzForms", apart := false }
def LzFormsSaid : Prop := lzFormsRow.holds Try.pinned (OpenSpec.ofChange lzFormsSpec)

/-- ITS FALSE NEIGHBOUR: 'it returns false'. Refute it at one input. -/
def lzFormsWrong : ChangeSpec := { name := "lzForms", fn := fun _ => fun
  | [d1, d2] => { results := [.lit (.bool false)], args := [d1, d2] }
  | _ => none }
def LzFormsWrongFalsely : Prop := lzFormsRow.holds Try.pinned (OpenSpec.ofChange lzFormsWrong)

/-- 'florilegiumlaw04.LzJoins': WHATEVER THE INPUT: true; the input reads as it did. -/
def lzJoinsSpec : ChangeSpec := { name := "lzJoins", fn := fun _ => fun
  | [d1, d2] => { results := [.lit (.bool true)], args := [d1, d2] }
  | _ => none }
def lzJoinsRow : OpenClaim := { program := "ytfibhkfpnnpbpaa", sum := "08d19d785c11891c4315f1b8380279079135c3f4a6bea6a70ea9bfe26f2deb43", func := "florilegium/florilegiumlaw04.LzJoins", spec := "lzJoins", apart := false }
def LzJoinsSaid : Prop := lzJoinsRow.holds Try.pinned (OpenSpec.ofChange lzJoinsSpec)

/-- ITS FALSE NEIGHBOUR: 'it returns false'. Refute it at one input. -/
def lzJoinsWrong : ChangeSpec := { name := "lzJoins", fn := fun _ => fun
  | [d1, d2] => { results := [.lit (.bool false)], args := [d1, d2] }
  | _ => none }
def LzJoinsWrongFalsely : Prop := lzJoinsRow.holds Try.pinned (OpenSpec.ofChange lzJoinsWrong)

/-- 'florilegiumlaw04.LzBack': WHATEVER THE INPUT: true; the input reads as it did. -/
def lzBackSpec : ChangeSpec := { name := "lzBack", fn := fun _ => fun
  | [d1, d2, d3] => { results := [.lit (.bool true)], args := [d1, d2, d3] }
  | _ => none }
def lzBackRow : OpenClaim := { program := "ytfibhkfpnnpbpaa", sum := "08d19d785c11891c4315f1b8380279079135c3f4a6bea6a70ea9bfe26f2deb43", func := "florilegium/florilegiumlaw04.LzBack", spec := "lzBack", apart := false }
def LzBackSaid : Prop := lzBackRow.holds Try.pinned (OpenSpec.ofChange lzBackSpec)

/-- ITS FALSE NEIGHBOUR: 'it returns false'. Refute it at one input. -/
def lzBackWrong : ChangeSpec := { name := "lzBack", fn := fun _ => fun
  | [d1, d2, d3] => { results := [.lit (.bool false)], args := [d1, d2, d3] }
  | _ => none }
def LzBackWrongFalsely : Prop := lzBackRow.holds Try.pinned (OpenSpec.ofChange lzBackWrong)

/-- 'florilegiumlaw04.LzCodes': WHATEVER THE INPUT: true; the input reads as it did. -/
def lzCodesSpec : ChangeSpec := { name := "lzCodes", fn := fun _ => fun
  | [d1, d2] => { results := [.lit (.bool true)], args := [d1, d2] }
  | _ => none }
def lzCodesRow : OpenClaim := { program := "ytfibhkfpnnpbpaa", sum := "08d19d785c11891c4315f1b8380279079135c3f4a6bea6a70ea9bfe26f2deb43", func := "florilegium/florilegiumlaw04.LzCodes", spec := "lzCodes", apart := false }
def LzCodesSaid : Prop := lzCodesRow.holds Try.pinned (OpenSpec.ofChange lzCodesSpec)

/-- ITS FALSE NEIGHBOUR: 'it returns false'. Refute it at one input. -/
def lzCodesWrong : ChangeSpec := { name := "lzCodes", fn := fun _ => fun
  | [d1, d2] => { results := [.lit (.bool false)], args := [d1, d2] }
  | _ => none }
def LzCodesWrongFalsely : Prop := lzCodesRow.holds Try.pinned (OpenSpec.ofChange lzCodesWrong)

/-- 'florilegiumlaw04.LzTells': WHATEVER THE INPUT: true; the input reads as it did. -/
def lzTellsSpec : ChangeSpec := { name := "lzTells", fn := fun _ => fun
  | [d1, d2, d3, d4, d5, d6, d7] => { results := [.lit (.bool true)], args := [d1, d2, d3, d4, d5, d6, d7] }
  | _ => none }
def lzTellsRow : OpenClaim := { program := "ytfibhkfpnnpbpaa", sum := "08d19d785c11891c4315f1b8380279079135c3f4a6bea6a70ea9bfe26f2deb43", func := "florilegium/florilegiumlaw04.LzTells", spec := "lzTells", apart := false }
def LzTellsSaid : Prop := lzTellsRow.holds Try.pinned (OpenSpec.ofChange lzTellsSpec)

/-- ITS FALSE NEIGHBOUR: 'it returns false'. Refute it at one input. -/
def lzTellsWrong : ChangeSpec := { name := "lzTells", fn := fun _ => fun
  | [d1, d2, d3, d4, d5, d6, d7] => { results := [.lit (.bool false)], args := [d1, d2, d3, d4, d5, d6, d7] }
  | _ => none }
def LzTellsWrongFalsely : Prop := lzTellsRow.holds Try.pinned (OpenSpec.ofChange lzTellsWrong)

/- THE SECOND FORM. 'bulk': how many values and letters a reading holds, each counted each time it is reached (what is shared counts as often as it is met; a slice's spare places count too). A statement '..UptoSaid' is the law's where the arguments, and the package variables that the reading takes, are together of bulk at most 1048576: NARROWER than '..Said'. Prove '..Said' where nothing that the law and all that it calls make is longer than what came in: it says more and counts as full. Else prove '..UptoSaid'. A law counts once. -/
mutual
def uptoBulk {H : Type} : DataW H → Nat
  | .lit (.string bytes) => bytes.length + 1
  | .lit _ => 1
  | .nil => 1
  | .ptr d => uptoBulk d + 1
  | .slice elems spare => uptoBulkAll elems + uptoBulkAll spare + 1
  | .agg parts => uptoBulkAll parts + 1
  | .iface _ d => uptoBulk d + 1
  | .map entries => uptoBulkEntries entries + 1
  | .held _ => 1
def uptoBulkAll {H : Type} : List (DataW H) → Nat
  | [] => 0
  | d :: r => uptoBulk d + uptoBulkAll r
def uptoBulkEntries {H : Type} : List (Lit × DataW H) → Nat
  | [] => 0
  | x :: r => uptoBulkEntry x + uptoBulkEntries r
def uptoBulkEntry {H : Type} : Lit × DataW H → Nat
  | (.string bytes, d) => bytes.length + uptoBulk d + 1
  | (_, d) => uptoBulk d + 1
 end
def uptoSmall : (H : Type) → List (DataW H) → Bool := fun _ ds => decide (uptoBulkAll ds ≤ 1048576)
def OpenSpec.upto (s : _root_.Go.ChangeSpec) : _root_.Go.OpenSpec := { _root_.Go.OpenSpec.ofChange s with cond := some uptoSmall }

/-- 'florilegiumlaw04.LzForms', WHERE WHAT IT READS IS OF BULK AT MOST 1048576: true; the input reads as it did. -/
def lzFormsUptoRow : OpenClaim := { program := "ytfibhkfpnnpbpaa", sum := "08d19d785c11891c4315f1b8380279079135c3f4a6bea6a70ea9bfe26f2deb43", func := "florilegium/florilegiumlaw04.LzForms", spec := "lzForms", apart := false, narrowed := true }
def LzFormsUptoSaid : Prop := lzFormsUptoRow.holds Try.pinned (OpenSpec.upto lzFormsSpec)

/-- 'florilegiumlaw04.LzJoins', WHERE WHAT IT READS IS OF BULK AT MOST 1048576: true; the input reads as it did. -/
def lzJoinsUptoRow : OpenClaim := { program := "ytfibhkfpnnpbpaa", sum := "08d19d785c11891c4315f1b8380279079135c3f4a6bea6a70ea9bfe26f2deb43", func := "florilegium/florilegiumlaw04.LzJoins", spec := "lzJoins", apart := false, narrowed := true }
def LzJoinsUptoSaid : Prop := lzJoinsUptoRow.holds Try.pinned (OpenSpec.upto lzJoinsSpec)

/-- 'florilegiumlaw04.LzBack', WHERE WHAT IT READS IS OF BULK AT MOST 1048576: true; the input reads as it did. -/
def lzBackUptoRow : OpenClaim := { program := "ytfibhkfpnnpbpaa", sum := "08d19d785c11891c4315f1b8380279079135c3f4a6bea6a70ea9bfe26f2deb43", func := "florilegium/florilegiumlaw04.LzBack", spec := "lzBack", apart := false, narrowed := true }
def LzBackUptoSaid : Prop := lzBackUptoRow.holds Try.pinned (OpenSpec.upto lzBackSpec)

/-- 'florilegiumlaw04.LzCodes', WHERE WHAT IT READS IS OF BULK AT MOST 1048576: true; the input reads as it did. -/
def lzCodesUptoRow : OpenClaim := { program := "ytfibhkfpnnpbpaa", sum := "08d19d785c11891c4315f1b8380279079135c3f4a6bea6a70ea9bfe26f2deb43", func := "florilegium/florilegiumlaw04.LzCodes", spec := "lzCodes", apart := false, narrowed := true }
def LzCodesUptoSaid : Prop := lzCodesUptoRow.holds Try.pinned (OpenSpec.upto lzCodesSpec)

/-- 'florilegiumlaw04.LzTells', WHERE WHAT IT READS IS OF BULK AT MOST 1048576: true; the input reads as it did. -/
def lzTellsUptoRow : OpenClaim := { program := "ytfibhkfpnnpbpaa", sum := "08d19d785c11891c4315f1b8380279079135c3f4a6bea6a70ea9bfe26f2deb43", func := "florilegium/florilegiumlaw04.LzTells", spec := "lzTells", apart := false, narrowed := true }
def LzTellsUptoSaid : Prop := lzTellsUptoRow.holds Try.pinned (OpenSpec.upto lzTellsSpec)

end Rows
end Go.Proofs.Ytfibhkfpnnpbpaa
