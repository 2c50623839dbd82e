/-
  No cell of these rows narrows 'for every input' (looked for: loops, veiled, ifaces, maps, wideKeys, modest, calm, conditions, laid).
  DERIVED. THE GIVEN ROWS OF THIS SEAT. 14 by the template 'for every input the law returns true; each argument reads behind the call as it read before'; 0 by the template 'total and deterministic' (their statements: YtihgekpijplfiaaTotals.lean).
  GIVEN WITH THE SEED: the statements are not yours to turn. If you find one false, say at which input.
  Laid BY PROGRAM, IN A SANDBOX (cutbox-rows.mjs): the forced cells as the released guide's own fill.sh prints them over the translation f67b590a39969806… (all of the seat's roots in one cut). By AI agents, Wed Nov 11 2026. No macro, syntax, notation, axiom, sorry.
-/
import Derived.Test.YtihgekpijplfiaaChecked
import GoSem.Claim
import GoSem.ClaimJoined
import GoSem.ClaimMapViews
import Derived.JoinedTies
import Derived.KernelRfl
namespace Go.Proofs.Ytihgekpijplfiaa
/- THE CELL 'sum', in the pinned program and in every row, IS THE sha256 OF THE DUMP (.gsa) THAT YtihgekpijplfiaaProg.lean LOADS. Nothing in Lean hashes anything: it is a label: what it is worth is what the hold of that sum in a sandbox is worth. -/
noncomputable def Try.pinned : Pinned := { name := "ytihgekpijplfiaa", sum := "f67b590a39969806733f839d206220c4342e8440dc54e25d50c3e168fb8e5710", checked := Try.checked }
namespace Rows
def none {H : Type} : Left H := { results := [], args := [] }

/-- 'florilegiumlaw03.HuffForms': WHATEVER THE INPUT: true; the input reads as it did. -/
def huffFormsSpec : ChangeSpec := { name := "huffForms", fn := fun _ => fun
  | [d] => { results := [.lit (.bool true)], args := [d] }
  | _ => none }
def huffFormsRow : OpenClaim := { program := "ytihgekpijplfiaa", sum := "f67b590a39969806733f839d206220c4342e8440dc54e25d50c3e168fb8e5710", func := "florilegium/florilegiumlaw03.HuffForms", spec := "huffForms", plainKeys := false, apart := false }
def HuffFormsSaid : Prop := huffFormsRow.holds Try.pinned (OpenSpec.ofChange huffFormsSpec)

/-- ITS FALSE NEIGHBOUR: 'it returns false'. Refute it at one input. -/
def huffFormsWrong : ChangeSpec := { name := "huffForms", fn := fun _ => fun
  | [d] => { results := [.lit (.bool false)], args := [d] }
  | _ => none }
def HuffFormsWrongFalsely : Prop := huffFormsRow.holds Try.pinned (OpenSpec.ofChange huffFormsWrong)

/-- 'florilegiumlaw03.HuffCodes': WHATEVER THE INPUT: true; the input reads as it did. -/
def huffCodesSpec : ChangeSpec := { name := "huffCodes", fn := fun _ => fun
  | [d1, d2, d3, d4, d5, d6] => { results := [.lit (.bool true)], args := [d1, d2, d3, d4, d5, d6] }
  | _ => none }
def huffCodesRow : OpenClaim := { program := "ytihgekpijplfiaa", sum := "f67b590a39969806733f839d206220c4342e8440dc54e25d50c3e168fb8e5710", func := "florilegium/florilegiumlaw03.HuffCodes", spec := "huffCodes", plainKeys := false, apart := false }
def HuffCodesSaid : Prop := huffCodesRow.holds Try.pinned (OpenSpec.ofChange huffCodesSpec)

/-- ITS FALSE NEIGHBOUR: 'it returns false'. Refute it at one input. -/
def huffCodesWrong : ChangeSpec := { name := "huffCodes", fn := fun _ => fun
  | [d1, d2, d3, d4, d5, d6] => { results := [.lit (.bool false)], args := [d1, d2, d3, d4, d5, d6] }
  | _ => none }
def HuffCodesWrongFalsely : Prop := huffCodesRow.holds Try.pinned (OpenSpec.ofChange huffCodesWrong)

/-- 'florilegiumlaw02.BitsEnds': WHATEVER THE INPUT: true; the input reads as it did. -/
def bitsEndsSpec : ChangeSpec := { name := "bitsEnds", fn := fun _ => fun
  | [d1, d2] => { results := [.lit (.bool true)], args := [d1, d2] }
  | _ => none }
def bitsEndsRow : OpenClaim := { program := "ytihgekpijplfiaa", sum := "f67b590a39969806733f839d206220c4342e8440dc54e25d50c3e168fb8e5710", func := "florilegium/florilegiumlaw02.BitsEnds", spec := "bitsEnds", plainKeys := false, apart := false }
def BitsEndsSaid : Prop := bitsEndsRow.holds Try.pinned (OpenSpec.ofChange bitsEndsSpec)

/-- ITS FALSE NEIGHBOUR: 'it returns false'. Refute it at one input. -/
def bitsEndsWrong : ChangeSpec := { name := "bitsEnds", fn := fun _ => fun
  | [d1, d2] => { results := [.lit (.bool false)], args := [d1, d2] }
  | _ => none }
def BitsEndsWrongFalsely : Prop := bitsEndsRow.holds Try.pinned (OpenSpec.ofChange bitsEndsWrong)

/-- 'florilegiumlaw02.BitsAlign': WHATEVER THE INPUT: true; the input reads as it did. -/
def bitsAlignSpec : ChangeSpec := { name := "bitsAlign", fn := fun _ => fun
  | [d1, d2] => { results := [.lit (.bool true)], args := [d1, d2] }
  | _ => none }
def bitsAlignRow : OpenClaim := { program := "ytihgekpijplfiaa", sum := "f67b590a39969806733f839d206220c4342e8440dc54e25d50c3e168fb8e5710", func := "florilegium/florilegiumlaw02.BitsAlign", spec := "bitsAlign", plainKeys := false, apart := false }
def BitsAlignSaid : Prop := bitsAlignRow.holds Try.pinned (OpenSpec.ofChange bitsAlignSpec)

/-- ITS FALSE NEIGHBOUR: 'it returns false'. Refute it at one input. -/
def bitsAlignWrong : ChangeSpec := { name := "bitsAlign", fn := fun _ => fun
  | [d1, d2] => { results := [.lit (.bool false)], args := [d1, d2] }
  | _ => none }
def BitsAlignWrongFalsely : Prop := bitsAlignRow.holds Try.pinned (OpenSpec.ofChange bitsAlignWrong)

/-- 'florilegiumlaw02.BitsRead': WHATEVER THE INPUT: true; the input reads as it did. -/
def bitsReadSpec : ChangeSpec := { name := "bitsRead", fn := fun _ => fun
  | [d1, d2] => { results := [.lit (.bool true)], args := [d1, d2] }
  | _ => none }
def bitsReadRow : OpenClaim := { program := "ytihgekpijplfiaa", sum := "f67b590a39969806733f839d206220c4342e8440dc54e25d50c3e168fb8e5710", func := "florilegium/florilegiumlaw02.BitsRead", spec := "bitsRead", plainKeys := false, apart := false }
def BitsReadSaid : Prop := bitsReadRow.holds Try.pinned (OpenSpec.ofChange bitsReadSpec)

/-- ITS FALSE NEIGHBOUR: 'it returns false'. Refute it at one input. -/
def bitsReadWrong : ChangeSpec := { name := "bitsRead", fn := fun _ => fun
  | [d1, d2] => { results := [.lit (.bool false)], args := [d1, d2] }
  | _ => none }
def BitsReadWrongFalsely : Prop := bitsReadRow.holds Try.pinned (OpenSpec.ofChange bitsReadWrong)

/-- 'florilegiumlaw02.BitsBack': WHATEVER THE INPUT: true; the input reads as it did. -/
def bitsBackSpec : ChangeSpec := { name := "bitsBack", fn := fun _ => fun
  | [d1, d2] => { results := [.lit (.bool true)], args := [d1, d2] }
  | _ => none }
def bitsBackRow : OpenClaim := { program := "ytihgekpijplfiaa", sum := "f67b590a39969806733f839d206220c4342e8440dc54e25d50c3e168fb8e5710", func := "florilegium/florilegiumlaw02.BitsBack", spec := "bitsBack", plainKeys := false, apart := false }
def BitsBackSaid : Prop := bitsBackRow.holds Try.pinned (OpenSpec.ofChange bitsBackSpec)

/-- ITS FALSE NEIGHBOUR: 'it returns false'. Refute it at one input. -/
def bitsBackWrong : ChangeSpec := { name := "bitsBack", fn := fun _ => fun
  | [d1, d2] => { results := [.lit (.bool false)], args := [d1, d2] }
  | _ => none }
def BitsBackWrongFalsely : Prop := bitsBackRow.holds Try.pinned (OpenSpec.ofChange bitsBackWrong)

/-- 'florilegiumlaw04.LzTells': WHATEVER THE INPUT: true; the input reads as it did. -/
def lzTellsSpec : ChangeSpec := { name := "lzTells", fn := fun _ => fun
  | [d1, d2, d3, d4, d5, d6, d7] => { results := [.lit (.bool true)], args := [d1, d2, d3, d4, d5, d6, d7] }
  | _ => none }
def lzTellsRow : OpenClaim := { program := "ytihgekpijplfiaa", sum := "f67b590a39969806733f839d206220c4342e8440dc54e25d50c3e168fb8e5710", func := "florilegium/florilegiumlaw04.LzTells", spec := "lzTells", plainKeys := false, apart := false }
def LzTellsSaid : Prop := lzTellsRow.holds Try.pinned (OpenSpec.ofChange lzTellsSpec)

/-- ITS FALSE NEIGHBOUR: 'it returns false'. Refute it at one input. -/
def lzTellsWrong : ChangeSpec := { name := "lzTells", fn := fun _ => fun
  | [d1, d2, d3, d4, d5, d6, d7] => { results := [.lit (.bool false)], args := [d1, d2, d3, d4, d5, d6, d7] }
  | _ => none }
def LzTellsWrongFalsely : Prop := lzTellsRow.holds Try.pinned (OpenSpec.ofChange lzTellsWrong)

/-- 'florilegiumlaw03.HuffOne': WHATEVER THE INPUT: true; the input reads as it did. -/
def huffOneSpec : ChangeSpec := { name := "huffOne", fn := fun _ => fun
  | [d1, d2] => { results := [.lit (.bool true)], args := [d1, d2] }
  | _ => none }
def huffOneRow : OpenClaim := { program := "ytihgekpijplfiaa", sum := "f67b590a39969806733f839d206220c4342e8440dc54e25d50c3e168fb8e5710", func := "florilegium/florilegiumlaw03.HuffOne", spec := "huffOne", plainKeys := false, apart := false }
def HuffOneSaid : Prop := huffOneRow.holds Try.pinned (OpenSpec.ofChange huffOneSpec)

/-- ITS FALSE NEIGHBOUR: 'it returns false'. Refute it at one input. -/
def huffOneWrong : ChangeSpec := { name := "huffOne", fn := fun _ => fun
  | [d1, d2] => { results := [.lit (.bool false)], args := [d1, d2] }
  | _ => none }
def HuffOneWrongFalsely : Prop := huffOneRow.holds Try.pinned (OpenSpec.ofChange huffOneWrong)

/-- 'florilegiumlaw03.HuffReads': WHATEVER THE INPUT: true; the input reads as it did. -/
def huffReadsSpec : ChangeSpec := { name := "huffReads", fn := fun _ => fun
  | [d1, d2, d3, d4] => { results := [.lit (.bool true)], args := [d1, d2, d3, d4] }
  | _ => none }
def huffReadsRow : OpenClaim := { program := "ytihgekpijplfiaa", sum := "f67b590a39969806733f839d206220c4342e8440dc54e25d50c3e168fb8e5710", func := "florilegium/florilegiumlaw03.HuffReads", spec := "huffReads", plainKeys := false, apart := false }
def HuffReadsSaid : Prop := huffReadsRow.holds Try.pinned (OpenSpec.ofChange huffReadsSpec)

/-- ITS FALSE NEIGHBOUR: 'it returns false'. Refute it at one input. -/
def huffReadsWrong : ChangeSpec := { name := "huffReads", fn := fun _ => fun
  | [d1, d2, d3, d4] => { results := [.lit (.bool false)], args := [d1, d2, d3, d4] }
  | _ => none }
def HuffReadsWrongFalsely : Prop := huffReadsRow.holds Try.pinned (OpenSpec.ofChange huffReadsWrong)

/-- 'florilegiumlaw03.HuffBack': WHATEVER THE INPUT: true; the input reads as it did. -/
def huffBackSpec : ChangeSpec := { name := "huffBack", fn := fun _ => fun
  | [d1, d2, d3] => { results := [.lit (.bool true)], args := [d1, d2, d3] }
  | _ => none }
def huffBackRow : OpenClaim := { program := "ytihgekpijplfiaa", sum := "f67b590a39969806733f839d206220c4342e8440dc54e25d50c3e168fb8e5710", func := "florilegium/florilegiumlaw03.HuffBack", spec := "huffBack", plainKeys := false, apart := false }
def HuffBackSaid : Prop := huffBackRow.holds Try.pinned (OpenSpec.ofChange huffBackSpec)

/-- ITS FALSE NEIGHBOUR: 'it returns false'. Refute it at one input. -/
def huffBackWrong : ChangeSpec := { name := "huffBack", fn := fun _ => fun
  | [d1, d2, d3] => { results := [.lit (.bool false)], args := [d1, d2, d3] }
  | _ => none }
def HuffBackWrongFalsely : Prop := huffBackRow.holds Try.pinned (OpenSpec.ofChange huffBackWrong)

/-- 'florilegiumlaw05.FlateForms': WHATEVER THE INPUT: true; the input reads as it did. -/
def flateFormsSpec : ChangeSpec := { name := "flateForms", fn := fun _ => fun
  | [d] => { results := [.lit (.bool true)], args := [d] }
  | _ => none }
def flateFormsRow : OpenClaim := { program := "ytihgekpijplfiaa", sum := "f67b590a39969806733f839d206220c4342e8440dc54e25d50c3e168fb8e5710", func := "florilegium/florilegiumlaw05.FlateForms", spec := "flateForms", unfollowed := true, recurses := true, plainKeys := false, apart := false }
def FlateFormsSaid : Prop := flateFormsRow.holds Try.pinned (OpenSpec.ofChange flateFormsSpec)

/-- ITS FALSE NEIGHBOUR: 'it returns false'. Refute it at one input. -/
def flateFormsWrong : ChangeSpec := { name := "flateForms", fn := fun _ => fun
  | [d] => { results := [.lit (.bool false)], args := [d] }
  | _ => none }
def FlateFormsWrongFalsely : Prop := flateFormsRow.holds Try.pinned (OpenSpec.ofChange flateFormsWrong)

/-- 'florilegiumlaw05.FlateBlocks': WHATEVER THE INPUT: true; the input reads as it did. -/
def flateBlocksSpec : ChangeSpec := { name := "flateBlocks", fn := fun _ => fun
  | [d1, d2, d3] => { results := [.lit (.bool true)], args := [d1, d2, d3] }
  | _ => none }
def flateBlocksRow : OpenClaim := { program := "ytihgekpijplfiaa", sum := "f67b590a39969806733f839d206220c4342e8440dc54e25d50c3e168fb8e5710", func := "florilegium/florilegiumlaw05.FlateBlocks", spec := "flateBlocks", unfollowed := true, recurses := true, plainKeys := false, apart := false }
def FlateBlocksSaid : Prop := flateBlocksRow.holds Try.pinned (OpenSpec.ofChange flateBlocksSpec)

/-- ITS FALSE NEIGHBOUR: 'it returns false'. Refute it at one input. -/
def flateBlocksWrong : ChangeSpec := { name := "flateBlocks", fn := fun _ => fun
  | [d1, d2, d3] => { results := [.lit (.bool false)], args := [d1, d2, d3] }
  | _ => none }
def FlateBlocksWrongFalsely : Prop := flateBlocksRow.holds Try.pinned (OpenSpec.ofChange flateBlocksWrong)

/-- 'florilegiumlaw05.FlateMost': WHATEVER THE INPUT: true; the input reads as it did. -/
def flateMostSpec : ChangeSpec := { name := "flateMost", fn := fun _ => fun
  | [d1, d2] => { results := [.lit (.bool true)], args := [d1, d2] }
  | _ => none }
def flateMostRow : OpenClaim := { program := "ytihgekpijplfiaa", sum := "f67b590a39969806733f839d206220c4342e8440dc54e25d50c3e168fb8e5710", func := "florilegium/florilegiumlaw05.FlateMost", spec := "flateMost", unfollowed := true, recurses := true, plainKeys := false, apart := false }
def FlateMostSaid : Prop := flateMostRow.holds Try.pinned (OpenSpec.ofChange flateMostSpec)

/-- ITS FALSE NEIGHBOUR: 'it returns false'. Refute it at one input. -/
def flateMostWrong : ChangeSpec := { name := "flateMost", fn := fun _ => fun
  | [d1, d2] => { results := [.lit (.bool false)], args := [d1, d2] }
  | _ => none }
def FlateMostWrongFalsely : Prop := flateMostRow.holds Try.pinned (OpenSpec.ofChange flateMostWrong)

/-- 'florilegiumlaw05.FlateBack': WHATEVER THE INPUT: true; the input reads as it did. -/
def flateBackSpec : ChangeSpec := { name := "flateBack", fn := fun _ => fun
  | [d1, d2, d3, d4, d5] => { results := [.lit (.bool true)], args := [d1, d2, d3, d4, d5] }
  | _ => none }
def flateBackRow : OpenClaim := { program := "ytihgekpijplfiaa", sum := "f67b590a39969806733f839d206220c4342e8440dc54e25d50c3e168fb8e5710", func := "florilegium/florilegiumlaw05.FlateBack", spec := "flateBack", unfollowed := true, recurses := true, plainKeys := false, apart := false }
def FlateBackSaid : Prop := flateBackRow.holds Try.pinned (OpenSpec.ofChange flateBackSpec)

/-- ITS FALSE NEIGHBOUR: 'it returns false'. Refute it at one input. -/
def flateBackWrong : ChangeSpec := { name := "flateBack", fn := fun _ => fun
  | [d1, d2, d3, d4, d5] => { results := [.lit (.bool false)], args := [d1, d2, d3, d4, d5] }
  | _ => none }
def FlateBackWrongFalsely : Prop := flateBackRow.holds Try.pinned (OpenSpec.ofChange flateBackWrong)

/- THE SECOND FORM. 'bulk': how many values and letters a reading holds, each counted each time it is reached (what is shared counts as often as it is met; a slice's spare places count too). A statement '..UptoSaid' is the law's where the arguments, and the package variables that the reading takes, are together of bulk at most 1048576: NARROWER than '..Said'. Prove '..Said' where nothing that the law and all that it calls make is longer than what came in: it says more and counts as full. Else prove '..UptoSaid'. A law counts once. -/
mutual
def uptoBulk {H : Type} : DataW H → Nat
  | .lit (.string bytes) => bytes.length + 1
  | .lit _ => 1
  | .nil => 1
  | .ptr d => uptoBulk d + 1
  | .slice elems spare => uptoBulkAll elems + uptoBulkAll spare + 1
  | .agg parts => uptoBulkAll parts + 1
  | .iface _ d => uptoBulk d + 1
  | .map entries => uptoBulkEntries entries + 1
  | .held _ => 1
def uptoBulkAll {H : Type} : List (DataW H) → Nat
  | [] => 0
  | d :: r => uptoBulk d + uptoBulkAll r
def uptoBulkEntries {H : Type} : List (Lit × DataW H) → Nat
  | [] => 0
  | x :: r => uptoBulkEntry x + uptoBulkEntries r
def uptoBulkEntry {H : Type} : Lit × DataW H → Nat
  | (.string bytes, d) => bytes.length + uptoBulk d + 1
  | (_, d) => uptoBulk d + 1
 end
def uptoSmall : (H : Type) → List (DataW H) → Bool := fun _ ds => decide (uptoBulkAll ds ≤ 1048576)
def OpenSpec.upto (s : _root_.Go.ChangeSpec) : _root_.Go.OpenSpec := { _root_.Go.OpenSpec.ofChange s with cond := some uptoSmall }

/-- 'florilegiumlaw03.HuffForms', WHERE WHAT IT READS IS OF BULK AT MOST 1048576: true; the input reads as it did. -/
def huffFormsUptoRow : OpenClaim := { program := "ytihgekpijplfiaa", sum := "f67b590a39969806733f839d206220c4342e8440dc54e25d50c3e168fb8e5710", func := "florilegium/florilegiumlaw03.HuffForms", spec := "huffForms", plainKeys := false, apart := false, narrowed := true }
def HuffFormsUptoSaid : Prop := huffFormsUptoRow.holds Try.pinned (OpenSpec.upto huffFormsSpec)

/-- 'florilegiumlaw03.HuffCodes', WHERE WHAT IT READS IS OF BULK AT MOST 1048576: true; the input reads as it did. -/
def huffCodesUptoRow : OpenClaim := { program := "ytihgekpijplfiaa", sum := "f67b590a39969806733f839d206220c4342e8440dc54e25d50c3e168fb8e5710", func := "florilegium/florilegiumlaw03.HuffCodes", spec := "huffCodes", plainKeys := false, apart := false, narrowed := true }
def HuffCodesUptoSaid : Prop := huffCodesUptoRow.holds Try.pinned (OpenSpec.upto huffCodesSpec)

/-- 'florilegiumlaw02.BitsEnds', WHERE WHAT IT READS IS OF BULK AT MOST 1048576: true; the input reads as it did. -/
def bitsEndsUptoRow : OpenClaim := { program := "ytihgekpijplfiaa", sum := "f67b590a39969806733f839d206220c4342e8440dc54e25d50c3e168fb8e5710", func := "florilegium/florilegiumlaw02.BitsEnds", spec := "bitsEnds", plainKeys := false, apart := false, narrowed := true }
def BitsEndsUptoSaid : Prop := bitsEndsUptoRow.holds Try.pinned (OpenSpec.upto bitsEndsSpec)

/-- 'florilegiumlaw02.BitsAlign', WHERE WHAT IT READS IS OF BULK AT MOST 1048576: true; the input reads as it did. -/
def bitsAlignUptoRow : OpenClaim := { program := "ytihgekpijplfiaa", sum := "f67b590a39969806733f839d206220c4342e8440dc54e25d50c3e168fb8e5710", func := "florilegium/florilegiumlaw02.BitsAlign", spec := "bitsAlign", plainKeys := false, apart := false, narrowed := true }
def BitsAlignUptoSaid : Prop := bitsAlignUptoRow.holds Try.pinned (OpenSpec.upto bitsAlignSpec)

/-- 'florilegiumlaw02.BitsRead', WHERE WHAT IT READS IS OF BULK AT MOST 1048576: true; the input reads as it did. -/
def bitsReadUptoRow : OpenClaim := { program := "ytihgekpijplfiaa", sum := "f67b590a39969806733f839d206220c4342e8440dc54e25d50c3e168fb8e5710", func := "florilegium/florilegiumlaw02.BitsRead", spec := "bitsRead", plainKeys := false, apart := false, narrowed := true }
def BitsReadUptoSaid : Prop := bitsReadUptoRow.holds Try.pinned (OpenSpec.upto bitsReadSpec)

/-- 'florilegiumlaw02.BitsBack', WHERE WHAT IT READS IS OF BULK AT MOST 1048576: true; the input reads as it did. -/
def bitsBackUptoRow : OpenClaim := { program := "ytihgekpijplfiaa", sum := "f67b590a39969806733f839d206220c4342e8440dc54e25d50c3e168fb8e5710", func := "florilegium/florilegiumlaw02.BitsBack", spec := "bitsBack", plainKeys := false, apart := false, narrowed := true }
def BitsBackUptoSaid : Prop := bitsBackUptoRow.holds Try.pinned (OpenSpec.upto bitsBackSpec)

/-- 'florilegiumlaw04.LzTells', WHERE WHAT IT READS IS OF BULK AT MOST 1048576: true; the input reads as it did. -/
def lzTellsUptoRow : OpenClaim := { program := "ytihgekpijplfiaa", sum := "f67b590a39969806733f839d206220c4342e8440dc54e25d50c3e168fb8e5710", func := "florilegium/florilegiumlaw04.LzTells", spec := "lzTells", plainKeys := false, apart := false, narrowed := true }
def LzTellsUptoSaid : Prop := lzTellsUptoRow.holds Try.pinned (OpenSpec.upto lzTellsSpec)

/-- 'florilegiumlaw03.HuffOne', WHERE WHAT IT READS IS OF BULK AT MOST 1048576: true; the input reads as it did. -/
def huffOneUptoRow : OpenClaim := { program := "ytihgekpijplfiaa", sum := "f67b590a39969806733f839d206220c4342e8440dc54e25d50c3e168fb8e5710", func := "florilegium/florilegiumlaw03.HuffOne", spec := "huffOne", plainKeys := false, apart := false, narrowed := true }
def HuffOneUptoSaid : Prop := huffOneUptoRow.holds Try.pinned (OpenSpec.upto huffOneSpec)

/-- 'florilegiumlaw03.HuffReads', WHERE WHAT IT READS IS OF BULK AT MOST 1048576: true; the input reads as it did. -/
def huffReadsUptoRow : OpenClaim := { program := "ytihgekpijplfiaa", sum := "f67b590a39969806733f839d206220c4342e8440dc54e25d50c3e168fb8e5710", func := "florilegium/florilegiumlaw03.HuffReads", spec := "huffReads", plainKeys := false, apart := false, narrowed := true }
def HuffReadsUptoSaid : Prop := huffReadsUptoRow.holds Try.pinned (OpenSpec.upto huffReadsSpec)

/-- 'florilegiumlaw03.HuffBack', WHERE WHAT IT READS IS OF BULK AT MOST 1048576: true; the input reads as it did. -/
def huffBackUptoRow : OpenClaim := { program := "ytihgekpijplfiaa", sum := "f67b590a39969806733f839d206220c4342e8440dc54e25d50c3e168fb8e5710", func := "florilegium/florilegiumlaw03.HuffBack", spec := "huffBack", plainKeys := false, apart := false, narrowed := true }
def HuffBackUptoSaid : Prop := huffBackUptoRow.holds Try.pinned (OpenSpec.upto huffBackSpec)

/-- 'florilegiumlaw05.FlateForms', WHERE WHAT IT READS IS OF BULK AT MOST 1048576: true; the input reads as it did. -/
def flateFormsUptoRow : OpenClaim := { program := "ytihgekpijplfiaa", sum := "f67b590a39969806733f839d206220c4342e8440dc54e25d50c3e168fb8e5710", func := "florilegium/florilegiumlaw05.FlateForms", spec := "flateForms", unfollowed := true, recurses := true, plainKeys := false, apart := false, narrowed := true }
def FlateFormsUptoSaid : Prop := flateFormsUptoRow.holds Try.pinned (OpenSpec.upto flateFormsSpec)

/-- 'florilegiumlaw05.FlateBlocks', WHERE WHAT IT READS IS OF BULK AT MOST 1048576: true; the input reads as it did. -/
def flateBlocksUptoRow : OpenClaim := { program := "ytihgekpijplfiaa", sum := "f67b590a39969806733f839d206220c4342e8440dc54e25d50c3e168fb8e5710", func := "florilegium/florilegiumlaw05.FlateBlocks", spec := "flateBlocks", unfollowed := true, recurses := true, plainKeys := false, apart := false, narrowed := true }
def FlateBlocksUptoSaid : Prop := flateBlocksUptoRow.holds Try.pinned (OpenSpec.upto flateBlocksSpec)

/-- 'florilegiumlaw05.FlateMost', WHERE WHAT IT READS IS OF BULK AT MOST 1048576: true; the input reads as it did. -/
def flateMostUptoRow : OpenClaim := { program := "ytihgekpijplfiaa", sum := "f67b590a39969806733f839d206220c4342e8440dc54e25d50c3e168fb8e5710", func := "florilegium/florilegiumlaw05.FlateMost", spec := "flateMost", unfollowed := true, recurses := true, plainKeys := false, apart := false, narrowed := true }
def FlateMostUptoSaid : Prop := flateMostUptoRow.holds Try.pinned (OpenSpec.upto flateMostSpec)

/-- 'florilegiumlaw05.FlateBack', WHERE WHAT IT READS IS OF BULK AT MOST 1048576: true; the input reads as it did. -/
def flateBackUptoRow : OpenClaim := { program := "ytihgekpijplfiaa", sum := "f67b590a39969806733f839d206220c4342e8440dc54e25d50c3e168fb8e5710", func := "florilegium/florilegiumlaw05.FlateBack", spec := "flateBack", unfollowed := true, recurses := true, plainKeys := false, apart := false, narrowed := true }
def FlateBackUptoSaid : Prop := flateBackUptoRow.holds Try.pinned (OpenSpec.upto flateBackSpec)

end Rows
end Go.Proofs.Ytihgekpijplfiaa
