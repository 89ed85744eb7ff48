/-
  No cell of these rows narrows 'for every input' (looked for: loops, veiled, ifaces, maps, wideKeys, modest, calm, conditions, laid).
  DERIVED. THE GIVEN ROWS OF THIS SEAT. 12 by the template 'for every input the law returns true; each argument reads behind the call as it read before'; 0 by the template 'total and deterministic' (their statements: YtcaaapfminenoaaTotals.lean).
  GIVEN WITH THE SEED: the statements are not yours to turn. If you find one false, say at which input.
  Laid BY PROGRAM, IN A SANDBOX (cutbox-rows.mjs): the forced cells as the released guide's own fill.sh prints them over the translation 729ddc3b9c987ed6… (all of the seat's roots in one cut). By AI agents, Wed Nov 11 2026. No macro, syntax, notation, axiom, sorry.
-/
import Derived.Test.YtcaaapfminenoaaChecked
import GoSem.Claim
import GoSem.ClaimJoined
import GoSem.ClaimMapViews
import Derived.JoinedTies
import Derived.KernelRfl
namespace Go.Proofs.Ytcaaapfminenoaa
/- THE CELL 'sum', in the pinned program and in every row, IS THE sha256 OF THE DUMP (.gsa) THAT YtcaaapfminenoaaProg.lean LOADS. Nothing in Lean hashes anything: it is a label: what it is worth is what the hold of that sum in a sandbox is worth. -/
noncomputable def Try.pinned : Pinned := { name := "ytcaaapfminenoaa", sum := "729ddc3b9c987ed6bfad14e87673de2d63912601745633df29de99688414fd33", checked := Try.checked }
namespace Rows
def none {H : Type} : Left H := { results := [], args := [] }

/-- 'sabretachelaw01.CtSums': WHATEVER THE INPUT: true; the input reads as it did. -/
def ctSumsSpec : ChangeSpec := { name := "ctSums", fn := fun _ => fun
  | [d1, d2] => { results := [.lit (.bool true)], args := [d1, d2] }
  | _ => none }
def ctSumsRow : OpenClaim := { program := "ytcaaapfminenoaa", sum := "729ddc3b9c987ed6bfad14e87673de2d63912601745633df29de99688414fd33", func := "sabretache/sabretachelaw01.CtSums", spec := "ctSums", apart := false }
def CtSumsSaid : Prop := ctSumsRow.holds Try.pinned (OpenSpec.ofChange ctSumsSpec)

/-- ITS FALSE NEIGHBOUR: 'it returns false'. Refute it at one input. -/
def ctSumsWrong : ChangeSpec := { name := "ctSums", fn := fun _ => fun
  | [d1, d2] => { results := [.lit (.bool false)], args := [d1, d2] }
  | _ => none }
def CtSumsWrongFalsely : Prop := ctSumsRow.holds Try.pinned (OpenSpec.ofChange ctSumsWrong)

/-- 'sabretachelaw01.CtBits': WHATEVER THE INPUT: true; the input reads as it did. -/
def ctBitsSpec : ChangeSpec := { name := "ctBits", fn := fun _ => fun
  | [d1, d2] => { results := [.lit (.bool true)], args := [d1, d2] }
  | _ => none }
def ctBitsRow : OpenClaim := { program := "ytcaaapfminenoaa", sum := "729ddc3b9c987ed6bfad14e87673de2d63912601745633df29de99688414fd33", func := "sabretache/sabretachelaw01.CtBits", spec := "ctBits", apart := false }
def CtBitsSaid : Prop := ctBitsRow.holds Try.pinned (OpenSpec.ofChange ctBitsSpec)

/-- ITS FALSE NEIGHBOUR: 'it returns false'. Refute it at one input. -/
def ctBitsWrong : ChangeSpec := { name := "ctBits", fn := fun _ => fun
  | [d1, d2] => { results := [.lit (.bool false)], args := [d1, d2] }
  | _ => none }
def CtBitsWrongFalsely : Prop := ctBitsRow.holds Try.pinned (OpenSpec.ofChange ctBitsWrong)

/-- 'sabretachelaw01.CtBlanks': WHATEVER THE INPUT: true; the input reads as it did. -/
def ctBlanksSpec : ChangeSpec := { name := "ctBlanks", fn := fun _ => fun
  | [d] => { results := [.lit (.bool true)], args := [d] }
  | _ => none }
def ctBlanksRow : OpenClaim := { program := "ytcaaapfminenoaa", sum := "729ddc3b9c987ed6bfad14e87673de2d63912601745633df29de99688414fd33", func := "sabretache/sabretachelaw01.CtBlanks", spec := "ctBlanks", apart := false }
def CtBlanksSaid : Prop := ctBlanksRow.holds Try.pinned (OpenSpec.ofChange ctBlanksSpec)

/-- ITS FALSE NEIGHBOUR: 'it returns false'. Refute it at one input. -/
def ctBlanksWrong : ChangeSpec := { name := "ctBlanks", fn := fun _ => fun
  | [d] => { results := [.lit (.bool false)], args := [d] }
  | _ => none }
def CtBlanksWrongFalsely : Prop := ctBlanksRow.holds Try.pinned (OpenSpec.ofChange ctBlanksWrong)

/-- 'sabretachelaw01.CtAsks': WHATEVER THE INPUT: true; the input reads as it did. -/
def ctAsksSpec : ChangeSpec := { name := "ctAsks", fn := fun _ => fun
  | [d1, d2, d3] => { results := [.lit (.bool true)], args := [d1, d2, d3] }
  | _ => none }
def ctAsksRow : OpenClaim := { program := "ytcaaapfminenoaa", sum := "729ddc3b9c987ed6bfad14e87673de2d63912601745633df29de99688414fd33", func := "sabretache/sabretachelaw01.CtAsks", spec := "ctAsks", apart := false }
def CtAsksSaid : Prop := ctAsksRow.holds Try.pinned (OpenSpec.ofChange ctAsksSpec)

/-- ITS FALSE NEIGHBOUR: 'it returns false'. Refute it at one input. -/
def ctAsksWrong : ChangeSpec := { name := "ctAsks", fn := fun _ => fun
  | [d1, d2, d3] => { results := [.lit (.bool false)], args := [d1, d2, d3] }
  | _ => none }
def CtAsksWrongFalsely : Prop := ctAsksRow.holds Try.pinned (OpenSpec.ofChange ctAsksWrong)

/-- 'sabretachelaw01.CtMoves': WHATEVER THE INPUT: true; the input reads as it did. -/
def ctMovesSpec : ChangeSpec := { name := "ctMoves", fn := fun _ => fun
  | [d1, d2] => { results := [.lit (.bool true)], args := [d1, d2] }
  | _ => none }
def ctMovesRow : OpenClaim := { program := "ytcaaapfminenoaa", sum := "729ddc3b9c987ed6bfad14e87673de2d63912601745633df29de99688414fd33", func := "sabretache/sabretachelaw01.CtMoves", spec := "ctMoves", apart := false }
def CtMovesSaid : Prop := ctMovesRow.holds Try.pinned (OpenSpec.ofChange ctMovesSpec)

/-- ITS FALSE NEIGHBOUR: 'it returns false'. Refute it at one input. -/
def ctMovesWrong : ChangeSpec := { name := "ctMoves", fn := fun _ => fun
  | [d1, d2] => { results := [.lit (.bool false)], args := [d1, d2] }
  | _ => none }
def CtMovesWrongFalsely : Prop := ctMovesRow.holds Try.pinned (OpenSpec.ofChange ctMovesWrong)

/-- 'sabretachelaw01.CtLogs': WHATEVER THE INPUT: true; the input reads as it did. -/
def ctLogsSpec : ChangeSpec := { name := "ctLogs", fn := fun _ => fun
  | [d] => { results := [.lit (.bool true)], args := [d] }
  | _ => none }
def ctLogsRow : OpenClaim := { program := "ytcaaapfminenoaa", sum := "729ddc3b9c987ed6bfad14e87673de2d63912601745633df29de99688414fd33", func := "sabretache/sabretachelaw01.CtLogs", spec := "ctLogs", apart := false }
def CtLogsSaid : Prop := ctLogsRow.holds Try.pinned (OpenSpec.ofChange ctLogsSpec)

/-- ITS FALSE NEIGHBOUR: 'it returns false'. Refute it at one input. -/
def ctLogsWrong : ChangeSpec := { name := "ctLogs", fn := fun _ => fun
  | [d] => { results := [.lit (.bool false)], args := [d] }
  | _ => none }
def CtLogsWrongFalsely : Prop := ctLogsRow.holds Try.pinned (OpenSpec.ofChange ctLogsWrong)

/-- 'sabretachelaw06.SeekFinds': WHATEVER THE INPUT: true; the input reads as it did. -/
def seekFindsSpec : ChangeSpec := { name := "seekFinds", fn := fun _ => fun
  | [d1, d2, d3] => { results := [.lit (.bool true)], args := [d1, d2, d3] }
  | _ => none }
def seekFindsRow : OpenClaim := { program := "ytcaaapfminenoaa", sum := "729ddc3b9c987ed6bfad14e87673de2d63912601745633df29de99688414fd33", func := "sabretache/sabretachelaw06.SeekFinds", spec := "seekFinds", apart := false }
def SeekFindsSaid : Prop := seekFindsRow.holds Try.pinned (OpenSpec.ofChange seekFindsSpec)

/-- ITS FALSE NEIGHBOUR: 'it returns false'. Refute it at one input. -/
def seekFindsWrong : ChangeSpec := { name := "seekFinds", fn := fun _ => fun
  | [d1, d2, d3] => { results := [.lit (.bool false)], args := [d1, d2, d3] }
  | _ => none }
def SeekFindsWrongFalsely : Prop := seekFindsRow.holds Try.pinned (OpenSpec.ofChange seekFindsWrong)

/-- 'sabretachelaw06.SeekPairs': WHATEVER THE INPUT: true; the input reads as it did. -/
def seekPairsSpec : ChangeSpec := { name := "seekPairs", fn := fun _ => fun
  | [d1, d2, d3] => { results := [.lit (.bool true)], args := [d1, d2, d3] }
  | _ => none }
def seekPairsRow : OpenClaim := { program := "ytcaaapfminenoaa", sum := "729ddc3b9c987ed6bfad14e87673de2d63912601745633df29de99688414fd33", func := "sabretache/sabretachelaw06.SeekPairs", spec := "seekPairs", apart := false }
def SeekPairsSaid : Prop := seekPairsRow.holds Try.pinned (OpenSpec.ofChange seekPairsSpec)

/-- ITS FALSE NEIGHBOUR: 'it returns false'. Refute it at one input. -/
def seekPairsWrong : ChangeSpec := { name := "seekPairs", fn := fun _ => fun
  | [d1, d2, d3] => { results := [.lit (.bool false)], args := [d1, d2, d3] }
  | _ => none }
def SeekPairsWrongFalsely : Prop := seekPairsRow.holds Try.pinned (OpenSpec.ofChange seekPairsWrong)

/-- 'sabretachelaw11.HangulJoins': WHATEVER THE INPUT: true; the input reads as it did. -/
def hangulJoinsSpec : ChangeSpec := { name := "hangulJoins", fn := fun _ => fun
  | [d1, d2] => { results := [.lit (.bool true)], args := [d1, d2] }
  | _ => none }
def hangulJoinsRow : OpenClaim := { program := "ytcaaapfminenoaa", sum := "729ddc3b9c987ed6bfad14e87673de2d63912601745633df29de99688414fd33", func := "sabretache/sabretachelaw11.HangulJoins", spec := "hangulJoins", apart := false }
def HangulJoinsSaid : Prop := hangulJoinsRow.holds Try.pinned (OpenSpec.ofChange hangulJoinsSpec)

/-- ITS FALSE NEIGHBOUR: 'it returns false'. Refute it at one input. -/
def hangulJoinsWrong : ChangeSpec := { name := "hangulJoins", fn := fun _ => fun
  | [d1, d2] => { results := [.lit (.bool false)], args := [d1, d2] }
  | _ => none }
def HangulJoinsWrongFalsely : Prop := hangulJoinsRow.holds Try.pinned (OpenSpec.ofChange hangulJoinsWrong)

/-- 'sabretachelaw42.SharesField': WHATEVER THE INPUT: true; the input reads as it did. -/
def sharesFieldSpec : ChangeSpec := { name := "sharesField", fn := fun _ => fun
  | [d1, d2, d3] => { results := [.lit (.bool true)], args := [d1, d2, d3] }
  | _ => none }
def sharesFieldRow : OpenClaim := { program := "ytcaaapfminenoaa", sum := "729ddc3b9c987ed6bfad14e87673de2d63912601745633df29de99688414fd33", func := "sabretache/sabretachelaw42.SharesField", spec := "sharesField", apart := false }
def SharesFieldSaid : Prop := sharesFieldRow.holds Try.pinned (OpenSpec.ofChange sharesFieldSpec)

/-- ITS FALSE NEIGHBOUR: 'it returns false'. Refute it at one input. -/
def sharesFieldWrong : ChangeSpec := { name := "sharesField", fn := fun _ => fun
  | [d1, d2, d3] => { results := [.lit (.bool false)], args := [d1, d2, d3] }
  | _ => none }
def SharesFieldWrongFalsely : Prop := sharesFieldRow.holds Try.pinned (OpenSpec.ofChange sharesFieldWrong)

/-- 'sabretachelaw11.HangulParts': WHATEVER THE INPUT: true; the input reads as it did. -/
def hangulPartsSpec : ChangeSpec := { name := "hangulParts", fn := fun _ => fun
  | [d1, d2] => { results := [.lit (.bool true)], args := [d1, d2] }
  | _ => none }
def hangulPartsRow : OpenClaim := { program := "ytcaaapfminenoaa", sum := "729ddc3b9c987ed6bfad14e87673de2d63912601745633df29de99688414fd33", func := "sabretache/sabretachelaw11.HangulParts", spec := "hangulParts", apart := false }
def HangulPartsSaid : Prop := hangulPartsRow.holds Try.pinned (OpenSpec.ofChange hangulPartsSpec)

/-- ITS FALSE NEIGHBOUR: 'it returns false'. Refute it at one input. -/
def hangulPartsWrong : ChangeSpec := { name := "hangulParts", fn := fun _ => fun
  | [d1, d2] => { results := [.lit (.bool false)], args := [d1, d2] }
  | _ => none }
def HangulPartsWrongFalsely : Prop := hangulPartsRow.holds Try.pinned (OpenSpec.ofChange hangulPartsWrong)

/-- 'sabretachelaw06.SeekSpans': WHATEVER THE INPUT: true; the input reads as it did. -/
def seekSpansSpec : ChangeSpec := { name := "seekSpans", fn := fun _ => fun
  | [d1, d2] => { results := [.lit (.bool true)], args := [d1, d2] }
  | _ => none }
def seekSpansRow : OpenClaim := { program := "ytcaaapfminenoaa", sum := "729ddc3b9c987ed6bfad14e87673de2d63912601745633df29de99688414fd33", func := "sabretache/sabretachelaw06.SeekSpans", spec := "seekSpans", apart := false }
def SeekSpansSaid : Prop := seekSpansRow.holds Try.pinned (OpenSpec.ofChange seekSpansSpec)

/-- ITS FALSE NEIGHBOUR: 'it returns false'. Refute it at one input. -/
def seekSpansWrong : ChangeSpec := { name := "seekSpans", fn := fun _ => fun
  | [d1, d2] => { results := [.lit (.bool false)], args := [d1, d2] }
  | _ => none }
def SeekSpansWrongFalsely : Prop := seekSpansRow.holds Try.pinned (OpenSpec.ofChange seekSpansWrong)

/- THE SECOND FORM. 'bulk': how many values and letters a reading holds, each counted each time it is reached (what is shared counts as often as it is met; a slice's spare places count too). A statement '..UptoSaid' is the law's where the arguments, and the package variables that the reading takes, are together of bulk at most 1048576: NARROWER than '..Said'. Prove '..Said' where nothing that the law and all that it calls make is longer than what came in: it says more and counts as full. Else prove '..UptoSaid'. A law counts once. -/
mutual
def uptoBulk {H : Type} : DataW H → Nat
  | .lit (.string bytes) => bytes.length + 1
  | .lit _ => 1
  | .nil => 1
  | .ptr d => uptoBulk d + 1
  | .slice elems spare => uptoBulkAll elems + uptoBulkAll spare + 1
  | .agg parts => uptoBulkAll parts + 1
  | .iface _ d => uptoBulk d + 1
  | .map entries => uptoBulkEntries entries + 1
  | .held _ => 1
def uptoBulkAll {H : Type} : List (DataW H) → Nat
  | [] => 0
  | d :: r => uptoBulk d + uptoBulkAll r
def uptoBulkEntries {H : Type} : List (Lit × DataW H) → Nat
  | [] => 0
  | x :: r => uptoBulkEntry x + uptoBulkEntries r
def uptoBulkEntry {H : Type} : Lit × DataW H → Nat
  | (.string bytes, d) => bytes.length + uptoBulk d + 1
  | (_, d) => uptoBulk d + 1
 end
def uptoSmall : (H : Type) → List (DataW H) → Bool := fun _ ds => decide (uptoBulkAll ds ≤ 1048576)
def OpenSpec.upto (s : _root_.Go.ChangeSpec) : _root_.Go.OpenSpec := { _root_.Go.OpenSpec.ofChange s with cond := some uptoSmall }

/-- 'sabretachelaw01.CtSums', WHERE WHAT IT READS IS OF BULK AT MOST 1048576: true; the input reads as it did. -/
def ctSumsUptoRow : OpenClaim := { program := "ytcaaapfminenoaa", sum := "729ddc3b9c987ed6bfad14e87673de2d63912601745633df29de99688414fd33", func := "sabretache/sabretachelaw01.CtSums", spec := "ctSums", apart := false, narrowed := true }
def CtSumsUptoSaid : Prop := ctSumsUptoRow.holds Try.pinned (OpenSpec.upto ctSumsSpec)

/-- 'sabretachelaw01.CtBits', WHERE WHAT IT READS IS OF BULK AT MOST 1048576: true; the input reads as it did. -/
def ctBitsUptoRow : OpenClaim := { program := "ytcaaapfminenoaa", sum := "729ddc3b9c987ed6bfad14e87673de2d63912601745633df29de99688414fd33", func := "sabretache/sabretachelaw01.CtBits", spec := "ctBits", apart := false, narrowed := true }
def CtBitsUptoSaid : Prop := ctBitsUptoRow.holds Try.pinned (OpenSpec.upto ctBitsSpec)

/-- 'sabretachelaw01.CtBlanks', WHERE WHAT IT READS IS OF BULK AT MOST 1048576: true; the input reads as it did. -/
def ctBlanksUptoRow : OpenClaim := { program := "ytcaaapfminenoaa", sum := "729ddc3b9c987ed6bfad14e87673de2d63912601745633df29de99688414fd33", func := "sabretache/sabretachelaw01.CtBlanks", spec := "ctBlanks", apart := false, narrowed := true }
def CtBlanksUptoSaid : Prop := ctBlanksUptoRow.holds Try.pinned (OpenSpec.upto ctBlanksSpec)

/-- 'sabretachelaw01.CtAsks', WHERE WHAT IT READS IS OF BULK AT MOST 1048576: true; the input reads as it did. -/
def ctAsksUptoRow : OpenClaim := { program := "ytcaaapfminenoaa", sum := "729ddc3b9c987ed6bfad14e87673de2d63912601745633df29de99688414fd33", func := "sabretache/sabretachelaw01.CtAsks", spec := "ctAsks", apart := false, narrowed := true }
def CtAsksUptoSaid : Prop := ctAsksUptoRow.holds Try.pinned (OpenSpec.upto ctAsksSpec)

/-- 'sabretachelaw01.CtMoves', WHERE WHAT IT READS IS OF BULK AT MOST 1048576: true; the input reads as it did. -/
def ctMovesUptoRow : OpenClaim := { program := "ytcaaapfminenoaa", sum := "729ddc3b9c987ed6bfad14e87673de2d63912601745633df29de99688414fd33", func := "sabretache/sabretachelaw01.CtMoves", spec := "ctMoves", apart := false, narrowed := true }
def CtMovesUptoSaid : Prop := ctMovesUptoRow.holds Try.pinned (OpenSpec.upto ctMovesSpec)

/-- 'sabretachelaw01.CtLogs', WHERE WHAT IT READS IS OF BULK AT MOST 1048576: true; the input reads as it did. -/
def ctLogsUptoRow : OpenClaim := { program := "ytcaaapfminenoaa", sum := "729ddc3b9c987ed6bfad14e87673de2d63912601745633df29de99688414fd33", func := "sabretache/sabretachelaw01.CtLogs", spec := "ctLogs", apart := false, narrowed := true }
def CtLogsUptoSaid : Prop := ctLogsUptoRow.holds Try.pinned (OpenSpec.upto ctLogsSpec)

/-- 'sabretachelaw06.SeekFinds', WHERE WHAT IT READS IS OF BULK AT MOST 1048576: true; the input reads as it did. -/
def seekFindsUptoRow : OpenClaim := { program := "ytcaaapfminenoaa", sum := "729ddc3b9c987ed6bfad14e87673de2d63912601745633df29de99688414fd33", func := "sabretache/sabretachelaw06.SeekFinds", spec := "seekFinds", apart := false, narrowed := true }
def SeekFindsUptoSaid : Prop := seekFindsUptoRow.holds Try.pinned (OpenSpec.upto seekFindsSpec)

/-- 'sabretachelaw06.SeekPairs', WHERE WHAT IT READS IS OF BULK AT MOST 1048576: true; the input reads as it did. -/
def seekPairsUptoRow : OpenClaim := { program := "ytcaaapfminenoaa", sum := "729ddc3b9c987ed6bfad14e87673de2d63912601745633df29de99688414fd33", func := "sabretache/sabretachelaw06.SeekPairs", spec := "seekPairs", apart := false, narrowed := true }
def SeekPairsUptoSaid : Prop := seekPairsUptoRow.holds Try.pinned (OpenSpec.upto seekPairsSpec)

/-- 'sabretachelaw11.HangulJoins', WHERE WHAT IT READS IS OF BULK AT MOST 1048576: true; the input reads as it did. -/
def hangulJoinsUptoRow : OpenClaim := { program := "ytcaaapfminenoaa", sum := "729ddc3b9c987ed6bfad14e87673de2d63912601745633df29de99688414fd33", func := "sabretache/sabretachelaw11.HangulJoins", spec := "hangulJoins", apart := false, narrowed := true }
def HangulJoinsUptoSaid : Prop := hangulJoinsUptoRow.holds Try.pinned (OpenSpec.upto hangulJoinsSpec)

/-- 'sabretachelaw42.SharesField', WHERE WHAT IT READS IS OF BULK AT MOST 1048576: true; the input reads as it did. -/
def sharesFieldUptoRow : OpenClaim := { program := "ytcaaapfminenoaa", sum := "729ddc3b9c987ed6bfad14e87673de2d63912601745633df29de99688414fd33", func := "sabretache/sabretachelaw42.SharesField", spec := "sharesField", apart := false, narrowed := true }
def SharesFieldUptoSaid : Prop := sharesFieldUptoRow.holds Try.pinned (OpenSpec.upto sharesFieldSpec)

/-- 'sabretachelaw11.HangulParts', WHERE WHAT IT READS IS OF BULK AT MOST 1048576: true; the input reads as it did. -/
def hangulPartsUptoRow : OpenClaim := { program := "ytcaaapfminenoaa", sum := "729ddc3b9c987ed6bfad14e87673de2d63912601745633df29de99688414fd33", func := "sabretache/sabretachelaw11.HangulParts", spec := "hangulParts", apart := false, narrowed := true }
def HangulPartsUptoSaid : Prop := hangulPartsUptoRow.holds Try.pinned (OpenSpec.upto hangulPartsSpec)

/-- 'sabretachelaw06.SeekSpans', WHERE WHAT IT READS IS OF BULK AT MOST 1048576: true; the input reads as it did. -/
def seekSpansUptoRow : OpenClaim := { program := "ytcaaapfminenoaa", sum := "729ddc3b9c987ed6bfad14e87673de2d63912601745633df29de99688414fd33", func := "sabretache/sabretachelaw06.SeekSpans", spec := "seekSpans", apart := false, narrowed := true }
def SeekSpansUptoSaid : Prop := seekSpansUptoRow.holds Try.pinned (OpenSpec.upto seekSpansSpec)

end Rows
end Go.Proofs.Ytcaaapfminenoaa
