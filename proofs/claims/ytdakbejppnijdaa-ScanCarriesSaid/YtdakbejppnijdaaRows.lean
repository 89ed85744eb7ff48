/-
  No cell of these rows narrows 'for every input' (looked for: loops, veiled, ifaces, maps, wideKeys, modest, calm, conditions, laid).
  DERIVED. THE GIVEN ROWS OF THIS SEAT. 10 by the template 'for every input the law returns true; each argument reads behind the call as it read before'; 0 by the template 'total and deterministic' (their statements: YtdakbejppnijdaaTotals.lean).
  GIVEN WITH THE SEED: the statements are not yours to turn. If you find one false, say at which input.
  Laid BY PROGRAM, IN A SANDBOX (cutbox-rows.mjs): the forced cells as the released guide's own fill.sh prints them over the translation b1dd61e5a01fcbe7… (all of the seat's roots in one cut). By AI agents, Wed Nov 11 2026. No macro, syntax, notation, axiom, sorry.
-/
import Derived.Test.YtdakbejppnijdaaChecked
import GoSem.Claim
import GoSem.ClaimJoined
import GoSem.ClaimMapViews
import Derived.JoinedTies
import Derived.KernelRfl
namespace Go.Proofs.Ytdakbejppnijdaa
/- THE CELL 'sum', in the pinned program and in every row, IS THE sha256 OF THE DUMP (.gsa) THAT YtdakbejppnijdaaProg.lean LOADS. Nothing in Lean hashes anything: it is a label: what it is worth is what the hold of that sum in a sandbox is worth. -/
noncomputable def Try.pinned : Pinned := { name := "ytdakbejppnijdaa", sum := "b1dd61e5a01fcbe749e954b61b435cc33e607b4b5d4567f643cadb2e202035ba", checked := Try.checked }
namespace Rows
def none {H : Type} : Left H := { results := [], args := [] }

/-- 'sabretachelaw05.ScanRuns': WHATEVER THE INPUT: true; the input reads as it did. -/
def scanRunsSpec : ChangeSpec := { name := "scanRuns", fn := fun _ => fun
  | [d1, d2] => { results := [.lit (.bool true)], args := [d1, d2] }
  | _ => none }
def scanRunsRow : OpenClaim := { program := "ytdakbejppnijdaa", sum := "b1dd61e5a01fcbe749e954b61b435cc33e607b4b5d4567f643cadb2e202035ba", func := "sabretache/sabretachelaw05.ScanRuns", spec := "scanRuns", unfollowed := true, recurses := true, apart := false }
def ScanRunsSaid : Prop := scanRunsRow.holds Try.pinned (OpenSpec.ofChange scanRunsSpec)

/-- ITS FALSE NEIGHBOUR: 'it returns false'. Refute it at one input. -/
def scanRunsWrong : ChangeSpec := { name := "scanRuns", fn := fun _ => fun
  | [d1, d2] => { results := [.lit (.bool false)], args := [d1, d2] }
  | _ => none }
def ScanRunsWrongFalsely : Prop := scanRunsRow.holds Try.pinned (OpenSpec.ofChange scanRunsWrong)

/-- 'sabretachelaw42.SharesRefuses': WHATEVER THE INPUT: true; the input reads as it did. -/
def sharesRefusesSpec : ChangeSpec := { name := "sharesRefuses", fn := fun _ => fun
  | [d1, d2, d3] => { results := [.lit (.bool true)], args := [d1, d2, d3] }
  | _ => none }
def sharesRefusesRow : OpenClaim := { program := "ytdakbejppnijdaa", sum := "b1dd61e5a01fcbe749e954b61b435cc33e607b4b5d4567f643cadb2e202035ba", func := "sabretache/sabretachelaw42.SharesRefuses", spec := "sharesRefuses", unfollowed := true, recurses := true, apart := false }
def SharesRefusesSaid : Prop := sharesRefusesRow.holds Try.pinned (OpenSpec.ofChange sharesRefusesSpec)

/-- ITS FALSE NEIGHBOUR: 'it returns false'. Refute it at one input. -/
def sharesRefusesWrong : ChangeSpec := { name := "sharesRefuses", fn := fun _ => fun
  | [d1, d2, d3] => { results := [.lit (.bool false)], args := [d1, d2, d3] }
  | _ => none }
def SharesRefusesWrongFalsely : Prop := sharesRefusesRow.holds Try.pinned (OpenSpec.ofChange sharesRefusesWrong)

/-- 'sabretachelaw42.SharesJoin': WHATEVER THE INPUT: true; the input reads as it did. -/
def sharesJoinSpec : ChangeSpec := { name := "sharesJoin", fn := fun _ => fun
  | [d1, d2, d3] => { results := [.lit (.bool true)], args := [d1, d2, d3] }
  | _ => none }
def sharesJoinRow : OpenClaim := { program := "ytdakbejppnijdaa", sum := "b1dd61e5a01fcbe749e954b61b435cc33e607b4b5d4567f643cadb2e202035ba", func := "sabretache/sabretachelaw42.SharesJoin", spec := "sharesJoin", apart := false }
def SharesJoinSaid : Prop := sharesJoinRow.holds Try.pinned (OpenSpec.ofChange sharesJoinSpec)

/-- ITS FALSE NEIGHBOUR: 'it returns false'. Refute it at one input. -/
def sharesJoinWrong : ChangeSpec := { name := "sharesJoin", fn := fun _ => fun
  | [d1, d2, d3] => { results := [.lit (.bool false)], args := [d1, d2, d3] }
  | _ => none }
def SharesJoinWrongFalsely : Prop := sharesJoinRow.holds Try.pinned (OpenSpec.ofChange sharesJoinWrong)

/-- 'sabretachelaw05.ScanCarries': WHATEVER THE INPUT: true; the input reads as it did. -/
def scanCarriesSpec : ChangeSpec := { name := "scanCarries", fn := fun _ => fun
  | [d1, d2, d3] => { results := [.lit (.bool true)], args := [d1, d2, d3] }
  | _ => none }
def scanCarriesRow : OpenClaim := { program := "ytdakbejppnijdaa", sum := "b1dd61e5a01fcbe749e954b61b435cc33e607b4b5d4567f643cadb2e202035ba", func := "sabretache/sabretachelaw05.ScanCarries", spec := "scanCarries", unfollowed := true, recurses := true, apart := false }
def ScanCarriesSaid : Prop := scanCarriesRow.holds Try.pinned (OpenSpec.ofChange scanCarriesSpec)

/-- ITS FALSE NEIGHBOUR: 'it returns false'. Refute it at one input. -/
def scanCarriesWrong : ChangeSpec := { name := "scanCarries", fn := fun _ => fun
  | [d1, d2, d3] => { results := [.lit (.bool false)], args := [d1, d2, d3] }
  | _ => none }
def ScanCarriesWrongFalsely : Prop := scanCarriesRow.holds Try.pinned (OpenSpec.ofChange scanCarriesWrong)

/-- 'sabretachelaw12.ExpandRefuses': WHATEVER THE INPUT: true; the input reads as it did. -/
def expandRefusesSpec : ChangeSpec := { name := "expandRefuses", fn := fun _ => fun
  | [d1, d2] => { results := [.lit (.bool true)], args := [d1, d2] }
  | _ => none }
def expandRefusesRow : OpenClaim := { program := "ytdakbejppnijdaa", sum := "b1dd61e5a01fcbe749e954b61b435cc33e607b4b5d4567f643cadb2e202035ba", func := "sabretache/sabretachelaw12.ExpandRefuses", spec := "expandRefuses", apart := false }
def ExpandRefusesSaid : Prop := expandRefusesRow.holds Try.pinned (OpenSpec.ofChange expandRefusesSpec)

/-- ITS FALSE NEIGHBOUR: 'it returns false'. Refute it at one input. -/
def expandRefusesWrong : ChangeSpec := { name := "expandRefuses", fn := fun _ => fun
  | [d1, d2] => { results := [.lit (.bool false)], args := [d1, d2] }
  | _ => none }
def ExpandRefusesWrongFalsely : Prop := expandRefusesRow.holds Try.pinned (OpenSpec.ofChange expandRefusesWrong)

/-- 'sabretachelaw05.ScanRefuses': WHATEVER THE INPUT: true; the input reads as it did. -/
def scanRefusesSpec : ChangeSpec := { name := "scanRefuses", fn := fun _ => fun
  | [d1, d2, d3] => { results := [.lit (.bool true)], args := [d1, d2, d3] }
  | _ => none }
def scanRefusesRow : OpenClaim := { program := "ytdakbejppnijdaa", sum := "b1dd61e5a01fcbe749e954b61b435cc33e607b4b5d4567f643cadb2e202035ba", func := "sabretache/sabretachelaw05.ScanRefuses", spec := "scanRefuses", unfollowed := true, recurses := true, apart := false }
def ScanRefusesSaid : Prop := scanRefusesRow.holds Try.pinned (OpenSpec.ofChange scanRefusesSpec)

/-- ITS FALSE NEIGHBOUR: 'it returns false'. Refute it at one input. -/
def scanRefusesWrong : ChangeSpec := { name := "scanRefuses", fn := fun _ => fun
  | [d1, d2, d3] => { results := [.lit (.bool false)], args := [d1, d2, d3] }
  | _ => none }
def ScanRefusesWrongFalsely : Prop := scanRefusesRow.holds Try.pinned (OpenSpec.ofChange scanRefusesWrong)

/-- 'sabretachelaw12.ExpandBecomes': WHATEVER THE INPUT: true; the input reads as it did. -/
def expandBecomesSpec : ChangeSpec := { name := "expandBecomes", fn := fun _ => fun
  | [d1, d2, d3] => { results := [.lit (.bool true)], args := [d1, d2, d3] }
  | _ => none }
def expandBecomesRow : OpenClaim := { program := "ytdakbejppnijdaa", sum := "b1dd61e5a01fcbe749e954b61b435cc33e607b4b5d4567f643cadb2e202035ba", func := "sabretache/sabretachelaw12.ExpandBecomes", spec := "expandBecomes", apart := false }
def ExpandBecomesSaid : Prop := expandBecomesRow.holds Try.pinned (OpenSpec.ofChange expandBecomesSpec)

/-- ITS FALSE NEIGHBOUR: 'it returns false'. Refute it at one input. -/
def expandBecomesWrong : ChangeSpec := { name := "expandBecomes", fn := fun _ => fun
  | [d1, d2, d3] => { results := [.lit (.bool false)], args := [d1, d2, d3] }
  | _ => none }
def ExpandBecomesWrongFalsely : Prop := expandBecomesRow.holds Try.pinned (OpenSpec.ofChange expandBecomesWrong)

/-- 'sabretachelaw42.SharesSplit': WHATEVER THE INPUT: true; the input reads as it did. -/
def sharesSplitSpec : ChangeSpec := { name := "sharesSplit", fn := fun _ => fun
  | [d1, d2, d3] => { results := [.lit (.bool true)], args := [d1, d2, d3] }
  | _ => none }
def sharesSplitRow : OpenClaim := { program := "ytdakbejppnijdaa", sum := "b1dd61e5a01fcbe749e954b61b435cc33e607b4b5d4567f643cadb2e202035ba", func := "sabretache/sabretachelaw42.SharesSplit", spec := "sharesSplit", unfollowed := true, recurses := true, apart := false }
def SharesSplitSaid : Prop := sharesSplitRow.holds Try.pinned (OpenSpec.ofChange sharesSplitSpec)

/-- ITS FALSE NEIGHBOUR: 'it returns false'. Refute it at one input. -/
def sharesSplitWrong : ChangeSpec := { name := "sharesSplit", fn := fun _ => fun
  | [d1, d2, d3] => { results := [.lit (.bool false)], args := [d1, d2, d3] }
  | _ => none }
def SharesSplitWrongFalsely : Prop := sharesSplitRow.holds Try.pinned (OpenSpec.ofChange sharesSplitWrong)

/-- 'sabretachelaw14.ComposeRefuses': WHATEVER THE INPUT: true; the input reads as it did. -/
def composeRefusesSpec : ChangeSpec := { name := "composeRefuses", fn := fun _ => fun
  | [d1, d2, d3] => { results := [.lit (.bool true)], args := [d1, d2, d3] }
  | _ => none }
def composeRefusesRow : OpenClaim := { program := "ytdakbejppnijdaa", sum := "b1dd61e5a01fcbe749e954b61b435cc33e607b4b5d4567f643cadb2e202035ba", func := "sabretache/sabretachelaw14.ComposeRefuses", spec := "composeRefuses", apart := false }
def ComposeRefusesSaid : Prop := composeRefusesRow.holds Try.pinned (OpenSpec.ofChange composeRefusesSpec)

/-- ITS FALSE NEIGHBOUR: 'it returns false'. Refute it at one input. -/
def composeRefusesWrong : ChangeSpec := { name := "composeRefuses", fn := fun _ => fun
  | [d1, d2, d3] => { results := [.lit (.bool false)], args := [d1, d2, d3] }
  | _ => none }
def ComposeRefusesWrongFalsely : Prop := composeRefusesRow.holds Try.pinned (OpenSpec.ofChange composeRefusesWrong)

/-- 'sabretachelaw14.ComposeRuns': WHATEVER THE INPUT: true; the input reads as it did. -/
def composeRunsSpec : ChangeSpec := { name := "composeRuns", fn := fun _ => fun
  | [d1, d2, d3] => { results := [.lit (.bool true)], args := [d1, d2, d3] }
  | _ => none }
def composeRunsRow : OpenClaim := { program := "ytdakbejppnijdaa", sum := "b1dd61e5a01fcbe749e954b61b435cc33e607b4b5d4567f643cadb2e202035ba", func := "sabretache/sabretachelaw14.ComposeRuns", spec := "composeRuns", apart := false }
def ComposeRunsSaid : Prop := composeRunsRow.holds Try.pinned (OpenSpec.ofChange composeRunsSpec)

/-- ITS FALSE NEIGHBOUR: 'it returns false'. Refute it at one input. -/
def composeRunsWrong : ChangeSpec := { name := "composeRuns", fn := fun _ => fun
  | [d1, d2, d3] => { results := [.lit (.bool false)], args := [d1, d2, d3] }
  | _ => none }
def ComposeRunsWrongFalsely : Prop := composeRunsRow.holds Try.pinned (OpenSpec.ofChange composeRunsWrong)

/- THE SECOND FORM. 'bulk': how many values and letters a reading holds, each counted each time it is reached (what is shared counts as often as it is met; a slice's spare places count too). A statement '..UptoSaid' is the law's where the arguments, and the package variables that the reading takes, are together of bulk at most 1048576: NARROWER than '..Said'. Prove '..Said' where nothing that the law and all that it calls make is longer than what came in: it says more and counts as full. Else prove '..UptoSaid'. A law counts once. -/
mutual
def uptoBulk {H : Type} : DataW H → Nat
  | .lit (.string bytes) => bytes.length + 1
  | .lit _ => 1
  | .nil => 1
  | .ptr d => uptoBulk d + 1
  | .slice elems spare => uptoBulkAll elems + uptoBulkAll spare + 1
  | .agg parts => uptoBulkAll parts + 1
  | .iface _ d => uptoBulk d + 1
  | .map entries => uptoBulkEntries entries + 1
  | .held _ => 1
def uptoBulkAll {H : Type} : List (DataW H) → Nat
  | [] => 0
  | d :: r => uptoBulk d + uptoBulkAll r
def uptoBulkEntries {H : Type} : List (Lit × DataW H) → Nat
  | [] => 0
  | x :: r => uptoBulkEntry x + uptoBulkEntries r
def uptoBulkEntry {H : Type} : Lit × DataW H → Nat
  | (.string bytes, d) => bytes.length + uptoBulk d + 1
  | (_, d) => uptoBulk d + 1
 end
def uptoSmall : (H : Type) → List (DataW H) → Bool := fun _ ds => decide (uptoBulkAll ds ≤ 1048576)
def OpenSpec.upto (s : _root_.Go.ChangeSpec) : _root_.Go.OpenSpec := { _root_.Go.OpenSpec.ofChange s with cond := some uptoSmall }

/-- 'sabretachelaw05.ScanRuns', WHERE WHAT IT READS IS OF BULK AT MOST 1048576: true; the input reads as it did. -/
def scanRunsUptoRow : OpenClaim := { program := "ytdakbejppnijdaa", sum := "b1dd61e5a01fcbe749e954b61b435cc33e607b4b5d4567f643cadb2e202035ba", func := "sabretache/sabretachelaw05.ScanRuns", spec := "scanRuns", unfollowed := true, recurses := true, apart := false, narrowed := true }
def ScanRunsUptoSaid : Prop := scanRunsUptoRow.holds Try.pinned (OpenSpec.upto scanRunsSpec)

/-- 'sabretachelaw42.SharesRefuses', WHERE WHAT IT READS IS OF BULK AT MOST 1048576: true; the input reads as it did. -/
def sharesRefusesUptoRow : OpenClaim := { program := "ytdakbejppnijdaa", sum := "b1dd61e5a01fcbe749e954b61b435cc33e607b4b5d4567f643cadb2e202035ba", func := "sabretache/sabretachelaw42.SharesRefuses", spec := "sharesRefuses", unfollowed := true, recurses := true, apart := false, narrowed := true }
def SharesRefusesUptoSaid : Prop := sharesRefusesUptoRow.holds Try.pinned (OpenSpec.upto sharesRefusesSpec)

/-- 'sabretachelaw42.SharesJoin', WHERE WHAT IT READS IS OF BULK AT MOST 1048576: true; the input reads as it did. -/
def sharesJoinUptoRow : OpenClaim := { program := "ytdakbejppnijdaa", sum := "b1dd61e5a01fcbe749e954b61b435cc33e607b4b5d4567f643cadb2e202035ba", func := "sabretache/sabretachelaw42.SharesJoin", spec := "sharesJoin", apart := false, narrowed := true }
def SharesJoinUptoSaid : Prop := sharesJoinUptoRow.holds Try.pinned (OpenSpec.upto sharesJoinSpec)

/-- 'sabretachelaw05.ScanCarries', WHERE WHAT IT READS IS OF BULK AT MOST 1048576: true; the input reads as it did. -/
def scanCarriesUptoRow : OpenClaim := { program := "ytdakbejppnijdaa", sum := "b1dd61e5a01fcbe749e954b61b435cc33e607b4b5d4567f643cadb2e202035ba", func := "sabretache/sabretachelaw05.ScanCarries", spec := "scanCarries", unfollowed := true, recurses := true, apart := false, narrowed := true }
def ScanCarriesUptoSaid : Prop := scanCarriesUptoRow.holds Try.pinned (OpenSpec.upto scanCarriesSpec)

/-- 'sabretachelaw12.ExpandRefuses', WHERE WHAT IT READS IS OF BULK AT MOST 1048576: true; the input reads as it did. -/
def expandRefusesUptoRow : OpenClaim := { program := "ytdakbejppnijdaa", sum := "b1dd61e5a01fcbe749e954b61b435cc33e607b4b5d4567f643cadb2e202035ba", func := "sabretache/sabretachelaw12.ExpandRefuses", spec := "expandRefuses", apart := false, narrowed := true }
def ExpandRefusesUptoSaid : Prop := expandRefusesUptoRow.holds Try.pinned (OpenSpec.upto expandRefusesSpec)

/-- 'sabretachelaw05.ScanRefuses', WHERE WHAT IT READS IS OF BULK AT MOST 1048576: true; the input reads as it did. -/
def scanRefusesUptoRow : OpenClaim := { program := "ytdakbejppnijdaa", sum := "b1dd61e5a01fcbe749e954b61b435cc33e607b4b5d4567f643cadb2e202035ba", func := "sabretache/sabretachelaw05.ScanRefuses", spec := "scanRefuses", unfollowed := true, recurses := true, apart := false, narrowed := true }
def ScanRefusesUptoSaid : Prop := scanRefusesUptoRow.holds Try.pinned (OpenSpec.upto scanRefusesSpec)

/-- 'sabretachelaw12.ExpandBecomes', WHERE WHAT IT READS IS OF BULK AT MOST 1048576: true; the input reads as it did. -/
def expandBecomesUptoRow : OpenClaim := { program := "ytdakbejppnijdaa", sum := "b1dd61e5a01fcbe749e954b61b435cc33e607b4b5d4567f643cadb2e202035ba", func := "sabretache/sabretachelaw12.ExpandBecomes", spec := "expandBecomes", apart := false, narrowed := true }
def ExpandBecomesUptoSaid : Prop := expandBecomesUptoRow.holds Try.pinned (OpenSpec.upto expandBecomesSpec)

/-- 'sabretachelaw42.SharesSplit', WHERE WHAT IT READS IS OF BULK AT MOST 1048576: true; the input reads as it did. -/
def sharesSplitUptoRow : OpenClaim := { program := "ytdakbejppnijdaa", sum := "b1dd61e5a01fcbe749e954b61b435cc33e607b4b5d4567f643cadb2e202035ba", func := "sabretache/sabretachelaw42.SharesSplit", spec := "sharesSplit", unfollowed := true, recurses := true, apart := false, narrowed := true }
def SharesSplitUptoSaid : Prop := sharesSplitUptoRow.holds Try.pinned (OpenSpec.upto sharesSplitSpec)

/-- 'sabretachelaw14.ComposeRefuses', WHERE WHAT IT READS IS OF BULK AT MOST 1048576: true; the input reads as it did. -/
def composeRefusesUptoRow : OpenClaim := { program := "ytdakbejppnijdaa", sum := "b1dd61e5a01fcbe749e954b61b435cc33e607b4b5d4567f643cadb2e202035ba", func := "sabretache/sabretachelaw14.ComposeRefuses", spec := "composeRefuses", apart := false, narrowed := true }
def ComposeRefusesUptoSaid : Prop := composeRefusesUptoRow.holds Try.pinned (OpenSpec.upto composeRefusesSpec)

/-- 'sabretachelaw14.ComposeRuns', WHERE WHAT IT READS IS OF BULK AT MOST 1048576: true; the input reads as it did. -/
def composeRunsUptoRow : OpenClaim := { program := "ytdakbejppnijdaa", sum := "b1dd61e5a01fcbe749e954b61b435cc33e607b4b5d4567f643cadb2e202035ba", func := "sabretache/sabretachelaw14.ComposeRuns", spec := "composeRuns", apart := false, narrowed := true }
def ComposeRunsUptoSaid : Prop := composeRunsUptoRow.holds Try.pinned (OpenSpec.upto composeRunsSpec)

end Rows
end Go.Proofs.Ytdakbejppnijdaa
