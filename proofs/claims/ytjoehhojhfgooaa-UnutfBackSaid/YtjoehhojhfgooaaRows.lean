/-
  No cell of these rows narrows 'for every input' (looked for: loops, veiled, ifaces, maps, wideKeys, modest, calm, conditions, laid).
  DERIVED. THE GIVEN ROWS OF THIS SEAT. 9 by the template 'for every input the law returns true; each argument reads behind the call as it read before'; 0 by the template 'total and deterministic' (their statements: YtjoehhojhfgooaaTotals.lean).
  GIVEN WITH THE SEED: the statements are not yours to turn. If you find one false, say at which input.
  Laid BY PROGRAM, IN A SANDBOX (cutbox-rows.mjs): the forced cells as the released guide's own fill.sh prints them over the translation 9dafa33bb1ca4b1c… (all of the seat's roots in one cut). By AI agents, Wed Nov 11 2026. No macro, syntax, notation, axiom, sorry.
-/
import Derived.Test.YtjoehhojhfgooaaChecked
import GoSem.Claim
import GoSem.ClaimJoined
import GoSem.ClaimMapViews
import Derived.JoinedTies
import Derived.KernelRfl
namespace Go.Proofs.Ytjoehhojhfgooaa
/- THE CELL 'sum', in the pinned program and in every row, IS THE sha256 OF THE DUMP (.gsa) THAT YtjoehhojhfgooaaProg.lean LOADS. Nothing in Lean hashes anything: it is a label: what it is worth is what the hold of that sum in a sandbox is worth. -/
noncomputable def Try.pinned : Pinned := { name := "ytjoehhojhfgooaa", sum := "9dafa33bb1ca4b1c2b49cb8ebbd6613466b2e5baabea848b5016c10bce0930f7", checked := Try.checked }
namespace Rows
def none {H : Type} : Left H := { results := [], args := [] }

/-- 'sabretachelaw10.UnutfEncodes': WHATEVER THE INPUT: true; the input reads as it did. -/
def unutfEncodesSpec : ChangeSpec := { name := "unutfEncodes", fn := fun _ => fun
  | [d1, d2, d3] => { results := [.lit (.bool true)], args := [d1, d2, d3] }
  | _ => none }
def unutfEncodesRow : OpenClaim := { program := "ytjoehhojhfgooaa", sum := "9dafa33bb1ca4b1c2b49cb8ebbd6613466b2e5baabea848b5016c10bce0930f7", func := "sabretache/sabretachelaw10.UnutfEncodes", spec := "unutfEncodes", unfollowed := true, recurses := true, apart := false }
def UnutfEncodesSaid : Prop := unutfEncodesRow.holds Try.pinned (OpenSpec.ofChange unutfEncodesSpec)

/-- ITS FALSE NEIGHBOUR: 'it returns false'. Refute it at one input. -/
def unutfEncodesWrong : ChangeSpec := { name := "unutfEncodes", fn := fun _ => fun
  | [d1, d2, d3] => { results := [.lit (.bool false)], args := [d1, d2, d3] }
  | _ => none }
def UnutfEncodesWrongFalsely : Prop := unutfEncodesRow.holds Try.pinned (OpenSpec.ofChange unutfEncodesWrong)

/-- 'sabretachelaw10.UnutfBack': WHATEVER THE INPUT: true; the input reads as it did. -/
def unutfBackSpec : ChangeSpec := { name := "unutfBack", fn := fun _ => fun
  | [d] => { results := [.lit (.bool true)], args := [d] }
  | _ => none }
def unutfBackRow : OpenClaim := { program := "ytjoehhojhfgooaa", sum := "9dafa33bb1ca4b1c2b49cb8ebbd6613466b2e5baabea848b5016c10bce0930f7", func := "sabretache/sabretachelaw10.UnutfBack", spec := "unutfBack", unfollowed := true, recurses := true, apart := false }
def UnutfBackSaid : Prop := unutfBackRow.holds Try.pinned (OpenSpec.ofChange unutfBackSpec)

/-- ITS FALSE NEIGHBOUR: 'it returns false'. Refute it at one input. -/
def unutfBackWrong : ChangeSpec := { name := "unutfBack", fn := fun _ => fun
  | [d] => { results := [.lit (.bool false)], args := [d] }
  | _ => none }
def UnutfBackWrongFalsely : Prop := unutfBackRow.holds Try.pinned (OpenSpec.ofChange unutfBackWrong)

/-- 'sabretachelaw09.UtfDecodes': WHATEVER THE INPUT: true; the input reads as it did. -/
def utfDecodesSpec : ChangeSpec := { name := "utfDecodes", fn := fun _ => fun
  | [d1, d2, d3] => { results := [.lit (.bool true)], args := [d1, d2, d3] }
  | _ => none }
def utfDecodesRow : OpenClaim := { program := "ytjoehhojhfgooaa", sum := "9dafa33bb1ca4b1c2b49cb8ebbd6613466b2e5baabea848b5016c10bce0930f7", func := "sabretache/sabretachelaw09.UtfDecodes", spec := "utfDecodes", apart := false }
def UtfDecodesSaid : Prop := utfDecodesRow.holds Try.pinned (OpenSpec.ofChange utfDecodesSpec)

/-- ITS FALSE NEIGHBOUR: 'it returns false'. Refute it at one input. -/
def utfDecodesWrong : ChangeSpec := { name := "utfDecodes", fn := fun _ => fun
  | [d1, d2, d3] => { results := [.lit (.bool false)], args := [d1, d2, d3] }
  | _ => none }
def UtfDecodesWrongFalsely : Prop := utfDecodesRow.holds Try.pinned (OpenSpec.ofChange utfDecodesWrong)

/-- 'sabretachelaw09.UtfTwo': WHATEVER THE INPUT: true; the input reads as it did. -/
def utfTwoSpec : ChangeSpec := { name := "utfTwo", fn := fun _ => fun
  | [d1, d2] => { results := [.lit (.bool true)], args := [d1, d2] }
  | _ => none }
def utfTwoRow : OpenClaim := { program := "ytjoehhojhfgooaa", sum := "9dafa33bb1ca4b1c2b49cb8ebbd6613466b2e5baabea848b5016c10bce0930f7", func := "sabretache/sabretachelaw09.UtfTwo", spec := "utfTwo", apart := false }
def UtfTwoSaid : Prop := utfTwoRow.holds Try.pinned (OpenSpec.ofChange utfTwoSpec)

/-- ITS FALSE NEIGHBOUR: 'it returns false'. Refute it at one input. -/
def utfTwoWrong : ChangeSpec := { name := "utfTwo", fn := fun _ => fun
  | [d1, d2] => { results := [.lit (.bool false)], args := [d1, d2] }
  | _ => none }
def UtfTwoWrongFalsely : Prop := utfTwoRow.holds Try.pinned (OpenSpec.ofChange utfTwoWrong)

/-- 'sabretachelaw09.UtfRefuses': WHATEVER THE INPUT: true; the input reads as it did. -/
def utfRefusesSpec : ChangeSpec := { name := "utfRefuses", fn := fun _ => fun
  | [d1, d2] => { results := [.lit (.bool true)], args := [d1, d2] }
  | _ => none }
def utfRefusesRow : OpenClaim := { program := "ytjoehhojhfgooaa", sum := "9dafa33bb1ca4b1c2b49cb8ebbd6613466b2e5baabea848b5016c10bce0930f7", func := "sabretache/sabretachelaw09.UtfRefuses", spec := "utfRefuses", apart := false }
def UtfRefusesSaid : Prop := utfRefusesRow.holds Try.pinned (OpenSpec.ofChange utfRefusesSpec)

/-- ITS FALSE NEIGHBOUR: 'it returns false'. Refute it at one input. -/
def utfRefusesWrong : ChangeSpec := { name := "utfRefuses", fn := fun _ => fun
  | [d1, d2] => { results := [.lit (.bool false)], args := [d1, d2] }
  | _ => none }
def UtfRefusesWrongFalsely : Prop := utfRefusesRow.holds Try.pinned (OpenSpec.ofChange utfRefusesWrong)

/-- 'sabretachelaw09.UtfBlind': WHATEVER THE INPUT: true; the input reads as it did. -/
def utfBlindSpec : ChangeSpec := { name := "utfBlind", fn := fun _ => fun
  | [d1, d2] => { results := [.lit (.bool true)], args := [d1, d2] }
  | _ => none }
def utfBlindRow : OpenClaim := { program := "ytjoehhojhfgooaa", sum := "9dafa33bb1ca4b1c2b49cb8ebbd6613466b2e5baabea848b5016c10bce0930f7", func := "sabretache/sabretachelaw09.UtfBlind", spec := "utfBlind", apart := false }
def UtfBlindSaid : Prop := utfBlindRow.holds Try.pinned (OpenSpec.ofChange utfBlindSpec)

/-- ITS FALSE NEIGHBOUR: 'it returns false'. Refute it at one input. -/
def utfBlindWrong : ChangeSpec := { name := "utfBlind", fn := fun _ => fun
  | [d1, d2] => { results := [.lit (.bool false)], args := [d1, d2] }
  | _ => none }
def UtfBlindWrongFalsely : Prop := utfBlindRow.holds Try.pinned (OpenSpec.ofChange utfBlindWrong)

/-- 'sabretachelaw04.PackRefuses': WHATEVER THE INPUT: true; the input reads as it did. -/
def packRefusesSpec : ChangeSpec := { name := "packRefuses", fn := fun _ => fun
  | [d1, d2, d3, d4] => { results := [.lit (.bool true)], args := [d1, d2, d3, d4] }
  | _ => none }
def packRefusesRow : OpenClaim := { program := "ytjoehhojhfgooaa", sum := "9dafa33bb1ca4b1c2b49cb8ebbd6613466b2e5baabea848b5016c10bce0930f7", func := "sabretache/sabretachelaw04.PackRefuses", spec := "packRefuses", apart := false }
def PackRefusesSaid : Prop := packRefusesRow.holds Try.pinned (OpenSpec.ofChange packRefusesSpec)

/-- ITS FALSE NEIGHBOUR: 'it returns false'. Refute it at one input. -/
def packRefusesWrong : ChangeSpec := { name := "packRefuses", fn := fun _ => fun
  | [d1, d2, d3, d4] => { results := [.lit (.bool false)], args := [d1, d2, d3, d4] }
  | _ => none }
def PackRefusesWrongFalsely : Prop := packRefusesRow.holds Try.pinned (OpenSpec.ofChange packRefusesWrong)

/-- 'sabretachelaw04.PackKeeps': WHATEVER THE INPUT: true; the input reads as it did. -/
def packKeepsSpec : ChangeSpec := { name := "packKeeps", fn := fun _ => fun
  | [d1, d2, d3] => { results := [.lit (.bool true)], args := [d1, d2, d3] }
  | _ => none }
def packKeepsRow : OpenClaim := { program := "ytjoehhojhfgooaa", sum := "9dafa33bb1ca4b1c2b49cb8ebbd6613466b2e5baabea848b5016c10bce0930f7", func := "sabretache/sabretachelaw04.PackKeeps", spec := "packKeeps", apart := false }
def PackKeepsSaid : Prop := packKeepsRow.holds Try.pinned (OpenSpec.ofChange packKeepsSpec)

/-- ITS FALSE NEIGHBOUR: 'it returns false'. Refute it at one input. -/
def packKeepsWrong : ChangeSpec := { name := "packKeeps", fn := fun _ => fun
  | [d1, d2, d3] => { results := [.lit (.bool false)], args := [d1, d2, d3] }
  | _ => none }
def PackKeepsWrongFalsely : Prop := packKeepsRow.holds Try.pinned (OpenSpec.ofChange packKeepsWrong)

/-- 'sabretachelaw10.UnutfRefuses': WHATEVER THE INPUT: true; the input reads as it did. -/
def unutfRefusesSpec : ChangeSpec := { name := "unutfRefuses", fn := fun _ => fun
  | [d1, d2, d3] => { results := [.lit (.bool true)], args := [d1, d2, d3] }
  | _ => none }
def unutfRefusesRow : OpenClaim := { program := "ytjoehhojhfgooaa", sum := "9dafa33bb1ca4b1c2b49cb8ebbd6613466b2e5baabea848b5016c10bce0930f7", func := "sabretache/sabretachelaw10.UnutfRefuses", spec := "unutfRefuses", unfollowed := true, recurses := true, apart := false }
def UnutfRefusesSaid : Prop := unutfRefusesRow.holds Try.pinned (OpenSpec.ofChange unutfRefusesSpec)

/-- ITS FALSE NEIGHBOUR: 'it returns false'. Refute it at one input. -/
def unutfRefusesWrong : ChangeSpec := { name := "unutfRefuses", fn := fun _ => fun
  | [d1, d2, d3] => { results := [.lit (.bool false)], args := [d1, d2, d3] }
  | _ => none }
def UnutfRefusesWrongFalsely : Prop := unutfRefusesRow.holds Try.pinned (OpenSpec.ofChange unutfRefusesWrong)

/- THE SECOND FORM. 'bulk': how many values and letters a reading holds, each counted each time it is reached (what is shared counts as often as it is met; a slice's spare places count too). A statement '..UptoSaid' is the law's where the arguments, and the package variables that the reading takes, are together of bulk at most 1048576: NARROWER than '..Said'. Prove '..Said' where nothing that the law and all that it calls make is longer than what came in: it says more and counts as full. Else prove '..UptoSaid'. A law counts once. -/
mutual
def uptoBulk {H : Type} : DataW H → Nat
  | .lit (.string bytes) => bytes.length + 1
  | .lit _ => 1
  | .nil => 1
  | .ptr d => uptoBulk d + 1
  | .slice elems spare => uptoBulkAll elems + uptoBulkAll spare + 1
  | .agg parts => uptoBulkAll parts + 1
  | .iface _ d => uptoBulk d + 1
  | .map entries => uptoBulkEntries entries + 1
  | .held _ => 1
def uptoBulkAll {H : Type} : List (DataW H) → Nat
  | [] => 0
  | d :: r => uptoBulk d + uptoBulkAll r
def uptoBulkEntries {H : Type} : List (Lit × DataW H) → Nat
  | [] => 0
  | x :: r => uptoBulkEntry x + uptoBulkEntries r
def uptoBulkEntry {H : Type} : Lit × DataW H → Nat
  | (.string bytes, d) => bytes.length + uptoBulk d + 1
  | (_, d) => uptoBulk d + 1
 end
def uptoSmall : (H : Type) → List (DataW H) → Bool := fun _ ds => decide (uptoBulkAll ds ≤ 1048576)
def OpenSpec.upto (s : _root_.Go.ChangeSpec) : _root_.Go.OpenSpec := { _root_.Go.OpenSpec.ofChange s with cond := some uptoSmall }

/-- 'sabretachelaw10.UnutfEncodes', WHERE WHAT IT READS IS OF BULK AT MOST 1048576: true; the input reads as it did. -/
def unutfEncodesUptoRow : OpenClaim := { program := "ytjoehhojhfgooaa", sum := "9dafa33bb1ca4b1c2b49cb8ebbd6613466b2e5baabea848b5016c10bce0930f7", func := "sabretache/sabretachelaw10.UnutfEncodes", spec := "unutfEncodes", unfollowed := true, recurses := true, apart := false, narrowed := true }
def UnutfEncodesUptoSaid : Prop := unutfEncodesUptoRow.holds Try.pinned (OpenSpec.upto unutfEncodesSpec)

/-- 'sabretachelaw10.UnutfBack', WHERE WHAT IT READS IS OF BULK AT MOST 1048576: true; the input reads as it did. -/
def unutfBackUptoRow : OpenClaim := { program := "ytjoehhojhfgooaa", sum := "9dafa33bb1ca4b1c2b49cb8ebbd6613466b2e5baabea848b5016c10bce0930f7", func := "sabretache/sabretachelaw10.UnutfBack", spec := "unutfBack", unfollowed := true, recurses := true, apart := false, narrowed := true }
def UnutfBackUptoSaid : Prop := unutfBackUptoRow.holds Try.pinned (OpenSpec.upto unutfBackSpec)

/-- 'sabretachelaw09.UtfDecodes', WHERE WHAT IT READS IS OF BULK AT MOST 1048576: true; the input reads as it did. -/
def utfDecodesUptoRow : OpenClaim := { program := "ytjoehhojhfgooaa", sum := "9dafa33bb1ca4b1c2b49cb8ebbd6613466b2e5baabea848b5016c10bce0930f7", func := "sabretache/sabretachelaw09.UtfDecodes", spec := "utfDecodes", apart := false, narrowed := true }
def UtfDecodesUptoSaid : Prop := utfDecodesUptoRow.holds Try.pinned (OpenSpec.upto utfDecodesSpec)

/-- 'sabretachelaw09.UtfTwo', WHERE WHAT IT READS IS OF BULK AT MOST 1048576: true; the input reads as it did. -/
def utfTwoUptoRow : OpenClaim := { program := "ytjoehhojhfgooaa", sum := "9dafa33bb1ca4b1c2b49cb8ebbd6613466b2e5baabea848b5016c10bce0930f7", func := "sabretache/sabretachelaw09.UtfTwo", spec := "utfTwo", apart := false, narrowed := true }
def UtfTwoUptoSaid : Prop := utfTwoUptoRow.holds Try.pinned (OpenSpec.upto utfTwoSpec)

/-- 'sabretachelaw09.UtfRefuses', WHERE WHAT IT READS IS OF BULK AT MOST 1048576: true; the input reads as it did. -/
def utfRefusesUptoRow : OpenClaim := { program := "ytjoehhojhfgooaa", sum := "9dafa33bb1ca4b1c2b49cb8ebbd6613466b2e5baabea848b5016c10bce0930f7", func := "sabretache/sabretachelaw09.UtfRefuses", spec := "utfRefuses", apart := false, narrowed := true }
def UtfRefusesUptoSaid : Prop := utfRefusesUptoRow.holds Try.pinned (OpenSpec.upto utfRefusesSpec)

/-- 'sabretachelaw09.UtfBlind', WHERE WHAT IT READS IS OF BULK AT MOST 1048576: true; the input reads as it did. -/
def utfBlindUptoRow : OpenClaim := { program := "ytjoehhojhfgooaa", sum := "9dafa33bb1ca4b1c2b49cb8ebbd6613466b2e5baabea848b5016c10bce0930f7", func := "sabretache/sabretachelaw09.UtfBlind", spec := "utfBlind", apart := false, narrowed := true }
def UtfBlindUptoSaid : Prop := utfBlindUptoRow.holds Try.pinned (OpenSpec.upto utfBlindSpec)

/-- 'sabretachelaw04.PackRefuses', WHERE WHAT IT READS IS OF BULK AT MOST 1048576: true; the input reads as it did. -/
def packRefusesUptoRow : OpenClaim := { program := "ytjoehhojhfgooaa", sum := "9dafa33bb1ca4b1c2b49cb8ebbd6613466b2e5baabea848b5016c10bce0930f7", func := "sabretache/sabretachelaw04.PackRefuses", spec := "packRefuses", apart := false, narrowed := true }
def PackRefusesUptoSaid : Prop := packRefusesUptoRow.holds Try.pinned (OpenSpec.upto packRefusesSpec)

/-- 'sabretachelaw04.PackKeeps', WHERE WHAT IT READS IS OF BULK AT MOST 1048576: true; the input reads as it did. -/
def packKeepsUptoRow : OpenClaim := { program := "ytjoehhojhfgooaa", sum := "9dafa33bb1ca4b1c2b49cb8ebbd6613466b2e5baabea848b5016c10bce0930f7", func := "sabretache/sabretachelaw04.PackKeeps", spec := "packKeeps", apart := false, narrowed := true }
def PackKeepsUptoSaid : Prop := packKeepsUptoRow.holds Try.pinned (OpenSpec.upto packKeepsSpec)

/-- 'sabretachelaw10.UnutfRefuses', WHERE WHAT IT READS IS OF BULK AT MOST 1048576: true; the input reads as it did. -/
def unutfRefusesUptoRow : OpenClaim := { program := "ytjoehhojhfgooaa", sum := "9dafa33bb1ca4b1c2b49cb8ebbd6613466b2e5baabea848b5016c10bce0930f7", func := "sabretache/sabretachelaw10.UnutfRefuses", spec := "unutfRefuses", unfollowed := true, recurses := true, apart := false, narrowed := true }
def UnutfRefusesUptoSaid : Prop := unutfRefusesUptoRow.holds Try.pinned (OpenSpec.upto unutfRefusesSpec)

end Rows
end Go.Proofs.Ytjoehhojhfgooaa
