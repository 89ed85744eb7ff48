/-
  No cell of these rows narrows 'for every input' (looked for: loops, veiled, ifaces, maps, wideKeys, modest, calm, conditions, laid).
  DERIVED. THE GIVEN ROWS OF THIS SEAT. 10 by the template 'for every input the law returns true; each argument reads behind the call as it read before'; 0 by the template 'total and deterministic' (their statements: YtflapbnbeipddaaTotals.lean).
  GIVEN WITH THE SEED: the statements are not yours to turn. If you find one false, say at which input.
  Laid BY PROGRAM, IN A SANDBOX (cutbox-rows.mjs): the forced cells as the released guide's own fill.sh prints them over the translation b130da21463ed787… (all of the seat's roots in one cut). By AI agents, Wed Nov 11 2026. No macro, syntax, notation, axiom, sorry.
-/
import Derived.Test.YtflapbnbeipddaaChecked
import GoSem.Claim
import GoSem.ClaimJoined
import GoSem.ClaimMapViews
import Derived.JoinedTies
import Derived.KernelRfl
namespace Go.Proofs.Ytflapbnbeipddaa
/- THE CELL 'sum', in the pinned program and in every row, IS THE sha256 OF THE DUMP (.gsa) THAT YtflapbnbeipddaaProg.lean LOADS. Nothing in Lean hashes anything: it is a label: what it is worth is what the hold of that sum in a sandbox is worth. -/
noncomputable def Try.pinned : Pinned := { name := "ytflapbnbeipddaa", sum := "b130da21463ed7870f3e44d28c1db8f9f68ddd7e111d3ecb3e68512acc54cade", checked := Try.checked }
namespace Rows
def none {H : Type} : Left H := { results := [], args := [] }

/-- 'sabretachelaw03.SortnetSorts': WHATEVER THE INPUT: true; the input reads as it did. -/
def sortnetSortsSpec : ChangeSpec := { name := "sortnetSorts", fn := fun _ => fun
  | [d] => { results := [.lit (.bool true)], args := [d] }
  | _ => none }
def sortnetSortsRow : OpenClaim := { program := "ytflapbnbeipddaa", sum := "b130da21463ed7870f3e44d28c1db8f9f68ddd7e111d3ecb3e68512acc54cade", func := "sabretache/sabretachelaw03.SortnetSorts", spec := "sortnetSorts", unfollowed := true, recurses := true, apart := false }
def SortnetSortsSaid : Prop := sortnetSortsRow.holds Try.pinned (OpenSpec.ofChange sortnetSortsSpec)

/-- ITS FALSE NEIGHBOUR: 'it returns false'. Refute it at one input. -/
def sortnetSortsWrong : ChangeSpec := { name := "sortnetSorts", fn := fun _ => fun
  | [d] => { results := [.lit (.bool false)], args := [d] }
  | _ => none }
def SortnetSortsWrongFalsely : Prop := sortnetSortsRow.holds Try.pinned (OpenSpec.ofChange sortnetSortsWrong)

/-- 'sabretachelaw03.SortnetApplies': WHATEVER THE INPUT: true; the input reads as it did. -/
def sortnetAppliesSpec : ChangeSpec := { name := "sortnetApplies", fn := fun _ => fun
  | [d1, d2] => { results := [.lit (.bool true)], args := [d1, d2] }
  | _ => none }
def sortnetAppliesRow : OpenClaim := { program := "ytflapbnbeipddaa", sum := "b130da21463ed7870f3e44d28c1db8f9f68ddd7e111d3ecb3e68512acc54cade", func := "sabretache/sabretachelaw03.SortnetApplies", spec := "sortnetApplies", unfollowed := true, recurses := true, apart := false }
def SortnetAppliesSaid : Prop := sortnetAppliesRow.holds Try.pinned (OpenSpec.ofChange sortnetAppliesSpec)

/-- ITS FALSE NEIGHBOUR: 'it returns false'. Refute it at one input. -/
def sortnetAppliesWrong : ChangeSpec := { name := "sortnetApplies", fn := fun _ => fun
  | [d1, d2] => { results := [.lit (.bool false)], args := [d1, d2] }
  | _ => none }
def SortnetAppliesWrongFalsely : Prop := sortnetAppliesRow.holds Try.pinned (OpenSpec.ofChange sortnetAppliesWrong)

/-- 'sabretachelaw30.ScriptBack': WHATEVER THE INPUT: true; the input reads as it did. -/
def scriptBackSpec : ChangeSpec := { name := "scriptBack", fn := fun _ => fun
  | [d] => { results := [.lit (.bool true)], args := [d] }
  | _ => none }
def scriptBackRow : OpenClaim := { program := "ytflapbnbeipddaa", sum := "b130da21463ed7870f3e44d28c1db8f9f68ddd7e111d3ecb3e68512acc54cade", func := "sabretache/sabretachelaw30.ScriptBack", spec := "scriptBack", apart := false }
def ScriptBackSaid : Prop := scriptBackRow.holds Try.pinned (OpenSpec.ofChange scriptBackSpec)

/-- ITS FALSE NEIGHBOUR: 'it returns false'. Refute it at one input. -/
def scriptBackWrong : ChangeSpec := { name := "scriptBack", fn := fun _ => fun
  | [d] => { results := [.lit (.bool false)], args := [d] }
  | _ => none }
def ScriptBackWrongFalsely : Prop := scriptBackRow.holds Try.pinned (OpenSpec.ofChange scriptBackWrong)

/-- 'sabretachelaw30.ScriptAny': WHATEVER THE INPUT: true; the input reads as it did. -/
def scriptAnySpec : ChangeSpec := { name := "scriptAny", fn := fun _ => fun
  | [d] => { results := [.lit (.bool true)], args := [d] }
  | _ => none }
def scriptAnyRow : OpenClaim := { program := "ytflapbnbeipddaa", sum := "b130da21463ed7870f3e44d28c1db8f9f68ddd7e111d3ecb3e68512acc54cade", func := "sabretache/sabretachelaw30.ScriptAny", spec := "scriptAny", apart := false }
def ScriptAnySaid : Prop := scriptAnyRow.holds Try.pinned (OpenSpec.ofChange scriptAnySpec)

/-- ITS FALSE NEIGHBOUR: 'it returns false'. Refute it at one input. -/
def scriptAnyWrong : ChangeSpec := { name := "scriptAny", fn := fun _ => fun
  | [d] => { results := [.lit (.bool false)], args := [d] }
  | _ => none }
def ScriptAnyWrongFalsely : Prop := scriptAnyRow.holds Try.pinned (OpenSpec.ofChange scriptAnyWrong)

/-- 'sabretachelaw03.SortnetCounts': WHATEVER THE INPUT: true; the input reads as it did. -/
def sortnetCountsSpec : ChangeSpec := { name := "sortnetCounts", fn := fun _ => fun
  | [d1, d2] => { results := [.lit (.bool true)], args := [d1, d2] }
  | _ => none }
def sortnetCountsRow : OpenClaim := { program := "ytflapbnbeipddaa", sum := "b130da21463ed7870f3e44d28c1db8f9f68ddd7e111d3ecb3e68512acc54cade", func := "sabretache/sabretachelaw03.SortnetCounts", spec := "sortnetCounts", unfollowed := true, recurses := true, apart := false }
def SortnetCountsSaid : Prop := sortnetCountsRow.holds Try.pinned (OpenSpec.ofChange sortnetCountsSpec)

/-- ITS FALSE NEIGHBOUR: 'it returns false'. Refute it at one input. -/
def sortnetCountsWrong : ChangeSpec := { name := "sortnetCounts", fn := fun _ => fun
  | [d1, d2] => { results := [.lit (.bool false)], args := [d1, d2] }
  | _ => none }
def SortnetCountsWrongFalsely : Prop := sortnetCountsRow.holds Try.pinned (OpenSpec.ofChange sortnetCountsWrong)

/-- 'sabretachelaw02.ArenaClears': WHATEVER THE INPUT: true; the input reads as it did. -/
def arenaClearsSpec : ChangeSpec := { name := "arenaClears", fn := fun _ => fun
  | [d1, d2] => { results := [.lit (.bool true)], args := [d1, d2] }
  | _ => none }
def arenaClearsRow : OpenClaim := { program := "ytflapbnbeipddaa", sum := "b130da21463ed7870f3e44d28c1db8f9f68ddd7e111d3ecb3e68512acc54cade", func := "sabretache/sabretachelaw02.ArenaClears", spec := "arenaClears", apart := false }
def ArenaClearsSaid : Prop := arenaClearsRow.holds Try.pinned (OpenSpec.ofChange arenaClearsSpec)

/-- ITS FALSE NEIGHBOUR: 'it returns false'. Refute it at one input. -/
def arenaClearsWrong : ChangeSpec := { name := "arenaClears", fn := fun _ => fun
  | [d1, d2] => { results := [.lit (.bool false)], args := [d1, d2] }
  | _ => none }
def ArenaClearsWrongFalsely : Prop := arenaClearsRow.holds Try.pinned (OpenSpec.ofChange arenaClearsWrong)

/-- 'sabretachelaw02.ArenaBlind': WHATEVER THE INPUT: true; the input reads as it did. -/
def arenaBlindSpec : ChangeSpec := { name := "arenaBlind", fn := fun _ => fun
  | [d1, d2, d3] => { results := [.lit (.bool true)], args := [d1, d2, d3] }
  | _ => none }
def arenaBlindRow : OpenClaim := { program := "ytflapbnbeipddaa", sum := "b130da21463ed7870f3e44d28c1db8f9f68ddd7e111d3ecb3e68512acc54cade", func := "sabretache/sabretachelaw02.ArenaBlind", spec := "arenaBlind", apart := false }
def ArenaBlindSaid : Prop := arenaBlindRow.holds Try.pinned (OpenSpec.ofChange arenaBlindSpec)

/-- ITS FALSE NEIGHBOUR: 'it returns false'. Refute it at one input. -/
def arenaBlindWrong : ChangeSpec := { name := "arenaBlind", fn := fun _ => fun
  | [d1, d2, d3] => { results := [.lit (.bool false)], args := [d1, d2, d3] }
  | _ => none }
def ArenaBlindWrongFalsely : Prop := arenaBlindRow.holds Try.pinned (OpenSpec.ofChange arenaBlindWrong)

/-- 'sabretachelaw03.SortnetTuples': WHATEVER THE INPUT: true; the input reads as it did. -/
def sortnetTuplesSpec : ChangeSpec := { name := "sortnetTuples", fn := fun _ => fun
  | [d1, d2, d3] => { results := [.lit (.bool true)], args := [d1, d2, d3] }
  | _ => none }
def sortnetTuplesRow : OpenClaim := { program := "ytflapbnbeipddaa", sum := "b130da21463ed7870f3e44d28c1db8f9f68ddd7e111d3ecb3e68512acc54cade", func := "sabretache/sabretachelaw03.SortnetTuples", spec := "sortnetTuples", unfollowed := true, recurses := true, apart := false }
def SortnetTuplesSaid : Prop := sortnetTuplesRow.holds Try.pinned (OpenSpec.ofChange sortnetTuplesSpec)

/-- ITS FALSE NEIGHBOUR: 'it returns false'. Refute it at one input. -/
def sortnetTuplesWrong : ChangeSpec := { name := "sortnetTuples", fn := fun _ => fun
  | [d1, d2, d3] => { results := [.lit (.bool false)], args := [d1, d2, d3] }
  | _ => none }
def SortnetTuplesWrongFalsely : Prop := sortnetTuplesRow.holds Try.pinned (OpenSpec.ofChange sortnetTuplesWrong)

/-- 'sabretachelaw13.OrderRefuses': WHATEVER THE INPUT: true; the input reads as it did. -/
def orderRefusesSpec : ChangeSpec := { name := "orderRefuses", fn := fun _ => fun
  | [d1, d2, d3] => { results := [.lit (.bool true)], args := [d1, d2, d3] }
  | _ => none }
def orderRefusesRow : OpenClaim := { program := "ytflapbnbeipddaa", sum := "b130da21463ed7870f3e44d28c1db8f9f68ddd7e111d3ecb3e68512acc54cade", func := "sabretache/sabretachelaw13.OrderRefuses", spec := "orderRefuses", unfollowed := true, recurses := true, apart := false }
def OrderRefusesSaid : Prop := orderRefusesRow.holds Try.pinned (OpenSpec.ofChange orderRefusesSpec)

/-- ITS FALSE NEIGHBOUR: 'it returns false'. Refute it at one input. -/
def orderRefusesWrong : ChangeSpec := { name := "orderRefuses", fn := fun _ => fun
  | [d1, d2, d3] => { results := [.lit (.bool false)], args := [d1, d2, d3] }
  | _ => none }
def OrderRefusesWrongFalsely : Prop := orderRefusesRow.holds Try.pinned (OpenSpec.ofChange orderRefusesWrong)

/-- 'sabretachelaw13.OrderOrders': WHATEVER THE INPUT: true; the input reads as it did. -/
def orderOrdersSpec : ChangeSpec := { name := "orderOrders", fn := fun _ => fun
  | [d1, d2, d3] => { results := [.lit (.bool true)], args := [d1, d2, d3] }
  | _ => none }
def orderOrdersRow : OpenClaim := { program := "ytflapbnbeipddaa", sum := "b130da21463ed7870f3e44d28c1db8f9f68ddd7e111d3ecb3e68512acc54cade", func := "sabretache/sabretachelaw13.OrderOrders", spec := "orderOrders", unfollowed := true, recurses := true, apart := false }
def OrderOrdersSaid : Prop := orderOrdersRow.holds Try.pinned (OpenSpec.ofChange orderOrdersSpec)

/-- ITS FALSE NEIGHBOUR: 'it returns false'. Refute it at one input. -/
def orderOrdersWrong : ChangeSpec := { name := "orderOrders", fn := fun _ => fun
  | [d1, d2, d3] => { results := [.lit (.bool false)], args := [d1, d2, d3] }
  | _ => none }
def OrderOrdersWrongFalsely : Prop := orderOrdersRow.holds Try.pinned (OpenSpec.ofChange orderOrdersWrong)

/- THE SECOND FORM. 'bulk': how many values and letters a reading holds, each counted each time it is reached (what is shared counts as often as it is met; a slice's spare places count too). A statement '..UptoSaid' is the law's where the arguments, and the package variables that the reading takes, are together of bulk at most 1048576: NARROWER than '..Said'. Prove '..Said' where nothing that the law and all that it calls make is longer than what came in: it says more and counts as full. Else prove '..UptoSaid'. A law counts once. -/
mutual
def uptoBulk {H : Type} : DataW H → Nat
  | .lit (.string bytes) => bytes.length + 1
  | .lit _ => 1
  | .nil => 1
  | .ptr d => uptoBulk d + 1
  | .slice elems spare => uptoBulkAll elems + uptoBulkAll spare + 1
  | .agg parts => uptoBulkAll parts + 1
  | .iface _ d => uptoBulk d + 1
  | .map entries => uptoBulkEntries entries + 1
  | .held _ => 1
def uptoBulkAll {H : Type} : List (DataW H) → Nat
  | [] => 0
  | d :: r => uptoBulk d + uptoBulkAll r
def uptoBulkEntries {H : Type} : List (Lit × DataW H) → Nat
  | [] => 0
  | x :: r => uptoBulkEntry x + uptoBulkEntries r
def uptoBulkEntry {H : Type} : Lit × DataW H → Nat
  | (.string bytes, d) => bytes.length + uptoBulk d + 1
  | (_, d) => uptoBulk d + 1
 end
def uptoSmall : (H : Type) → List (DataW H) → Bool := fun _ ds => decide (uptoBulkAll ds ≤ 1048576)
def OpenSpec.upto (s : _root_.Go.ChangeSpec) : _root_.Go.OpenSpec := { _root_.Go.OpenSpec.ofChange s with cond := some uptoSmall }

/-- 'sabretachelaw03.SortnetSorts', WHERE WHAT IT READS IS OF BULK AT MOST 1048576: true; the input reads as it did. -/
def sortnetSortsUptoRow : OpenClaim := { program := "ytflapbnbeipddaa", sum := "b130da21463ed7870f3e44d28c1db8f9f68ddd7e111d3ecb3e68512acc54cade", func := "sabretache/sabretachelaw03.SortnetSorts", spec := "sortnetSorts", unfollowed := true, recurses := true, apart := false, narrowed := true }
def SortnetSortsUptoSaid : Prop := sortnetSortsUptoRow.holds Try.pinned (OpenSpec.upto sortnetSortsSpec)

/-- 'sabretachelaw03.SortnetApplies', WHERE WHAT IT READS IS OF BULK AT MOST 1048576: true; the input reads as it did. -/
def sortnetAppliesUptoRow : OpenClaim := { program := "ytflapbnbeipddaa", sum := "b130da21463ed7870f3e44d28c1db8f9f68ddd7e111d3ecb3e68512acc54cade", func := "sabretache/sabretachelaw03.SortnetApplies", spec := "sortnetApplies", unfollowed := true, recurses := true, apart := false, narrowed := true }
def SortnetAppliesUptoSaid : Prop := sortnetAppliesUptoRow.holds Try.pinned (OpenSpec.upto sortnetAppliesSpec)

/-- 'sabretachelaw30.ScriptBack', WHERE WHAT IT READS IS OF BULK AT MOST 1048576: true; the input reads as it did. -/
def scriptBackUptoRow : OpenClaim := { program := "ytflapbnbeipddaa", sum := "b130da21463ed7870f3e44d28c1db8f9f68ddd7e111d3ecb3e68512acc54cade", func := "sabretache/sabretachelaw30.ScriptBack", spec := "scriptBack", apart := false, narrowed := true }
def ScriptBackUptoSaid : Prop := scriptBackUptoRow.holds Try.pinned (OpenSpec.upto scriptBackSpec)

/-- 'sabretachelaw30.ScriptAny', WHERE WHAT IT READS IS OF BULK AT MOST 1048576: true; the input reads as it did. -/
def scriptAnyUptoRow : OpenClaim := { program := "ytflapbnbeipddaa", sum := "b130da21463ed7870f3e44d28c1db8f9f68ddd7e111d3ecb3e68512acc54cade", func := "sabretache/sabretachelaw30.ScriptAny", spec := "scriptAny", apart := false, narrowed := true }
def ScriptAnyUptoSaid : Prop := scriptAnyUptoRow.holds Try.pinned (OpenSpec.upto scriptAnySpec)

/-- 'sabretachelaw03.SortnetCounts', WHERE WHAT IT READS IS OF BULK AT MOST 1048576: true; the input reads as it did. -/
def sortnetCountsUptoRow : OpenClaim := { program := "ytflapbnbeipddaa", sum := "b130da21463ed7870f3e44d28c1db8f9f68ddd7e111d3ecb3e68512acc54cade", func := "sabretache/sabretachelaw03.SortnetCounts", spec := "sortnetCounts", unfollowed := true, recurses := true, apart := false, narrowed := true }
def SortnetCountsUptoSaid : Prop := sortnetCountsUptoRow.holds Try.pinned (OpenSpec.upto sortnetCountsSpec)

/-- 'sabretachelaw02.ArenaClears', WHERE WHAT IT READS IS OF BULK AT MOST 1048576: true; the input reads as it did. -/
def arenaClearsUptoRow : OpenClaim := { program := "ytflapbnbeipddaa", sum := "b130da21463ed7870f3e44d28c1db8f9f68ddd7e111d3ecb3e68512acc54cade", func := "sabretache/sabretachelaw02.ArenaClears", spec := "arenaClears", apart := false, narrowed := true }
def ArenaClearsUptoSaid : Prop := arenaClearsUptoRow.holds Try.pinned (OpenSpec.upto arenaClearsSpec)

/-- 'sabretachelaw02.ArenaBlind', WHERE WHAT IT READS IS OF BULK AT MOST 1048576: true; the input reads as it did. -/
def arenaBlindUptoRow : OpenClaim := { program := "ytflapbnbeipddaa", sum := "b130da21463ed7870f3e44d28c1db8f9f68ddd7e111d3ecb3e68512acc54cade", func := "sabretache/sabretachelaw02.ArenaBlind", spec := "arenaBlind", apart := false, narrowed := true }
def ArenaBlindUptoSaid : Prop := arenaBlindUptoRow.holds Try.pinned (OpenSpec.upto arenaBlindSpec)

/-- 'sabretachelaw03.SortnetTuples', WHERE WHAT IT READS IS OF BULK AT MOST 1048576: true; the input reads as it did. -/
def sortnetTuplesUptoRow : OpenClaim := { program := "ytflapbnbeipddaa", sum := "b130da21463ed7870f3e44d28c1db8f9f68ddd7e111d3ecb3e68512acc54cade", func := "sabretache/sabretachelaw03.SortnetTuples", spec := "sortnetTuples", unfollowed := true, recurses := true, apart := false, narrowed := true }
def SortnetTuplesUptoSaid : Prop := sortnetTuplesUptoRow.holds Try.pinned (OpenSpec.upto sortnetTuplesSpec)

/-- 'sabretachelaw13.OrderRefuses', WHERE WHAT IT READS IS OF BULK AT MOST 1048576: true; the input reads as it did. -/
def orderRefusesUptoRow : OpenClaim := { program := "ytflapbnbeipddaa", sum := "b130da21463ed7870f3e44d28c1db8f9f68ddd7e111d3ecb3e68512acc54cade", func := "sabretache/sabretachelaw13.OrderRefuses", spec := "orderRefuses", unfollowed := true, recurses := true, apart := false, narrowed := true }
def OrderRefusesUptoSaid : Prop := orderRefusesUptoRow.holds Try.pinned (OpenSpec.upto orderRefusesSpec)

/-- 'sabretachelaw13.OrderOrders', WHERE WHAT IT READS IS OF BULK AT MOST 1048576: true; the input reads as it did. -/
def orderOrdersUptoRow : OpenClaim := { program := "ytflapbnbeipddaa", sum := "b130da21463ed7870f3e44d28c1db8f9f68ddd7e111d3ecb3e68512acc54cade", func := "sabretache/sabretachelaw13.OrderOrders", spec := "orderOrders", unfollowed := true, recurses := true, apart := false, narrowed := true }
def OrderOrdersUptoSaid : Prop := orderOrdersUptoRow.holds Try.pinned (OpenSpec.upto orderOrdersSpec)

end Rows
end Go.Proofs.Ytflapbnbeipddaa
