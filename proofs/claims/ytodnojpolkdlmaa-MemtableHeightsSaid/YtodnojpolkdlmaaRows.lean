/-
  No cell of these rows narrows 'for every input' (looked for: loops, veiled, ifaces, maps, wideKeys, modest, calm, conditions, laid).
  DERIVED. THE GIVEN ROWS OF THIS SEAT. 4 by the template 'for every input the law returns true; each argument reads behind the call as it read before'; 0 by the template 'total and deterministic' (their statements: YtodnojpolkdlmaaTotals.lean).
  GIVEN WITH THE SEED: the statements are not yours to turn. If you find one false, say at which input.
  Laid BY PROGRAM, IN A SANDBOX (cutbox-rows.mjs): the forced cells as the released guide's own fill.sh prints them over the translation 8fbd282cdc48087c… (all of the seat's roots in one cut). By AI agents, Wed Nov 11 2026. No macro, syntax, notation, axiom, sorry.
-/
import Derived.Test.YtodnojpolkdlmaaChecked
import GoSem.Claim
import GoSem.ClaimJoined
import GoSem.ClaimMapViews
import Derived.JoinedTies
import Derived.KernelRfl
namespace Go.Proofs.Ytodnojpolkdlmaa
/- THE CELL 'sum', in the pinned program and in every row, IS THE sha256 OF THE DUMP (.gsa) THAT YtodnojpolkdlmaaProg.lean LOADS. Nothing in Lean hashes anything: it is a label: what it is worth is what the hold of that sum in a sandbox is worth. -/
noncomputable def Try.pinned : Pinned := { name := "ytodnojpolkdlmaa", sum := "8fbd282cdc48087cf5976d1442bcc31c72c491b3ce2545b38fade40670148f25", checked := Try.checked }
namespace Rows
def none {H : Type} : Left H := { results := [], args := [] }

/-- 'sedimentlaw07.MemtableSees': WHATEVER THE INPUT: true; the input reads as it did. -/
def memtableSeesSpec : ChangeSpec := { name := "memtableSees", fn := fun _ => fun
  | [d1, d2, d3] => { results := [.lit (.bool true)], args := [d1, d2, d3] }
  | _ => none }
def memtableSeesRow : OpenClaim := { program := "ytodnojpolkdlmaa", sum := "8fbd282cdc48087cf5976d1442bcc31c72c491b3ce2545b38fade40670148f25", func := "sediment/sedimentlaw07.MemtableSees", spec := "memtableSees", inPlace := ["internal/bytealg.abigen_runtime_cmpstring", "slices.overlaps[sediment/api.Tombstone]"], unfollowed := true, recurses := true, apart := false }
def MemtableSeesSaid : Prop := memtableSeesRow.holds Try.pinned (OpenSpec.ofChange memtableSeesSpec)

/-- ITS FALSE NEIGHBOUR: 'it returns false'. Refute it at one input. -/
def memtableSeesWrong : ChangeSpec := { name := "memtableSees", fn := fun _ => fun
  | [d1, d2, d3] => { results := [.lit (.bool false)], args := [d1, d2, d3] }
  | _ => none }
def MemtableSeesWrongFalsely : Prop := memtableSeesRow.holds Try.pinned (OpenSpec.ofChange memtableSeesWrong)

/-- 'sedimentlaw07.MemtableMap': WHATEVER THE INPUT: true; the input reads as it did. -/
def memtableMapSpec : ChangeSpec := { name := "memtableMap", fn := fun _ => fun
  | [d1, d2, d3] => { results := [.lit (.bool true)], args := [d1, d2, d3] }
  | _ => none }
def memtableMapRow : OpenClaim := { program := "ytodnojpolkdlmaa", sum := "8fbd282cdc48087cf5976d1442bcc31c72c491b3ce2545b38fade40670148f25", func := "sediment/sedimentlaw07.MemtableMap", spec := "memtableMap", inPlace := ["internal/bytealg.abigen_runtime_cmpstring", "slices.overlaps[sediment/api.Tombstone]"], unfollowed := true, recurses := true, apart := false }
def MemtableMapSaid : Prop := memtableMapRow.holds Try.pinned (OpenSpec.ofChange memtableMapSpec)

/-- ITS FALSE NEIGHBOUR: 'it returns false'. Refute it at one input. -/
def memtableMapWrong : ChangeSpec := { name := "memtableMap", fn := fun _ => fun
  | [d1, d2, d3] => { results := [.lit (.bool false)], args := [d1, d2, d3] }
  | _ => none }
def MemtableMapWrongFalsely : Prop := memtableMapRow.holds Try.pinned (OpenSpec.ofChange memtableMapWrong)

/-- 'sedimentlaw07.MemtableHeights': WHATEVER THE INPUT: true; the input reads as it did. -/
def memtableHeightsSpec : ChangeSpec := { name := "memtableHeights", fn := fun _ => fun
  | [d1, d2, d3] => { results := [.lit (.bool true)], args := [d1, d2, d3] }
  | _ => none }
def memtableHeightsRow : OpenClaim := { program := "ytodnojpolkdlmaa", sum := "8fbd282cdc48087cf5976d1442bcc31c72c491b3ce2545b38fade40670148f25", func := "sediment/sedimentlaw07.MemtableHeights", spec := "memtableHeights", inPlace := ["internal/bytealg.abigen_runtime_cmpstring", "slices.overlaps[sediment/api.Tombstone]"], unfollowed := true, recurses := true, apart := false }
def MemtableHeightsSaid : Prop := memtableHeightsRow.holds Try.pinned (OpenSpec.ofChange memtableHeightsSpec)

/-- ITS FALSE NEIGHBOUR: 'it returns false'. Refute it at one input. -/
def memtableHeightsWrong : ChangeSpec := { name := "memtableHeights", fn := fun _ => fun
  | [d1, d2, d3] => { results := [.lit (.bool false)], args := [d1, d2, d3] }
  | _ => none }
def MemtableHeightsWrongFalsely : Prop := memtableHeightsRow.holds Try.pinned (OpenSpec.ofChange memtableHeightsWrong)

/-- 'sedimentlaw07.MemtableActs': WHATEVER THE INPUT: true; the input reads as it did. -/
def memtableActsSpec : ChangeSpec := { name := "memtableActs", fn := fun _ => fun
  | [d1, d2, d3] => { results := [.lit (.bool true)], args := [d1, d2, d3] }
  | _ => none }
def memtableActsRow : OpenClaim := { program := "ytodnojpolkdlmaa", sum := "8fbd282cdc48087cf5976d1442bcc31c72c491b3ce2545b38fade40670148f25", func := "sediment/sedimentlaw07.MemtableActs", spec := "memtableActs", inPlace := ["internal/bytealg.abigen_runtime_cmpstring", "slices.overlaps[sediment/api.Tombstone]"], unfollowed := true, recurses := true, apart := false }
def MemtableActsSaid : Prop := memtableActsRow.holds Try.pinned (OpenSpec.ofChange memtableActsSpec)

/-- ITS FALSE NEIGHBOUR: 'it returns false'. Refute it at one input. -/
def memtableActsWrong : ChangeSpec := { name := "memtableActs", fn := fun _ => fun
  | [d1, d2, d3] => { results := [.lit (.bool false)], args := [d1, d2, d3] }
  | _ => none }
def MemtableActsWrongFalsely : Prop := memtableActsRow.holds Try.pinned (OpenSpec.ofChange memtableActsWrong)

/- THE SECOND FORM. 'bulk': how many values and letters a reading holds, each counted each time it is reached (what is shared counts as often as it is met; a slice's spare places count too). A statement '..UptoSaid' is the law's where the arguments, and the package variables that the reading takes, are together of bulk at most 1048576: NARROWER than '..Said'. Prove '..Said' where nothing that the law and all that it calls make is longer than what came in: it says more and counts as full. Else prove '..UptoSaid'. A law counts once. -/
mutual
def uptoBulk {H : Type} : DataW H → Nat
  | .lit (.string bytes) => bytes.length + 1
  | .lit _ => 1
  | .nil => 1
  | .ptr d => uptoBulk d + 1
  | .slice elems spare => uptoBulkAll elems + uptoBulkAll spare + 1
  | .agg parts => uptoBulkAll parts + 1
  | .iface _ d => uptoBulk d + 1
  | .map entries => uptoBulkEntries entries + 1
  | .held _ => 1
def uptoBulkAll {H : Type} : List (DataW H) → Nat
  | [] => 0
  | d :: r => uptoBulk d + uptoBulkAll r
def uptoBulkEntries {H : Type} : List (Lit × DataW H) → Nat
  | [] => 0
  | x :: r => uptoBulkEntry x + uptoBulkEntries r
def uptoBulkEntry {H : Type} : Lit × DataW H → Nat
  | (.string bytes, d) => bytes.length + uptoBulk d + 1
  | (_, d) => uptoBulk d + 1
 end
def uptoSmall : (H : Type) → List (DataW H) → Bool := fun _ ds => decide (uptoBulkAll ds ≤ 1048576)
def OpenSpec.upto (s : _root_.Go.ChangeSpec) : _root_.Go.OpenSpec := { _root_.Go.OpenSpec.ofChange s with cond := some uptoSmall }

/-- 'sedimentlaw07.MemtableSees', WHERE WHAT IT READS IS OF BULK AT MOST 1048576: true; the input reads as it did. -/
def memtableSeesUptoRow : OpenClaim := { program := "ytodnojpolkdlmaa", sum := "8fbd282cdc48087cf5976d1442bcc31c72c491b3ce2545b38fade40670148f25", func := "sediment/sedimentlaw07.MemtableSees", spec := "memtableSees", inPlace := ["internal/bytealg.abigen_runtime_cmpstring", "slices.overlaps[sediment/api.Tombstone]"], unfollowed := true, recurses := true, apart := false, narrowed := true }
def MemtableSeesUptoSaid : Prop := memtableSeesUptoRow.holds Try.pinned (OpenSpec.upto memtableSeesSpec)

/-- 'sedimentlaw07.MemtableMap', WHERE WHAT IT READS IS OF BULK AT MOST 1048576: true; the input reads as it did. -/
def memtableMapUptoRow : OpenClaim := { program := "ytodnojpolkdlmaa", sum := "8fbd282cdc48087cf5976d1442bcc31c72c491b3ce2545b38fade40670148f25", func := "sediment/sedimentlaw07.MemtableMap", spec := "memtableMap", inPlace := ["internal/bytealg.abigen_runtime_cmpstring", "slices.overlaps[sediment/api.Tombstone]"], unfollowed := true, recurses := true, apart := false, narrowed := true }
def MemtableMapUptoSaid : Prop := memtableMapUptoRow.holds Try.pinned (OpenSpec.upto memtableMapSpec)

/-- 'sedimentlaw07.MemtableHeights', WHERE WHAT IT READS IS OF BULK AT MOST 1048576: true; the input reads as it did. -/
def memtableHeightsUptoRow : OpenClaim := { program := "ytodnojpolkdlmaa", sum := "8fbd282cdc48087cf5976d1442bcc31c72c491b3ce2545b38fade40670148f25", func := "sediment/sedimentlaw07.MemtableHeights", spec := "memtableHeights", inPlace := ["internal/bytealg.abigen_runtime_cmpstring", "slices.overlaps[sediment/api.Tombstone]"], unfollowed := true, recurses := true, apart := false, narrowed := true }
def MemtableHeightsUptoSaid : Prop := memtableHeightsUptoRow.holds Try.pinned (OpenSpec.upto memtableHeightsSpec)

/-- 'sedimentlaw07.MemtableActs', WHERE WHAT IT READS IS OF BULK AT MOST 1048576: true; the input reads as it did. -/
def memtableActsUptoRow : OpenClaim := { program := "ytodnojpolkdlmaa", sum := "8fbd282cdc48087cf5976d1442bcc31c72c491b3ce2545b38fade40670148f25", func := "sediment/sedimentlaw07.MemtableActs", spec := "memtableActs", inPlace := ["internal/bytealg.abigen_runtime_cmpstring", "slices.overlaps[sediment/api.Tombstone]"], unfollowed := true, recurses := true, apart := false, narrowed := true }
def MemtableActsUptoSaid : Prop := memtableActsUptoRow.holds Try.pinned (OpenSpec.upto memtableActsSpec)

end Rows
end Go.Proofs.Ytodnojpolkdlmaa
