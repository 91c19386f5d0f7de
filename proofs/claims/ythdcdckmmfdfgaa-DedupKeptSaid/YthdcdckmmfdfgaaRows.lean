/-
  No cell of these rows narrows 'for every input' (looked for: loops, veiled, ifaces, maps, wideKeys, modest, calm, conditions, laid).
  DERIVED. THE GIVEN ROWS OF THIS SEAT. 10 by the template 'for every input the law returns true; each argument reads behind the call as it read before'; 0 by the template 'total and deterministic' (their statements: YthdcdckmmfdfgaaTotals.lean).
  GIVEN WITH THE SEED: the statements are not yours to turn. If you find one false, say at which input.
  Laid BY PROGRAM, IN A SANDBOX (cutbox-rows.mjs): the forced cells as the released guide's own fill.sh prints them over the translation 4657b6df3b55bf27… (all of the seat's roots in one cut). By AI agents, Wed Nov 11 2026. No macro, syntax, notation, axiom, sorry.
-/
import Derived.Test.YthdcdckmmfdfgaaChecked
import GoSem.Claim
import GoSem.ClaimJoined
import GoSem.ClaimMapViews
import Derived.JoinedTies
import Derived.KernelRfl
namespace Go.Proofs.Ythdcdckmmfdfgaa
/- THE CELL 'sum', in the pinned program and in every row, IS THE sha256 OF THE DUMP (.gsa) THAT YthdcdckmmfdfgaaProg.lean LOADS. Nothing in Lean hashes anything: it is a label: what it is worth is what the hold of that sum in a sandbox is worth. -/
noncomputable def Try.pinned : Pinned := { name := "ythdcdckmmfdfgaa", sum := "4657b6df3b55bf27c62a31136c5adae513aa1e9cbc62fee9635515a8898cbd13", checked := Try.checked }
namespace Rows
def none {H : Type} : Left H := { results := [], args := [] }

/-- 'concordlaw12.DedupKept': WHATEVER THE INPUT: true; the input reads as it did. -/
def dedupKeptSpec : ChangeSpec := { name := "dedupKept", fn := fun _ => fun
  | [d1, d2] => { results := [.lit (.bool true)], args := [d1, d2] }
  | _ => none }
def dedupKeptRow : OpenClaim := { program := "ythdcdckmmfdfgaa", sum := "4657b6df3b55bf27c62a31136c5adae513aa1e9cbc62fee9635515a8898cbd13", func := "concord/concordlaw12.DedupKept", spec := "dedupKept", unfollowed := true, recurses := true, plainKeys := false, apart := false }
def DedupKeptSaid : Prop := dedupKeptRow.holds Try.pinned (OpenSpec.ofChange dedupKeptSpec)

/-- ITS FALSE NEIGHBOUR: 'it returns false'. Refute it at one input. -/
def dedupKeptWrong : ChangeSpec := { name := "dedupKept", fn := fun _ => fun
  | [d1, d2] => { results := [.lit (.bool false)], args := [d1, d2] }
  | _ => none }
def DedupKeptWrongFalsely : Prop := dedupKeptRow.holds Try.pinned (OpenSpec.ofChange dedupKeptWrong)

/-- 'concordlaw8.DiskTwins': WHATEVER THE INPUT: true; the input reads as it did. -/
def diskTwinsSpec : ChangeSpec := { name := "diskTwins", fn := fun _ => fun
  | [d] => { results := [.lit (.bool true)], args := [d] }
  | _ => none }
def diskTwinsRow : OpenClaim := { program := "ythdcdckmmfdfgaa", sum := "4657b6df3b55bf27c62a31136c5adae513aa1e9cbc62fee9635515a8898cbd13", func := "concord/concordlaw8.DiskTwins", spec := "diskTwins", inPlace := ["slices.overlaps[concord/disk.file]"], plainKeys := false, apart := false }
def DiskTwinsSaid : Prop := diskTwinsRow.holds Try.pinned (OpenSpec.ofChange diskTwinsSpec)

/-- ITS FALSE NEIGHBOUR: 'it returns false'. Refute it at one input. -/
def diskTwinsWrong : ChangeSpec := { name := "diskTwins", fn := fun _ => fun
  | [d] => { results := [.lit (.bool false)], args := [d] }
  | _ => none }
def DiskTwinsWrongFalsely : Prop := diskTwinsRow.holds Try.pinned (OpenSpec.ofChange diskTwinsWrong)

/-- 'concordlaw8.DiskPlays': WHATEVER THE INPUT: true; the input reads as it did. -/
def diskPlaysSpec : ChangeSpec := { name := "diskPlays", fn := fun _ => fun
  | [d1, d2] => { results := [.lit (.bool true)], args := [d1, d2] }
  | _ => none }
def diskPlaysRow : OpenClaim := { program := "ythdcdckmmfdfgaa", sum := "4657b6df3b55bf27c62a31136c5adae513aa1e9cbc62fee9635515a8898cbd13", func := "concord/concordlaw8.DiskPlays", spec := "diskPlays", inPlace := ["slices.overlaps[concord/disk.file]"], plainKeys := false, apart := false }
def DiskPlaysSaid : Prop := diskPlaysRow.holds Try.pinned (OpenSpec.ofChange diskPlaysSpec)

/-- ITS FALSE NEIGHBOUR: 'it returns false'. Refute it at one input. -/
def diskPlaysWrong : ChangeSpec := { name := "diskPlays", fn := fun _ => fun
  | [d1, d2] => { results := [.lit (.bool false)], args := [d1, d2] }
  | _ => none }
def DiskPlaysWrongFalsely : Prop := diskPlaysRow.holds Try.pinned (OpenSpec.ofChange diskPlaysWrong)

/-- 'concordlaw13.StatePlays': WHATEVER THE INPUT: true; the input reads as it did. -/
def statePlaysSpec : ChangeSpec := { name := "statePlays", fn := fun _ => fun
  | [d] => { results := [.lit (.bool true)], args := [d] }
  | _ => none }
def statePlaysRow : OpenClaim := { program := "ythdcdckmmfdfgaa", sum := "4657b6df3b55bf27c62a31136c5adae513aa1e9cbc62fee9635515a8898cbd13", func := "concord/concordlaw13.StatePlays", spec := "statePlays", inPlace := ["slices.overlaps[concord/api.Pair]"], plainKeys := false, apart := false }
def StatePlaysSaid : Prop := statePlaysRow.holds Try.pinned (OpenSpec.ofChange statePlaysSpec)

/-- ITS FALSE NEIGHBOUR: 'it returns false'. Refute it at one input. -/
def statePlaysWrong : ChangeSpec := { name := "statePlays", fn := fun _ => fun
  | [d] => { results := [.lit (.bool false)], args := [d] }
  | _ => none }
def StatePlaysWrongFalsely : Prop := statePlaysRow.holds Try.pinned (OpenSpec.ofChange statePlaysWrong)

/-- 'concordlaw15.LetterReads': WHATEVER THE INPUT: true; the input reads as it did. -/
def letterReadsSpec : ChangeSpec := { name := "letterReads", fn := fun _ => fun
  | [d1, d2, d3, d4, d5] => { results := [.lit (.bool true)], args := [d1, d2, d3, d4, d5] }
  | _ => none }
def letterReadsRow : OpenClaim := { program := "ythdcdckmmfdfgaa", sum := "4657b6df3b55bf27c62a31136c5adae513aa1e9cbc62fee9635515a8898cbd13", func := "concord/concordlaw15.LetterReads", spec := "letterReads", plainKeys := false, apart := false }
def LetterReadsSaid : Prop := letterReadsRow.holds Try.pinned (OpenSpec.ofChange letterReadsSpec)

/-- ITS FALSE NEIGHBOUR: 'it returns false'. Refute it at one input. -/
def letterReadsWrong : ChangeSpec := { name := "letterReads", fn := fun _ => fun
  | [d1, d2, d3, d4, d5] => { results := [.lit (.bool false)], args := [d1, d2, d3, d4, d5] }
  | _ => none }
def LetterReadsWrongFalsely : Prop := letterReadsRow.holds Try.pinned (OpenSpec.ofChange letterReadsWrong)

/-- 'concordlaw26.HistoryRuns': WHATEVER THE INPUT: true; the input reads as it did. -/
def historyRunsSpec : ChangeSpec := { name := "historyRuns", fn := fun _ => fun
  | [] => { results := [.lit (.bool true)], args := [] }
  | _ => none }
def historyRunsRow : OpenClaim := { program := "ythdcdckmmfdfgaa", sum := "4657b6df3b55bf27c62a31136c5adae513aa1e9cbc62fee9635515a8898cbd13", func := "concord/concordlaw26.HistoryRuns", spec := "historyRuns", inPlace := ["slices.overlaps[concord/api.Pair]"], recurses := true, plainKeys := false, apart := false }
def HistoryRunsSaid : Prop := historyRunsRow.holds Try.pinned (OpenSpec.ofChange historyRunsSpec)

/-- ITS FALSE NEIGHBOUR: 'it returns false'. Refute it at one input. -/
def historyRunsWrong : ChangeSpec := { name := "historyRuns", fn := fun _ => fun
  | [] => { results := [.lit (.bool false)], args := [] }
  | _ => none }
def HistoryRunsWrongFalsely : Prop := historyRunsRow.holds Try.pinned (OpenSpec.ofChange historyRunsWrong)

/-- 'concordlaw26.HistoryTells': WHATEVER THE INPUT: true; the input reads as it did. -/
def historyTellsSpec : ChangeSpec := { name := "historyTells", fn := fun _ => fun
  | [d1, d2, d3] => { results := [.lit (.bool true)], args := [d1, d2, d3] }
  | _ => none }
def historyTellsRow : OpenClaim := { program := "ythdcdckmmfdfgaa", sum := "4657b6df3b55bf27c62a31136c5adae513aa1e9cbc62fee9635515a8898cbd13", func := "concord/concordlaw26.HistoryTells", spec := "historyTells", inPlace := ["slices.overlaps[concord/api.Pair]"], recurses := true, plainKeys := false, apart := false }
def HistoryTellsSaid : Prop := historyTellsRow.holds Try.pinned (OpenSpec.ofChange historyTellsSpec)

/-- ITS FALSE NEIGHBOUR: 'it returns false'. Refute it at one input. -/
def historyTellsWrong : ChangeSpec := { name := "historyTells", fn := fun _ => fun
  | [d1, d2, d3] => { results := [.lit (.bool false)], args := [d1, d2, d3] }
  | _ => none }
def HistoryTellsWrongFalsely : Prop := historyTellsRow.holds Try.pinned (OpenSpec.ofChange historyTellsWrong)

/-- 'concordlaw26.HistoryMade': WHATEVER THE INPUT: true; the input reads as it did. -/
def historyMadeSpec : ChangeSpec := { name := "historyMade", fn := fun _ => fun
  | [d1, d2] => { results := [.lit (.bool true)], args := [d1, d2] }
  | _ => none }
def historyMadeRow : OpenClaim := { program := "ythdcdckmmfdfgaa", sum := "4657b6df3b55bf27c62a31136c5adae513aa1e9cbc62fee9635515a8898cbd13", func := "concord/concordlaw26.HistoryMade", spec := "historyMade", inPlace := ["slices.overlaps[concord/api.Pair]"], recurses := true, plainKeys := false, apart := false }
def HistoryMadeSaid : Prop := historyMadeRow.holds Try.pinned (OpenSpec.ofChange historyMadeSpec)

/-- ITS FALSE NEIGHBOUR: 'it returns false'. Refute it at one input. -/
def historyMadeWrong : ChangeSpec := { name := "historyMade", fn := fun _ => fun
  | [d1, d2] => { results := [.lit (.bool false)], args := [d1, d2] }
  | _ => none }
def HistoryMadeWrongFalsely : Prop := historyMadeRow.holds Try.pinned (OpenSpec.ofChange historyMadeWrong)

/-- 'concordlaw26.HistoryFits': WHATEVER THE INPUT: true; the input reads as it did. -/
def historyFitsSpec : ChangeSpec := { name := "historyFits", fn := fun _ => fun
  | [d1, d2] => { results := [.lit (.bool true)], args := [d1, d2] }
  | _ => none }
def historyFitsRow : OpenClaim := { program := "ythdcdckmmfdfgaa", sum := "4657b6df3b55bf27c62a31136c5adae513aa1e9cbc62fee9635515a8898cbd13", func := "concord/concordlaw26.HistoryFits", spec := "historyFits", inPlace := ["slices.overlaps[concord/api.Pair]"], recurses := true, plainKeys := false, apart := false }
def HistoryFitsSaid : Prop := historyFitsRow.holds Try.pinned (OpenSpec.ofChange historyFitsSpec)

/-- ITS FALSE NEIGHBOUR: 'it returns false'. Refute it at one input. -/
def historyFitsWrong : ChangeSpec := { name := "historyFits", fn := fun _ => fun
  | [d1, d2] => { results := [.lit (.bool false)], args := [d1, d2] }
  | _ => none }
def HistoryFitsWrongFalsely : Prop := historyFitsRow.holds Try.pinned (OpenSpec.ofChange historyFitsWrong)

/-- 'concordlaw26.HistoryRow': WHATEVER THE INPUT: true; the input reads as it did. -/
def historyRowSpec : ChangeSpec := { name := "historyRow", fn := fun _ => fun
  | [d1, d2] => { results := [.lit (.bool true)], args := [d1, d2] }
  | _ => none }
def historyRowRow : OpenClaim := { program := "ythdcdckmmfdfgaa", sum := "4657b6df3b55bf27c62a31136c5adae513aa1e9cbc62fee9635515a8898cbd13", func := "concord/concordlaw26.HistoryRow", spec := "historyRow", inPlace := ["slices.overlaps[concord/api.Pair]"], recurses := true, plainKeys := false, apart := false }
def HistoryRowSaid : Prop := historyRowRow.holds Try.pinned (OpenSpec.ofChange historyRowSpec)

/-- ITS FALSE NEIGHBOUR: 'it returns false'. Refute it at one input. -/
def historyRowWrong : ChangeSpec := { name := "historyRow", fn := fun _ => fun
  | [d1, d2] => { results := [.lit (.bool false)], args := [d1, d2] }
  | _ => none }
def HistoryRowWrongFalsely : Prop := historyRowRow.holds Try.pinned (OpenSpec.ofChange historyRowWrong)

/- THE SECOND FORM. 'bulk': how many values and letters a reading holds, each counted each time it is reached (what is shared counts as often as it is met; a slice's spare places count too). A statement '..UptoSaid' is the law's where the arguments, and the package variables that the reading takes, are together of bulk at most 1048576: NARROWER than '..Said'. Prove '..Said' where nothing that the law and all that it calls make is longer than what came in: it says more and counts as full. Else prove '..UptoSaid'. A law counts once. -/
mutual
def uptoBulk {H : Type} : DataW H → Nat
  | .lit (.string bytes) => bytes.length + 1
  | .lit _ => 1
  | .nil => 1
  | .ptr d => uptoBulk d + 1
  | .slice elems spare => uptoBulkAll elems + uptoBulkAll spare + 1
  | .agg parts => uptoBulkAll parts + 1
  | .iface _ d => uptoBulk d + 1
  | .map entries => uptoBulkEntries entries + 1
  | .held _ => 1
def uptoBulkAll {H : Type} : List (DataW H) → Nat
  | [] => 0
  | d :: r => uptoBulk d + uptoBulkAll r
def uptoBulkEntries {H : Type} : List (Lit × DataW H) → Nat
  | [] => 0
  | x :: r => uptoBulkEntry x + uptoBulkEntries r
def uptoBulkEntry {H : Type} : Lit × DataW H → Nat
  | (.string bytes, d) => bytes.length + uptoBulk d + 1
  | (_, d) => uptoBulk d + 1
 end
def uptoSmall : (H : Type) → List (DataW H) → Bool := fun _ ds => decide (uptoBulkAll ds ≤ 1048576)
def OpenSpec.upto (s : _root_.Go.ChangeSpec) : _root_.Go.OpenSpec := { _root_.Go.OpenSpec.ofChange s with cond := some uptoSmall }

/-- 'concordlaw12.DedupKept', WHERE WHAT IT READS IS OF BULK AT MOST 1048576: true; the input reads as it did. -/
def dedupKeptUptoRow : OpenClaim := { program := "ythdcdckmmfdfgaa", sum := "4657b6df3b55bf27c62a31136c5adae513aa1e9cbc62fee9635515a8898cbd13", func := "concord/concordlaw12.DedupKept", spec := "dedupKept", unfollowed := true, recurses := true, plainKeys := false, apart := false, narrowed := true }
def DedupKeptUptoSaid : Prop := dedupKeptUptoRow.holds Try.pinned (OpenSpec.upto dedupKeptSpec)

/-- 'concordlaw8.DiskTwins', WHERE WHAT IT READS IS OF BULK AT MOST 1048576: true; the input reads as it did. -/
def diskTwinsUptoRow : OpenClaim := { program := "ythdcdckmmfdfgaa", sum := "4657b6df3b55bf27c62a31136c5adae513aa1e9cbc62fee9635515a8898cbd13", func := "concord/concordlaw8.DiskTwins", spec := "diskTwins", inPlace := ["slices.overlaps[concord/disk.file]"], plainKeys := false, apart := false, narrowed := true }
def DiskTwinsUptoSaid : Prop := diskTwinsUptoRow.holds Try.pinned (OpenSpec.upto diskTwinsSpec)

/-- 'concordlaw8.DiskPlays', WHERE WHAT IT READS IS OF BULK AT MOST 1048576: true; the input reads as it did. -/
def diskPlaysUptoRow : OpenClaim := { program := "ythdcdckmmfdfgaa", sum := "4657b6df3b55bf27c62a31136c5adae513aa1e9cbc62fee9635515a8898cbd13", func := "concord/concordlaw8.DiskPlays", spec := "diskPlays", inPlace := ["slices.overlaps[concord/disk.file]"], plainKeys := false, apart := false, narrowed := true }
def DiskPlaysUptoSaid : Prop := diskPlaysUptoRow.holds Try.pinned (OpenSpec.upto diskPlaysSpec)

/-- 'concordlaw13.StatePlays', WHERE WHAT IT READS IS OF BULK AT MOST 1048576: true; the input reads as it did. -/
def statePlaysUptoRow : OpenClaim := { program := "ythdcdckmmfdfgaa", sum := "4657b6df3b55bf27c62a31136c5adae513aa1e9cbc62fee9635515a8898cbd13", func := "concord/concordlaw13.StatePlays", spec := "statePlays", inPlace := ["slices.overlaps[concord/api.Pair]"], plainKeys := false, apart := false, narrowed := true }
def StatePlaysUptoSaid : Prop := statePlaysUptoRow.holds Try.pinned (OpenSpec.upto statePlaysSpec)

/-- 'concordlaw15.LetterReads', WHERE WHAT IT READS IS OF BULK AT MOST 1048576: true; the input reads as it did. -/
def letterReadsUptoRow : OpenClaim := { program := "ythdcdckmmfdfgaa", sum := "4657b6df3b55bf27c62a31136c5adae513aa1e9cbc62fee9635515a8898cbd13", func := "concord/concordlaw15.LetterReads", spec := "letterReads", plainKeys := false, apart := false, narrowed := true }
def LetterReadsUptoSaid : Prop := letterReadsUptoRow.holds Try.pinned (OpenSpec.upto letterReadsSpec)

/-- 'concordlaw26.HistoryRuns', WHERE WHAT IT READS IS OF BULK AT MOST 1048576: true; the input reads as it did. -/
def historyRunsUptoRow : OpenClaim := { program := "ythdcdckmmfdfgaa", sum := "4657b6df3b55bf27c62a31136c5adae513aa1e9cbc62fee9635515a8898cbd13", func := "concord/concordlaw26.HistoryRuns", spec := "historyRuns", inPlace := ["slices.overlaps[concord/api.Pair]"], recurses := true, plainKeys := false, apart := false, narrowed := true }
def HistoryRunsUptoSaid : Prop := historyRunsUptoRow.holds Try.pinned (OpenSpec.upto historyRunsSpec)

/-- 'concordlaw26.HistoryTells', WHERE WHAT IT READS IS OF BULK AT MOST 1048576: true; the input reads as it did. -/
def historyTellsUptoRow : OpenClaim := { program := "ythdcdckmmfdfgaa", sum := "4657b6df3b55bf27c62a31136c5adae513aa1e9cbc62fee9635515a8898cbd13", func := "concord/concordlaw26.HistoryTells", spec := "historyTells", inPlace := ["slices.overlaps[concord/api.Pair]"], recurses := true, plainKeys := false, apart := false, narrowed := true }
def HistoryTellsUptoSaid : Prop := historyTellsUptoRow.holds Try.pinned (OpenSpec.upto historyTellsSpec)

/-- 'concordlaw26.HistoryMade', WHERE WHAT IT READS IS OF BULK AT MOST 1048576: true; the input reads as it did. -/
def historyMadeUptoRow : OpenClaim := { program := "ythdcdckmmfdfgaa", sum := "4657b6df3b55bf27c62a31136c5adae513aa1e9cbc62fee9635515a8898cbd13", func := "concord/concordlaw26.HistoryMade", spec := "historyMade", inPlace := ["slices.overlaps[concord/api.Pair]"], recurses := true, plainKeys := false, apart := false, narrowed := true }
def HistoryMadeUptoSaid : Prop := historyMadeUptoRow.holds Try.pinned (OpenSpec.upto historyMadeSpec)

/-- 'concordlaw26.HistoryFits', WHERE WHAT IT READS IS OF BULK AT MOST 1048576: true; the input reads as it did. -/
def historyFitsUptoRow : OpenClaim := { program := "ythdcdckmmfdfgaa", sum := "4657b6df3b55bf27c62a31136c5adae513aa1e9cbc62fee9635515a8898cbd13", func := "concord/concordlaw26.HistoryFits", spec := "historyFits", inPlace := ["slices.overlaps[concord/api.Pair]"], recurses := true, plainKeys := false, apart := false, narrowed := true }
def HistoryFitsUptoSaid : Prop := historyFitsUptoRow.holds Try.pinned (OpenSpec.upto historyFitsSpec)

/-- 'concordlaw26.HistoryRow', WHERE WHAT IT READS IS OF BULK AT MOST 1048576: true; the input reads as it did. -/
def historyRowUptoRow : OpenClaim := { program := "ythdcdckmmfdfgaa", sum := "4657b6df3b55bf27c62a31136c5adae513aa1e9cbc62fee9635515a8898cbd13", func := "concord/concordlaw26.HistoryRow", spec := "historyRow", inPlace := ["slices.overlaps[concord/api.Pair]"], recurses := true, plainKeys := false, apart := false, narrowed := true }
def HistoryRowUptoSaid : Prop := historyRowUptoRow.holds Try.pinned (OpenSpec.upto historyRowSpec)

end Rows
end Go.Proofs.Ythdcdckmmfdfgaa
