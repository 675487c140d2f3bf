/-
  No cell of these rows narrows 'for every input' (looked for: loops, veiled, ifaces, maps, wideKeys, modest, calm, conditions, laid).
  DERIVED. THE GIVEN ROWS OF THIS SEAT. 3 by the template 'for every input the law returns true; each argument reads behind the call as it read before'; 0 by the template 'total and deterministic' (their statements: YtcpjjnikehcleaaTotals.lean).
  GIVEN WITH THE SEED: the statements are not yours to turn. If you find one false, say at which input.
  Laid BY PROGRAM, IN A SANDBOX (cutbox-rows.mjs): the forced cells as the released guide's own fill.sh prints them over the translation 3e27824e3546e278… (all of the seat's roots in one cut). By AI agents, Wed Nov 11 2026. No macro, syntax, notation, axiom, sorry.
-/
import Derived.Test.YtcpjjnikehcleaaChecked
import GoSem.Claim
import GoSem.ClaimJoined
import GoSem.ClaimMapViews
import Derived.JoinedTies
import Derived.KernelRfl
namespace Go.Proofs.Ytcpjjnikehcleaa
/- THE CELL 'sum', in the pinned program and in every row, IS THE sha256 OF THE DUMP (.gsa) THAT YtcpjjnikehcleaaProg.lean LOADS. Nothing in Lean hashes anything: it is a label: what it is worth is what the hold of that sum in a sandbox is worth. -/
noncomputable def Try.pinned : Pinned := { name := "ytcpjjnikehcleaa", sum := "3e27824e3546e2789608616cae447e8040590deb5af4f7ed7a6b81d77cb2fd72", checked := Try.checked }
namespace Rows
def none {H : Type} : Left H := { results := [], args := [] }

/-- 'prompterlaw14.InstrChecks': WHATEVER THE INPUT: true; the input reads as it did. -/
def instrChecksSpec : ChangeSpec := { name := "instrChecks", fn := fun _ => fun
  | [d1, d2] => { results := [.lit (.bool true)], args := [d1, d2] }
  | _ => none }
def instrChecksRow : OpenClaim := { program := "ytcpjjnikehcleaa", sum := "3e27824e3546e2789608616cae447e8040590deb5af4f7ed7a6b81d77cb2fd72", func := "prompter/prompterlaw14.InstrChecks", spec := "instrChecks", apart := false }
def InstrChecksSaid : Prop := instrChecksRow.holds Try.pinned (OpenSpec.ofChange instrChecksSpec)

/-- ITS FALSE NEIGHBOUR: 'it returns false'. Refute it at one input. -/
def instrChecksWrong : ChangeSpec := { name := "instrChecks", fn := fun _ => fun
  | [d1, d2] => { results := [.lit (.bool false)], args := [d1, d2] }
  | _ => none }
def InstrChecksWrongFalsely : Prop := instrChecksRow.holds Try.pinned (OpenSpec.ofChange instrChecksWrong)

/-- 'prompterlaw14.InstrWays': WHATEVER THE INPUT: true; the input reads as it did. -/
def instrWaysSpec : ChangeSpec := { name := "instrWays", fn := fun _ => fun
  | [d1, d2, d3] => { results := [.lit (.bool true)], args := [d1, d2, d3] }
  | _ => none }
def instrWaysRow : OpenClaim := { program := "ytcpjjnikehcleaa", sum := "3e27824e3546e2789608616cae447e8040590deb5af4f7ed7a6b81d77cb2fd72", func := "prompter/prompterlaw14.InstrWays", spec := "instrWays", apart := false }
def InstrWaysSaid : Prop := instrWaysRow.holds Try.pinned (OpenSpec.ofChange instrWaysSpec)

/-- ITS FALSE NEIGHBOUR: 'it returns false'. Refute it at one input. -/
def instrWaysWrong : ChangeSpec := { name := "instrWays", fn := fun _ => fun
  | [d1, d2, d3] => { results := [.lit (.bool false)], args := [d1, d2, d3] }
  | _ => none }
def InstrWaysWrongFalsely : Prop := instrWaysRow.holds Try.pinned (OpenSpec.ofChange instrWaysWrong)

/-- 'prompterlaw14.InstrReads': WHATEVER THE INPUT: true; the input reads as it did. -/
def instrReadsSpec : ChangeSpec := { name := "instrReads", fn := fun _ => fun
  | [d] => { results := [.lit (.bool true)], args := [d] }
  | _ => none }
def instrReadsRow : OpenClaim := { program := "ytcpjjnikehcleaa", sum := "3e27824e3546e2789608616cae447e8040590deb5af4f7ed7a6b81d77cb2fd72", func := "prompter/prompterlaw14.InstrReads", spec := "instrReads", unfollowed := true, recurses := true, apart := false }
def InstrReadsSaid : Prop := instrReadsRow.holds Try.pinned (OpenSpec.ofChange instrReadsSpec)

/-- ITS FALSE NEIGHBOUR: 'it returns false'. Refute it at one input. -/
def instrReadsWrong : ChangeSpec := { name := "instrReads", fn := fun _ => fun
  | [d] => { results := [.lit (.bool false)], args := [d] }
  | _ => none }
def InstrReadsWrongFalsely : Prop := instrReadsRow.holds Try.pinned (OpenSpec.ofChange instrReadsWrong)

/- THE SECOND FORM. 'bulk': how many values and letters a reading holds, each counted each time it is reached (what is shared counts as often as it is met; a slice's spare places count too). A statement '..UptoSaid' is the law's where the arguments, and the package variables that the reading takes, are together of bulk at most 1048576: NARROWER than '..Said'. Prove '..Said' where nothing that the law and all that it calls make is longer than what came in: it says more and counts as full. Else prove '..UptoSaid'. A law counts once. -/
mutual
def uptoBulk {H : Type} : DataW H → Nat
  | .lit (.string bytes) => bytes.length + 1
  | .lit _ => 1
  | .nil => 1
  | .ptr d => uptoBulk d + 1
  | .slice elems spare => uptoBulkAll elems + uptoBulkAll spare + 1
  | .agg parts => uptoBulkAll parts + 1
  | .iface _ d => uptoBulk d + 1
  | .map entries => uptoBulkEntries entries + 1
  | .held _ => 1
def uptoBulkAll {H : Type} : List (DataW H) → Nat
  | [] => 0
  | d :: r => uptoBulk d + uptoBulkAll r
def uptoBulkEntries {H : Type} : List (Lit × DataW H) → Nat
  | [] => 0
  | x :: r => uptoBulkEntry x + uptoBulkEntries r
def uptoBulkEntry {H : Type} : Lit × DataW H → Nat
  | (.string bytes, d) => bytes.length + uptoBulk d + 1
  | (_, d) => uptoBulk d + 1
 end
def uptoSmall : (H : Type) → List (DataW H) → Bool := fun _ ds => decide (uptoBulkAll ds ≤ 1048576)
def OpenSpec.upto (s : _root_.Go.ChangeSpec) : _root_.Go.OpenSpec := { _root_.Go.OpenSpec.ofChange s with cond := some uptoSmall }

/-- 'prompterlaw14.InstrChecks', WHERE WHAT IT READS IS OF BULK AT MOST 1048576: true; the input reads as it did. -/
def instrChecksUptoRow : OpenClaim := { program := "ytcpjjnikehcleaa", sum := "3e27824e3546e2789608616cae447e8040590deb5af4f7ed7a6b81d77cb2fd72", func := "prompter/prompterlaw14.InstrChecks", spec := "instrChecks", apart := false, narrowed := true }
def InstrChecksUptoSaid : Prop := instrChecksUptoRow.holds Try.pinned (OpenSpec.upto instrChecksSpec)

/-- 'prompterlaw14.InstrWays', WHERE WHAT IT READS IS OF BULK AT MOST 1048576: true; the input reads as it did. -/
def instrWaysUptoRow : OpenClaim := { program := "ytcpjjnikehcleaa", sum := "3e27824e3546e2789608616cae447e8040590deb5af4f7ed7a6b81d77cb2fd72", func := "prompter/prompterlaw14.InstrWays", spec := "instrWays", apart := false, narrowed := true }
def InstrWaysUptoSaid : Prop := instrWaysUptoRow.holds Try.pinned (OpenSpec.upto instrWaysSpec)

/-- 'prompterlaw14.InstrReads', WHERE WHAT IT READS IS OF BULK AT MOST 1048576: true; the input reads as it did. -/
def instrReadsUptoRow : OpenClaim := { program := "ytcpjjnikehcleaa", sum := "3e27824e3546e2789608616cae447e8040590deb5af4f7ed7a6b81d77cb2fd72", func := "prompter/prompterlaw14.InstrReads", spec := "instrReads", unfollowed := true, recurses := true, apart := false, narrowed := true }
def InstrReadsUptoSaid : Prop := instrReadsUptoRow.holds Try.pinned (OpenSpec.upto instrReadsSpec)

end Rows
end Go.Proofs.Ytcpjjnikehcleaa
