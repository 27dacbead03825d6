/-
  No cell of these rows narrows 'for every input' (looked for: loops, veiled, ifaces, maps, wideKeys, modest, calm, conditions, laid).
  DERIVED. THE GIVEN ROWS OF THIS SEAT. 7 by the template 'for every input the law returns true; each argument reads behind the call as it read before'; 0 by the template 'total and deterministic' (their statements: YthmjjmimmbgpaaaTotals.lean).
  GIVEN WITH THE SEED: the statements are not yours to turn. If you find one false, say at which input.
  Laid BY PROGRAM, IN A SANDBOX (cutbox-rows.mjs): the forced cells as the released guide's own fill.sh prints them over the translation fb0adcc727ff57bf… (all of the seat's roots in one cut). By AI agents, Wed Nov 11 2026. No macro, syntax, notation, axiom, sorry.
-/
import Derived.Test.YthmjjmimmbgpaaaChecked
import GoSem.Claim
import GoSem.ClaimJoined
import GoSem.ClaimMapViews
import Derived.JoinedTies
import Derived.KernelRfl
namespace Go.Proofs.Ythmjjmimmbgpaaa
/- THE CELL 'sum', in the pinned program and in every row, IS THE sha256 OF THE DUMP (.gsa) THAT YthmjjmimmbgpaaaProg.lean LOADS. Nothing in Lean hashes anything: it is a label: what it is worth is what the hold of that sum in a sandbox is worth. -/
noncomputable def Try.pinned : Pinned := { name := "ythmjjmimmbgpaaa", sum := "fb0adcc727ff57bf2b25f61d4a5f6a5b600fbcdb03b788e46b03b246852b0218", checked := Try.checked }
namespace Rows
def none {H : Type} : Left H := { results := [], args := [] }

/-- 'gleanerlaw10.QueuePlays': WHATEVER THE INPUT: true; the input reads as it did. -/
def queuePlaysSpec : ChangeSpec := { name := "queuePlays", fn := fun _ => fun
  | [d1, d2, d3] => { results := [.lit (.bool true)], args := [d1, d2, d3] }
  | _ => none }
def queuePlaysRow : OpenClaim := { program := "ythmjjmimmbgpaaa", sum := "fb0adcc727ff57bf2b25f61d4a5f6a5b600fbcdb03b788e46b03b246852b0218", func := "gleaner/gleanerlaw10.QueuePlays", spec := "queuePlays", apart := false }
def QueuePlaysSaid : Prop := queuePlaysRow.holds Try.pinned (OpenSpec.ofChange queuePlaysSpec)

/-- ITS FALSE NEIGHBOUR: 'it returns false'. Refute it at one input. -/
def queuePlaysWrong : ChangeSpec := { name := "queuePlays", fn := fun _ => fun
  | [d1, d2, d3] => { results := [.lit (.bool false)], args := [d1, d2, d3] }
  | _ => none }
def QueuePlaysWrongFalsely : Prop := queuePlaysRow.holds Try.pinned (OpenSpec.ofChange queuePlaysWrong)

/-- 'gleanerlaw10.QueueKeeps': WHATEVER THE INPUT: true; the input reads as it did. -/
def queueKeepsSpec : ChangeSpec := { name := "queueKeeps", fn := fun _ => fun
  | [d1, d2] => { results := [.lit (.bool true)], args := [d1, d2] }
  | _ => none }
def queueKeepsRow : OpenClaim := { program := "ythmjjmimmbgpaaa", sum := "fb0adcc727ff57bf2b25f61d4a5f6a5b600fbcdb03b788e46b03b246852b0218", func := "gleaner/gleanerlaw10.QueueKeeps", spec := "queueKeeps", apart := false }
def QueueKeepsSaid : Prop := queueKeepsRow.holds Try.pinned (OpenSpec.ofChange queueKeepsSpec)

/-- ITS FALSE NEIGHBOUR: 'it returns false'. Refute it at one input. -/
def queueKeepsWrong : ChangeSpec := { name := "queueKeeps", fn := fun _ => fun
  | [d1, d2] => { results := [.lit (.bool false)], args := [d1, d2] }
  | _ => none }
def QueueKeepsWrongFalsely : Prop := queueKeepsRow.holds Try.pinned (OpenSpec.ofChange queueKeepsWrong)

/-- 'gleanerlaw10.QueueNil': WHATEVER THE INPUT: true; the input reads as it did. -/
def queueNilSpec : ChangeSpec := { name := "queueNil", fn := fun _ => fun
  | [d] => { results := [.lit (.bool true)], args := [d] }
  | _ => none }
def queueNilRow : OpenClaim := { program := "ythmjjmimmbgpaaa", sum := "fb0adcc727ff57bf2b25f61d4a5f6a5b600fbcdb03b788e46b03b246852b0218", func := "gleaner/gleanerlaw10.QueueNil", spec := "queueNil", apart := false }
def QueueNilSaid : Prop := queueNilRow.holds Try.pinned (OpenSpec.ofChange queueNilSpec)

/-- ITS FALSE NEIGHBOUR: 'it returns false'. Refute it at one input. -/
def queueNilWrong : ChangeSpec := { name := "queueNil", fn := fun _ => fun
  | [d] => { results := [.lit (.bool false)], args := [d] }
  | _ => none }
def QueueNilWrongFalsely : Prop := queueNilRow.holds Try.pinned (OpenSpec.ofChange queueNilWrong)

/-- 'gleanerlaw05.ParsePlays': WHATEVER THE INPUT: true; the input reads as it did. -/
def parsePlaysSpec : ChangeSpec := { name := "parsePlays", fn := fun _ => fun
  | [d1, d2] => { results := [.lit (.bool true)], args := [d1, d2] }
  | _ => none }
def parsePlaysRow : OpenClaim := { program := "ythmjjmimmbgpaaa", sum := "fb0adcc727ff57bf2b25f61d4a5f6a5b600fbcdb03b788e46b03b246852b0218", func := "gleaner/gleanerlaw05.ParsePlays", spec := "parsePlays", apart := false }
def ParsePlaysSaid : Prop := parsePlaysRow.holds Try.pinned (OpenSpec.ofChange parsePlaysSpec)

/-- ITS FALSE NEIGHBOUR: 'it returns false'. Refute it at one input. -/
def parsePlaysWrong : ChangeSpec := { name := "parsePlays", fn := fun _ => fun
  | [d1, d2] => { results := [.lit (.bool false)], args := [d1, d2] }
  | _ => none }
def ParsePlaysWrongFalsely : Prop := parsePlaysRow.holds Try.pinned (OpenSpec.ofChange parsePlaysWrong)

/-- 'gleanerlaw05.ParseRows': WHATEVER THE INPUT: true; the input reads as it did. -/
def parseRowsSpec : ChangeSpec := { name := "parseRows", fn := fun _ => fun
  | [d1, d2] => { results := [.lit (.bool true)], args := [d1, d2] }
  | _ => none }
def parseRowsRow : OpenClaim := { program := "ythmjjmimmbgpaaa", sum := "fb0adcc727ff57bf2b25f61d4a5f6a5b600fbcdb03b788e46b03b246852b0218", func := "gleaner/gleanerlaw05.ParseRows", spec := "parseRows", apart := false }
def ParseRowsSaid : Prop := parseRowsRow.holds Try.pinned (OpenSpec.ofChange parseRowsSpec)

/-- ITS FALSE NEIGHBOUR: 'it returns false'. Refute it at one input. -/
def parseRowsWrong : ChangeSpec := { name := "parseRows", fn := fun _ => fun
  | [d1, d2] => { results := [.lit (.bool false)], args := [d1, d2] }
  | _ => none }
def ParseRowsWrongFalsely : Prop := parseRowsRow.holds Try.pinned (OpenSpec.ofChange parseRowsWrong)

/-- 'gleanerlaw05.ParseFills': WHATEVER THE INPUT: true; the input reads as it did. -/
def parseFillsSpec : ChangeSpec := { name := "parseFills", fn := fun _ => fun
  | [d1, d2] => { results := [.lit (.bool true)], args := [d1, d2] }
  | _ => none }
def parseFillsRow : OpenClaim := { program := "ythmjjmimmbgpaaa", sum := "fb0adcc727ff57bf2b25f61d4a5f6a5b600fbcdb03b788e46b03b246852b0218", func := "gleaner/gleanerlaw05.ParseFills", spec := "parseFills", apart := false }
def ParseFillsSaid : Prop := parseFillsRow.holds Try.pinned (OpenSpec.ofChange parseFillsSpec)

/-- ITS FALSE NEIGHBOUR: 'it returns false'. Refute it at one input. -/
def parseFillsWrong : ChangeSpec := { name := "parseFills", fn := fun _ => fun
  | [d1, d2] => { results := [.lit (.bool false)], args := [d1, d2] }
  | _ => none }
def ParseFillsWrongFalsely : Prop := parseFillsRow.holds Try.pinned (OpenSpec.ofChange parseFillsWrong)

/-- 'gleanerlaw05.ParseNil': WHATEVER THE INPUT: true; the input reads as it did. -/
def parseNilSpec : ChangeSpec := { name := "parseNil", fn := fun _ => fun
  | [d] => { results := [.lit (.bool true)], args := [d] }
  | _ => none }
def parseNilRow : OpenClaim := { program := "ythmjjmimmbgpaaa", sum := "fb0adcc727ff57bf2b25f61d4a5f6a5b600fbcdb03b788e46b03b246852b0218", func := "gleaner/gleanerlaw05.ParseNil", spec := "parseNil", apart := false }
def ParseNilSaid : Prop := parseNilRow.holds Try.pinned (OpenSpec.ofChange parseNilSpec)

/-- ITS FALSE NEIGHBOUR: 'it returns false'. Refute it at one input. -/
def parseNilWrong : ChangeSpec := { name := "parseNil", fn := fun _ => fun
  | [d] => { results := [.lit (.bool false)], args := [d] }
  | _ => none }
def ParseNilWrongFalsely : Prop := parseNilRow.holds Try.pinned (OpenSpec.ofChange parseNilWrong)

/- THE SECOND FORM. 'bulk': how many values and letters a reading holds, each counted each time it is reached (what is shared counts as often as it is met; a slice's spare places count too). A statement '..UptoSaid' is the law's where the arguments, and the package variables that the reading takes, are together of bulk at most 1048576: NARROWER than '..Said'. Prove '..Said' where nothing that the law and all that it calls make is longer than what came in: it says more and counts as full. Else prove '..UptoSaid'. A law counts once. -/
mutual
def uptoBulk {H : Type} : DataW H → Nat
  | .lit (.string bytes) => bytes.length + 1
  | .lit _ => 1
  | .nil => 1
  | .ptr d => uptoBulk d + 1
  | .slice elems spare => uptoBulkAll elems + uptoBulkAll spare + 1
  | .agg parts => uptoBulkAll parts + 1
  | .iface _ d => uptoBulk d + 1
  | .map entries => uptoBulkEntries entries + 1
  | .held _ => 1
def uptoBulkAll {H : Type} : List (DataW H) → Nat
  | [] => 0
  | d :: r => uptoBulk d + uptoBulkAll r
def uptoBulkEntries {H : Type} : List (Lit × DataW H) → Nat
  | [] => 0
  | x :: r => uptoBulkEntry x + uptoBulkEntries r
def uptoBulkEntry {H : Type} : Lit × DataW H → Nat
  | (.string bytes, d) => bytes.length + uptoBulk d + 1
  | (_, d) => uptoBulk d + 1
 end
def uptoSmall : (H : Type) → List (DataW H) → Bool := fun _ ds => decide (uptoBulkAll ds ≤ 1048576)
def OpenSpec.upto (s : _root_.Go.ChangeSpec) : _root_.Go.OpenSpec := { _root_.Go.OpenSpec.ofChange s with cond := some uptoSmall }

/-- 'gleanerlaw10.QueuePlays', WHERE WHAT IT READS IS OF BULK AT MOST 1048576: true; the input reads as it did. -/
def queuePlaysUptoRow : OpenClaim := { program := "ythmjjmimmbgpaaa", sum := "fb0adcc727ff57bf2b25f61d4a5f6a5b600fbcdb03b788e46b03b246852b0218", func := "gleaner/gleanerlaw10.QueuePlays", spec := "queuePlays", apart := false, narrowed := true }
def QueuePlaysUptoSaid : Prop := queuePlaysUptoRow.holds Try.pinned (OpenSpec.upto queuePlaysSpec)

/-- 'gleanerlaw10.QueueKeeps', WHERE WHAT IT READS IS OF BULK AT MOST 1048576: true; the input reads as it did. -/
def queueKeepsUptoRow : OpenClaim := { program := "ythmjjmimmbgpaaa", sum := "fb0adcc727ff57bf2b25f61d4a5f6a5b600fbcdb03b788e46b03b246852b0218", func := "gleaner/gleanerlaw10.QueueKeeps", spec := "queueKeeps", apart := false, narrowed := true }
def QueueKeepsUptoSaid : Prop := queueKeepsUptoRow.holds Try.pinned (OpenSpec.upto queueKeepsSpec)

/-- 'gleanerlaw10.QueueNil', WHERE WHAT IT READS IS OF BULK AT MOST 1048576: true; the input reads as it did. -/
def queueNilUptoRow : OpenClaim := { program := "ythmjjmimmbgpaaa", sum := "fb0adcc727ff57bf2b25f61d4a5f6a5b600fbcdb03b788e46b03b246852b0218", func := "gleaner/gleanerlaw10.QueueNil", spec := "queueNil", apart := false, narrowed := true }
def QueueNilUptoSaid : Prop := queueNilUptoRow.holds Try.pinned (OpenSpec.upto queueNilSpec)

/-- 'gleanerlaw05.ParsePlays', WHERE WHAT IT READS IS OF BULK AT MOST 1048576: true; the input reads as it did. -/
def parsePlaysUptoRow : OpenClaim := { program := "ythmjjmimmbgpaaa", sum := "fb0adcc727ff57bf2b25f61d4a5f6a5b600fbcdb03b788e46b03b246852b0218", func := "gleaner/gleanerlaw05.ParsePlays", spec := "parsePlays", apart := false, narrowed := true }
def ParsePlaysUptoSaid : Prop := parsePlaysUptoRow.holds Try.pinned (OpenSpec.upto parsePlaysSpec)

/-- 'gleanerlaw05.ParseRows', WHERE WHAT IT READS IS OF BULK AT MOST 1048576: true; the input reads as it did. -/
def parseRowsUptoRow : OpenClaim := { program := "ythmjjmimmbgpaaa", sum := "fb0adcc727ff57bf2b25f61d4a5f6a5b600fbcdb03b788e46b03b246852b0218", func := "gleaner/gleanerlaw05.ParseRows", spec := "parseRows", apart := false, narrowed := true }
def ParseRowsUptoSaid : Prop := parseRowsUptoRow.holds Try.pinned (OpenSpec.upto parseRowsSpec)

/-- 'gleanerlaw05.ParseFills', WHERE WHAT IT READS IS OF BULK AT MOST 1048576: true; the input reads as it did. -/
def parseFillsUptoRow : OpenClaim := { program := "ythmjjmimmbgpaaa", sum := "fb0adcc727ff57bf2b25f61d4a5f6a5b600fbcdb03b788e46b03b246852b0218", func := "gleaner/gleanerlaw05.ParseFills", spec := "parseFills", apart := false, narrowed := true }
def ParseFillsUptoSaid : Prop := parseFillsUptoRow.holds Try.pinned (OpenSpec.upto parseFillsSpec)

/-- 'gleanerlaw05.ParseNil', WHERE WHAT IT READS IS OF BULK AT MOST 1048576: true; the input reads as it did. -/
def parseNilUptoRow : OpenClaim := { program := "ythmjjmimmbgpaaa", sum := "fb0adcc727ff57bf2b25f61d4a5f6a5b600fbcdb03b788e46b03b246852b0218", func := "gleaner/gleanerlaw05.ParseNil", spec := "parseNil", apart := false, narrowed := true }
def ParseNilUptoSaid : Prop := parseNilUptoRow.holds Try.pinned (OpenSpec.upto parseNilSpec)

end Rows
end Go.Proofs.Ythmjjmimmbgpaaa
