/-
  No cell of these rows narrows 'for every input' (looked for: loops, veiled, ifaces, maps, wideKeys, modest, calm, conditions, laid).
  DERIVED. THE GIVEN ROWS OF THIS SEAT. 7 by the template 'for every input the law returns true; each argument reads behind the call as it read before'; 0 by the template 'total and deterministic' (their statements: YtdnajckhnknlcaaTotals.lean).
  GIVEN WITH THE SEED: the statements are not yours to turn. If you find one false, say at which input.
  Laid BY PROGRAM, IN A SANDBOX (cutbox-rows.mjs): the forced cells as the released guide's own fill.sh prints them over the translation f00d459742dd9646… (all of the seat's roots in one cut). By AI agents, Wed Nov 11 2026. No macro, syntax, notation, axiom, sorry.
-/
import Derived.Test.YtdnajckhnknlcaaChecked
import GoSem.Claim
import GoSem.ClaimJoined
import GoSem.ClaimMapViews
import Derived.JoinedTies
import Derived.KernelRfl
namespace Go.Proofs.Ytdnajckhnknlcaa
/- THE CELL 'sum', in the pinned program and in every row, IS THE sha256 OF THE DUMP (.gsa) THAT YtdnajckhnknlcaaProg.lean LOADS. Nothing in Lean hashes anything: it is a label: what it is worth is what the hold of that sum in a sandbox is worth. -/
noncomputable def Try.pinned : Pinned := { name := "ytdnajckhnknlcaa", sum := "f00d459742dd964642aaf13bc06ff760925399b4cbf53cc31a16a764858e2f84", checked := Try.checked }
namespace Rows
def none {H : Type} : Left H := { results := [], args := [] }

/-- 'gosperlaw18.DequeTells': WHATEVER THE INPUT: true; the input reads as it did. -/
def dequeTellsSpec : ChangeSpec := { name := "dequeTells", fn := fun _ => fun
  | [d1, d2, d3, d4, d5] => { results := [.lit (.bool true)], args := [d1, d2, d3, d4, d5] }
  | _ => none }
def dequeTellsRow : OpenClaim := { program := "ytdnajckhnknlcaa", sum := "f00d459742dd964642aaf13bc06ff760925399b4cbf53cc31a16a764858e2f84", func := "gosper/gosperlaw18.DequeTells", spec := "dequeTells", unfollowed := true, recurses := true, apart := false }
def DequeTellsSaid : Prop := dequeTellsRow.holds Try.pinned (OpenSpec.ofChange dequeTellsSpec)

/-- ITS FALSE NEIGHBOUR: 'it returns false'. Refute it at one input. -/
def dequeTellsWrong : ChangeSpec := { name := "dequeTells", fn := fun _ => fun
  | [d1, d2, d3, d4, d5] => { results := [.lit (.bool false)], args := [d1, d2, d3, d4, d5] }
  | _ => none }
def DequeTellsWrongFalsely : Prop := dequeTellsRow.holds Try.pinned (OpenSpec.ofChange dequeTellsWrong)

/-- 'gosperlaw18.DequeRuns': WHATEVER THE INPUT: true; the input reads as it did. -/
def dequeRunsSpec : ChangeSpec := { name := "dequeRuns", fn := fun _ => fun
  | [d1, d2, d3, d4, d5] => { results := [.lit (.bool true)], args := [d1, d2, d3, d4, d5] }
  | _ => none }
def dequeRunsRow : OpenClaim := { program := "ytdnajckhnknlcaa", sum := "f00d459742dd964642aaf13bc06ff760925399b4cbf53cc31a16a764858e2f84", func := "gosper/gosperlaw18.DequeRuns", spec := "dequeRuns", unfollowed := true, recurses := true, apart := false }
def DequeRunsSaid : Prop := dequeRunsRow.holds Try.pinned (OpenSpec.ofChange dequeRunsSpec)

/-- ITS FALSE NEIGHBOUR: 'it returns false'. Refute it at one input. -/
def dequeRunsWrong : ChangeSpec := { name := "dequeRuns", fn := fun _ => fun
  | [d1, d2, d3, d4, d5] => { results := [.lit (.bool false)], args := [d1, d2, d3, d4, d5] }
  | _ => none }
def DequeRunsWrongFalsely : Prop := dequeRunsRow.holds Try.pinned (OpenSpec.ofChange dequeRunsWrong)

/-- 'gosperlaw18.DequeOnce': WHATEVER THE INPUT: true; the input reads as it did. -/
def dequeOnceSpec : ChangeSpec := { name := "dequeOnce", fn := fun _ => fun
  | [d1, d2, d3, d4] => { results := [.lit (.bool true)], args := [d1, d2, d3, d4] }
  | _ => none }
def dequeOnceRow : OpenClaim := { program := "ytdnajckhnknlcaa", sum := "f00d459742dd964642aaf13bc06ff760925399b4cbf53cc31a16a764858e2f84", func := "gosper/gosperlaw18.DequeOnce", spec := "dequeOnce", unfollowed := true, recurses := true, apart := false }
def DequeOnceSaid : Prop := dequeOnceRow.holds Try.pinned (OpenSpec.ofChange dequeOnceSpec)

/-- ITS FALSE NEIGHBOUR: 'it returns false'. Refute it at one input. -/
def dequeOnceWrong : ChangeSpec := { name := "dequeOnce", fn := fun _ => fun
  | [d1, d2, d3, d4] => { results := [.lit (.bool false)], args := [d1, d2, d3, d4] }
  | _ => none }
def DequeOnceWrongFalsely : Prop := dequeOnceRow.holds Try.pinned (OpenSpec.ofChange dequeOnceWrong)

/-- 'gosperlaw18.DequeOrder': WHATEVER THE INPUT: true; the input reads as it did. -/
def dequeOrderSpec : ChangeSpec := { name := "dequeOrder", fn := fun _ => fun
  | [d1, d2, d3] => { results := [.lit (.bool true)], args := [d1, d2, d3] }
  | _ => none }
def dequeOrderRow : OpenClaim := { program := "ytdnajckhnknlcaa", sum := "f00d459742dd964642aaf13bc06ff760925399b4cbf53cc31a16a764858e2f84", func := "gosper/gosperlaw18.DequeOrder", spec := "dequeOrder", unfollowed := true, recurses := true, apart := false }
def DequeOrderSaid : Prop := dequeOrderRow.holds Try.pinned (OpenSpec.ofChange dequeOrderSpec)

/-- ITS FALSE NEIGHBOUR: 'it returns false'. Refute it at one input. -/
def dequeOrderWrong : ChangeSpec := { name := "dequeOrder", fn := fun _ => fun
  | [d1, d2, d3] => { results := [.lit (.bool false)], args := [d1, d2, d3] }
  | _ => none }
def DequeOrderWrongFalsely : Prop := dequeOrderRow.holds Try.pinned (OpenSpec.ofChange dequeOrderWrong)

/-- 'gosperlaw18.DequeThieves': WHATEVER THE INPUT: true; the input reads as it did. -/
def dequeThievesSpec : ChangeSpec := { name := "dequeThieves", fn := fun _ => fun
  | [d1, d2, d3] => { results := [.lit (.bool true)], args := [d1, d2, d3] }
  | _ => none }
def dequeThievesRow : OpenClaim := { program := "ytdnajckhnknlcaa", sum := "f00d459742dd964642aaf13bc06ff760925399b4cbf53cc31a16a764858e2f84", func := "gosper/gosperlaw18.DequeThieves", spec := "dequeThieves", unfollowed := true, recurses := true, apart := false }
def DequeThievesSaid : Prop := dequeThievesRow.holds Try.pinned (OpenSpec.ofChange dequeThievesSpec)

/-- ITS FALSE NEIGHBOUR: 'it returns false'. Refute it at one input. -/
def dequeThievesWrong : ChangeSpec := { name := "dequeThieves", fn := fun _ => fun
  | [d1, d2, d3] => { results := [.lit (.bool false)], args := [d1, d2, d3] }
  | _ => none }
def DequeThievesWrongFalsely : Prop := dequeThievesRow.holds Try.pinned (OpenSpec.ofChange dequeThievesWrong)

/-- 'gosperlaw18.DequeLast': WHATEVER THE INPUT: true; the input reads as it did. -/
def dequeLastSpec : ChangeSpec := { name := "dequeLast", fn := fun _ => fun
  | [d1, d2, d3] => { results := [.lit (.bool true)], args := [d1, d2, d3] }
  | _ => none }
def dequeLastRow : OpenClaim := { program := "ytdnajckhnknlcaa", sum := "f00d459742dd964642aaf13bc06ff760925399b4cbf53cc31a16a764858e2f84", func := "gosper/gosperlaw18.DequeLast", spec := "dequeLast", unfollowed := true, recurses := true, apart := false }
def DequeLastSaid : Prop := dequeLastRow.holds Try.pinned (OpenSpec.ofChange dequeLastSpec)

/-- ITS FALSE NEIGHBOUR: 'it returns false'. Refute it at one input. -/
def dequeLastWrong : ChangeSpec := { name := "dequeLast", fn := fun _ => fun
  | [d1, d2, d3] => { results := [.lit (.bool false)], args := [d1, d2, d3] }
  | _ => none }
def DequeLastWrongFalsely : Prop := dequeLastRow.holds Try.pinned (OpenSpec.ofChange dequeLastWrong)

/-- 'gosperlaw18.DequeBase': WHATEVER THE INPUT: true; the input reads as it did. -/
def dequeBaseSpec : ChangeSpec := { name := "dequeBase", fn := fun _ => fun
  | [d1, d2, d3, d4, d5] => { results := [.lit (.bool true)], args := [d1, d2, d3, d4, d5] }
  | _ => none }
def dequeBaseRow : OpenClaim := { program := "ytdnajckhnknlcaa", sum := "f00d459742dd964642aaf13bc06ff760925399b4cbf53cc31a16a764858e2f84", func := "gosper/gosperlaw18.DequeBase", spec := "dequeBase", unfollowed := true, recurses := true, apart := false }
def DequeBaseSaid : Prop := dequeBaseRow.holds Try.pinned (OpenSpec.ofChange dequeBaseSpec)

/-- ITS FALSE NEIGHBOUR: 'it returns false'. Refute it at one input. -/
def dequeBaseWrong : ChangeSpec := { name := "dequeBase", fn := fun _ => fun
  | [d1, d2, d3, d4, d5] => { results := [.lit (.bool false)], args := [d1, d2, d3, d4, d5] }
  | _ => none }
def DequeBaseWrongFalsely : Prop := dequeBaseRow.holds Try.pinned (OpenSpec.ofChange dequeBaseWrong)

/- THE SECOND FORM. 'bulk': how many values and letters a reading holds, each counted each time it is reached (what is shared counts as often as it is met; a slice's spare places count too). A statement '..UptoSaid' is the law's where the arguments, and the package variables that the reading takes, are together of bulk at most 1048576: NARROWER than '..Said'. Prove '..Said' where nothing that the law and all that it calls make is longer than what came in: it says more and counts as full. Else prove '..UptoSaid'. A law counts once. -/
mutual
def uptoBulk {H : Type} : DataW H → Nat
  | .lit (.string bytes) => bytes.length + 1
  | .lit _ => 1
  | .nil => 1
  | .ptr d => uptoBulk d + 1
  | .slice elems spare => uptoBulkAll elems + uptoBulkAll spare + 1
  | .agg parts => uptoBulkAll parts + 1
  | .iface _ d => uptoBulk d + 1
  | .map entries => uptoBulkEntries entries + 1
  | .held _ => 1
def uptoBulkAll {H : Type} : List (DataW H) → Nat
  | [] => 0
  | d :: r => uptoBulk d + uptoBulkAll r
def uptoBulkEntries {H : Type} : List (Lit × DataW H) → Nat
  | [] => 0
  | x :: r => uptoBulkEntry x + uptoBulkEntries r
def uptoBulkEntry {H : Type} : Lit × DataW H → Nat
  | (.string bytes, d) => bytes.length + uptoBulk d + 1
  | (_, d) => uptoBulk d + 1
 end
def uptoSmall : (H : Type) → List (DataW H) → Bool := fun _ ds => decide (uptoBulkAll ds ≤ 1048576)
def OpenSpec.upto (s : _root_.Go.ChangeSpec) : _root_.Go.OpenSpec := { _root_.Go.OpenSpec.ofChange s with cond := some uptoSmall }

/-- 'gosperlaw18.DequeTells', WHERE WHAT IT READS IS OF BULK AT MOST 1048576: true; the input reads as it did. -/
def dequeTellsUptoRow : OpenClaim := { program := "ytdnajckhnknlcaa", sum := "f00d459742dd964642aaf13bc06ff760925399b4cbf53cc31a16a764858e2f84", func := "gosper/gosperlaw18.DequeTells", spec := "dequeTells", unfollowed := true, recurses := true, apart := false, narrowed := true }
def DequeTellsUptoSaid : Prop := dequeTellsUptoRow.holds Try.pinned (OpenSpec.upto dequeTellsSpec)

/-- 'gosperlaw18.DequeRuns', WHERE WHAT IT READS IS OF BULK AT MOST 1048576: true; the input reads as it did. -/
def dequeRunsUptoRow : OpenClaim := { program := "ytdnajckhnknlcaa", sum := "f00d459742dd964642aaf13bc06ff760925399b4cbf53cc31a16a764858e2f84", func := "gosper/gosperlaw18.DequeRuns", spec := "dequeRuns", unfollowed := true, recurses := true, apart := false, narrowed := true }
def DequeRunsUptoSaid : Prop := dequeRunsUptoRow.holds Try.pinned (OpenSpec.upto dequeRunsSpec)

/-- 'gosperlaw18.DequeOnce', WHERE WHAT IT READS IS OF BULK AT MOST 1048576: true; the input reads as it did. -/
def dequeOnceUptoRow : OpenClaim := { program := "ytdnajckhnknlcaa", sum := "f00d459742dd964642aaf13bc06ff760925399b4cbf53cc31a16a764858e2f84", func := "gosper/gosperlaw18.DequeOnce", spec := "dequeOnce", unfollowed := true, recurses := true, apart := false, narrowed := true }
def DequeOnceUptoSaid : Prop := dequeOnceUptoRow.holds Try.pinned (OpenSpec.upto dequeOnceSpec)

/-- 'gosperlaw18.DequeOrder', WHERE WHAT IT READS IS OF BULK AT MOST 1048576: true; the input reads as it did. -/
def dequeOrderUptoRow : OpenClaim := { program := "ytdnajckhnknlcaa", sum := "f00d459742dd964642aaf13bc06ff760925399b4cbf53cc31a16a764858e2f84", func := "gosper/gosperlaw18.DequeOrder", spec := "dequeOrder", unfollowed := true, recurses := true, apart := false, narrowed := true }
def DequeOrderUptoSaid : Prop := dequeOrderUptoRow.holds Try.pinned (OpenSpec.upto dequeOrderSpec)

/-- 'gosperlaw18.DequeThieves', WHERE WHAT IT READS IS OF BULK AT MOST 1048576: true; the input reads as it did. -/
def dequeThievesUptoRow : OpenClaim := { program := "ytdnajckhnknlcaa", sum := "f00d459742dd964642aaf13bc06ff760925399b4cbf53cc31a16a764858e2f84", func := "gosper/gosperlaw18.DequeThieves", spec := "dequeThieves", unfollowed := true, recurses := true, apart := false, narrowed := true }
def DequeThievesUptoSaid : Prop := dequeThievesUptoRow.holds Try.pinned (OpenSpec.upto dequeThievesSpec)

/-- 'gosperlaw18.DequeLast', WHERE WHAT IT READS IS OF BULK AT MOST 1048576: true; the input reads as it did. -/
def dequeLastUptoRow : OpenClaim := { program := "ytdnajckhnknlcaa", sum := "f00d459742dd964642aaf13bc06ff760925399b4cbf53cc31a16a764858e2f84", func := "gosper/gosperlaw18.DequeLast", spec := "dequeLast", unfollowed := true, recurses := true, apart := false, narrowed := true }
def DequeLastUptoSaid : Prop := dequeLastUptoRow.holds Try.pinned (OpenSpec.upto dequeLastSpec)

/-- 'gosperlaw18.DequeBase', WHERE WHAT IT READS IS OF BULK AT MOST 1048576: true; the input reads as it did. -/
def dequeBaseUptoRow : OpenClaim := { program := "ytdnajckhnknlcaa", sum := "f00d459742dd964642aaf13bc06ff760925399b4cbf53cc31a16a764858e2f84", func := "gosper/gosperlaw18.DequeBase", spec := "dequeBase", unfollowed := true, recurses := true, apart := false, narrowed := true }
def DequeBaseUptoSaid : Prop := dequeBaseUptoRow.holds Try.pinned (OpenSpec.upto dequeBaseSpec)

end Rows
end Go.Proofs.Ytdnajckhnknlcaa
