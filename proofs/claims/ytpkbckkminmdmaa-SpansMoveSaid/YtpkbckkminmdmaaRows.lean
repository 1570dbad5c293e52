/-
  No cell of these rows narrows 'for every input' (looked for: loops, veiled, ifaces, maps, wideKeys, modest, calm, conditions, laid).
  DERIVED. THE GIVEN ROWS OF THIS SEAT. 23 by the template 'for every input the law returns true; each argument reads behind the call as it read before'; 0 by the template 'total and deterministic' (their statements: YtpkbckkminmdmaaTotals.lean).
  GIVEN WITH THE SEED: the statements are not yours to turn. If you find one false, say at which input.
  Laid BY PROGRAM, IN A SANDBOX (cutbox-rows.mjs): the forced cells as the released guide's own fill.sh prints them over the translation 44eed9cb3c209059… (all of the seat's roots in one cut). By AI agents, Wed Nov 11 2026. No macro, syntax, notation, axiom, sorry.
-/
import Derived.Test.YtpkbckkminmdmaaChecked
import GoSem.Claim
import GoSem.ClaimJoined
import GoSem.ClaimMapViews
import Derived.JoinedTies
import Derived.KernelRfl
namespace Go.Proofs.Ytpkbckkminmdmaa
/- THE CELL 'sum', in the pinned program and in every row, IS THE sha256 OF THE DUMP (.gsa) THAT YtpkbckkminmdmaaProg.lean LOADS. Nothing in Lean hashes anything: it is a label: what it is worth is what the hold of that sum in a sandbox is worth. -/
noncomputable def Try.pinned : Pinned := { name := "ytpkbckkminmdmaa", sum := "44eed9cb3c2090595e9f8986462a234b6c0bee4003d9a2ba3b3b1ead6823a23b", checked := Try.checked }
namespace Rows
def none {H : Type} : Left H := { results := [], args := [] }

/-- 'fairleadlaw18.ReasmHeld': WHATEVER THE INPUT: true; the input reads as it did. -/
def reasmHeldSpec : ChangeSpec := { name := "reasmHeld", fn := fun _ => fun
  | [d1, d2] => { results := [.lit (.bool true)], args := [d1, d2] }
  | _ => none }
def reasmHeldRow : OpenClaim := { program := "ytpkbckkminmdmaa", sum := "44eed9cb3c2090595e9f8986462a234b6c0bee4003d9a2ba3b3b1ead6823a23b", func := "fairlead/fairleadlaw18.ReasmHeld", spec := "reasmHeld", apart := false }
def ReasmHeldSaid : Prop := reasmHeldRow.holds Try.pinned (OpenSpec.ofChange reasmHeldSpec)

/-- ITS FALSE NEIGHBOUR: 'it returns false'. Refute it at one input. -/
def reasmHeldWrong : ChangeSpec := { name := "reasmHeld", fn := fun _ => fun
  | [d1, d2] => { results := [.lit (.bool false)], args := [d1, d2] }
  | _ => none }
def ReasmHeldWrongFalsely : Prop := reasmHeldRow.holds Try.pinned (OpenSpec.ofChange reasmHeldWrong)

/-- 'fairleadlaw18.ReasmPlays': WHATEVER THE INPUT: true; the input reads as it did. -/
def reasmPlaysSpec : ChangeSpec := { name := "reasmPlays", fn := fun _ => fun
  | [d1, d2] => { results := [.lit (.bool true)], args := [d1, d2] }
  | _ => none }
def reasmPlaysRow : OpenClaim := { program := "ytpkbckkminmdmaa", sum := "44eed9cb3c2090595e9f8986462a234b6c0bee4003d9a2ba3b3b1ead6823a23b", func := "fairlead/fairleadlaw18.ReasmPlays", spec := "reasmPlays", apart := false }
def ReasmPlaysSaid : Prop := reasmPlaysRow.holds Try.pinned (OpenSpec.ofChange reasmPlaysSpec)

/-- ITS FALSE NEIGHBOUR: 'it returns false'. Refute it at one input. -/
def reasmPlaysWrong : ChangeSpec := { name := "reasmPlays", fn := fun _ => fun
  | [d1, d2] => { results := [.lit (.bool false)], args := [d1, d2] }
  | _ => none }
def ReasmPlaysWrongFalsely : Prop := reasmPlaysRow.holds Try.pinned (OpenSpec.ofChange reasmPlaysWrong)

/-- 'fairleadlaw18.ReasmOrder': WHATEVER THE INPUT: true; the input reads as it did. -/
def reasmOrderSpec : ChangeSpec := { name := "reasmOrder", fn := fun _ => fun
  | [d1, d2, d3] => { results := [.lit (.bool true)], args := [d1, d2, d3] }
  | _ => none }
def reasmOrderRow : OpenClaim := { program := "ytpkbckkminmdmaa", sum := "44eed9cb3c2090595e9f8986462a234b6c0bee4003d9a2ba3b3b1ead6823a23b", func := "fairlead/fairleadlaw18.ReasmOrder", spec := "reasmOrder", apart := false }
def ReasmOrderSaid : Prop := reasmOrderRow.holds Try.pinned (OpenSpec.ofChange reasmOrderSpec)

/-- ITS FALSE NEIGHBOUR: 'it returns false'. Refute it at one input. -/
def reasmOrderWrong : ChangeSpec := { name := "reasmOrder", fn := fun _ => fun
  | [d1, d2, d3] => { results := [.lit (.bool false)], args := [d1, d2, d3] }
  | _ => none }
def ReasmOrderWrongFalsely : Prop := reasmOrderRow.holds Try.pinned (OpenSpec.ofChange reasmOrderWrong)

/-- 'fairleadlaw18.ReasmSoon': WHATEVER THE INPUT: true; the input reads as it did. -/
def reasmSoonSpec : ChangeSpec := { name := "reasmSoon", fn := fun _ => fun
  | [d1, d2, d3] => { results := [.lit (.bool true)], args := [d1, d2, d3] }
  | _ => none }
def reasmSoonRow : OpenClaim := { program := "ytpkbckkminmdmaa", sum := "44eed9cb3c2090595e9f8986462a234b6c0bee4003d9a2ba3b3b1ead6823a23b", func := "fairlead/fairleadlaw18.ReasmSoon", spec := "reasmSoon", apart := false }
def ReasmSoonSaid : Prop := reasmSoonRow.holds Try.pinned (OpenSpec.ofChange reasmSoonSpec)

/-- ITS FALSE NEIGHBOUR: 'it returns false'. Refute it at one input. -/
def reasmSoonWrong : ChangeSpec := { name := "reasmSoon", fn := fun _ => fun
  | [d1, d2, d3] => { results := [.lit (.bool false)], args := [d1, d2, d3] }
  | _ => none }
def ReasmSoonWrongFalsely : Prop := reasmSoonRow.holds Try.pinned (OpenSpec.ofChange reasmSoonWrong)

/-- 'fairleadlaw18.ReasmSkips': WHATEVER THE INPUT: true; the input reads as it did. -/
def reasmSkipsSpec : ChangeSpec := { name := "reasmSkips", fn := fun _ => fun
  | [d1, d2, d3, d4] => { results := [.lit (.bool true)], args := [d1, d2, d3, d4] }
  | _ => none }
def reasmSkipsRow : OpenClaim := { program := "ytpkbckkminmdmaa", sum := "44eed9cb3c2090595e9f8986462a234b6c0bee4003d9a2ba3b3b1ead6823a23b", func := "fairlead/fairleadlaw18.ReasmSkips", spec := "reasmSkips", apart := false }
def ReasmSkipsSaid : Prop := reasmSkipsRow.holds Try.pinned (OpenSpec.ofChange reasmSkipsSpec)

/-- ITS FALSE NEIGHBOUR: 'it returns false'. Refute it at one input. -/
def reasmSkipsWrong : ChangeSpec := { name := "reasmSkips", fn := fun _ => fun
  | [d1, d2, d3, d4] => { results := [.lit (.bool false)], args := [d1, d2, d3, d4] }
  | _ => none }
def ReasmSkipsWrongFalsely : Prop := reasmSkipsRow.holds Try.pinned (OpenSpec.ofChange reasmSkipsWrong)

/-- 'fairleadlaw18.ReasmNil': WHATEVER THE INPUT: true; the input reads as it did. -/
def reasmNilSpec : ChangeSpec := { name := "reasmNil", fn := fun _ => fun
  | [d] => { results := [.lit (.bool true)], args := [d] }
  | _ => none }
def reasmNilRow : OpenClaim := { program := "ytpkbckkminmdmaa", sum := "44eed9cb3c2090595e9f8986462a234b6c0bee4003d9a2ba3b3b1ead6823a23b", func := "fairlead/fairleadlaw18.ReasmNil", spec := "reasmNil", apart := false }
def ReasmNilSaid : Prop := reasmNilRow.holds Try.pinned (OpenSpec.ofChange reasmNilSpec)

/-- ITS FALSE NEIGHBOUR: 'it returns false'. Refute it at one input. -/
def reasmNilWrong : ChangeSpec := { name := "reasmNil", fn := fun _ => fun
  | [d] => { results := [.lit (.bool false)], args := [d] }
  | _ => none }
def ReasmNilWrongFalsely : Prop := reasmNilRow.holds Try.pinned (OpenSpec.ofChange reasmNilWrong)

/-- 'fairleadlaw04.SpansGaps': WHATEVER THE INPUT: true; the input reads as it did. -/
def spansGapsSpec : ChangeSpec := { name := "spansGaps", fn := fun _ => fun
  | [d1, d2] => { results := [.lit (.bool true)], args := [d1, d2] }
  | _ => none }
def spansGapsRow : OpenClaim := { program := "ytpkbckkminmdmaa", sum := "44eed9cb3c2090595e9f8986462a234b6c0bee4003d9a2ba3b3b1ead6823a23b", func := "fairlead/fairleadlaw04.SpansGaps", spec := "spansGaps", unfollowed := true, recurses := true, apart := false }
def SpansGapsSaid : Prop := spansGapsRow.holds Try.pinned (OpenSpec.ofChange spansGapsSpec)

/-- ITS FALSE NEIGHBOUR: 'it returns false'. Refute it at one input. -/
def spansGapsWrong : ChangeSpec := { name := "spansGaps", fn := fun _ => fun
  | [d1, d2] => { results := [.lit (.bool false)], args := [d1, d2] }
  | _ => none }
def SpansGapsWrongFalsely : Prop := spansGapsRow.holds Try.pinned (OpenSpec.ofChange spansGapsWrong)

/-- 'fairleadlaw04.SpansSettle': WHATEVER THE INPUT: true; the input reads as it did. -/
def spansSettleSpec : ChangeSpec := { name := "spansSettle", fn := fun _ => fun
  | [d1, d2] => { results := [.lit (.bool true)], args := [d1, d2] }
  | _ => none }
def spansSettleRow : OpenClaim := { program := "ytpkbckkminmdmaa", sum := "44eed9cb3c2090595e9f8986462a234b6c0bee4003d9a2ba3b3b1ead6823a23b", func := "fairlead/fairleadlaw04.SpansSettle", spec := "spansSettle", unfollowed := true, recurses := true, apart := false }
def SpansSettleSaid : Prop := spansSettleRow.holds Try.pinned (OpenSpec.ofChange spansSettleSpec)

/-- ITS FALSE NEIGHBOUR: 'it returns false'. Refute it at one input. -/
def spansSettleWrong : ChangeSpec := { name := "spansSettle", fn := fun _ => fun
  | [d1, d2] => { results := [.lit (.bool false)], args := [d1, d2] }
  | _ => none }
def SpansSettleWrongFalsely : Prop := spansSettleRow.holds Try.pinned (OpenSpec.ofChange spansSettleWrong)

/-- 'fairleadlaw19.RecvqNil': WHATEVER THE INPUT: true; the input reads as it did. -/
def recvqNilSpec : ChangeSpec := { name := "recvqNil", fn := fun _ => fun
  | [d] => { results := [.lit (.bool true)], args := [d] }
  | _ => none }
def recvqNilRow : OpenClaim := { program := "ytpkbckkminmdmaa", sum := "44eed9cb3c2090595e9f8986462a234b6c0bee4003d9a2ba3b3b1ead6823a23b", func := "fairlead/fairleadlaw19.RecvqNil", spec := "recvqNil", unfollowed := true, recurses := true, apart := false }
def RecvqNilSaid : Prop := recvqNilRow.holds Try.pinned (OpenSpec.ofChange recvqNilSpec)

/-- ITS FALSE NEIGHBOUR: 'it returns false'. Refute it at one input. -/
def recvqNilWrong : ChangeSpec := { name := "recvqNil", fn := fun _ => fun
  | [d] => { results := [.lit (.bool false)], args := [d] }
  | _ => none }
def RecvqNilWrongFalsely : Prop := recvqNilRow.holds Try.pinned (OpenSpec.ofChange recvqNilWrong)

/-- 'fairleadlaw04.SpansOrder': WHATEVER THE INPUT: true; the input reads as it did. -/
def spansOrderSpec : ChangeSpec := { name := "spansOrder", fn := fun _ => fun
  | [d1, d2, d3] => { results := [.lit (.bool true)], args := [d1, d2, d3] }
  | _ => none }
def spansOrderRow : OpenClaim := { program := "ytpkbckkminmdmaa", sum := "44eed9cb3c2090595e9f8986462a234b6c0bee4003d9a2ba3b3b1ead6823a23b", func := "fairlead/fairleadlaw04.SpansOrder", spec := "spansOrder", unfollowed := true, recurses := true, apart := false }
def SpansOrderSaid : Prop := spansOrderRow.holds Try.pinned (OpenSpec.ofChange spansOrderSpec)

/-- ITS FALSE NEIGHBOUR: 'it returns false'. Refute it at one input. -/
def spansOrderWrong : ChangeSpec := { name := "spansOrder", fn := fun _ => fun
  | [d1, d2, d3] => { results := [.lit (.bool false)], args := [d1, d2, d3] }
  | _ => none }
def SpansOrderWrongFalsely : Prop := spansOrderRow.holds Try.pinned (OpenSpec.ofChange spansOrderWrong)

/-- 'fairleadlaw04.SpansFew': WHATEVER THE INPUT: true; the input reads as it did. -/
def spansFewSpec : ChangeSpec := { name := "spansFew", fn := fun _ => fun
  | [d1, d2, d3] => { results := [.lit (.bool true)], args := [d1, d2, d3] }
  | _ => none }
def spansFewRow : OpenClaim := { program := "ytpkbckkminmdmaa", sum := "44eed9cb3c2090595e9f8986462a234b6c0bee4003d9a2ba3b3b1ead6823a23b", func := "fairlead/fairleadlaw04.SpansFew", spec := "spansFew", unfollowed := true, recurses := true, apart := false }
def SpansFewSaid : Prop := spansFewRow.holds Try.pinned (OpenSpec.ofChange spansFewSpec)

/-- ITS FALSE NEIGHBOUR: 'it returns false'. Refute it at one input. -/
def spansFewWrong : ChangeSpec := { name := "spansFew", fn := fun _ => fun
  | [d1, d2, d3] => { results := [.lit (.bool false)], args := [d1, d2, d3] }
  | _ => none }
def SpansFewWrongFalsely : Prop := spansFewRow.holds Try.pinned (OpenSpec.ofChange spansFewWrong)

/-- 'fairleadlaw04.SpansPlays': WHATEVER THE INPUT: true; the input reads as it did. -/
def spansPlaysSpec : ChangeSpec := { name := "spansPlays", fn := fun _ => fun
  | [d1, d2] => { results := [.lit (.bool true)], args := [d1, d2] }
  | _ => none }
def spansPlaysRow : OpenClaim := { program := "ytpkbckkminmdmaa", sum := "44eed9cb3c2090595e9f8986462a234b6c0bee4003d9a2ba3b3b1ead6823a23b", func := "fairlead/fairleadlaw04.SpansPlays", spec := "spansPlays", unfollowed := true, recurses := true, apart := false }
def SpansPlaysSaid : Prop := spansPlaysRow.holds Try.pinned (OpenSpec.ofChange spansPlaysSpec)

/-- ITS FALSE NEIGHBOUR: 'it returns false'. Refute it at one input. -/
def spansPlaysWrong : ChangeSpec := { name := "spansPlays", fn := fun _ => fun
  | [d1, d2] => { results := [.lit (.bool false)], args := [d1, d2] }
  | _ => none }
def SpansPlaysWrongFalsely : Prop := spansPlaysRow.holds Try.pinned (OpenSpec.ofChange spansPlaysWrong)

/-- 'fairleadlaw04.SpansMove': WHATEVER THE INPUT: true; the input reads as it did. -/
def spansMoveSpec : ChangeSpec := { name := "spansMove", fn := fun _ => fun
  | [d1, d2, d3] => { results := [.lit (.bool true)], args := [d1, d2, d3] }
  | _ => none }
def spansMoveRow : OpenClaim := { program := "ytpkbckkminmdmaa", sum := "44eed9cb3c2090595e9f8986462a234b6c0bee4003d9a2ba3b3b1ead6823a23b", func := "fairlead/fairleadlaw04.SpansMove", spec := "spansMove", unfollowed := true, recurses := true, apart := false }
def SpansMoveSaid : Prop := spansMoveRow.holds Try.pinned (OpenSpec.ofChange spansMoveSpec)

/-- ITS FALSE NEIGHBOUR: 'it returns false'. Refute it at one input. -/
def spansMoveWrong : ChangeSpec := { name := "spansMove", fn := fun _ => fun
  | [d1, d2, d3] => { results := [.lit (.bool false)], args := [d1, d2, d3] }
  | _ => none }
def SpansMoveWrongFalsely : Prop := spansMoveRow.holds Try.pinned (OpenSpec.ofChange spansMoveWrong)

/-- 'fairleadlaw04.SpansNil': WHATEVER THE INPUT: true; the input reads as it did. -/
def spansNilSpec : ChangeSpec := { name := "spansNil", fn := fun _ => fun
  | [d1, d2] => { results := [.lit (.bool true)], args := [d1, d2] }
  | _ => none }
def spansNilRow : OpenClaim := { program := "ytpkbckkminmdmaa", sum := "44eed9cb3c2090595e9f8986462a234b6c0bee4003d9a2ba3b3b1ead6823a23b", func := "fairlead/fairleadlaw04.SpansNil", spec := "spansNil", unfollowed := true, recurses := true, apart := false }
def SpansNilSaid : Prop := spansNilRow.holds Try.pinned (OpenSpec.ofChange spansNilSpec)

/-- ITS FALSE NEIGHBOUR: 'it returns false'. Refute it at one input. -/
def spansNilWrong : ChangeSpec := { name := "spansNil", fn := fun _ => fun
  | [d1, d2] => { results := [.lit (.bool false)], args := [d1, d2] }
  | _ => none }
def SpansNilWrongFalsely : Prop := spansNilRow.holds Try.pinned (OpenSpec.ofChange spansNilWrong)

/-- 'fairleadlaw15.TsnmapPlays': WHATEVER THE INPUT: true; the input reads as it did. -/
def tsnmapPlaysSpec : ChangeSpec := { name := "tsnmapPlays", fn := fun _ => fun
  | [d1, d2] => { results := [.lit (.bool true)], args := [d1, d2] }
  | _ => none }
def tsnmapPlaysRow : OpenClaim := { program := "ytpkbckkminmdmaa", sum := "44eed9cb3c2090595e9f8986462a234b6c0bee4003d9a2ba3b3b1ead6823a23b", func := "fairlead/fairleadlaw15.TsnmapPlays", spec := "tsnmapPlays", unfollowed := true, recurses := true, apart := false }
def TsnmapPlaysSaid : Prop := tsnmapPlaysRow.holds Try.pinned (OpenSpec.ofChange tsnmapPlaysSpec)

/-- ITS FALSE NEIGHBOUR: 'it returns false'. Refute it at one input. -/
def tsnmapPlaysWrong : ChangeSpec := { name := "tsnmapPlays", fn := fun _ => fun
  | [d1, d2] => { results := [.lit (.bool false)], args := [d1, d2] }
  | _ => none }
def TsnmapPlaysWrongFalsely : Prop := tsnmapPlaysRow.holds Try.pinned (OpenSpec.ofChange tsnmapPlaysWrong)

/-- 'fairleadlaw15.TsnmapOrder': WHATEVER THE INPUT: true; the input reads as it did. -/
def tsnmapOrderSpec : ChangeSpec := { name := "tsnmapOrder", fn := fun _ => fun
  | [d1, d2] => { results := [.lit (.bool true)], args := [d1, d2] }
  | _ => none }
def tsnmapOrderRow : OpenClaim := { program := "ytpkbckkminmdmaa", sum := "44eed9cb3c2090595e9f8986462a234b6c0bee4003d9a2ba3b3b1ead6823a23b", func := "fairlead/fairleadlaw15.TsnmapOrder", spec := "tsnmapOrder", unfollowed := true, recurses := true, apart := false }
def TsnmapOrderSaid : Prop := tsnmapOrderRow.holds Try.pinned (OpenSpec.ofChange tsnmapOrderSpec)

/-- ITS FALSE NEIGHBOUR: 'it returns false'. Refute it at one input. -/
def tsnmapOrderWrong : ChangeSpec := { name := "tsnmapOrder", fn := fun _ => fun
  | [d1, d2] => { results := [.lit (.bool false)], args := [d1, d2] }
  | _ => none }
def TsnmapOrderWrongFalsely : Prop := tsnmapOrderRow.holds Try.pinned (OpenSpec.ofChange tsnmapOrderWrong)

/-- 'fairleadlaw15.TsnmapRuns': WHATEVER THE INPUT: true; the input reads as it did. -/
def tsnmapRunsSpec : ChangeSpec := { name := "tsnmapRuns", fn := fun _ => fun
  | [d1, d2] => { results := [.lit (.bool true)], args := [d1, d2] }
  | _ => none }
def tsnmapRunsRow : OpenClaim := { program := "ytpkbckkminmdmaa", sum := "44eed9cb3c2090595e9f8986462a234b6c0bee4003d9a2ba3b3b1ead6823a23b", func := "fairlead/fairleadlaw15.TsnmapRuns", spec := "tsnmapRuns", unfollowed := true, recurses := true, apart := false }
def TsnmapRunsSaid : Prop := tsnmapRunsRow.holds Try.pinned (OpenSpec.ofChange tsnmapRunsSpec)

/-- ITS FALSE NEIGHBOUR: 'it returns false'. Refute it at one input. -/
def tsnmapRunsWrong : ChangeSpec := { name := "tsnmapRuns", fn := fun _ => fun
  | [d1, d2] => { results := [.lit (.bool false)], args := [d1, d2] }
  | _ => none }
def TsnmapRunsWrongFalsely : Prop := tsnmapRunsRow.holds Try.pinned (OpenSpec.ofChange tsnmapRunsWrong)

/-- 'fairleadlaw15.TsnmapOn': WHATEVER THE INPUT: true; the input reads as it did. -/
def tsnmapOnSpec : ChangeSpec := { name := "tsnmapOn", fn := fun _ => fun
  | [d1, d2, d3] => { results := [.lit (.bool true)], args := [d1, d2, d3] }
  | _ => none }
def tsnmapOnRow : OpenClaim := { program := "ytpkbckkminmdmaa", sum := "44eed9cb3c2090595e9f8986462a234b6c0bee4003d9a2ba3b3b1ead6823a23b", func := "fairlead/fairleadlaw15.TsnmapOn", spec := "tsnmapOn", unfollowed := true, recurses := true, apart := false }
def TsnmapOnSaid : Prop := tsnmapOnRow.holds Try.pinned (OpenSpec.ofChange tsnmapOnSpec)

/-- ITS FALSE NEIGHBOUR: 'it returns false'. Refute it at one input. -/
def tsnmapOnWrong : ChangeSpec := { name := "tsnmapOn", fn := fun _ => fun
  | [d1, d2, d3] => { results := [.lit (.bool false)], args := [d1, d2, d3] }
  | _ => none }
def TsnmapOnWrongFalsely : Prop := tsnmapOnRow.holds Try.pinned (OpenSpec.ofChange tsnmapOnWrong)

/-- 'fairleadlaw15.TsnmapRow': WHATEVER THE INPUT: true; the input reads as it did. -/
def tsnmapRowSpec : ChangeSpec := { name := "tsnmapRow", fn := fun _ => fun
  | [d1, d2, d3] => { results := [.lit (.bool true)], args := [d1, d2, d3] }
  | _ => none }
def tsnmapRowRow : OpenClaim := { program := "ytpkbckkminmdmaa", sum := "44eed9cb3c2090595e9f8986462a234b6c0bee4003d9a2ba3b3b1ead6823a23b", func := "fairlead/fairleadlaw15.TsnmapRow", spec := "tsnmapRow", unfollowed := true, recurses := true, apart := false }
def TsnmapRowSaid : Prop := tsnmapRowRow.holds Try.pinned (OpenSpec.ofChange tsnmapRowSpec)

/-- ITS FALSE NEIGHBOUR: 'it returns false'. Refute it at one input. -/
def tsnmapRowWrong : ChangeSpec := { name := "tsnmapRow", fn := fun _ => fun
  | [d1, d2, d3] => { results := [.lit (.bool false)], args := [d1, d2, d3] }
  | _ => none }
def TsnmapRowWrongFalsely : Prop := tsnmapRowRow.holds Try.pinned (OpenSpec.ofChange tsnmapRowWrong)

/-- 'fairleadlaw15.TsnmapNil': WHATEVER THE INPUT: true; the input reads as it did. -/
def tsnmapNilSpec : ChangeSpec := { name := "tsnmapNil", fn := fun _ => fun
  | [d1, d2] => { results := [.lit (.bool true)], args := [d1, d2] }
  | _ => none }
def tsnmapNilRow : OpenClaim := { program := "ytpkbckkminmdmaa", sum := "44eed9cb3c2090595e9f8986462a234b6c0bee4003d9a2ba3b3b1ead6823a23b", func := "fairlead/fairleadlaw15.TsnmapNil", spec := "tsnmapNil", unfollowed := true, recurses := true, apart := false }
def TsnmapNilSaid : Prop := tsnmapNilRow.holds Try.pinned (OpenSpec.ofChange tsnmapNilSpec)

/-- ITS FALSE NEIGHBOUR: 'it returns false'. Refute it at one input. -/
def tsnmapNilWrong : ChangeSpec := { name := "tsnmapNil", fn := fun _ => fun
  | [d1, d2] => { results := [.lit (.bool false)], args := [d1, d2] }
  | _ => none }
def TsnmapNilWrongFalsely : Prop := tsnmapNilRow.holds Try.pinned (OpenSpec.ofChange tsnmapNilWrong)

/-- 'fairleadlaw19.RecvqOnce': WHATEVER THE INPUT: true; the input reads as it did. -/
def recvqOnceSpec : ChangeSpec := { name := "recvqOnce", fn := fun _ => fun
  | [d1, d2, d3] => { results := [.lit (.bool true)], args := [d1, d2, d3] }
  | _ => none }
def recvqOnceRow : OpenClaim := { program := "ytpkbckkminmdmaa", sum := "44eed9cb3c2090595e9f8986462a234b6c0bee4003d9a2ba3b3b1ead6823a23b", func := "fairlead/fairleadlaw19.RecvqOnce", spec := "recvqOnce", unfollowed := true, recurses := true, apart := false }
def RecvqOnceSaid : Prop := recvqOnceRow.holds Try.pinned (OpenSpec.ofChange recvqOnceSpec)

/-- ITS FALSE NEIGHBOUR: 'it returns false'. Refute it at one input. -/
def recvqOnceWrong : ChangeSpec := { name := "recvqOnce", fn := fun _ => fun
  | [d1, d2, d3] => { results := [.lit (.bool false)], args := [d1, d2, d3] }
  | _ => none }
def RecvqOnceWrongFalsely : Prop := recvqOnceRow.holds Try.pinned (OpenSpec.ofChange recvqOnceWrong)

/-- 'fairleadlaw19.RecvqSoon': WHATEVER THE INPUT: true; the input reads as it did. -/
def recvqSoonSpec : ChangeSpec := { name := "recvqSoon", fn := fun _ => fun
  | [d1, d2] => { results := [.lit (.bool true)], args := [d1, d2] }
  | _ => none }
def recvqSoonRow : OpenClaim := { program := "ytpkbckkminmdmaa", sum := "44eed9cb3c2090595e9f8986462a234b6c0bee4003d9a2ba3b3b1ead6823a23b", func := "fairlead/fairleadlaw19.RecvqSoon", spec := "recvqSoon", unfollowed := true, recurses := true, apart := false }
def RecvqSoonSaid : Prop := recvqSoonRow.holds Try.pinned (OpenSpec.ofChange recvqSoonSpec)

/-- ITS FALSE NEIGHBOUR: 'it returns false'. Refute it at one input. -/
def recvqSoonWrong : ChangeSpec := { name := "recvqSoon", fn := fun _ => fun
  | [d1, d2] => { results := [.lit (.bool false)], args := [d1, d2] }
  | _ => none }
def RecvqSoonWrongFalsely : Prop := recvqSoonRow.holds Try.pinned (OpenSpec.ofChange recvqSoonWrong)

/-- 'fairleadlaw19.RecvqRoom': WHATEVER THE INPUT: true; the input reads as it did. -/
def recvqRoomSpec : ChangeSpec := { name := "recvqRoom", fn := fun _ => fun
  | [d1, d2, d3] => { results := [.lit (.bool true)], args := [d1, d2, d3] }
  | _ => none }
def recvqRoomRow : OpenClaim := { program := "ytpkbckkminmdmaa", sum := "44eed9cb3c2090595e9f8986462a234b6c0bee4003d9a2ba3b3b1ead6823a23b", func := "fairlead/fairleadlaw19.RecvqRoom", spec := "recvqRoom", unfollowed := true, recurses := true, apart := false }
def RecvqRoomSaid : Prop := recvqRoomRow.holds Try.pinned (OpenSpec.ofChange recvqRoomSpec)

/-- ITS FALSE NEIGHBOUR: 'it returns false'. Refute it at one input. -/
def recvqRoomWrong : ChangeSpec := { name := "recvqRoom", fn := fun _ => fun
  | [d1, d2, d3] => { results := [.lit (.bool false)], args := [d1, d2, d3] }
  | _ => none }
def RecvqRoomWrongFalsely : Prop := recvqRoomRow.holds Try.pinned (OpenSpec.ofChange recvqRoomWrong)

/- THE SECOND FORM. 'bulk': how many values and letters a reading holds, each counted each time it is reached (what is shared counts as often as it is met; a slice's spare places count too). A statement '..UptoSaid' is the law's where the arguments, and the package variables that the reading takes, are together of bulk at most 1048576: NARROWER than '..Said'. Prove '..Said' where nothing that the law and all that it calls make is longer than what came in: it says more and counts as full. Else prove '..UptoSaid'. A law counts once. -/
mutual
def uptoBulk {H : Type} : DataW H → Nat
  | .lit (.string bytes) => bytes.length + 1
  | .lit _ => 1
  | .nil => 1
  | .ptr d => uptoBulk d + 1
  | .slice elems spare => uptoBulkAll elems + uptoBulkAll spare + 1
  | .agg parts => uptoBulkAll parts + 1
  | .iface _ d => uptoBulk d + 1
  | .map entries => uptoBulkEntries entries + 1
  | .held _ => 1
def uptoBulkAll {H : Type} : List (DataW H) → Nat
  | [] => 0
  | d :: r => uptoBulk d + uptoBulkAll r
def uptoBulkEntries {H : Type} : List (Lit × DataW H) → Nat
  | [] => 0
  | x :: r => uptoBulkEntry x + uptoBulkEntries r
def uptoBulkEntry {H : Type} : Lit × DataW H → Nat
  | (.string bytes, d) => bytes.length + uptoBulk d + 1
  | (_, d) => uptoBulk d + 1
 end
def uptoSmall : (H : Type) → List (DataW H) → Bool := fun _ ds => decide (uptoBulkAll ds ≤ 1048576)
def OpenSpec.upto (s : _root_.Go.ChangeSpec) : _root_.Go.OpenSpec := { _root_.Go.OpenSpec.ofChange s with cond := some uptoSmall }

/-- 'fairleadlaw18.ReasmHeld', WHERE WHAT IT READS IS OF BULK AT MOST 1048576: true; the input reads as it did. -/
def reasmHeldUptoRow : OpenClaim := { program := "ytpkbckkminmdmaa", sum := "44eed9cb3c2090595e9f8986462a234b6c0bee4003d9a2ba3b3b1ead6823a23b", func := "fairlead/fairleadlaw18.ReasmHeld", spec := "reasmHeld", apart := false, narrowed := true }
def ReasmHeldUptoSaid : Prop := reasmHeldUptoRow.holds Try.pinned (OpenSpec.upto reasmHeldSpec)

/-- 'fairleadlaw18.ReasmPlays', WHERE WHAT IT READS IS OF BULK AT MOST 1048576: true; the input reads as it did. -/
def reasmPlaysUptoRow : OpenClaim := { program := "ytpkbckkminmdmaa", sum := "44eed9cb3c2090595e9f8986462a234b6c0bee4003d9a2ba3b3b1ead6823a23b", func := "fairlead/fairleadlaw18.ReasmPlays", spec := "reasmPlays", apart := false, narrowed := true }
def ReasmPlaysUptoSaid : Prop := reasmPlaysUptoRow.holds Try.pinned (OpenSpec.upto reasmPlaysSpec)

/-- 'fairleadlaw18.ReasmOrder', WHERE WHAT IT READS IS OF BULK AT MOST 1048576: true; the input reads as it did. -/
def reasmOrderUptoRow : OpenClaim := { program := "ytpkbckkminmdmaa", sum := "44eed9cb3c2090595e9f8986462a234b6c0bee4003d9a2ba3b3b1ead6823a23b", func := "fairlead/fairleadlaw18.ReasmOrder", spec := "reasmOrder", apart := false, narrowed := true }
def ReasmOrderUptoSaid : Prop := reasmOrderUptoRow.holds Try.pinned (OpenSpec.upto reasmOrderSpec)

/-- 'fairleadlaw18.ReasmSoon', WHERE WHAT IT READS IS OF BULK AT MOST 1048576: true; the input reads as it did. -/
def reasmSoonUptoRow : OpenClaim := { program := "ytpkbckkminmdmaa", sum := "44eed9cb3c2090595e9f8986462a234b6c0bee4003d9a2ba3b3b1ead6823a23b", func := "fairlead/fairleadlaw18.ReasmSoon", spec := "reasmSoon", apart := false, narrowed := true }
def ReasmSoonUptoSaid : Prop := reasmSoonUptoRow.holds Try.pinned (OpenSpec.upto reasmSoonSpec)

/-- 'fairleadlaw18.ReasmSkips', WHERE WHAT IT READS IS OF BULK AT MOST 1048576: true; the input reads as it did. -/
def reasmSkipsUptoRow : OpenClaim := { program := "ytpkbckkminmdmaa", sum := "44eed9cb3c2090595e9f8986462a234b6c0bee4003d9a2ba3b3b1ead6823a23b", func := "fairlead/fairleadlaw18.ReasmSkips", spec := "reasmSkips", apart := false, narrowed := true }
def ReasmSkipsUptoSaid : Prop := reasmSkipsUptoRow.holds Try.pinned (OpenSpec.upto reasmSkipsSpec)

/-- 'fairleadlaw18.ReasmNil', WHERE WHAT IT READS IS OF BULK AT MOST 1048576: true; the input reads as it did. -/
def reasmNilUptoRow : OpenClaim := { program := "ytpkbckkminmdmaa", sum := "44eed9cb3c2090595e9f8986462a234b6c0bee4003d9a2ba3b3b1ead6823a23b", func := "fairlead/fairleadlaw18.ReasmNil", spec := "reasmNil", apart := false, narrowed := true }
def ReasmNilUptoSaid : Prop := reasmNilUptoRow.holds Try.pinned (OpenSpec.upto reasmNilSpec)

/-- 'fairleadlaw04.SpansGaps', WHERE WHAT IT READS IS OF BULK AT MOST 1048576: true; the input reads as it did. -/
def spansGapsUptoRow : OpenClaim := { program := "ytpkbckkminmdmaa", sum := "44eed9cb3c2090595e9f8986462a234b6c0bee4003d9a2ba3b3b1ead6823a23b", func := "fairlead/fairleadlaw04.SpansGaps", spec := "spansGaps", unfollowed := true, recurses := true, apart := false, narrowed := true }
def SpansGapsUptoSaid : Prop := spansGapsUptoRow.holds Try.pinned (OpenSpec.upto spansGapsSpec)

/-- 'fairleadlaw04.SpansSettle', WHERE WHAT IT READS IS OF BULK AT MOST 1048576: true; the input reads as it did. -/
def spansSettleUptoRow : OpenClaim := { program := "ytpkbckkminmdmaa", sum := "44eed9cb3c2090595e9f8986462a234b6c0bee4003d9a2ba3b3b1ead6823a23b", func := "fairlead/fairleadlaw04.SpansSettle", spec := "spansSettle", unfollowed := true, recurses := true, apart := false, narrowed := true }
def SpansSettleUptoSaid : Prop := spansSettleUptoRow.holds Try.pinned (OpenSpec.upto spansSettleSpec)

/-- 'fairleadlaw19.RecvqNil', WHERE WHAT IT READS IS OF BULK AT MOST 1048576: true; the input reads as it did. -/
def recvqNilUptoRow : OpenClaim := { program := "ytpkbckkminmdmaa", sum := "44eed9cb3c2090595e9f8986462a234b6c0bee4003d9a2ba3b3b1ead6823a23b", func := "fairlead/fairleadlaw19.RecvqNil", spec := "recvqNil", unfollowed := true, recurses := true, apart := false, narrowed := true }
def RecvqNilUptoSaid : Prop := recvqNilUptoRow.holds Try.pinned (OpenSpec.upto recvqNilSpec)

/-- 'fairleadlaw04.SpansOrder', WHERE WHAT IT READS IS OF BULK AT MOST 1048576: true; the input reads as it did. -/
def spansOrderUptoRow : OpenClaim := { program := "ytpkbckkminmdmaa", sum := "44eed9cb3c2090595e9f8986462a234b6c0bee4003d9a2ba3b3b1ead6823a23b", func := "fairlead/fairleadlaw04.SpansOrder", spec := "spansOrder", unfollowed := true, recurses := true, apart := false, narrowed := true }
def SpansOrderUptoSaid : Prop := spansOrderUptoRow.holds Try.pinned (OpenSpec.upto spansOrderSpec)

/-- 'fairleadlaw04.SpansFew', WHERE WHAT IT READS IS OF BULK AT MOST 1048576: true; the input reads as it did. -/
def spansFewUptoRow : OpenClaim := { program := "ytpkbckkminmdmaa", sum := "44eed9cb3c2090595e9f8986462a234b6c0bee4003d9a2ba3b3b1ead6823a23b", func := "fairlead/fairleadlaw04.SpansFew", spec := "spansFew", unfollowed := true, recurses := true, apart := false, narrowed := true }
def SpansFewUptoSaid : Prop := spansFewUptoRow.holds Try.pinned (OpenSpec.upto spansFewSpec)

/-- 'fairleadlaw04.SpansPlays', WHERE WHAT IT READS IS OF BULK AT MOST 1048576: true; the input reads as it did. -/
def spansPlaysUptoRow : OpenClaim := { program := "ytpkbckkminmdmaa", sum := "44eed9cb3c2090595e9f8986462a234b6c0bee4003d9a2ba3b3b1ead6823a23b", func := "fairlead/fairleadlaw04.SpansPlays", spec := "spansPlays", unfollowed := true, recurses := true, apart := false, narrowed := true }
def SpansPlaysUptoSaid : Prop := spansPlaysUptoRow.holds Try.pinned (OpenSpec.upto spansPlaysSpec)

/-- 'fairleadlaw04.SpansMove', WHERE WHAT IT READS IS OF BULK AT MOST 1048576: true; the input reads as it did. -/
def spansMoveUptoRow : OpenClaim := { program := "ytpkbckkminmdmaa", sum := "44eed9cb3c2090595e9f8986462a234b6c0bee4003d9a2ba3b3b1ead6823a23b", func := "fairlead/fairleadlaw04.SpansMove", spec := "spansMove", unfollowed := true, recurses := true, apart := false, narrowed := true }
def SpansMoveUptoSaid : Prop := spansMoveUptoRow.holds Try.pinned (OpenSpec.upto spansMoveSpec)

/-- 'fairleadlaw04.SpansNil', WHERE WHAT IT READS IS OF BULK AT MOST 1048576: true; the input reads as it did. -/
def spansNilUptoRow : OpenClaim := { program := "ytpkbckkminmdmaa", sum := "44eed9cb3c2090595e9f8986462a234b6c0bee4003d9a2ba3b3b1ead6823a23b", func := "fairlead/fairleadlaw04.SpansNil", spec := "spansNil", unfollowed := true, recurses := true, apart := false, narrowed := true }
def SpansNilUptoSaid : Prop := spansNilUptoRow.holds Try.pinned (OpenSpec.upto spansNilSpec)

/-- 'fairleadlaw15.TsnmapPlays', WHERE WHAT IT READS IS OF BULK AT MOST 1048576: true; the input reads as it did. -/
def tsnmapPlaysUptoRow : OpenClaim := { program := "ytpkbckkminmdmaa", sum := "44eed9cb3c2090595e9f8986462a234b6c0bee4003d9a2ba3b3b1ead6823a23b", func := "fairlead/fairleadlaw15.TsnmapPlays", spec := "tsnmapPlays", unfollowed := true, recurses := true, apart := false, narrowed := true }
def TsnmapPlaysUptoSaid : Prop := tsnmapPlaysUptoRow.holds Try.pinned (OpenSpec.upto tsnmapPlaysSpec)

/-- 'fairleadlaw15.TsnmapOrder', WHERE WHAT IT READS IS OF BULK AT MOST 1048576: true; the input reads as it did. -/
def tsnmapOrderUptoRow : OpenClaim := { program := "ytpkbckkminmdmaa", sum := "44eed9cb3c2090595e9f8986462a234b6c0bee4003d9a2ba3b3b1ead6823a23b", func := "fairlead/fairleadlaw15.TsnmapOrder", spec := "tsnmapOrder", unfollowed := true, recurses := true, apart := false, narrowed := true }
def TsnmapOrderUptoSaid : Prop := tsnmapOrderUptoRow.holds Try.pinned (OpenSpec.upto tsnmapOrderSpec)

/-- 'fairleadlaw15.TsnmapRuns', WHERE WHAT IT READS IS OF BULK AT MOST 1048576: true; the input reads as it did. -/
def tsnmapRunsUptoRow : OpenClaim := { program := "ytpkbckkminmdmaa", sum := "44eed9cb3c2090595e9f8986462a234b6c0bee4003d9a2ba3b3b1ead6823a23b", func := "fairlead/fairleadlaw15.TsnmapRuns", spec := "tsnmapRuns", unfollowed := true, recurses := true, apart := false, narrowed := true }
def TsnmapRunsUptoSaid : Prop := tsnmapRunsUptoRow.holds Try.pinned (OpenSpec.upto tsnmapRunsSpec)

/-- 'fairleadlaw15.TsnmapOn', WHERE WHAT IT READS IS OF BULK AT MOST 1048576: true; the input reads as it did. -/
def tsnmapOnUptoRow : OpenClaim := { program := "ytpkbckkminmdmaa", sum := "44eed9cb3c2090595e9f8986462a234b6c0bee4003d9a2ba3b3b1ead6823a23b", func := "fairlead/fairleadlaw15.TsnmapOn", spec := "tsnmapOn", unfollowed := true, recurses := true, apart := false, narrowed := true }
def TsnmapOnUptoSaid : Prop := tsnmapOnUptoRow.holds Try.pinned (OpenSpec.upto tsnmapOnSpec)

/-- 'fairleadlaw15.TsnmapRow', WHERE WHAT IT READS IS OF BULK AT MOST 1048576: true; the input reads as it did. -/
def tsnmapRowUptoRow : OpenClaim := { program := "ytpkbckkminmdmaa", sum := "44eed9cb3c2090595e9f8986462a234b6c0bee4003d9a2ba3b3b1ead6823a23b", func := "fairlead/fairleadlaw15.TsnmapRow", spec := "tsnmapRow", unfollowed := true, recurses := true, apart := false, narrowed := true }
def TsnmapRowUptoSaid : Prop := tsnmapRowUptoRow.holds Try.pinned (OpenSpec.upto tsnmapRowSpec)

/-- 'fairleadlaw15.TsnmapNil', WHERE WHAT IT READS IS OF BULK AT MOST 1048576: true; the input reads as it did. -/
def tsnmapNilUptoRow : OpenClaim := { program := "ytpkbckkminmdmaa", sum := "44eed9cb3c2090595e9f8986462a234b6c0bee4003d9a2ba3b3b1ead6823a23b", func := "fairlead/fairleadlaw15.TsnmapNil", spec := "tsnmapNil", unfollowed := true, recurses := true, apart := false, narrowed := true }
def TsnmapNilUptoSaid : Prop := tsnmapNilUptoRow.holds Try.pinned (OpenSpec.upto tsnmapNilSpec)

/-- 'fairleadlaw19.RecvqOnce', WHERE WHAT IT READS IS OF BULK AT MOST 1048576: true; the input reads as it did. -/
def recvqOnceUptoRow : OpenClaim := { program := "ytpkbckkminmdmaa", sum := "44eed9cb3c2090595e9f8986462a234b6c0bee4003d9a2ba3b3b1ead6823a23b", func := "fairlead/fairleadlaw19.RecvqOnce", spec := "recvqOnce", unfollowed := true, recurses := true, apart := false, narrowed := true }
def RecvqOnceUptoSaid : Prop := recvqOnceUptoRow.holds Try.pinned (OpenSpec.upto recvqOnceSpec)

/-- 'fairleadlaw19.RecvqSoon', WHERE WHAT IT READS IS OF BULK AT MOST 1048576: true; the input reads as it did. -/
def recvqSoonUptoRow : OpenClaim := { program := "ytpkbckkminmdmaa", sum := "44eed9cb3c2090595e9f8986462a234b6c0bee4003d9a2ba3b3b1ead6823a23b", func := "fairlead/fairleadlaw19.RecvqSoon", spec := "recvqSoon", unfollowed := true, recurses := true, apart := false, narrowed := true }
def RecvqSoonUptoSaid : Prop := recvqSoonUptoRow.holds Try.pinned (OpenSpec.upto recvqSoonSpec)

/-- 'fairleadlaw19.RecvqRoom', WHERE WHAT IT READS IS OF BULK AT MOST 1048576: true; the input reads as it did. -/
def recvqRoomUptoRow : OpenClaim := { program := "ytpkbckkminmdmaa", sum := "44eed9cb3c2090595e9f8986462a234b6c0bee4003d9a2ba3b3b1ead6823a23b", func := "fairlead/fairleadlaw19.RecvqRoom", spec := "recvqRoom", unfollowed := true, recurses := true, apart := false, narrowed := true }
def RecvqRoomUptoSaid : Prop := recvqRoomUptoRow.holds Try.pinned (OpenSpec.upto recvqRoomSpec)

end Rows
end Go.Proofs.Ytpkbckkminmdmaa
