/-
  No cell of these rows narrows 'for every input' (looked for: loops, veiled, ifaces, maps, wideKeys, modest, calm, conditions, laid).
  DERIVED. THE GIVEN ROWS OF THIS SEAT. 21 by the template 'for every input the law returns true; each argument reads behind the call as it read before'; 0 by the template 'total and deterministic' (their statements: YtpcagbfnddgjpaaTotals.lean).
  GIVEN WITH THE SEED: the statements are not yours to turn. If you find one false, say at which input.
  Laid BY PROGRAM, IN A SANDBOX (cutbox-rows.mjs): the forced cells as the released guide's own fill.sh prints them over the translation c6cfa40ca7e79383… (all of the seat's roots in one cut). By AI agents, Wed Nov 11 2026. No macro, syntax, notation, axiom, sorry.
-/
import Derived.Test.YtpcagbfnddgjpaaChecked
import GoSem.Claim
import GoSem.ClaimJoined
import GoSem.ClaimMapViews
import Derived.JoinedTies
import Derived.KernelRfl
namespace Go.Proofs.Ytpcagbfnddgjpaa
/- THE CELL 'sum', in the pinned program and in every row, IS THE sha256 OF THE DUMP (.gsa) THAT YtpcagbfnddgjpaaProg.lean LOADS. Nothing in Lean hashes anything: it is a label: what it is worth is what the hold of that sum in a sandbox is worth. -/
noncomputable def Try.pinned : Pinned := { name := "ytpcagbfnddgjpaa", sum := "c6cfa40ca7e79383891f9f8b97cecc75430540b73f9f0b62385fee8903cd1922", checked := Try.checked }
namespace Rows
def none {H : Type} : Left H := { results := [], args := [] }

/-- 'cattlecreepkeep.MacRight': WHATEVER THE INPUT: true; the input reads as it did. -/
def macRightSpec : ChangeSpec := { name := "macRight", fn := fun _ => fun
  | [d1, d2, d3, d4] => { results := [.lit (.bool true)], args := [d1, d2, d3, d4] }
  | _ => none }
def macRightRow : OpenClaim := { program := "ytpcagbfnddgjpaa", sum := "c6cfa40ca7e79383891f9f8b97cecc75430540b73f9f0b62385fee8903cd1922", func := "cattlecreep/cattlecreepkeep.MacRight", spec := "macRight", inPlace := ["internal/abi.NoEscape", "internal/bytealg.MakeNoZero", "internal/bytealg.IndexByteString"], plainKeys := false, apart := false }
def MacRightSaid : Prop := macRightRow.holds Try.pinned (OpenSpec.ofChange macRightSpec)

/-- ITS FALSE NEIGHBOUR: 'it returns false'. Refute it at one input. -/
def macRightWrong : ChangeSpec := { name := "macRight", fn := fun _ => fun
  | [d1, d2, d3, d4] => { results := [.lit (.bool false)], args := [d1, d2, d3, d4] }
  | _ => none }
def MacRightWrongFalsely : Prop := macRightRow.holds Try.pinned (OpenSpec.ofChange macRightWrong)

/-- 'cattlecreepkeep.MacKeys': WHATEVER THE INPUT: true; the input reads as it did. -/
def macKeysSpec : ChangeSpec := { name := "macKeys", fn := fun _ => fun
  | [d1, d2] => { results := [.lit (.bool true)], args := [d1, d2] }
  | _ => none }
def macKeysRow : OpenClaim := { program := "ytpcagbfnddgjpaa", sum := "c6cfa40ca7e79383891f9f8b97cecc75430540b73f9f0b62385fee8903cd1922", func := "cattlecreep/cattlecreepkeep.MacKeys", spec := "macKeys", inPlace := ["internal/abi.NoEscape", "internal/bytealg.MakeNoZero", "internal/bytealg.IndexByteString"], plainKeys := false, apart := false }
def MacKeysSaid : Prop := macKeysRow.holds Try.pinned (OpenSpec.ofChange macKeysSpec)

/-- ITS FALSE NEIGHBOUR: 'it returns false'. Refute it at one input. -/
def macKeysWrong : ChangeSpec := { name := "macKeys", fn := fun _ => fun
  | [d1, d2] => { results := [.lit (.bool false)], args := [d1, d2] }
  | _ => none }
def MacKeysWrongFalsely : Prop := macKeysRow.holds Try.pinned (OpenSpec.ofChange macKeysWrong)

/-- 'cattlecreepkeep.PairMarks': WHATEVER THE INPUT: true; the input reads as it did. -/
def pairMarksSpec : ChangeSpec := { name := "pairMarks", fn := fun _ => fun
  | [d1, d2] => { results := [.lit (.bool true)], args := [d1, d2] }
  | _ => none }
def pairMarksRow : OpenClaim := { program := "ytpcagbfnddgjpaa", sum := "c6cfa40ca7e79383891f9f8b97cecc75430540b73f9f0b62385fee8903cd1922", func := "cattlecreep/cattlecreepkeep.PairMarks", spec := "pairMarks", inPlace := ["internal/abi.NoEscape", "internal/bytealg.MakeNoZero", "internal/bytealg.IndexByteString"], plainKeys := false, apart := false }
def PairMarksSaid : Prop := pairMarksRow.holds Try.pinned (OpenSpec.ofChange pairMarksSpec)

/-- ITS FALSE NEIGHBOUR: 'it returns false'. Refute it at one input. -/
def pairMarksWrong : ChangeSpec := { name := "pairMarks", fn := fun _ => fun
  | [d1, d2] => { results := [.lit (.bool false)], args := [d1, d2] }
  | _ => none }
def PairMarksWrongFalsely : Prop := pairMarksRow.holds Try.pinned (OpenSpec.ofChange pairMarksWrong)

/-- 'cattlecreepkeep.PairBoth': WHATEVER THE INPUT: true; the input reads as it did. -/
def pairBothSpec : ChangeSpec := { name := "pairBoth", fn := fun _ => fun
  | [d1, d2, d3, d4] => { results := [.lit (.bool true)], args := [d1, d2, d3, d4] }
  | _ => none }
def pairBothRow : OpenClaim := { program := "ytpcagbfnddgjpaa", sum := "c6cfa40ca7e79383891f9f8b97cecc75430540b73f9f0b62385fee8903cd1922", func := "cattlecreep/cattlecreepkeep.PairBoth", spec := "pairBoth", inPlace := ["internal/abi.NoEscape", "internal/bytealg.MakeNoZero", "internal/bytealg.IndexByteString"], plainKeys := false, apart := false }
def PairBothSaid : Prop := pairBothRow.holds Try.pinned (OpenSpec.ofChange pairBothSpec)

/-- ITS FALSE NEIGHBOUR: 'it returns false'. Refute it at one input. -/
def pairBothWrong : ChangeSpec := { name := "pairBoth", fn := fun _ => fun
  | [d1, d2, d3, d4] => { results := [.lit (.bool false)], args := [d1, d2, d3, d4] }
  | _ => none }
def PairBothWrongFalsely : Prop := pairBothRow.holds Try.pinned (OpenSpec.ofChange pairBothWrong)

/-- 'cattlecreepkeep.SealFlows': WHATEVER THE INPUT: true; the input reads as it did. -/
def sealFlowsSpec : ChangeSpec := { name := "sealFlows", fn := fun _ => fun
  | [d1, d2, d3, d4] => { results := [.lit (.bool true)], args := [d1, d2, d3, d4] }
  | _ => none }
def sealFlowsRow : OpenClaim := { program := "ytpcagbfnddgjpaa", sum := "c6cfa40ca7e79383891f9f8b97cecc75430540b73f9f0b62385fee8903cd1922", func := "cattlecreep/cattlecreepkeep.SealFlows", spec := "sealFlows", inPlace := ["internal/abi.NoEscape", "internal/bytealg.MakeNoZero", "internal/bytealg.IndexByteString"], plainKeys := false, apart := false }
def SealFlowsSaid : Prop := sealFlowsRow.holds Try.pinned (OpenSpec.ofChange sealFlowsSpec)

/-- ITS FALSE NEIGHBOUR: 'it returns false'. Refute it at one input. -/
def sealFlowsWrong : ChangeSpec := { name := "sealFlows", fn := fun _ => fun
  | [d1, d2, d3, d4] => { results := [.lit (.bool false)], args := [d1, d2, d3, d4] }
  | _ => none }
def SealFlowsWrongFalsely : Prop := sealFlowsRow.holds Try.pinned (OpenSpec.ofChange sealFlowsWrong)

/-- 'cattlecreepkeep.SealBack': WHATEVER THE INPUT: true; the input reads as it did. -/
def sealBackSpec : ChangeSpec := { name := "sealBack", fn := fun _ => fun
  | [d1, d2, d3] => { results := [.lit (.bool true)], args := [d1, d2, d3] }
  | _ => none }
def sealBackRow : OpenClaim := { program := "ytpcagbfnddgjpaa", sum := "c6cfa40ca7e79383891f9f8b97cecc75430540b73f9f0b62385fee8903cd1922", func := "cattlecreep/cattlecreepkeep.SealBack", spec := "sealBack", inPlace := ["internal/abi.NoEscape", "internal/bytealg.MakeNoZero", "internal/bytealg.IndexByteString"], plainKeys := false, apart := false }
def SealBackSaid : Prop := sealBackRow.holds Try.pinned (OpenSpec.ofChange sealBackSpec)

/-- ITS FALSE NEIGHBOUR: 'it returns false'. Refute it at one input. -/
def sealBackWrong : ChangeSpec := { name := "sealBack", fn := fun _ => fun
  | [d1, d2, d3] => { results := [.lit (.bool false)], args := [d1, d2, d3] }
  | _ => none }
def SealBackWrongFalsely : Prop := sealBackRow.holds Try.pinned (OpenSpec.ofChange sealBackWrong)

/-- 'cattlecreepkeep.SealStrict': WHATEVER THE INPUT: true; the input reads as it did. -/
def sealStrictSpec : ChangeSpec := { name := "sealStrict", fn := fun _ => fun
  | [d1, d2, d3, d4, d5] => { results := [.lit (.bool true)], args := [d1, d2, d3, d4, d5] }
  | _ => none }
def sealStrictRow : OpenClaim := { program := "ytpcagbfnddgjpaa", sum := "c6cfa40ca7e79383891f9f8b97cecc75430540b73f9f0b62385fee8903cd1922", func := "cattlecreep/cattlecreepkeep.SealStrict", spec := "sealStrict", inPlace := ["internal/abi.NoEscape", "internal/bytealg.MakeNoZero", "internal/bytealg.IndexByteString"], plainKeys := false, apart := false }
def SealStrictSaid : Prop := sealStrictRow.holds Try.pinned (OpenSpec.ofChange sealStrictSpec)

/-- ITS FALSE NEIGHBOUR: 'it returns false'. Refute it at one input. -/
def sealStrictWrong : ChangeSpec := { name := "sealStrict", fn := fun _ => fun
  | [d1, d2, d3, d4, d5] => { results := [.lit (.bool false)], args := [d1, d2, d3, d4, d5] }
  | _ => none }
def SealStrictWrongFalsely : Prop := sealStrictRow.holds Try.pinned (OpenSpec.ofChange sealStrictWrong)

/-- 'cattlecreepkeep.TableTurns': WHATEVER THE INPUT: true; the input reads as it did. -/
def tableTurnsSpec : ChangeSpec := { name := "tableTurns", fn := fun _ => fun
  | [d1, d2] => { results := [.lit (.bool true)], args := [d1, d2] }
  | _ => none }
def tableTurnsRow : OpenClaim := { program := "ytpcagbfnddgjpaa", sum := "c6cfa40ca7e79383891f9f8b97cecc75430540b73f9f0b62385fee8903cd1922", func := "cattlecreep/cattlecreepkeep.TableTurns", spec := "tableTurns", inPlace := ["internal/abi.NoEscape", "internal/bytealg.MakeNoZero", "internal/bytealg.IndexByteString"], plainKeys := false, apart := false }
def TableTurnsSaid : Prop := tableTurnsRow.holds Try.pinned (OpenSpec.ofChange tableTurnsSpec)

/-- ITS FALSE NEIGHBOUR: 'it returns false'. Refute it at one input. -/
def tableTurnsWrong : ChangeSpec := { name := "tableTurns", fn := fun _ => fun
  | [d1, d2] => { results := [.lit (.bool false)], args := [d1, d2] }
  | _ => none }
def TableTurnsWrongFalsely : Prop := tableTurnsRow.holds Try.pinned (OpenSpec.ofChange tableTurnsWrong)

/-- 'cattlecreepkeep.KeysTalk': WHATEVER THE INPUT: true; the input reads as it did. -/
def keysTalkSpec : ChangeSpec := { name := "keysTalk", fn := fun _ => fun
  | [d1, d2, d3, d4, d5] => { results := [.lit (.bool true)], args := [d1, d2, d3, d4, d5] }
  | _ => none }
def keysTalkRow : OpenClaim := { program := "ytpcagbfnddgjpaa", sum := "c6cfa40ca7e79383891f9f8b97cecc75430540b73f9f0b62385fee8903cd1922", func := "cattlecreep/cattlecreepkeep.KeysTalk", spec := "keysTalk", inPlace := ["internal/abi.NoEscape", "internal/bytealg.MakeNoZero", "internal/bytealg.IndexByteString"], plainKeys := false, apart := false }
def KeysTalkSaid : Prop := keysTalkRow.holds Try.pinned (OpenSpec.ofChange keysTalkSpec)

/-- ITS FALSE NEIGHBOUR: 'it returns false'. Refute it at one input. -/
def keysTalkWrong : ChangeSpec := { name := "keysTalk", fn := fun _ => fun
  | [d1, d2, d3, d4, d5] => { results := [.lit (.bool false)], args := [d1, d2, d3, d4, d5] }
  | _ => none }
def KeysTalkWrongFalsely : Prop := keysTalkRow.holds Try.pinned (OpenSpec.ofChange keysTalkWrong)

/-- 'cattlecreepkeep.KeysAge': WHATEVER THE INPUT: true; the input reads as it did. -/
def keysAgeSpec : ChangeSpec := { name := "keysAge", fn := fun _ => fun
  | [d1, d2, d3, d4] => { results := [.lit (.bool true)], args := [d1, d2, d3, d4] }
  | _ => none }
def keysAgeRow : OpenClaim := { program := "ytpcagbfnddgjpaa", sum := "c6cfa40ca7e79383891f9f8b97cecc75430540b73f9f0b62385fee8903cd1922", func := "cattlecreep/cattlecreepkeep.KeysAge", spec := "keysAge", inPlace := ["internal/abi.NoEscape", "internal/bytealg.MakeNoZero", "internal/bytealg.IndexByteString"], plainKeys := false, apart := false }
def KeysAgeSaid : Prop := keysAgeRow.holds Try.pinned (OpenSpec.ofChange keysAgeSpec)

/-- ITS FALSE NEIGHBOUR: 'it returns false'. Refute it at one input. -/
def keysAgeWrong : ChangeSpec := { name := "keysAge", fn := fun _ => fun
  | [d1, d2, d3, d4] => { results := [.lit (.bool false)], args := [d1, d2, d3, d4] }
  | _ => none }
def KeysAgeWrongFalsely : Prop := keysAgeRow.holds Try.pinned (OpenSpec.ofChange keysAgeWrong)

/-- 'cattlecreepkeep.KeysStrict': WHATEVER THE INPUT: true; the input reads as it did. -/
def keysStrictSpec : ChangeSpec := { name := "keysStrict", fn := fun _ => fun
  | [d1, d2, d3, d4, d5] => { results := [.lit (.bool true)], args := [d1, d2, d3, d4, d5] }
  | _ => none }
def keysStrictRow : OpenClaim := { program := "ytpcagbfnddgjpaa", sum := "c6cfa40ca7e79383891f9f8b97cecc75430540b73f9f0b62385fee8903cd1922", func := "cattlecreep/cattlecreepkeep.KeysStrict", spec := "keysStrict", inPlace := ["internal/abi.NoEscape", "internal/bytealg.MakeNoZero", "internal/bytealg.IndexByteString"], plainKeys := false, apart := false }
def KeysStrictSaid : Prop := keysStrictRow.holds Try.pinned (OpenSpec.ofChange keysStrictSpec)

/-- ITS FALSE NEIGHBOUR: 'it returns false'. Refute it at one input. -/
def keysStrictWrong : ChangeSpec := { name := "keysStrict", fn := fun _ => fun
  | [d1, d2, d3, d4, d5] => { results := [.lit (.bool false)], args := [d1, d2, d3, d4, d5] }
  | _ => none }
def KeysStrictWrongFalsely : Prop := keysStrictRow.holds Try.pinned (OpenSpec.ofChange keysStrictWrong)

/-- 'cattlecreepkeep.ShakeMeets': WHATEVER THE INPUT: true; the input reads as it did. -/
def shakeMeetsSpec : ChangeSpec := { name := "shakeMeets", fn := fun _ => fun
  | [d1, d2, d3] => { results := [.lit (.bool true)], args := [d1, d2, d3] }
  | _ => none }
def shakeMeetsRow : OpenClaim := { program := "ytpcagbfnddgjpaa", sum := "c6cfa40ca7e79383891f9f8b97cecc75430540b73f9f0b62385fee8903cd1922", func := "cattlecreep/cattlecreepkeep.ShakeMeets", spec := "shakeMeets", inPlace := ["internal/abi.NoEscape", "internal/bytealg.MakeNoZero", "internal/bytealg.IndexByteString"], unfollowed := true, recurses := true, plainKeys := false, apart := false }
def ShakeMeetsSaid : Prop := shakeMeetsRow.holds Try.pinned (OpenSpec.ofChange shakeMeetsSpec)

/-- ITS FALSE NEIGHBOUR: 'it returns false'. Refute it at one input. -/
def shakeMeetsWrong : ChangeSpec := { name := "shakeMeets", fn := fun _ => fun
  | [d1, d2, d3] => { results := [.lit (.bool false)], args := [d1, d2, d3] }
  | _ => none }
def ShakeMeetsWrongFalsely : Prop := shakeMeetsRow.holds Try.pinned (OpenSpec.ofChange shakeMeetsWrong)

/-- 'cattlecreepkeep.ShakeIdle': WHATEVER THE INPUT: true; the input reads as it did. -/
def shakeIdleSpec : ChangeSpec := { name := "shakeIdle", fn := fun _ => fun
  | [d1, d2, d3] => { results := [.lit (.bool true)], args := [d1, d2, d3] }
  | _ => none }
def shakeIdleRow : OpenClaim := { program := "ytpcagbfnddgjpaa", sum := "c6cfa40ca7e79383891f9f8b97cecc75430540b73f9f0b62385fee8903cd1922", func := "cattlecreep/cattlecreepkeep.ShakeIdle", spec := "shakeIdle", inPlace := ["internal/abi.NoEscape", "internal/bytealg.MakeNoZero", "internal/bytealg.IndexByteString"], unfollowed := true, recurses := true, plainKeys := false, apart := false }
def ShakeIdleSaid : Prop := shakeIdleRow.holds Try.pinned (OpenSpec.ofChange shakeIdleSpec)

/-- ITS FALSE NEIGHBOUR: 'it returns false'. Refute it at one input. -/
def shakeIdleWrong : ChangeSpec := { name := "shakeIdle", fn := fun _ => fun
  | [d1, d2, d3] => { results := [.lit (.bool false)], args := [d1, d2, d3] }
  | _ => none }
def ShakeIdleWrongFalsely : Prop := shakeIdleRow.holds Try.pinned (OpenSpec.ofChange shakeIdleWrong)

/-- 'cattlecreepkeep.ShakeStrict': WHATEVER THE INPUT: true; the input reads as it did. -/
def shakeStrictSpec : ChangeSpec := { name := "shakeStrict", fn := fun _ => fun
  | [d1, d2, d3, d4] => { results := [.lit (.bool true)], args := [d1, d2, d3, d4] }
  | _ => none }
def shakeStrictRow : OpenClaim := { program := "ytpcagbfnddgjpaa", sum := "c6cfa40ca7e79383891f9f8b97cecc75430540b73f9f0b62385fee8903cd1922", func := "cattlecreep/cattlecreepkeep.ShakeStrict", spec := "shakeStrict", inPlace := ["internal/abi.NoEscape", "internal/bytealg.MakeNoZero", "internal/bytealg.IndexByteString"], unfollowed := true, recurses := true, plainKeys := false, apart := false }
def ShakeStrictSaid : Prop := shakeStrictRow.holds Try.pinned (OpenSpec.ofChange shakeStrictSpec)

/-- ITS FALSE NEIGHBOUR: 'it returns false'. Refute it at one input. -/
def shakeStrictWrong : ChangeSpec := { name := "shakeStrict", fn := fun _ => fun
  | [d1, d2, d3, d4] => { results := [.lit (.bool false)], args := [d1, d2, d3, d4] }
  | _ => none }
def ShakeStrictWrongFalsely : Prop := shakeStrictRow.holds Try.pinned (OpenSpec.ofChange shakeStrictWrong)

/-- 'cattlecreepkeep.TrieSmall': WHATEVER THE INPUT: true; the input reads as it did. -/
def trieSmallSpec : ChangeSpec := { name := "trieSmall", fn := fun _ => fun
  | [d] => { results := [.lit (.bool true)], args := [d] }
  | _ => none }
def trieSmallRow : OpenClaim := { program := "ytpcagbfnddgjpaa", sum := "c6cfa40ca7e79383891f9f8b97cecc75430540b73f9f0b62385fee8903cd1922", func := "cattlecreep/cattlecreepkeep.TrieSmall", spec := "trieSmall", inPlace := ["internal/abi.NoEscape", "internal/bytealg.MakeNoZero"], unfollowed := true, recurses := true, plainKeys := false, apart := false }
def TrieSmallSaid : Prop := trieSmallRow.holds Try.pinned (OpenSpec.ofChange trieSmallSpec)

/-- ITS FALSE NEIGHBOUR: 'it returns false'. Refute it at one input. -/
def trieSmallWrong : ChangeSpec := { name := "trieSmall", fn := fun _ => fun
  | [d] => { results := [.lit (.bool false)], args := [d] }
  | _ => none }
def TrieSmallWrongFalsely : Prop := trieSmallRow.holds Try.pinned (OpenSpec.ofChange trieSmallWrong)

/-- 'cattlecreepkeep.TrieAny': WHATEVER THE INPUT: true; the input reads as it did. -/
def trieAnySpec : ChangeSpec := { name := "trieAny", fn := fun _ => fun
  | [d] => { results := [.lit (.bool true)], args := [d] }
  | _ => none }
def trieAnyRow : OpenClaim := { program := "ytpcagbfnddgjpaa", sum := "c6cfa40ca7e79383891f9f8b97cecc75430540b73f9f0b62385fee8903cd1922", func := "cattlecreep/cattlecreepkeep.TrieAny", spec := "trieAny", inPlace := ["internal/abi.NoEscape", "internal/bytealg.MakeNoZero"], unfollowed := true, recurses := true, plainKeys := false, apart := false }
def TrieAnySaid : Prop := trieAnyRow.holds Try.pinned (OpenSpec.ofChange trieAnySpec)

/-- ITS FALSE NEIGHBOUR: 'it returns false'. Refute it at one input. -/
def trieAnyWrong : ChangeSpec := { name := "trieAny", fn := fun _ => fun
  | [d] => { results := [.lit (.bool false)], args := [d] }
  | _ => none }
def TrieAnyWrongFalsely : Prop := trieAnyRow.holds Try.pinned (OpenSpec.ofChange trieAnyWrong)

/-- 'cattlecreepkeep.TrieLongest': WHATEVER THE INPUT: true; the input reads as it did. -/
def trieLongestSpec : ChangeSpec := { name := "trieLongest", fn := fun _ => fun
  | [d1, d2, d3] => { results := [.lit (.bool true)], args := [d1, d2, d3] }
  | _ => none }
def trieLongestRow : OpenClaim := { program := "ytpcagbfnddgjpaa", sum := "c6cfa40ca7e79383891f9f8b97cecc75430540b73f9f0b62385fee8903cd1922", func := "cattlecreep/cattlecreepkeep.TrieLongest", spec := "trieLongest", inPlace := ["internal/abi.NoEscape", "internal/bytealg.MakeNoZero"], unfollowed := true, recurses := true, plainKeys := false, apart := false }
def TrieLongestSaid : Prop := trieLongestRow.holds Try.pinned (OpenSpec.ofChange trieLongestSpec)

/-- ITS FALSE NEIGHBOUR: 'it returns false'. Refute it at one input. -/
def trieLongestWrong : ChangeSpec := { name := "trieLongest", fn := fun _ => fun
  | [d1, d2, d3] => { results := [.lit (.bool false)], args := [d1, d2, d3] }
  | _ => none }
def TrieLongestWrongFalsely : Prop := trieLongestRow.holds Try.pinned (OpenSpec.ofChange trieLongestWrong)

/-- 'cattlecreepkeep.TrieOwns': WHATEVER THE INPUT: true; the input reads as it did. -/
def trieOwnsSpec : ChangeSpec := { name := "trieOwns", fn := fun _ => fun
  | [d] => { results := [.lit (.bool true)], args := [d] }
  | _ => none }
def trieOwnsRow : OpenClaim := { program := "ytpcagbfnddgjpaa", sum := "c6cfa40ca7e79383891f9f8b97cecc75430540b73f9f0b62385fee8903cd1922", func := "cattlecreep/cattlecreepkeep.TrieOwns", spec := "trieOwns", inPlace := ["internal/abi.NoEscape", "internal/bytealg.MakeNoZero"], unfollowed := true, recurses := true, plainKeys := false, apart := false }
def TrieOwnsSaid : Prop := trieOwnsRow.holds Try.pinned (OpenSpec.ofChange trieOwnsSpec)

/-- ITS FALSE NEIGHBOUR: 'it returns false'. Refute it at one input. -/
def trieOwnsWrong : ChangeSpec := { name := "trieOwns", fn := fun _ => fun
  | [d] => { results := [.lit (.bool false)], args := [d] }
  | _ => none }
def TrieOwnsWrongFalsely : Prop := trieOwnsRow.holds Try.pinned (OpenSpec.ofChange trieOwnsWrong)

/-- 'cattlecreepkeep.TrieLeaves': WHATEVER THE INPUT: true; the input reads as it did. -/
def trieLeavesSpec : ChangeSpec := { name := "trieLeaves", fn := fun _ => fun
  | [d1, d2] => { results := [.lit (.bool true)], args := [d1, d2] }
  | _ => none }
def trieLeavesRow : OpenClaim := { program := "ytpcagbfnddgjpaa", sum := "c6cfa40ca7e79383891f9f8b97cecc75430540b73f9f0b62385fee8903cd1922", func := "cattlecreep/cattlecreepkeep.TrieLeaves", spec := "trieLeaves", inPlace := ["internal/abi.NoEscape", "internal/bytealg.MakeNoZero"], unfollowed := true, recurses := true, plainKeys := false, apart := false }
def TrieLeavesSaid : Prop := trieLeavesRow.holds Try.pinned (OpenSpec.ofChange trieLeavesSpec)

/-- ITS FALSE NEIGHBOUR: 'it returns false'. Refute it at one input. -/
def trieLeavesWrong : ChangeSpec := { name := "trieLeaves", fn := fun _ => fun
  | [d1, d2] => { results := [.lit (.bool false)], args := [d1, d2] }
  | _ => none }
def TrieLeavesWrongFalsely : Prop := trieLeavesRow.holds Try.pinned (OpenSpec.ofChange trieLeavesWrong)

/-- 'cattlecreepkeep.TrieOwn': WHATEVER THE INPUT: true; the input reads as it did. -/
def trieOwnSpec : ChangeSpec := { name := "trieOwn", fn := fun _ => fun
  | [d1, d2] => { results := [.lit (.bool true)], args := [d1, d2] }
  | _ => none }
def trieOwnRow : OpenClaim := { program := "ytpcagbfnddgjpaa", sum := "c6cfa40ca7e79383891f9f8b97cecc75430540b73f9f0b62385fee8903cd1922", func := "cattlecreep/cattlecreepkeep.TrieOwn", spec := "trieOwn", inPlace := ["internal/abi.NoEscape", "internal/bytealg.MakeNoZero"], unfollowed := true, recurses := true, plainKeys := false, apart := false }
def TrieOwnSaid : Prop := trieOwnRow.holds Try.pinned (OpenSpec.ofChange trieOwnSpec)

/-- ITS FALSE NEIGHBOUR: 'it returns false'. Refute it at one input. -/
def trieOwnWrong : ChangeSpec := { name := "trieOwn", fn := fun _ => fun
  | [d1, d2] => { results := [.lit (.bool false)], args := [d1, d2] }
  | _ => none }
def TrieOwnWrongFalsely : Prop := trieOwnRow.holds Try.pinned (OpenSpec.ofChange trieOwnWrong)

/-- 'cattlecreepkeep.TrieBack': WHATEVER THE INPUT: true; the input reads as it did. -/
def trieBackSpec : ChangeSpec := { name := "trieBack", fn := fun _ => fun
  | [d1, d2] => { results := [.lit (.bool true)], args := [d1, d2] }
  | _ => none }
def trieBackRow : OpenClaim := { program := "ytpcagbfnddgjpaa", sum := "c6cfa40ca7e79383891f9f8b97cecc75430540b73f9f0b62385fee8903cd1922", func := "cattlecreep/cattlecreepkeep.TrieBack", spec := "trieBack", inPlace := ["internal/abi.NoEscape", "internal/bytealg.MakeNoZero"], unfollowed := true, recurses := true, plainKeys := false, apart := false }
def TrieBackSaid : Prop := trieBackRow.holds Try.pinned (OpenSpec.ofChange trieBackSpec)

/-- ITS FALSE NEIGHBOUR: 'it returns false'. Refute it at one input. -/
def trieBackWrong : ChangeSpec := { name := "trieBack", fn := fun _ => fun
  | [d1, d2] => { results := [.lit (.bool false)], args := [d1, d2] }
  | _ => none }
def TrieBackWrongFalsely : Prop := trieBackRow.holds Try.pinned (OpenSpec.ofChange trieBackWrong)

/- THE SECOND FORM. 'bulk': how many values and letters a reading holds, each counted each time it is reached (what is shared counts as often as it is met; a slice's spare places count too). A statement '..UptoSaid' is the law's where the arguments, and the package variables that the reading takes, are together of bulk at most 1048576: NARROWER than '..Said'. Prove '..Said' where nothing that the law and all that it calls make is longer than what came in: it says more and counts as full. Else prove '..UptoSaid'. A law counts once. -/
mutual
def uptoBulk {H : Type} : DataW H → Nat
  | .lit (.string bytes) => bytes.length + 1
  | .lit _ => 1
  | .nil => 1
  | .ptr d => uptoBulk d + 1
  | .slice elems spare => uptoBulkAll elems + uptoBulkAll spare + 1
  | .agg parts => uptoBulkAll parts + 1
  | .iface _ d => uptoBulk d + 1
  | .map entries => uptoBulkEntries entries + 1
  | .held _ => 1
def uptoBulkAll {H : Type} : List (DataW H) → Nat
  | [] => 0
  | d :: r => uptoBulk d + uptoBulkAll r
def uptoBulkEntries {H : Type} : List (Lit × DataW H) → Nat
  | [] => 0
  | x :: r => uptoBulkEntry x + uptoBulkEntries r
def uptoBulkEntry {H : Type} : Lit × DataW H → Nat
  | (.string bytes, d) => bytes.length + uptoBulk d + 1
  | (_, d) => uptoBulk d + 1
 end
def uptoSmall : (H : Type) → List (DataW H) → Bool := fun _ ds => decide (uptoBulkAll ds ≤ 1048576)
def OpenSpec.upto (s : _root_.Go.ChangeSpec) : _root_.Go.OpenSpec := { _root_.Go.OpenSpec.ofChange s with cond := some uptoSmall }

/-- 'cattlecreepkeep.MacRight', WHERE WHAT IT READS IS OF BULK AT MOST 1048576: true; the input reads as it did. -/
def macRightUptoRow : OpenClaim := { program := "ytpcagbfnddgjpaa", sum := "c6cfa40ca7e79383891f9f8b97cecc75430540b73f9f0b62385fee8903cd1922", func := "cattlecreep/cattlecreepkeep.MacRight", spec := "macRight", inPlace := ["internal/abi.NoEscape", "internal/bytealg.MakeNoZero", "internal/bytealg.IndexByteString"], plainKeys := false, apart := false, narrowed := true }
def MacRightUptoSaid : Prop := macRightUptoRow.holds Try.pinned (OpenSpec.upto macRightSpec)

/-- 'cattlecreepkeep.MacKeys', WHERE WHAT IT READS IS OF BULK AT MOST 1048576: true; the input reads as it did. -/
def macKeysUptoRow : OpenClaim := { program := "ytpcagbfnddgjpaa", sum := "c6cfa40ca7e79383891f9f8b97cecc75430540b73f9f0b62385fee8903cd1922", func := "cattlecreep/cattlecreepkeep.MacKeys", spec := "macKeys", inPlace := ["internal/abi.NoEscape", "internal/bytealg.MakeNoZero", "internal/bytealg.IndexByteString"], plainKeys := false, apart := false, narrowed := true }
def MacKeysUptoSaid : Prop := macKeysUptoRow.holds Try.pinned (OpenSpec.upto macKeysSpec)

/-- 'cattlecreepkeep.PairMarks', WHERE WHAT IT READS IS OF BULK AT MOST 1048576: true; the input reads as it did. -/
def pairMarksUptoRow : OpenClaim := { program := "ytpcagbfnddgjpaa", sum := "c6cfa40ca7e79383891f9f8b97cecc75430540b73f9f0b62385fee8903cd1922", func := "cattlecreep/cattlecreepkeep.PairMarks", spec := "pairMarks", inPlace := ["internal/abi.NoEscape", "internal/bytealg.MakeNoZero", "internal/bytealg.IndexByteString"], plainKeys := false, apart := false, narrowed := true }
def PairMarksUptoSaid : Prop := pairMarksUptoRow.holds Try.pinned (OpenSpec.upto pairMarksSpec)

/-- 'cattlecreepkeep.PairBoth', WHERE WHAT IT READS IS OF BULK AT MOST 1048576: true; the input reads as it did. -/
def pairBothUptoRow : OpenClaim := { program := "ytpcagbfnddgjpaa", sum := "c6cfa40ca7e79383891f9f8b97cecc75430540b73f9f0b62385fee8903cd1922", func := "cattlecreep/cattlecreepkeep.PairBoth", spec := "pairBoth", inPlace := ["internal/abi.NoEscape", "internal/bytealg.MakeNoZero", "internal/bytealg.IndexByteString"], plainKeys := false, apart := false, narrowed := true }
def PairBothUptoSaid : Prop := pairBothUptoRow.holds Try.pinned (OpenSpec.upto pairBothSpec)

/-- 'cattlecreepkeep.SealFlows', WHERE WHAT IT READS IS OF BULK AT MOST 1048576: true; the input reads as it did. -/
def sealFlowsUptoRow : OpenClaim := { program := "ytpcagbfnddgjpaa", sum := "c6cfa40ca7e79383891f9f8b97cecc75430540b73f9f0b62385fee8903cd1922", func := "cattlecreep/cattlecreepkeep.SealFlows", spec := "sealFlows", inPlace := ["internal/abi.NoEscape", "internal/bytealg.MakeNoZero", "internal/bytealg.IndexByteString"], plainKeys := false, apart := false, narrowed := true }
def SealFlowsUptoSaid : Prop := sealFlowsUptoRow.holds Try.pinned (OpenSpec.upto sealFlowsSpec)

/-- 'cattlecreepkeep.SealBack', WHERE WHAT IT READS IS OF BULK AT MOST 1048576: true; the input reads as it did. -/
def sealBackUptoRow : OpenClaim := { program := "ytpcagbfnddgjpaa", sum := "c6cfa40ca7e79383891f9f8b97cecc75430540b73f9f0b62385fee8903cd1922", func := "cattlecreep/cattlecreepkeep.SealBack", spec := "sealBack", inPlace := ["internal/abi.NoEscape", "internal/bytealg.MakeNoZero", "internal/bytealg.IndexByteString"], plainKeys := false, apart := false, narrowed := true }
def SealBackUptoSaid : Prop := sealBackUptoRow.holds Try.pinned (OpenSpec.upto sealBackSpec)

/-- 'cattlecreepkeep.SealStrict', WHERE WHAT IT READS IS OF BULK AT MOST 1048576: true; the input reads as it did. -/
def sealStrictUptoRow : OpenClaim := { program := "ytpcagbfnddgjpaa", sum := "c6cfa40ca7e79383891f9f8b97cecc75430540b73f9f0b62385fee8903cd1922", func := "cattlecreep/cattlecreepkeep.SealStrict", spec := "sealStrict", inPlace := ["internal/abi.NoEscape", "internal/bytealg.MakeNoZero", "internal/bytealg.IndexByteString"], plainKeys := false, apart := false, narrowed := true }
def SealStrictUptoSaid : Prop := sealStrictUptoRow.holds Try.pinned (OpenSpec.upto sealStrictSpec)

/-- 'cattlecreepkeep.TableTurns', WHERE WHAT IT READS IS OF BULK AT MOST 1048576: true; the input reads as it did. -/
def tableTurnsUptoRow : OpenClaim := { program := "ytpcagbfnddgjpaa", sum := "c6cfa40ca7e79383891f9f8b97cecc75430540b73f9f0b62385fee8903cd1922", func := "cattlecreep/cattlecreepkeep.TableTurns", spec := "tableTurns", inPlace := ["internal/abi.NoEscape", "internal/bytealg.MakeNoZero", "internal/bytealg.IndexByteString"], plainKeys := false, apart := false, narrowed := true }
def TableTurnsUptoSaid : Prop := tableTurnsUptoRow.holds Try.pinned (OpenSpec.upto tableTurnsSpec)

/-- 'cattlecreepkeep.KeysTalk', WHERE WHAT IT READS IS OF BULK AT MOST 1048576: true; the input reads as it did. -/
def keysTalkUptoRow : OpenClaim := { program := "ytpcagbfnddgjpaa", sum := "c6cfa40ca7e79383891f9f8b97cecc75430540b73f9f0b62385fee8903cd1922", func := "cattlecreep/cattlecreepkeep.KeysTalk", spec := "keysTalk", inPlace := ["internal/abi.NoEscape", "internal/bytealg.MakeNoZero", "internal/bytealg.IndexByteString"], plainKeys := false, apart := false, narrowed := true }
def KeysTalkUptoSaid : Prop := keysTalkUptoRow.holds Try.pinned (OpenSpec.upto keysTalkSpec)

/-- 'cattlecreepkeep.KeysAge', WHERE WHAT IT READS IS OF BULK AT MOST 1048576: true; the input reads as it did. -/
def keysAgeUptoRow : OpenClaim := { program := "ytpcagbfnddgjpaa", sum := "c6cfa40ca7e79383891f9f8b97cecc75430540b73f9f0b62385fee8903cd1922", func := "cattlecreep/cattlecreepkeep.KeysAge", spec := "keysAge", inPlace := ["internal/abi.NoEscape", "internal/bytealg.MakeNoZero", "internal/bytealg.IndexByteString"], plainKeys := false, apart := false, narrowed := true }
def KeysAgeUptoSaid : Prop := keysAgeUptoRow.holds Try.pinned (OpenSpec.upto keysAgeSpec)

/-- 'cattlecreepkeep.KeysStrict', WHERE WHAT IT READS IS OF BULK AT MOST 1048576: true; the input reads as it did. -/
def keysStrictUptoRow : OpenClaim := { program := "ytpcagbfnddgjpaa", sum := "c6cfa40ca7e79383891f9f8b97cecc75430540b73f9f0b62385fee8903cd1922", func := "cattlecreep/cattlecreepkeep.KeysStrict", spec := "keysStrict", inPlace := ["internal/abi.NoEscape", "internal/bytealg.MakeNoZero", "internal/bytealg.IndexByteString"], plainKeys := false, apart := false, narrowed := true }
def KeysStrictUptoSaid : Prop := keysStrictUptoRow.holds Try.pinned (OpenSpec.upto keysStrictSpec)

/-- 'cattlecreepkeep.ShakeMeets', WHERE WHAT IT READS IS OF BULK AT MOST 1048576: true; the input reads as it did. -/
def shakeMeetsUptoRow : OpenClaim := { program := "ytpcagbfnddgjpaa", sum := "c6cfa40ca7e79383891f9f8b97cecc75430540b73f9f0b62385fee8903cd1922", func := "cattlecreep/cattlecreepkeep.ShakeMeets", spec := "shakeMeets", inPlace := ["internal/abi.NoEscape", "internal/bytealg.MakeNoZero", "internal/bytealg.IndexByteString"], unfollowed := true, recurses := true, plainKeys := false, apart := false, narrowed := true }
def ShakeMeetsUptoSaid : Prop := shakeMeetsUptoRow.holds Try.pinned (OpenSpec.upto shakeMeetsSpec)

/-- 'cattlecreepkeep.ShakeIdle', WHERE WHAT IT READS IS OF BULK AT MOST 1048576: true; the input reads as it did. -/
def shakeIdleUptoRow : OpenClaim := { program := "ytpcagbfnddgjpaa", sum := "c6cfa40ca7e79383891f9f8b97cecc75430540b73f9f0b62385fee8903cd1922", func := "cattlecreep/cattlecreepkeep.ShakeIdle", spec := "shakeIdle", inPlace := ["internal/abi.NoEscape", "internal/bytealg.MakeNoZero", "internal/bytealg.IndexByteString"], unfollowed := true, recurses := true, plainKeys := false, apart := false, narrowed := true }
def ShakeIdleUptoSaid : Prop := shakeIdleUptoRow.holds Try.pinned (OpenSpec.upto shakeIdleSpec)

/-- 'cattlecreepkeep.ShakeStrict', WHERE WHAT IT READS IS OF BULK AT MOST 1048576: true; the input reads as it did. -/
def shakeStrictUptoRow : OpenClaim := { program := "ytpcagbfnddgjpaa", sum := "c6cfa40ca7e79383891f9f8b97cecc75430540b73f9f0b62385fee8903cd1922", func := "cattlecreep/cattlecreepkeep.ShakeStrict", spec := "shakeStrict", inPlace := ["internal/abi.NoEscape", "internal/bytealg.MakeNoZero", "internal/bytealg.IndexByteString"], unfollowed := true, recurses := true, plainKeys := false, apart := false, narrowed := true }
def ShakeStrictUptoSaid : Prop := shakeStrictUptoRow.holds Try.pinned (OpenSpec.upto shakeStrictSpec)

/-- 'cattlecreepkeep.TrieSmall', WHERE WHAT IT READS IS OF BULK AT MOST 1048576: true; the input reads as it did. -/
def trieSmallUptoRow : OpenClaim := { program := "ytpcagbfnddgjpaa", sum := "c6cfa40ca7e79383891f9f8b97cecc75430540b73f9f0b62385fee8903cd1922", func := "cattlecreep/cattlecreepkeep.TrieSmall", spec := "trieSmall", inPlace := ["internal/abi.NoEscape", "internal/bytealg.MakeNoZero"], unfollowed := true, recurses := true, plainKeys := false, apart := false, narrowed := true }
def TrieSmallUptoSaid : Prop := trieSmallUptoRow.holds Try.pinned (OpenSpec.upto trieSmallSpec)

/-- 'cattlecreepkeep.TrieAny', WHERE WHAT IT READS IS OF BULK AT MOST 1048576: true; the input reads as it did. -/
def trieAnyUptoRow : OpenClaim := { program := "ytpcagbfnddgjpaa", sum := "c6cfa40ca7e79383891f9f8b97cecc75430540b73f9f0b62385fee8903cd1922", func := "cattlecreep/cattlecreepkeep.TrieAny", spec := "trieAny", inPlace := ["internal/abi.NoEscape", "internal/bytealg.MakeNoZero"], unfollowed := true, recurses := true, plainKeys := false, apart := false, narrowed := true }
def TrieAnyUptoSaid : Prop := trieAnyUptoRow.holds Try.pinned (OpenSpec.upto trieAnySpec)

/-- 'cattlecreepkeep.TrieLongest', WHERE WHAT IT READS IS OF BULK AT MOST 1048576: true; the input reads as it did. -/
def trieLongestUptoRow : OpenClaim := { program := "ytpcagbfnddgjpaa", sum := "c6cfa40ca7e79383891f9f8b97cecc75430540b73f9f0b62385fee8903cd1922", func := "cattlecreep/cattlecreepkeep.TrieLongest", spec := "trieLongest", inPlace := ["internal/abi.NoEscape", "internal/bytealg.MakeNoZero"], unfollowed := true, recurses := true, plainKeys := false, apart := false, narrowed := true }
def TrieLongestUptoSaid : Prop := trieLongestUptoRow.holds Try.pinned (OpenSpec.upto trieLongestSpec)

/-- 'cattlecreepkeep.TrieOwns', WHERE WHAT IT READS IS OF BULK AT MOST 1048576: true; the input reads as it did. -/
def trieOwnsUptoRow : OpenClaim := { program := "ytpcagbfnddgjpaa", sum := "c6cfa40ca7e79383891f9f8b97cecc75430540b73f9f0b62385fee8903cd1922", func := "cattlecreep/cattlecreepkeep.TrieOwns", spec := "trieOwns", inPlace := ["internal/abi.NoEscape", "internal/bytealg.MakeNoZero"], unfollowed := true, recurses := true, plainKeys := false, apart := false, narrowed := true }
def TrieOwnsUptoSaid : Prop := trieOwnsUptoRow.holds Try.pinned (OpenSpec.upto trieOwnsSpec)

/-- 'cattlecreepkeep.TrieLeaves', WHERE WHAT IT READS IS OF BULK AT MOST 1048576: true; the input reads as it did. -/
def trieLeavesUptoRow : OpenClaim := { program := "ytpcagbfnddgjpaa", sum := "c6cfa40ca7e79383891f9f8b97cecc75430540b73f9f0b62385fee8903cd1922", func := "cattlecreep/cattlecreepkeep.TrieLeaves", spec := "trieLeaves", inPlace := ["internal/abi.NoEscape", "internal/bytealg.MakeNoZero"], unfollowed := true, recurses := true, plainKeys := false, apart := false, narrowed := true }
def TrieLeavesUptoSaid : Prop := trieLeavesUptoRow.holds Try.pinned (OpenSpec.upto trieLeavesSpec)

/-- 'cattlecreepkeep.TrieOwn', WHERE WHAT IT READS IS OF BULK AT MOST 1048576: true; the input reads as it did. -/
def trieOwnUptoRow : OpenClaim := { program := "ytpcagbfnddgjpaa", sum := "c6cfa40ca7e79383891f9f8b97cecc75430540b73f9f0b62385fee8903cd1922", func := "cattlecreep/cattlecreepkeep.TrieOwn", spec := "trieOwn", inPlace := ["internal/abi.NoEscape", "internal/bytealg.MakeNoZero"], unfollowed := true, recurses := true, plainKeys := false, apart := false, narrowed := true }
def TrieOwnUptoSaid : Prop := trieOwnUptoRow.holds Try.pinned (OpenSpec.upto trieOwnSpec)

/-- 'cattlecreepkeep.TrieBack', WHERE WHAT IT READS IS OF BULK AT MOST 1048576: true; the input reads as it did. -/
def trieBackUptoRow : OpenClaim := { program := "ytpcagbfnddgjpaa", sum := "c6cfa40ca7e79383891f9f8b97cecc75430540b73f9f0b62385fee8903cd1922", func := "cattlecreep/cattlecreepkeep.TrieBack", spec := "trieBack", inPlace := ["internal/abi.NoEscape", "internal/bytealg.MakeNoZero"], unfollowed := true, recurses := true, plainKeys := false, apart := false, narrowed := true }
def TrieBackUptoSaid : Prop := trieBackUptoRow.holds Try.pinned (OpenSpec.upto trieBackSpec)

end Rows
end Go.Proofs.Ytpcagbfnddgjpaa
