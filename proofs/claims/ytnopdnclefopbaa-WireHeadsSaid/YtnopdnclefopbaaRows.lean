/-
  No cell of these rows narrows 'for every input' (looked for: loops, veiled, ifaces, maps, wideKeys, modest, calm, conditions, laid).
  DERIVED. THE GIVEN ROWS OF THIS SEAT. 16 by the template 'for every input the law returns true; each argument reads behind the call as it read before'; 0 by the template 'total and deterministic' (their statements: YtnopdnclefopbaaTotals.lean).
  GIVEN WITH THE SEED: the statements are not yours to turn. If you find one false, say at which input.
  Laid BY PROGRAM, IN A SANDBOX (cutbox-rows.mjs): the forced cells as the released guide's own fill.sh prints them over the translation 6a8381f43b5ad8ad… (all of the seat's roots in one cut). By AI agents, Wed Nov 11 2026. No macro, syntax, notation, axiom, sorry.
-/
import Derived.Test.YtnopdnclefopbaaChecked
import GoSem.Claim
import GoSem.ClaimJoined
import GoSem.ClaimMapViews
import Derived.JoinedTies
import Derived.KernelRfl
namespace Go.Proofs.Ytnopdnclefopbaa
/- THE CELL 'sum', in the pinned program and in every row, IS THE sha256 OF THE DUMP (.gsa) THAT YtnopdnclefopbaaProg.lean LOADS. Nothing in Lean hashes anything: it is a label: what it is worth is what the hold of that sum in a sandbox is worth. -/
noncomputable def Try.pinned : Pinned := { name := "ytnopdnclefopbaa", sum := "6a8381f43b5ad8ad7626497f6235473889d99e29ec73ee4d674d4a5536af95f4", checked := Try.checked }
namespace Rows
def none {H : Type} : Left H := { results := [], args := [] }

/-- 'cattlecreepkeep.NetWithin': WHATEVER THE INPUT: true; the input reads as it did. -/
def netWithinSpec : ChangeSpec := { name := "netWithin", fn := fun _ => fun
  | [d1, d2, d3] => { results := [.lit (.bool true)], args := [d1, d2, d3] }
  | _ => none }
def netWithinRow : OpenClaim := { program := "ytnopdnclefopbaa", sum := "6a8381f43b5ad8ad7626497f6235473889d99e29ec73ee4d674d4a5536af95f4", func := "cattlecreep/cattlecreepkeep.NetWithin", spec := "netWithin", unfollowed := true, recurses := true, apart := false }
def NetWithinSaid : Prop := netWithinRow.holds Try.pinned (OpenSpec.ofChange netWithinSpec)

/-- ITS FALSE NEIGHBOUR: 'it returns false'. Refute it at one input. -/
def netWithinWrong : ChangeSpec := { name := "netWithin", fn := fun _ => fun
  | [d1, d2, d3] => { results := [.lit (.bool false)], args := [d1, d2, d3] }
  | _ => none }
def NetWithinWrongFalsely : Prop := netWithinRow.holds Try.pinned (OpenSpec.ofChange netWithinWrong)

/-- 'cattlecreepkeep.ShaPadded': WHATEVER THE INPUT: true; the input reads as it did. -/
def shaPaddedSpec : ChangeSpec := { name := "shaPadded", fn := fun _ => fun
  | [d] => { results := [.lit (.bool true)], args := [d] }
  | _ => none }
def shaPaddedRow : OpenClaim := { program := "ytnopdnclefopbaa", sum := "6a8381f43b5ad8ad7626497f6235473889d99e29ec73ee4d674d4a5536af95f4", func := "cattlecreep/cattlecreepkeep.ShaPadded", spec := "shaPadded", apart := false }
def ShaPaddedSaid : Prop := shaPaddedRow.holds Try.pinned (OpenSpec.ofChange shaPaddedSpec)

/-- ITS FALSE NEIGHBOUR: 'it returns false'. Refute it at one input. -/
def shaPaddedWrong : ChangeSpec := { name := "shaPadded", fn := fun _ => fun
  | [d] => { results := [.lit (.bool false)], args := [d] }
  | _ => none }
def ShaPaddedWrongFalsely : Prop := shaPaddedRow.holds Try.pinned (OpenSpec.ofChange shaPaddedWrong)

/-- 'cattlecreepkeep.NetCut': WHATEVER THE INPUT: true; the input reads as it did. -/
def netCutSpec : ChangeSpec := { name := "netCut", fn := fun _ => fun
  | [d1, d2, d3] => { results := [.lit (.bool true)], args := [d1, d2, d3] }
  | _ => none }
def netCutRow : OpenClaim := { program := "ytnopdnclefopbaa", sum := "6a8381f43b5ad8ad7626497f6235473889d99e29ec73ee4d674d4a5536af95f4", func := "cattlecreep/cattlecreepkeep.NetCut", spec := "netCut", apart := false }
def NetCutSaid : Prop := netCutRow.holds Try.pinned (OpenSpec.ofChange netCutSpec)

/-- ITS FALSE NEIGHBOUR: 'it returns false'. Refute it at one input. -/
def netCutWrong : ChangeSpec := { name := "netCut", fn := fun _ => fun
  | [d1, d2, d3] => { results := [.lit (.bool false)], args := [d1, d2, d3] }
  | _ => none }
def NetCutWrongFalsely : Prop := netCutRow.holds Try.pinned (OpenSpec.ofChange netCutWrong)

/-- 'cattlecreepkeep.NetJoined': WHATEVER THE INPUT: true; the input reads as it did. -/
def netJoinedSpec : ChangeSpec := { name := "netJoined", fn := fun _ => fun
  | [d1, d2, d3] => { results := [.lit (.bool true)], args := [d1, d2, d3] }
  | _ => none }
def netJoinedRow : OpenClaim := { program := "ytnopdnclefopbaa", sum := "6a8381f43b5ad8ad7626497f6235473889d99e29ec73ee4d674d4a5536af95f4", func := "cattlecreep/cattlecreepkeep.NetJoined", spec := "netJoined", unfollowed := true, recurses := true, apart := false }
def NetJoinedSaid : Prop := netJoinedRow.holds Try.pinned (OpenSpec.ofChange netJoinedSpec)

/-- ITS FALSE NEIGHBOUR: 'it returns false'. Refute it at one input. -/
def netJoinedWrong : ChangeSpec := { name := "netJoined", fn := fun _ => fun
  | [d1, d2, d3] => { results := [.lit (.bool false)], args := [d1, d2, d3] }
  | _ => none }
def NetJoinedWrongFalsely : Prop := netJoinedRow.holds Try.pinned (OpenSpec.ofChange netJoinedWrong)

/-- 'cattlecreepkeep.HexBack': WHATEVER THE INPUT: true; the input reads as it did. -/
def hexBackSpec : ChangeSpec := { name := "hexBack", fn := fun _ => fun
  | [d] => { results := [.lit (.bool true)], args := [d] }
  | _ => none }
def hexBackRow : OpenClaim := { program := "ytnopdnclefopbaa", sum := "6a8381f43b5ad8ad7626497f6235473889d99e29ec73ee4d674d4a5536af95f4", func := "cattlecreep/cattlecreepkeep.HexBack", spec := "hexBack", inPlace := ["internal/abi.NoEscape", "internal/bytealg.IndexByteString"], apart := false }
def HexBackSaid : Prop := hexBackRow.holds Try.pinned (OpenSpec.ofChange hexBackSpec)

/-- ITS FALSE NEIGHBOUR: 'it returns false'. Refute it at one input. -/
def hexBackWrong : ChangeSpec := { name := "hexBack", fn := fun _ => fun
  | [d] => { results := [.lit (.bool false)], args := [d] }
  | _ => none }
def HexBackWrongFalsely : Prop := hexBackRow.holds Try.pinned (OpenSpec.ofChange hexBackWrong)

/-- 'cattlecreepkeep.HexTurns': WHATEVER THE INPUT: true; the input reads as it did. -/
def hexTurnsSpec : ChangeSpec := { name := "hexTurns", fn := fun _ => fun
  | [d] => { results := [.lit (.bool true)], args := [d] }
  | _ => none }
def hexTurnsRow : OpenClaim := { program := "ytnopdnclefopbaa", sum := "6a8381f43b5ad8ad7626497f6235473889d99e29ec73ee4d674d4a5536af95f4", func := "cattlecreep/cattlecreepkeep.HexTurns", spec := "hexTurns", inPlace := ["internal/bytealg.IndexByteString", "internal/abi.NoEscape"], apart := false }
def HexTurnsSaid : Prop := hexTurnsRow.holds Try.pinned (OpenSpec.ofChange hexTurnsSpec)

/-- ITS FALSE NEIGHBOUR: 'it returns false'. Refute it at one input. -/
def hexTurnsWrong : ChangeSpec := { name := "hexTurns", fn := fun _ => fun
  | [d] => { results := [.lit (.bool false)], args := [d] }
  | _ => none }
def HexTurnsWrongFalsely : Prop := hexTurnsRow.holds Try.pinned (OpenSpec.ofChange hexTurnsWrong)

/-- 'cattlecreepkeep.PacketBack': WHATEVER THE INPUT: true; the input reads as it did. -/
def packetBackSpec : ChangeSpec := { name := "packetBack", fn := fun _ => fun
  | [d1, d2] => { results := [.lit (.bool true)], args := [d1, d2] }
  | _ => none }
def packetBackRow : OpenClaim := { program := "ytnopdnclefopbaa", sum := "6a8381f43b5ad8ad7626497f6235473889d99e29ec73ee4d674d4a5536af95f4", func := "cattlecreep/cattlecreepkeep.PacketBack", spec := "packetBack", apart := false }
def PacketBackSaid : Prop := packetBackRow.holds Try.pinned (OpenSpec.ofChange packetBackSpec)

/-- ITS FALSE NEIGHBOUR: 'it returns false'. Refute it at one input. -/
def packetBackWrong : ChangeSpec := { name := "packetBack", fn := fun _ => fun
  | [d1, d2] => { results := [.lit (.bool false)], args := [d1, d2] }
  | _ => none }
def PacketBackWrongFalsely : Prop := packetBackRow.holds Try.pinned (OpenSpec.ofChange packetBackWrong)

/-- 'cattlecreepkeep.WindowOnce': WHATEVER THE INPUT: true; the input reads as it did. -/
def windowOnceSpec : ChangeSpec := { name := "windowOnce", fn := fun _ => fun
  | [d] => { results := [.lit (.bool true)], args := [d] }
  | _ => none }
def windowOnceRow : OpenClaim := { program := "ytnopdnclefopbaa", sum := "6a8381f43b5ad8ad7626497f6235473889d99e29ec73ee4d674d4a5536af95f4", func := "cattlecreep/cattlecreepkeep.WindowOnce", spec := "windowOnce", apart := false }
def WindowOnceSaid : Prop := windowOnceRow.holds Try.pinned (OpenSpec.ofChange windowOnceSpec)

/-- ITS FALSE NEIGHBOUR: 'it returns false'. Refute it at one input. -/
def windowOnceWrong : ChangeSpec := { name := "windowOnce", fn := fun _ => fun
  | [d] => { results := [.lit (.bool false)], args := [d] }
  | _ => none }
def WindowOnceWrongFalsely : Prop := windowOnceRow.holds Try.pinned (OpenSpec.ofChange windowOnceWrong)

/-- 'cattlecreepkeep.PacketTurns': WHATEVER THE INPUT: true; the input reads as it did. -/
def packetTurnsSpec : ChangeSpec := { name := "packetTurns", fn := fun _ => fun
  | [d1, d2, d3] => { results := [.lit (.bool true)], args := [d1, d2, d3] }
  | _ => none }
def packetTurnsRow : OpenClaim := { program := "ytnopdnclefopbaa", sum := "6a8381f43b5ad8ad7626497f6235473889d99e29ec73ee4d674d4a5536af95f4", func := "cattlecreep/cattlecreepkeep.PacketTurns", spec := "packetTurns", apart := false }
def PacketTurnsSaid : Prop := packetTurnsRow.holds Try.pinned (OpenSpec.ofChange packetTurnsSpec)

/-- ITS FALSE NEIGHBOUR: 'it returns false'. Refute it at one input. -/
def packetTurnsWrong : ChangeSpec := { name := "packetTurns", fn := fun _ => fun
  | [d1, d2, d3] => { results := [.lit (.bool false)], args := [d1, d2, d3] }
  | _ => none }
def PacketTurnsWrongFalsely : Prop := packetTurnsRow.holds Try.pinned (OpenSpec.ofChange packetTurnsWrong)

/-- 'cattlecreepkeep.WindowLast': WHATEVER THE INPUT: true; the input reads as it did. -/
def windowLastSpec : ChangeSpec := { name := "windowLast", fn := fun _ => fun
  | [d1, d2] => { results := [.lit (.bool true)], args := [d1, d2] }
  | _ => none }
def windowLastRow : OpenClaim := { program := "ytnopdnclefopbaa", sum := "6a8381f43b5ad8ad7626497f6235473889d99e29ec73ee4d674d4a5536af95f4", func := "cattlecreep/cattlecreepkeep.WindowLast", spec := "windowLast", apart := false }
def WindowLastSaid : Prop := windowLastRow.holds Try.pinned (OpenSpec.ofChange windowLastSpec)

/-- ITS FALSE NEIGHBOUR: 'it returns false'. Refute it at one input. -/
def windowLastWrong : ChangeSpec := { name := "windowLast", fn := fun _ => fun
  | [d1, d2] => { results := [.lit (.bool false)], args := [d1, d2] }
  | _ => none }
def WindowLastWrongFalsely : Prop := windowLastRow.holds Try.pinned (OpenSpec.ofChange windowLastWrong)

/-- 'cattlecreepkeep.WindowFree': WHATEVER THE INPUT: true; the input reads as it did. -/
def windowFreeSpec : ChangeSpec := { name := "windowFree", fn := fun _ => fun
  | [d1, d2] => { results := [.lit (.bool true)], args := [d1, d2] }
  | _ => none }
def windowFreeRow : OpenClaim := { program := "ytnopdnclefopbaa", sum := "6a8381f43b5ad8ad7626497f6235473889d99e29ec73ee4d674d4a5536af95f4", func := "cattlecreep/cattlecreepkeep.WindowFree", spec := "windowFree", apart := false }
def WindowFreeSaid : Prop := windowFreeRow.holds Try.pinned (OpenSpec.ofChange windowFreeSpec)

/-- ITS FALSE NEIGHBOUR: 'it returns false'. Refute it at one input. -/
def windowFreeWrong : ChangeSpec := { name := "windowFree", fn := fun _ => fun
  | [d1, d2] => { results := [.lit (.bool false)], args := [d1, d2] }
  | _ => none }
def WindowFreeWrongFalsely : Prop := windowFreeRow.holds Try.pinned (OpenSpec.ofChange windowFreeWrong)

/-- 'cattlecreepkeep.PacketHead': WHATEVER THE INPUT: true; the input reads as it did. -/
def packetHeadSpec : ChangeSpec := { name := "packetHead", fn := fun _ => fun
  | [d1, d2, d3] => { results := [.lit (.bool true)], args := [d1, d2, d3] }
  | _ => none }
def packetHeadRow : OpenClaim := { program := "ytnopdnclefopbaa", sum := "6a8381f43b5ad8ad7626497f6235473889d99e29ec73ee4d674d4a5536af95f4", func := "cattlecreep/cattlecreepkeep.PacketHead", spec := "packetHead", apart := false }
def PacketHeadSaid : Prop := packetHeadRow.holds Try.pinned (OpenSpec.ofChange packetHeadSpec)

/-- ITS FALSE NEIGHBOUR: 'it returns false'. Refute it at one input. -/
def packetHeadWrong : ChangeSpec := { name := "packetHead", fn := fun _ => fun
  | [d1, d2, d3] => { results := [.lit (.bool false)], args := [d1, d2, d3] }
  | _ => none }
def PacketHeadWrongFalsely : Prop := packetHeadRow.holds Try.pinned (OpenSpec.ofChange packetHeadWrong)

/-- 'cattlecreepkeep.ShaLong': WHATEVER THE INPUT: true; the input reads as it did. -/
def shaLongSpec : ChangeSpec := { name := "shaLong", fn := fun _ => fun
  | [d] => { results := [.lit (.bool true)], args := [d] }
  | _ => none }
def shaLongRow : OpenClaim := { program := "ytnopdnclefopbaa", sum := "6a8381f43b5ad8ad7626497f6235473889d99e29ec73ee4d674d4a5536af95f4", func := "cattlecreep/cattlecreepkeep.ShaLong", spec := "shaLong", inPlace := ["internal/abi.NoEscape"], apart := false }
def ShaLongSaid : Prop := shaLongRow.holds Try.pinned (OpenSpec.ofChange shaLongSpec)

/-- ITS FALSE NEIGHBOUR: 'it returns false'. Refute it at one input. -/
def shaLongWrong : ChangeSpec := { name := "shaLong", fn := fun _ => fun
  | [d] => { results := [.lit (.bool false)], args := [d] }
  | _ => none }
def ShaLongWrongFalsely : Prop := shaLongRow.holds Try.pinned (OpenSpec.ofChange shaLongWrong)

/-- 'cattlecreepkeep.WireBack': WHATEVER THE INPUT: true; the input reads as it did. -/
def wireBackSpec : ChangeSpec := { name := "wireBack", fn := fun _ => fun
  | [d] => { results := [.lit (.bool true)], args := [d] }
  | _ => none }
def wireBackRow : OpenClaim := { program := "ytnopdnclefopbaa", sum := "6a8381f43b5ad8ad7626497f6235473889d99e29ec73ee4d674d4a5536af95f4", func := "cattlecreep/cattlecreepkeep.WireBack", spec := "wireBack", apart := false }
def WireBackSaid : Prop := wireBackRow.holds Try.pinned (OpenSpec.ofChange wireBackSpec)

/-- ITS FALSE NEIGHBOUR: 'it returns false'. Refute it at one input. -/
def wireBackWrong : ChangeSpec := { name := "wireBack", fn := fun _ => fun
  | [d] => { results := [.lit (.bool false)], args := [d] }
  | _ => none }
def WireBackWrongFalsely : Prop := wireBackRow.holds Try.pinned (OpenSpec.ofChange wireBackWrong)

/-- 'cattlecreepkeep.WireTurns': WHATEVER THE INPUT: true; the input reads as it did. -/
def wireTurnsSpec : ChangeSpec := { name := "wireTurns", fn := fun _ => fun
  | [d1, d2, d3] => { results := [.lit (.bool true)], args := [d1, d2, d3] }
  | _ => none }
def wireTurnsRow : OpenClaim := { program := "ytnopdnclefopbaa", sum := "6a8381f43b5ad8ad7626497f6235473889d99e29ec73ee4d674d4a5536af95f4", func := "cattlecreep/cattlecreepkeep.WireTurns", spec := "wireTurns", apart := false }
def WireTurnsSaid : Prop := wireTurnsRow.holds Try.pinned (OpenSpec.ofChange wireTurnsSpec)

/-- ITS FALSE NEIGHBOUR: 'it returns false'. Refute it at one input. -/
def wireTurnsWrong : ChangeSpec := { name := "wireTurns", fn := fun _ => fun
  | [d1, d2, d3] => { results := [.lit (.bool false)], args := [d1, d2, d3] }
  | _ => none }
def WireTurnsWrongFalsely : Prop := wireTurnsRow.holds Try.pinned (OpenSpec.ofChange wireTurnsWrong)

/-- 'cattlecreepkeep.WireHeads': WHATEVER THE INPUT: true; the input reads as it did. -/
def wireHeadsSpec : ChangeSpec := { name := "wireHeads", fn := fun _ => fun
  | [d1, d2] => { results := [.lit (.bool true)], args := [d1, d2] }
  | _ => none }
def wireHeadsRow : OpenClaim := { program := "ytnopdnclefopbaa", sum := "6a8381f43b5ad8ad7626497f6235473889d99e29ec73ee4d674d4a5536af95f4", func := "cattlecreep/cattlecreepkeep.WireHeads", spec := "wireHeads", apart := false }
def WireHeadsSaid : Prop := wireHeadsRow.holds Try.pinned (OpenSpec.ofChange wireHeadsSpec)

/-- ITS FALSE NEIGHBOUR: 'it returns false'. Refute it at one input. -/
def wireHeadsWrong : ChangeSpec := { name := "wireHeads", fn := fun _ => fun
  | [d1, d2] => { results := [.lit (.bool false)], args := [d1, d2] }
  | _ => none }
def WireHeadsWrongFalsely : Prop := wireHeadsRow.holds Try.pinned (OpenSpec.ofChange wireHeadsWrong)

/- THE SECOND FORM. 'bulk': how many values and letters a reading holds, each counted each time it is reached (what is shared counts as often as it is met; a slice's spare places count too). A statement '..UptoSaid' is the law's where the arguments, and the package variables that the reading takes, are together of bulk at most 1048576: NARROWER than '..Said'. Prove '..Said' where nothing that the law and all that it calls make is longer than what came in: it says more and counts as full. Else prove '..UptoSaid'. A law counts once. -/
mutual
def uptoBulk {H : Type} : DataW H → Nat
  | .lit (.string bytes) => bytes.length + 1
  | .lit _ => 1
  | .nil => 1
  | .ptr d => uptoBulk d + 1
  | .slice elems spare => uptoBulkAll elems + uptoBulkAll spare + 1
  | .agg parts => uptoBulkAll parts + 1
  | .iface _ d => uptoBulk d + 1
  | .map entries => uptoBulkEntries entries + 1
  | .held _ => 1
def uptoBulkAll {H : Type} : List (DataW H) → Nat
  | [] => 0
  | d :: r => uptoBulk d + uptoBulkAll r
def uptoBulkEntries {H : Type} : List (Lit × DataW H) → Nat
  | [] => 0
  | x :: r => uptoBulkEntry x + uptoBulkEntries r
def uptoBulkEntry {H : Type} : Lit × DataW H → Nat
  | (.string bytes, d) => bytes.length + uptoBulk d + 1
  | (_, d) => uptoBulk d + 1
 end
def uptoSmall : (H : Type) → List (DataW H) → Bool := fun _ ds => decide (uptoBulkAll ds ≤ 1048576)
def OpenSpec.upto (s : _root_.Go.ChangeSpec) : _root_.Go.OpenSpec := { _root_.Go.OpenSpec.ofChange s with cond := some uptoSmall }

/-- 'cattlecreepkeep.NetWithin', WHERE WHAT IT READS IS OF BULK AT MOST 1048576: true; the input reads as it did. -/
def netWithinUptoRow : OpenClaim := { program := "ytnopdnclefopbaa", sum := "6a8381f43b5ad8ad7626497f6235473889d99e29ec73ee4d674d4a5536af95f4", func := "cattlecreep/cattlecreepkeep.NetWithin", spec := "netWithin", unfollowed := true, recurses := true, apart := false, narrowed := true }
def NetWithinUptoSaid : Prop := netWithinUptoRow.holds Try.pinned (OpenSpec.upto netWithinSpec)

/-- 'cattlecreepkeep.ShaPadded', WHERE WHAT IT READS IS OF BULK AT MOST 1048576: true; the input reads as it did. -/
def shaPaddedUptoRow : OpenClaim := { program := "ytnopdnclefopbaa", sum := "6a8381f43b5ad8ad7626497f6235473889d99e29ec73ee4d674d4a5536af95f4", func := "cattlecreep/cattlecreepkeep.ShaPadded", spec := "shaPadded", apart := false, narrowed := true }
def ShaPaddedUptoSaid : Prop := shaPaddedUptoRow.holds Try.pinned (OpenSpec.upto shaPaddedSpec)

/-- 'cattlecreepkeep.NetCut', WHERE WHAT IT READS IS OF BULK AT MOST 1048576: true; the input reads as it did. -/
def netCutUptoRow : OpenClaim := { program := "ytnopdnclefopbaa", sum := "6a8381f43b5ad8ad7626497f6235473889d99e29ec73ee4d674d4a5536af95f4", func := "cattlecreep/cattlecreepkeep.NetCut", spec := "netCut", apart := false, narrowed := true }
def NetCutUptoSaid : Prop := netCutUptoRow.holds Try.pinned (OpenSpec.upto netCutSpec)

/-- 'cattlecreepkeep.NetJoined', WHERE WHAT IT READS IS OF BULK AT MOST 1048576: true; the input reads as it did. -/
def netJoinedUptoRow : OpenClaim := { program := "ytnopdnclefopbaa", sum := "6a8381f43b5ad8ad7626497f6235473889d99e29ec73ee4d674d4a5536af95f4", func := "cattlecreep/cattlecreepkeep.NetJoined", spec := "netJoined", unfollowed := true, recurses := true, apart := false, narrowed := true }
def NetJoinedUptoSaid : Prop := netJoinedUptoRow.holds Try.pinned (OpenSpec.upto netJoinedSpec)

/-- 'cattlecreepkeep.HexBack', WHERE WHAT IT READS IS OF BULK AT MOST 1048576: true; the input reads as it did. -/
def hexBackUptoRow : OpenClaim := { program := "ytnopdnclefopbaa", sum := "6a8381f43b5ad8ad7626497f6235473889d99e29ec73ee4d674d4a5536af95f4", func := "cattlecreep/cattlecreepkeep.HexBack", spec := "hexBack", inPlace := ["internal/abi.NoEscape", "internal/bytealg.IndexByteString"], apart := false, narrowed := true }
def HexBackUptoSaid : Prop := hexBackUptoRow.holds Try.pinned (OpenSpec.upto hexBackSpec)

/-- 'cattlecreepkeep.HexTurns', WHERE WHAT IT READS IS OF BULK AT MOST 1048576: true; the input reads as it did. -/
def hexTurnsUptoRow : OpenClaim := { program := "ytnopdnclefopbaa", sum := "6a8381f43b5ad8ad7626497f6235473889d99e29ec73ee4d674d4a5536af95f4", func := "cattlecreep/cattlecreepkeep.HexTurns", spec := "hexTurns", inPlace := ["internal/bytealg.IndexByteString", "internal/abi.NoEscape"], apart := false, narrowed := true }
def HexTurnsUptoSaid : Prop := hexTurnsUptoRow.holds Try.pinned (OpenSpec.upto hexTurnsSpec)

/-- 'cattlecreepkeep.PacketBack', WHERE WHAT IT READS IS OF BULK AT MOST 1048576: true; the input reads as it did. -/
def packetBackUptoRow : OpenClaim := { program := "ytnopdnclefopbaa", sum := "6a8381f43b5ad8ad7626497f6235473889d99e29ec73ee4d674d4a5536af95f4", func := "cattlecreep/cattlecreepkeep.PacketBack", spec := "packetBack", apart := false, narrowed := true }
def PacketBackUptoSaid : Prop := packetBackUptoRow.holds Try.pinned (OpenSpec.upto packetBackSpec)

/-- 'cattlecreepkeep.WindowOnce', WHERE WHAT IT READS IS OF BULK AT MOST 1048576: true; the input reads as it did. -/
def windowOnceUptoRow : OpenClaim := { program := "ytnopdnclefopbaa", sum := "6a8381f43b5ad8ad7626497f6235473889d99e29ec73ee4d674d4a5536af95f4", func := "cattlecreep/cattlecreepkeep.WindowOnce", spec := "windowOnce", apart := false, narrowed := true }
def WindowOnceUptoSaid : Prop := windowOnceUptoRow.holds Try.pinned (OpenSpec.upto windowOnceSpec)

/-- 'cattlecreepkeep.PacketTurns', WHERE WHAT IT READS IS OF BULK AT MOST 1048576: true; the input reads as it did. -/
def packetTurnsUptoRow : OpenClaim := { program := "ytnopdnclefopbaa", sum := "6a8381f43b5ad8ad7626497f6235473889d99e29ec73ee4d674d4a5536af95f4", func := "cattlecreep/cattlecreepkeep.PacketTurns", spec := "packetTurns", apart := false, narrowed := true }
def PacketTurnsUptoSaid : Prop := packetTurnsUptoRow.holds Try.pinned (OpenSpec.upto packetTurnsSpec)

/-- 'cattlecreepkeep.WindowLast', WHERE WHAT IT READS IS OF BULK AT MOST 1048576: true; the input reads as it did. -/
def windowLastUptoRow : OpenClaim := { program := "ytnopdnclefopbaa", sum := "6a8381f43b5ad8ad7626497f6235473889d99e29ec73ee4d674d4a5536af95f4", func := "cattlecreep/cattlecreepkeep.WindowLast", spec := "windowLast", apart := false, narrowed := true }
def WindowLastUptoSaid : Prop := windowLastUptoRow.holds Try.pinned (OpenSpec.upto windowLastSpec)

/-- 'cattlecreepkeep.WindowFree', WHERE WHAT IT READS IS OF BULK AT MOST 1048576: true; the input reads as it did. -/
def windowFreeUptoRow : OpenClaim := { program := "ytnopdnclefopbaa", sum := "6a8381f43b5ad8ad7626497f6235473889d99e29ec73ee4d674d4a5536af95f4", func := "cattlecreep/cattlecreepkeep.WindowFree", spec := "windowFree", apart := false, narrowed := true }
def WindowFreeUptoSaid : Prop := windowFreeUptoRow.holds Try.pinned (OpenSpec.upto windowFreeSpec)

/-- 'cattlecreepkeep.PacketHead', WHERE WHAT IT READS IS OF BULK AT MOST 1048576: true; the input reads as it did. -/
def packetHeadUptoRow : OpenClaim := { program := "ytnopdnclefopbaa", sum := "6a8381f43b5ad8ad7626497f6235473889d99e29ec73ee4d674d4a5536af95f4", func := "cattlecreep/cattlecreepkeep.PacketHead", spec := "packetHead", apart := false, narrowed := true }
def PacketHeadUptoSaid : Prop := packetHeadUptoRow.holds Try.pinned (OpenSpec.upto packetHeadSpec)

/-- 'cattlecreepkeep.ShaLong', WHERE WHAT IT READS IS OF BULK AT MOST 1048576: true; the input reads as it did. -/
def shaLongUptoRow : OpenClaim := { program := "ytnopdnclefopbaa", sum := "6a8381f43b5ad8ad7626497f6235473889d99e29ec73ee4d674d4a5536af95f4", func := "cattlecreep/cattlecreepkeep.ShaLong", spec := "shaLong", inPlace := ["internal/abi.NoEscape"], apart := false, narrowed := true }
def ShaLongUptoSaid : Prop := shaLongUptoRow.holds Try.pinned (OpenSpec.upto shaLongSpec)

/-- 'cattlecreepkeep.WireBack', WHERE WHAT IT READS IS OF BULK AT MOST 1048576: true; the input reads as it did. -/
def wireBackUptoRow : OpenClaim := { program := "ytnopdnclefopbaa", sum := "6a8381f43b5ad8ad7626497f6235473889d99e29ec73ee4d674d4a5536af95f4", func := "cattlecreep/cattlecreepkeep.WireBack", spec := "wireBack", apart := false, narrowed := true }
def WireBackUptoSaid : Prop := wireBackUptoRow.holds Try.pinned (OpenSpec.upto wireBackSpec)

/-- 'cattlecreepkeep.WireTurns', WHERE WHAT IT READS IS OF BULK AT MOST 1048576: true; the input reads as it did. -/
def wireTurnsUptoRow : OpenClaim := { program := "ytnopdnclefopbaa", sum := "6a8381f43b5ad8ad7626497f6235473889d99e29ec73ee4d674d4a5536af95f4", func := "cattlecreep/cattlecreepkeep.WireTurns", spec := "wireTurns", apart := false, narrowed := true }
def WireTurnsUptoSaid : Prop := wireTurnsUptoRow.holds Try.pinned (OpenSpec.upto wireTurnsSpec)

/-- 'cattlecreepkeep.WireHeads', WHERE WHAT IT READS IS OF BULK AT MOST 1048576: true; the input reads as it did. -/
def wireHeadsUptoRow : OpenClaim := { program := "ytnopdnclefopbaa", sum := "6a8381f43b5ad8ad7626497f6235473889d99e29ec73ee4d674d4a5536af95f4", func := "cattlecreep/cattlecreepkeep.WireHeads", spec := "wireHeads", apart := false, narrowed := true }
def WireHeadsUptoSaid : Prop := wireHeadsUptoRow.holds Try.pinned (OpenSpec.upto wireHeadsSpec)

end Rows
end Go.Proofs.Ytnopdnclefopbaa
