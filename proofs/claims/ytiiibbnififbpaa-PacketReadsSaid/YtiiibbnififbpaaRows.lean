/-
  No cell of these rows narrows 'for every input' (looked for: loops, veiled, ifaces, maps, wideKeys, modest, calm, conditions, laid).
  DERIVED. THE GIVEN ROWS OF THIS SEAT. 5 by the template 'for every input the law returns true; each argument reads behind the call as it read before'; 0 by the template 'total and deterministic' (their statements: YtiiibbnififbpaaTotals.lean).
  GIVEN WITH THE SEED: the statements are not yours to turn. If you find one false, say at which input.
  Laid BY PROGRAM, IN A SANDBOX (cutbox-rows.mjs): the forced cells as the released guide's own fill.sh prints them over the translation a2f15c5e72f81099… (all of the seat's roots in one cut). By AI agents, Wed Nov 11 2026. No macro, syntax, notation, axiom, sorry.
-/
import Derived.Test.YtiiibbnififbpaaChecked
import GoSem.Claim
import GoSem.ClaimJoined
import GoSem.ClaimMapViews
import Derived.JoinedTies
import Derived.KernelRfl
namespace Go.Proofs.Ytiiibbnififbpaa
/- THE CELL 'sum', in the pinned program and in every row, IS THE sha256 OF THE DUMP (.gsa) THAT YtiiibbnififbpaaProg.lean LOADS. Nothing in Lean hashes anything: it is a label: what it is worth is what the hold of that sum in a sandbox is worth. -/
noncomputable def Try.pinned : Pinned := { name := "ytiiibbnififbpaa", sum := "a2f15c5e72f81099ab6fa6d0982a4b3e447f0407de77fd537913570d287c0144", checked := Try.checked }
namespace Rows
def none {H : Type} : Left H := { results := [], args := [] }

/-- 'batonlaw19.PacketRight': WHATEVER THE INPUT: true; the input reads as it did. -/
def packetRightSpec : ChangeSpec := { name := "packetRight", fn := fun _ => fun
  | [d1, d2] => { results := [.lit (.bool true)], args := [d1, d2] }
  | _ => none }
def packetRightRow : OpenClaim := { program := "ytiiibbnififbpaa", sum := "a2f15c5e72f81099ab6fa6d0982a4b3e447f0407de77fd537913570d287c0144", func := "baton/batonlaw19.PacketRight", spec := "packetRight", unfollowed := true, recurses := true, apart := false }
def PacketRightSaid : Prop := packetRightRow.holds Try.pinned (OpenSpec.ofChange packetRightSpec)

/-- ITS FALSE NEIGHBOUR: 'it returns false'. Refute it at one input. -/
def packetRightWrong : ChangeSpec := { name := "packetRight", fn := fun _ => fun
  | [d1, d2] => { results := [.lit (.bool false)], args := [d1, d2] }
  | _ => none }
def PacketRightWrongFalsely : Prop := packetRightRow.holds Try.pinned (OpenSpec.ofChange packetRightWrong)

/-- 'batonlaw19.PacketBytes': WHATEVER THE INPUT: true; the input reads as it did. -/
def packetBytesSpec : ChangeSpec := { name := "packetBytes", fn := fun _ => fun
  | [d] => { results := [.lit (.bool true)], args := [d] }
  | _ => none }
def packetBytesRow : OpenClaim := { program := "ytiiibbnififbpaa", sum := "a2f15c5e72f81099ab6fa6d0982a4b3e447f0407de77fd537913570d287c0144", func := "baton/batonlaw19.PacketBytes", spec := "packetBytes", unfollowed := true, recurses := true, apart := false }
def PacketBytesSaid : Prop := packetBytesRow.holds Try.pinned (OpenSpec.ofChange packetBytesSpec)

/-- ITS FALSE NEIGHBOUR: 'it returns false'. Refute it at one input. -/
def packetBytesWrong : ChangeSpec := { name := "packetBytes", fn := fun _ => fun
  | [d] => { results := [.lit (.bool false)], args := [d] }
  | _ => none }
def PacketBytesWrongFalsely : Prop := packetBytesRow.holds Try.pinned (OpenSpec.ofChange packetBytesWrong)

/-- 'batonlaw19.PacketReads': WHATEVER THE INPUT: true; the input reads as it did. -/
def packetReadsSpec : ChangeSpec := { name := "packetReads", fn := fun _ => fun
  | [d] => { results := [.lit (.bool true)], args := [d] }
  | _ => none }
def packetReadsRow : OpenClaim := { program := "ytiiibbnififbpaa", sum := "a2f15c5e72f81099ab6fa6d0982a4b3e447f0407de77fd537913570d287c0144", func := "baton/batonlaw19.PacketReads", spec := "packetReads", unfollowed := true, recurses := true, apart := false }
def PacketReadsSaid : Prop := packetReadsRow.holds Try.pinned (OpenSpec.ofChange packetReadsSpec)

/-- ITS FALSE NEIGHBOUR: 'it returns false'. Refute it at one input. -/
def packetReadsWrong : ChangeSpec := { name := "packetReads", fn := fun _ => fun
  | [d] => { results := [.lit (.bool false)], args := [d] }
  | _ => none }
def PacketReadsWrongFalsely : Prop := packetReadsRow.holds Try.pinned (OpenSpec.ofChange packetReadsWrong)

/-- 'batonlaw20.SealSeals': WHATEVER THE INPUT: true; the input reads as it did. -/
def sealSealsSpec : ChangeSpec := { name := "sealSeals", fn := fun _ => fun
  | [d1, d2] => { results := [.lit (.bool true)], args := [d1, d2] }
  | _ => none }
def sealSealsRow : OpenClaim := { program := "ytiiibbnififbpaa", sum := "a2f15c5e72f81099ab6fa6d0982a4b3e447f0407de77fd537913570d287c0144", func := "baton/batonlaw20.SealSeals", spec := "sealSeals", unfollowed := true, recurses := true, apart := false }
def SealSealsSaid : Prop := sealSealsRow.holds Try.pinned (OpenSpec.ofChange sealSealsSpec)

/-- ITS FALSE NEIGHBOUR: 'it returns false'. Refute it at one input. -/
def sealSealsWrong : ChangeSpec := { name := "sealSeals", fn := fun _ => fun
  | [d1, d2] => { results := [.lit (.bool false)], args := [d1, d2] }
  | _ => none }
def SealSealsWrongFalsely : Prop := sealSealsRow.holds Try.pinned (OpenSpec.ofChange sealSealsWrong)

/-- 'batonlaw20.SealOne': WHATEVER THE INPUT: true; the input reads as it did. -/
def sealOneSpec : ChangeSpec := { name := "sealOne", fn := fun _ => fun
  | [d1, d2] => { results := [.lit (.bool true)], args := [d1, d2] }
  | _ => none }
def sealOneRow : OpenClaim := { program := "ytiiibbnififbpaa", sum := "a2f15c5e72f81099ab6fa6d0982a4b3e447f0407de77fd537913570d287c0144", func := "baton/batonlaw20.SealOne", spec := "sealOne", unfollowed := true, recurses := true, apart := false }
def SealOneSaid : Prop := sealOneRow.holds Try.pinned (OpenSpec.ofChange sealOneSpec)

/-- ITS FALSE NEIGHBOUR: 'it returns false'. Refute it at one input. -/
def sealOneWrong : ChangeSpec := { name := "sealOne", fn := fun _ => fun
  | [d1, d2] => { results := [.lit (.bool false)], args := [d1, d2] }
  | _ => none }
def SealOneWrongFalsely : Prop := sealOneRow.holds Try.pinned (OpenSpec.ofChange sealOneWrong)

/- THE SECOND FORM. 'bulk': how many values and letters a reading holds, each counted each time it is reached (what is shared counts as often as it is met; a slice's spare places count too). A statement '..UptoSaid' is the law's where the arguments, and the package variables that the reading takes, are together of bulk at most 1048576: NARROWER than '..Said'. Prove '..Said' where nothing that the law and all that it calls make is longer than what came in: it says more and counts as full. Else prove '..UptoSaid'. A law counts once. -/
mutual
def uptoBulk {H : Type} : DataW H → Nat
  | .lit (.string bytes) => bytes.length + 1
  | .lit _ => 1
  | .nil => 1
  | .ptr d => uptoBulk d + 1
  | .slice elems spare => uptoBulkAll elems + uptoBulkAll spare + 1
  | .agg parts => uptoBulkAll parts + 1
  | .iface _ d => uptoBulk d + 1
  | .map entries => uptoBulkEntries entries + 1
  | .held _ => 1
def uptoBulkAll {H : Type} : List (DataW H) → Nat
  | [] => 0
  | d :: r => uptoBulk d + uptoBulkAll r
def uptoBulkEntries {H : Type} : List (Lit × DataW H) → Nat
  | [] => 0
  | x :: r => uptoBulkEntry x + uptoBulkEntries r
def uptoBulkEntry {H : Type} : Lit × DataW H → Nat
  | (.string bytes, d) => bytes.length + uptoBulk d + 1
  | (_, d) => uptoBulk d + 1
 end
def uptoSmall : (H : Type) → List (DataW H) → Bool := fun _ ds => decide (uptoBulkAll ds ≤ 1048576)
def OpenSpec.upto (s : _root_.Go.ChangeSpec) : _root_.Go.OpenSpec := { _root_.Go.OpenSpec.ofChange s with cond := some uptoSmall }

/-- 'batonlaw19.PacketRight', WHERE WHAT IT READS IS OF BULK AT MOST 1048576: true; the input reads as it did. -/
def packetRightUptoRow : OpenClaim := { program := "ytiiibbnififbpaa", sum := "a2f15c5e72f81099ab6fa6d0982a4b3e447f0407de77fd537913570d287c0144", func := "baton/batonlaw19.PacketRight", spec := "packetRight", unfollowed := true, recurses := true, apart := false, narrowed := true }
def PacketRightUptoSaid : Prop := packetRightUptoRow.holds Try.pinned (OpenSpec.upto packetRightSpec)

/-- 'batonlaw19.PacketBytes', WHERE WHAT IT READS IS OF BULK AT MOST 1048576: true; the input reads as it did. -/
def packetBytesUptoRow : OpenClaim := { program := "ytiiibbnififbpaa", sum := "a2f15c5e72f81099ab6fa6d0982a4b3e447f0407de77fd537913570d287c0144", func := "baton/batonlaw19.PacketBytes", spec := "packetBytes", unfollowed := true, recurses := true, apart := false, narrowed := true }
def PacketBytesUptoSaid : Prop := packetBytesUptoRow.holds Try.pinned (OpenSpec.upto packetBytesSpec)

/-- 'batonlaw19.PacketReads', WHERE WHAT IT READS IS OF BULK AT MOST 1048576: true; the input reads as it did. -/
def packetReadsUptoRow : OpenClaim := { program := "ytiiibbnififbpaa", sum := "a2f15c5e72f81099ab6fa6d0982a4b3e447f0407de77fd537913570d287c0144", func := "baton/batonlaw19.PacketReads", spec := "packetReads", unfollowed := true, recurses := true, apart := false, narrowed := true }
def PacketReadsUptoSaid : Prop := packetReadsUptoRow.holds Try.pinned (OpenSpec.upto packetReadsSpec)

/-- 'batonlaw20.SealSeals', WHERE WHAT IT READS IS OF BULK AT MOST 1048576: true; the input reads as it did. -/
def sealSealsUptoRow : OpenClaim := { program := "ytiiibbnififbpaa", sum := "a2f15c5e72f81099ab6fa6d0982a4b3e447f0407de77fd537913570d287c0144", func := "baton/batonlaw20.SealSeals", spec := "sealSeals", unfollowed := true, recurses := true, apart := false, narrowed := true }
def SealSealsUptoSaid : Prop := sealSealsUptoRow.holds Try.pinned (OpenSpec.upto sealSealsSpec)

/-- 'batonlaw20.SealOne', WHERE WHAT IT READS IS OF BULK AT MOST 1048576: true; the input reads as it did. -/
def sealOneUptoRow : OpenClaim := { program := "ytiiibbnififbpaa", sum := "a2f15c5e72f81099ab6fa6d0982a4b3e447f0407de77fd537913570d287c0144", func := "baton/batonlaw20.SealOne", spec := "sealOne", unfollowed := true, recurses := true, apart := false, narrowed := true }
def SealOneUptoSaid : Prop := sealOneUptoRow.holds Try.pinned (OpenSpec.upto sealOneSpec)

end Rows
end Go.Proofs.Ytiiibbnififbpaa
