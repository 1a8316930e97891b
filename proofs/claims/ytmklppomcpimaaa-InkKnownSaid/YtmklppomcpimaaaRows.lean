/-
  No cell of these rows narrows 'for every input' (looked for: loops, veiled, ifaces, maps, wideKeys, modest, calm, conditions, laid).
  DERIVED. THE GIVEN ROWS OF THIS SEAT. 7 by the template 'for every input the law returns true; each argument reads behind the call as it read before'; 0 by the template 'total and deterministic' (their statements: YtmklppomcpimaaaTotals.lean).
  GIVEN WITH THE SEED: the statements are not yours to turn. If you find one false, say at which input.
  Laid BY PROGRAM, IN A SANDBOX (cutbox-rows.mjs): the forced cells as the released guide's own fill.sh prints them over the translation ae3738d20e4415fd… (all of the seat's roots in one cut). By AI agents, Wed Nov 11 2026. No macro, syntax, notation, axiom, sorry.
-/
import Derived.Test.YtmklppomcpimaaaChecked
import GoSem.Claim
import GoSem.ClaimJoined
import GoSem.ClaimMapViews
import Derived.JoinedTies
import Derived.KernelRfl
namespace Go.Proofs.Ytmklppomcpimaaa
/- THE CELL 'sum', in the pinned program and in every row, IS THE sha256 OF THE DUMP (.gsa) THAT YtmklppomcpimaaaProg.lean LOADS. Nothing in Lean hashes anything: it is a label: what it is worth is what the hold of that sum in a sandbox is worth. -/
noncomputable def Try.pinned : Pinned := { name := "ytmklppomcpimaaa", sum := "ae3738d20e4415fd5ef7765660e646eec3a824b4f068cb4d1208d0e019df7dc7", checked := Try.checked }
namespace Rows
def none {H : Type} : Left H := { results := [], args := [] }

/-- 'bastidelaw03.InkNotes': WHATEVER THE INPUT: true; the input reads as it did. -/
def inkNotesSpec : ChangeSpec := { name := "inkNotes", fn := fun _ => fun
  | [d] => { results := [.lit (.bool true)], args := [d] }
  | _ => none }
def inkNotesRow : OpenClaim := { program := "ytmklppomcpimaaa", sum := "ae3738d20e4415fd5ef7765660e646eec3a824b4f068cb4d1208d0e019df7dc7", func := "bastide/bastidelaw03.InkNotes", spec := "inkNotes", inPlace := ["sync/atomic.AddInt64", "math/bits.Add64", "sync/atomic.LoadUint32", "(*internal/sync.Mutex).Lock", "internal/race.Disable", "sync/atomic.CompareAndSwapInt32", "internal/race.Enable", "internal/race.Acquire", "(*internal/sync.Mutex).lockSlow", "internal/sync.runtime_canSpin", "internal/sync.runtime_doSpin", "internal/sync.throw", "internal/sync.runtime_nanotime", "internal/sync.runtime_SemacquireMutex", "sync/atomic.AddInt32", "(*internal/sync.Mutex).Unlock", "internal/race.ReleaseMerge", "(*internal/sync.Mutex).unlockSlow", "internal/sync.fatal", "internal/sync.runtime_Semrelease", "sync/atomic.StoreUint32", "sync/atomic.LoadInt64"], unfollowed := true, recurses := true, plainKeys := false, apart := false }
def InkNotesSaid : Prop := inkNotesRow.holds Try.pinned (OpenSpec.ofChange inkNotesSpec)

/-- ITS FALSE NEIGHBOUR: 'it returns false'. Refute it at one input. -/
def inkNotesWrong : ChangeSpec := { name := "inkNotes", fn := fun _ => fun
  | [d] => { results := [.lit (.bool false)], args := [d] }
  | _ => none }
def InkNotesWrongFalsely : Prop := inkNotesRow.holds Try.pinned (OpenSpec.ofChange inkNotesWrong)

/-- 'bastidelaw03.InkUnlike': WHATEVER THE INPUT: true; the input reads as it did. -/
def inkUnlikeSpec : ChangeSpec := { name := "inkUnlike", fn := fun _ => fun
  | [d1, d2, d3] => { results := [.lit (.bool true)], args := [d1, d2, d3] }
  | _ => none }
def inkUnlikeRow : OpenClaim := { program := "ytmklppomcpimaaa", sum := "ae3738d20e4415fd5ef7765660e646eec3a824b4f068cb4d1208d0e019df7dc7", func := "bastide/bastidelaw03.InkUnlike", spec := "inkUnlike", inPlace := ["sync/atomic.AddInt64", "math/bits.Add64", "sync/atomic.LoadUint32", "(*internal/sync.Mutex).Lock", "internal/race.Disable", "sync/atomic.CompareAndSwapInt32", "internal/race.Enable", "internal/race.Acquire", "(*internal/sync.Mutex).lockSlow", "internal/sync.runtime_canSpin", "internal/sync.runtime_doSpin", "internal/sync.throw", "internal/sync.runtime_nanotime", "internal/sync.runtime_SemacquireMutex", "sync/atomic.AddInt32", "(*internal/sync.Mutex).Unlock", "internal/race.ReleaseMerge", "(*internal/sync.Mutex).unlockSlow", "internal/sync.fatal", "internal/sync.runtime_Semrelease", "sync/atomic.StoreUint32", "sync/atomic.LoadInt64"], unfollowed := true, recurses := true, plainKeys := false, apart := false }
def InkUnlikeSaid : Prop := inkUnlikeRow.holds Try.pinned (OpenSpec.ofChange inkUnlikeSpec)

/-- ITS FALSE NEIGHBOUR: 'it returns false'. Refute it at one input. -/
def inkUnlikeWrong : ChangeSpec := { name := "inkUnlike", fn := fun _ => fun
  | [d1, d2, d3] => { results := [.lit (.bool false)], args := [d1, d2, d3] }
  | _ => none }
def InkUnlikeWrongFalsely : Prop := inkUnlikeRow.holds Try.pinned (OpenSpec.ofChange inkUnlikeWrong)

/-- 'bastidelaw03.InkClash': WHATEVER THE INPUT: true; the input reads as it did. -/
def inkClashSpec : ChangeSpec := { name := "inkClash", fn := fun _ => fun
  | [d] => { results := [.lit (.bool true)], args := [d] }
  | _ => none }
def inkClashRow : OpenClaim := { program := "ytmklppomcpimaaa", sum := "ae3738d20e4415fd5ef7765660e646eec3a824b4f068cb4d1208d0e019df7dc7", func := "bastide/bastidelaw03.InkClash", spec := "inkClash", inPlace := ["sync/atomic.AddInt64", "math/bits.Add64", "sync/atomic.LoadUint32", "(*internal/sync.Mutex).Lock", "internal/race.Disable", "sync/atomic.CompareAndSwapInt32", "internal/race.Enable", "internal/race.Acquire", "(*internal/sync.Mutex).lockSlow", "internal/sync.runtime_canSpin", "internal/sync.runtime_doSpin", "internal/sync.throw", "internal/sync.runtime_nanotime", "internal/sync.runtime_SemacquireMutex", "sync/atomic.AddInt32", "(*internal/sync.Mutex).Unlock", "internal/race.ReleaseMerge", "(*internal/sync.Mutex).unlockSlow", "internal/sync.fatal", "internal/sync.runtime_Semrelease", "sync/atomic.StoreUint32", "sync/atomic.LoadInt64"], unfollowed := true, recurses := true, plainKeys := false, apart := false }
def InkClashSaid : Prop := inkClashRow.holds Try.pinned (OpenSpec.ofChange inkClashSpec)

/-- ITS FALSE NEIGHBOUR: 'it returns false'. Refute it at one input. -/
def inkClashWrong : ChangeSpec := { name := "inkClash", fn := fun _ => fun
  | [d] => { results := [.lit (.bool false)], args := [d] }
  | _ => none }
def InkClashWrongFalsely : Prop := inkClashRow.holds Try.pinned (OpenSpec.ofChange inkClashWrong)

/-- 'bastidelaw03.InkAgain': WHATEVER THE INPUT: true; the input reads as it did. -/
def inkAgainSpec : ChangeSpec := { name := "inkAgain", fn := fun _ => fun
  | [d1, d2] => { results := [.lit (.bool true)], args := [d1, d2] }
  | _ => none }
def inkAgainRow : OpenClaim := { program := "ytmklppomcpimaaa", sum := "ae3738d20e4415fd5ef7765660e646eec3a824b4f068cb4d1208d0e019df7dc7", func := "bastide/bastidelaw03.InkAgain", spec := "inkAgain", inPlace := ["sync/atomic.AddInt64", "math/bits.Add64", "sync/atomic.LoadUint32", "(*internal/sync.Mutex).Lock", "internal/race.Disable", "sync/atomic.CompareAndSwapInt32", "internal/race.Enable", "internal/race.Acquire", "(*internal/sync.Mutex).lockSlow", "internal/sync.runtime_canSpin", "internal/sync.runtime_doSpin", "internal/sync.throw", "internal/sync.runtime_nanotime", "internal/sync.runtime_SemacquireMutex", "sync/atomic.AddInt32", "(*internal/sync.Mutex).Unlock", "internal/race.ReleaseMerge", "(*internal/sync.Mutex).unlockSlow", "internal/sync.fatal", "internal/sync.runtime_Semrelease", "sync/atomic.StoreUint32", "sync/atomic.LoadInt64"], unfollowed := true, recurses := true, plainKeys := false, apart := false }
def InkAgainSaid : Prop := inkAgainRow.holds Try.pinned (OpenSpec.ofChange inkAgainSpec)

/-- ITS FALSE NEIGHBOUR: 'it returns false'. Refute it at one input. -/
def inkAgainWrong : ChangeSpec := { name := "inkAgain", fn := fun _ => fun
  | [d1, d2] => { results := [.lit (.bool false)], args := [d1, d2] }
  | _ => none }
def InkAgainWrongFalsely : Prop := inkAgainRow.holds Try.pinned (OpenSpec.ofChange inkAgainWrong)

/-- 'bastidelaw03.InkCounts': WHATEVER THE INPUT: true; the input reads as it did. -/
def inkCountsSpec : ChangeSpec := { name := "inkCounts", fn := fun _ => fun
  | [d] => { results := [.lit (.bool true)], args := [d] }
  | _ => none }
def inkCountsRow : OpenClaim := { program := "ytmklppomcpimaaa", sum := "ae3738d20e4415fd5ef7765660e646eec3a824b4f068cb4d1208d0e019df7dc7", func := "bastide/bastidelaw03.InkCounts", spec := "inkCounts", inPlace := ["sync/atomic.AddInt64", "math/bits.Add64", "sync/atomic.LoadUint32", "(*internal/sync.Mutex).Lock", "internal/race.Disable", "sync/atomic.CompareAndSwapInt32", "internal/race.Enable", "internal/race.Acquire", "(*internal/sync.Mutex).lockSlow", "internal/sync.runtime_canSpin", "internal/sync.runtime_doSpin", "internal/sync.throw", "internal/sync.runtime_nanotime", "internal/sync.runtime_SemacquireMutex", "sync/atomic.AddInt32", "(*internal/sync.Mutex).Unlock", "internal/race.ReleaseMerge", "(*internal/sync.Mutex).unlockSlow", "internal/sync.fatal", "internal/sync.runtime_Semrelease", "sync/atomic.StoreUint32", "sync/atomic.LoadInt64"], unfollowed := true, recurses := true, plainKeys := false, apart := false }
def InkCountsSaid : Prop := inkCountsRow.holds Try.pinned (OpenSpec.ofChange inkCountsSpec)

/-- ITS FALSE NEIGHBOUR: 'it returns false'. Refute it at one input. -/
def inkCountsWrong : ChangeSpec := { name := "inkCounts", fn := fun _ => fun
  | [d] => { results := [.lit (.bool false)], args := [d] }
  | _ => none }
def InkCountsWrongFalsely : Prop := inkCountsRow.holds Try.pinned (OpenSpec.ofChange inkCountsWrong)

/-- 'bastidelaw03.InkApart': WHATEVER THE INPUT: true; the input reads as it did. -/
def inkApartSpec : ChangeSpec := { name := "inkApart", fn := fun _ => fun
  | [d1, d2] => { results := [.lit (.bool true)], args := [d1, d2] }
  | _ => none }
def inkApartRow : OpenClaim := { program := "ytmklppomcpimaaa", sum := "ae3738d20e4415fd5ef7765660e646eec3a824b4f068cb4d1208d0e019df7dc7", func := "bastide/bastidelaw03.InkApart", spec := "inkApart", inPlace := ["sync/atomic.AddInt64", "math/bits.Add64", "sync/atomic.LoadUint32", "(*internal/sync.Mutex).Lock", "internal/race.Disable", "sync/atomic.CompareAndSwapInt32", "internal/race.Enable", "internal/race.Acquire", "(*internal/sync.Mutex).lockSlow", "internal/sync.runtime_canSpin", "internal/sync.runtime_doSpin", "internal/sync.throw", "internal/sync.runtime_nanotime", "internal/sync.runtime_SemacquireMutex", "sync/atomic.AddInt32", "(*internal/sync.Mutex).Unlock", "internal/race.ReleaseMerge", "(*internal/sync.Mutex).unlockSlow", "internal/sync.fatal", "internal/sync.runtime_Semrelease", "sync/atomic.StoreUint32", "sync/atomic.LoadInt64"], unfollowed := true, recurses := true, plainKeys := false, apart := false }
def InkApartSaid : Prop := inkApartRow.holds Try.pinned (OpenSpec.ofChange inkApartSpec)

/-- ITS FALSE NEIGHBOUR: 'it returns false'. Refute it at one input. -/
def inkApartWrong : ChangeSpec := { name := "inkApart", fn := fun _ => fun
  | [d1, d2] => { results := [.lit (.bool false)], args := [d1, d2] }
  | _ => none }
def InkApartWrongFalsely : Prop := inkApartRow.holds Try.pinned (OpenSpec.ofChange inkApartWrong)

/-- 'bastidelaw03.InkKnown': WHATEVER THE INPUT: true; the input reads as it did. -/
def inkKnownSpec : ChangeSpec := { name := "inkKnown", fn := fun _ => fun
  | [] => { results := [.lit (.bool true)], args := [] }
  | _ => none }
def inkKnownRow : OpenClaim := { program := "ytmklppomcpimaaa", sum := "ae3738d20e4415fd5ef7765660e646eec3a824b4f068cb4d1208d0e019df7dc7", func := "bastide/bastidelaw03.InkKnown", spec := "inkKnown", inPlace := ["sync/atomic.AddInt64", "math/bits.Add64", "sync/atomic.LoadUint32", "(*internal/sync.Mutex).Lock", "internal/race.Disable", "sync/atomic.CompareAndSwapInt32", "internal/race.Enable", "internal/race.Acquire", "(*internal/sync.Mutex).lockSlow", "internal/sync.runtime_canSpin", "internal/sync.runtime_doSpin", "internal/sync.throw", "internal/sync.runtime_nanotime", "internal/sync.runtime_SemacquireMutex", "sync/atomic.AddInt32", "(*internal/sync.Mutex).Unlock", "internal/race.ReleaseMerge", "(*internal/sync.Mutex).unlockSlow", "internal/sync.fatal", "internal/sync.runtime_Semrelease", "sync/atomic.StoreUint32", "sync/atomic.LoadInt64"], unfollowed := true, recurses := true, plainKeys := false, apart := false }
def InkKnownSaid : Prop := inkKnownRow.holds Try.pinned (OpenSpec.ofChange inkKnownSpec)

/-- ITS FALSE NEIGHBOUR: 'it returns false'. Refute it at one input. -/
def inkKnownWrong : ChangeSpec := { name := "inkKnown", fn := fun _ => fun
  | [] => { results := [.lit (.bool false)], args := [] }
  | _ => none }
def InkKnownWrongFalsely : Prop := inkKnownRow.holds Try.pinned (OpenSpec.ofChange inkKnownWrong)

/- THE SECOND FORM. 'bulk': how many values and letters a reading holds, each counted each time it is reached (what is shared counts as often as it is met; a slice's spare places count too). A statement '..UptoSaid' is the law's where the arguments, and the package variables that the reading takes, are together of bulk at most 1048576: NARROWER than '..Said'. Prove '..Said' where nothing that the law and all that it calls make is longer than what came in: it says more and counts as full. Else prove '..UptoSaid'. A law counts once. -/
mutual
def uptoBulk {H : Type} : DataW H → Nat
  | .lit (.string bytes) => bytes.length + 1
  | .lit _ => 1
  | .nil => 1
  | .ptr d => uptoBulk d + 1
  | .slice elems spare => uptoBulkAll elems + uptoBulkAll spare + 1
  | .agg parts => uptoBulkAll parts + 1
  | .iface _ d => uptoBulk d + 1
  | .map entries => uptoBulkEntries entries + 1
  | .held _ => 1
def uptoBulkAll {H : Type} : List (DataW H) → Nat
  | [] => 0
  | d :: r => uptoBulk d + uptoBulkAll r
def uptoBulkEntries {H : Type} : List (Lit × DataW H) → Nat
  | [] => 0
  | x :: r => uptoBulkEntry x + uptoBulkEntries r
def uptoBulkEntry {H : Type} : Lit × DataW H → Nat
  | (.string bytes, d) => bytes.length + uptoBulk d + 1
  | (_, d) => uptoBulk d + 1
 end
def uptoSmall : (H : Type) → List (DataW H) → Bool := fun _ ds => decide (uptoBulkAll ds ≤ 1048576)
def OpenSpec.upto (s : _root_.Go.ChangeSpec) : _root_.Go.OpenSpec := { _root_.Go.OpenSpec.ofChange s with cond := some uptoSmall }

/-- 'bastidelaw03.InkNotes', WHERE WHAT IT READS IS OF BULK AT MOST 1048576: true; the input reads as it did. -/
def inkNotesUptoRow : OpenClaim := { program := "ytmklppomcpimaaa", sum := "ae3738d20e4415fd5ef7765660e646eec3a824b4f068cb4d1208d0e019df7dc7", func := "bastide/bastidelaw03.InkNotes", spec := "inkNotes", inPlace := ["sync/atomic.AddInt64", "math/bits.Add64", "sync/atomic.LoadUint32", "(*internal/sync.Mutex).Lock", "internal/race.Disable", "sync/atomic.CompareAndSwapInt32", "internal/race.Enable", "internal/race.Acquire", "(*internal/sync.Mutex).lockSlow", "internal/sync.runtime_canSpin", "internal/sync.runtime_doSpin", "internal/sync.throw", "internal/sync.runtime_nanotime", "internal/sync.runtime_SemacquireMutex", "sync/atomic.AddInt32", "(*internal/sync.Mutex).Unlock", "internal/race.ReleaseMerge", "(*internal/sync.Mutex).unlockSlow", "internal/sync.fatal", "internal/sync.runtime_Semrelease", "sync/atomic.StoreUint32", "sync/atomic.LoadInt64"], unfollowed := true, recurses := true, plainKeys := false, apart := false, narrowed := true }
def InkNotesUptoSaid : Prop := inkNotesUptoRow.holds Try.pinned (OpenSpec.upto inkNotesSpec)

/-- 'bastidelaw03.InkUnlike', WHERE WHAT IT READS IS OF BULK AT MOST 1048576: true; the input reads as it did. -/
def inkUnlikeUptoRow : OpenClaim := { program := "ytmklppomcpimaaa", sum := "ae3738d20e4415fd5ef7765660e646eec3a824b4f068cb4d1208d0e019df7dc7", func := "bastide/bastidelaw03.InkUnlike", spec := "inkUnlike", inPlace := ["sync/atomic.AddInt64", "math/bits.Add64", "sync/atomic.LoadUint32", "(*internal/sync.Mutex).Lock", "internal/race.Disable", "sync/atomic.CompareAndSwapInt32", "internal/race.Enable", "internal/race.Acquire", "(*internal/sync.Mutex).lockSlow", "internal/sync.runtime_canSpin", "internal/sync.runtime_doSpin", "internal/sync.throw", "internal/sync.runtime_nanotime", "internal/sync.runtime_SemacquireMutex", "sync/atomic.AddInt32", "(*internal/sync.Mutex).Unlock", "internal/race.ReleaseMerge", "(*internal/sync.Mutex).unlockSlow", "internal/sync.fatal", "internal/sync.runtime_Semrelease", "sync/atomic.StoreUint32", "sync/atomic.LoadInt64"], unfollowed := true, recurses := true, plainKeys := false, apart := false, narrowed := true }
def InkUnlikeUptoSaid : Prop := inkUnlikeUptoRow.holds Try.pinned (OpenSpec.upto inkUnlikeSpec)

/-- 'bastidelaw03.InkClash', WHERE WHAT IT READS IS OF BULK AT MOST 1048576: true; the input reads as it did. -/
def inkClashUptoRow : OpenClaim := { program := "ytmklppomcpimaaa", sum := "ae3738d20e4415fd5ef7765660e646eec3a824b4f068cb4d1208d0e019df7dc7", func := "bastide/bastidelaw03.InkClash", spec := "inkClash", inPlace := ["sync/atomic.AddInt64", "math/bits.Add64", "sync/atomic.LoadUint32", "(*internal/sync.Mutex).Lock", "internal/race.Disable", "sync/atomic.CompareAndSwapInt32", "internal/race.Enable", "internal/race.Acquire", "(*internal/sync.Mutex).lockSlow", "internal/sync.runtime_canSpin", "internal/sync.runtime_doSpin", "internal/sync.throw", "internal/sync.runtime_nanotime", "internal/sync.runtime_SemacquireMutex", "sync/atomic.AddInt32", "(*internal/sync.Mutex).Unlock", "internal/race.ReleaseMerge", "(*internal/sync.Mutex).unlockSlow", "internal/sync.fatal", "internal/sync.runtime_Semrelease", "sync/atomic.StoreUint32", "sync/atomic.LoadInt64"], unfollowed := true, recurses := true, plainKeys := false, apart := false, narrowed := true }
def InkClashUptoSaid : Prop := inkClashUptoRow.holds Try.pinned (OpenSpec.upto inkClashSpec)

/-- 'bastidelaw03.InkAgain', WHERE WHAT IT READS IS OF BULK AT MOST 1048576: true; the input reads as it did. -/
def inkAgainUptoRow : OpenClaim := { program := "ytmklppomcpimaaa", sum := "ae3738d20e4415fd5ef7765660e646eec3a824b4f068cb4d1208d0e019df7dc7", func := "bastide/bastidelaw03.InkAgain", spec := "inkAgain", inPlace := ["sync/atomic.AddInt64", "math/bits.Add64", "sync/atomic.LoadUint32", "(*internal/sync.Mutex).Lock", "internal/race.Disable", "sync/atomic.CompareAndSwapInt32", "internal/race.Enable", "internal/race.Acquire", "(*internal/sync.Mutex).lockSlow", "internal/sync.runtime_canSpin", "internal/sync.runtime_doSpin", "internal/sync.throw", "internal/sync.runtime_nanotime", "internal/sync.runtime_SemacquireMutex", "sync/atomic.AddInt32", "(*internal/sync.Mutex).Unlock", "internal/race.ReleaseMerge", "(*internal/sync.Mutex).unlockSlow", "internal/sync.fatal", "internal/sync.runtime_Semrelease", "sync/atomic.StoreUint32", "sync/atomic.LoadInt64"], unfollowed := true, recurses := true, plainKeys := false, apart := false, narrowed := true }
def InkAgainUptoSaid : Prop := inkAgainUptoRow.holds Try.pinned (OpenSpec.upto inkAgainSpec)

/-- 'bastidelaw03.InkCounts', WHERE WHAT IT READS IS OF BULK AT MOST 1048576: true; the input reads as it did. -/
def inkCountsUptoRow : OpenClaim := { program := "ytmklppomcpimaaa", sum := "ae3738d20e4415fd5ef7765660e646eec3a824b4f068cb4d1208d0e019df7dc7", func := "bastide/bastidelaw03.InkCounts", spec := "inkCounts", inPlace := ["sync/atomic.AddInt64", "math/bits.Add64", "sync/atomic.LoadUint32", "(*internal/sync.Mutex).Lock", "internal/race.Disable", "sync/atomic.CompareAndSwapInt32", "internal/race.Enable", "internal/race.Acquire", "(*internal/sync.Mutex).lockSlow", "internal/sync.runtime_canSpin", "internal/sync.runtime_doSpin", "internal/sync.throw", "internal/sync.runtime_nanotime", "internal/sync.runtime_SemacquireMutex", "sync/atomic.AddInt32", "(*internal/sync.Mutex).Unlock", "internal/race.ReleaseMerge", "(*internal/sync.Mutex).unlockSlow", "internal/sync.fatal", "internal/sync.runtime_Semrelease", "sync/atomic.StoreUint32", "sync/atomic.LoadInt64"], unfollowed := true, recurses := true, plainKeys := false, apart := false, narrowed := true }
def InkCountsUptoSaid : Prop := inkCountsUptoRow.holds Try.pinned (OpenSpec.upto inkCountsSpec)

/-- 'bastidelaw03.InkApart', WHERE WHAT IT READS IS OF BULK AT MOST 1048576: true; the input reads as it did. -/
def inkApartUptoRow : OpenClaim := { program := "ytmklppomcpimaaa", sum := "ae3738d20e4415fd5ef7765660e646eec3a824b4f068cb4d1208d0e019df7dc7", func := "bastide/bastidelaw03.InkApart", spec := "inkApart", inPlace := ["sync/atomic.AddInt64", "math/bits.Add64", "sync/atomic.LoadUint32", "(*internal/sync.Mutex).Lock", "internal/race.Disable", "sync/atomic.CompareAndSwapInt32", "internal/race.Enable", "internal/race.Acquire", "(*internal/sync.Mutex).lockSlow", "internal/sync.runtime_canSpin", "internal/sync.runtime_doSpin", "internal/sync.throw", "internal/sync.runtime_nanotime", "internal/sync.runtime_SemacquireMutex", "sync/atomic.AddInt32", "(*internal/sync.Mutex).Unlock", "internal/race.ReleaseMerge", "(*internal/sync.Mutex).unlockSlow", "internal/sync.fatal", "internal/sync.runtime_Semrelease", "sync/atomic.StoreUint32", "sync/atomic.LoadInt64"], unfollowed := true, recurses := true, plainKeys := false, apart := false, narrowed := true }
def InkApartUptoSaid : Prop := inkApartUptoRow.holds Try.pinned (OpenSpec.upto inkApartSpec)

/-- 'bastidelaw03.InkKnown', WHERE WHAT IT READS IS OF BULK AT MOST 1048576: true; the input reads as it did. -/
def inkKnownUptoRow : OpenClaim := { program := "ytmklppomcpimaaa", sum := "ae3738d20e4415fd5ef7765660e646eec3a824b4f068cb4d1208d0e019df7dc7", func := "bastide/bastidelaw03.InkKnown", spec := "inkKnown", inPlace := ["sync/atomic.AddInt64", "math/bits.Add64", "sync/atomic.LoadUint32", "(*internal/sync.Mutex).Lock", "internal/race.Disable", "sync/atomic.CompareAndSwapInt32", "internal/race.Enable", "internal/race.Acquire", "(*internal/sync.Mutex).lockSlow", "internal/sync.runtime_canSpin", "internal/sync.runtime_doSpin", "internal/sync.throw", "internal/sync.runtime_nanotime", "internal/sync.runtime_SemacquireMutex", "sync/atomic.AddInt32", "(*internal/sync.Mutex).Unlock", "internal/race.ReleaseMerge", "(*internal/sync.Mutex).unlockSlow", "internal/sync.fatal", "internal/sync.runtime_Semrelease", "sync/atomic.StoreUint32", "sync/atomic.LoadInt64"], unfollowed := true, recurses := true, plainKeys := false, apart := false, narrowed := true }
def InkKnownUptoSaid : Prop := inkKnownUptoRow.holds Try.pinned (OpenSpec.upto inkKnownSpec)

end Rows
end Go.Proofs.Ytmklppomcpimaaa
