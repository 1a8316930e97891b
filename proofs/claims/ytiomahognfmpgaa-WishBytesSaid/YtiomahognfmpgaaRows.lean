/-
  No cell of these rows narrows 'for every input' (looked for: loops, veiled, ifaces, maps, wideKeys, modest, calm, conditions, laid).
  DERIVED. THE GIVEN ROWS OF THIS SEAT. 11 by the template 'for every input the law returns true; each argument reads behind the call as it read before'; 0 by the template 'total and deterministic' (their statements: YtiomahognfmpgaaTotals.lean).
  GIVEN WITH THE SEED: the statements are not yours to turn. If you find one false, say at which input.
  Laid BY PROGRAM, IN A SANDBOX (cutbox-rows.mjs): the forced cells as the released guide's own fill.sh prints them over the translation 03a556a3b9355fbc… (all of the seat's roots in one cut). By AI agents, Wed Nov 11 2026. No macro, syntax, notation, axiom, sorry.
-/
import Derived.Test.YtiomahognfmpgaaChecked
import GoSem.Claim
import GoSem.ClaimJoined
import GoSem.ClaimMapViews
import Derived.JoinedTies
import Derived.KernelRfl
namespace Go.Proofs.Ytiomahognfmpgaa
/- THE CELL 'sum', in the pinned program and in every row, IS THE sha256 OF THE DUMP (.gsa) THAT YtiomahognfmpgaaProg.lean LOADS. Nothing in Lean hashes anything: it is a label: what it is worth is what the hold of that sum in a sandbox is worth. -/
noncomputable def Try.pinned : Pinned := { name := "ytiomahognfmpgaa", sum := "03a556a3b9355fbc10f70919d8ab44b35134efacc297a60ae3a956487c6e57f8", checked := Try.checked }
namespace Rows
def none {H : Type} : Left H := { results := [], args := [] }

/-- 'bastidelaw11.WishBytes': WHATEVER THE INPUT: true; the input reads as it did. -/
def wishBytesSpec : ChangeSpec := { name := "wishBytes", fn := fun _ => fun
  | [d] => { results := [.lit (.bool true)], args := [d] }
  | _ => none }
def wishBytesRow : OpenClaim := { program := "ytiomahognfmpgaa", sum := "03a556a3b9355fbc10f70919d8ab44b35134efacc297a60ae3a956487c6e57f8", func := "bastide/bastidelaw11.WishBytes", spec := "wishBytes", plainKeys := false, apart := false }
def WishBytesSaid : Prop := wishBytesRow.holds Try.pinned (OpenSpec.ofChange wishBytesSpec)

/-- ITS FALSE NEIGHBOUR: 'it returns false'. Refute it at one input. -/
def wishBytesWrong : ChangeSpec := { name := "wishBytes", fn := fun _ => fun
  | [d] => { results := [.lit (.bool false)], args := [d] }
  | _ => none }
def WishBytesWrongFalsely : Prop := wishBytesRow.holds Try.pinned (OpenSpec.ofChange wishBytesWrong)

/-- 'bastidelaw11.WishParse': WHATEVER THE INPUT: true; the input reads as it did. -/
def wishParseSpec : ChangeSpec := { name := "wishParse", fn := fun _ => fun
  | [d] => { results := [.lit (.bool true)], args := [d] }
  | _ => none }
def wishParseRow : OpenClaim := { program := "ytiomahognfmpgaa", sum := "03a556a3b9355fbc10f70919d8ab44b35134efacc297a60ae3a956487c6e57f8", func := "bastide/bastidelaw11.WishParse", spec := "wishParse", plainKeys := false, apart := false }
def WishParseSaid : Prop := wishParseRow.holds Try.pinned (OpenSpec.ofChange wishParseSpec)

/-- ITS FALSE NEIGHBOUR: 'it returns false'. Refute it at one input. -/
def wishParseWrong : ChangeSpec := { name := "wishParse", fn := fun _ => fun
  | [d] => { results := [.lit (.bool false)], args := [d] }
  | _ => none }
def WishParseWrongFalsely : Prop := wishParseRow.holds Try.pinned (OpenSpec.ofChange wishParseWrong)

/-- 'bastidelaw11.WishBatch': WHATEVER THE INPUT: true; the input reads as it did. -/
def wishBatchSpec : ChangeSpec := { name := "wishBatch", fn := fun _ => fun
  | [d1, d2] => { results := [.lit (.bool true)], args := [d1, d2] }
  | _ => none }
def wishBatchRow : OpenClaim := { program := "ytiomahognfmpgaa", sum := "03a556a3b9355fbc10f70919d8ab44b35134efacc297a60ae3a956487c6e57f8", func := "bastide/bastidelaw11.WishBatch", spec := "wishBatch", plainKeys := false, apart := false }
def WishBatchSaid : Prop := wishBatchRow.holds Try.pinned (OpenSpec.ofChange wishBatchSpec)

/-- ITS FALSE NEIGHBOUR: 'it returns false'. Refute it at one input. -/
def wishBatchWrong : ChangeSpec := { name := "wishBatch", fn := fun _ => fun
  | [d1, d2] => { results := [.lit (.bool false)], args := [d1, d2] }
  | _ => none }
def WishBatchWrongFalsely : Prop := wishBatchRow.holds Try.pinned (OpenSpec.ofChange wishBatchWrong)

/-- 'bastidelaw11.WishAgain': WHATEVER THE INPUT: true; the input reads as it did. -/
def wishAgainSpec : ChangeSpec := { name := "wishAgain", fn := fun _ => fun
  | [d] => { results := [.lit (.bool true)], args := [d] }
  | _ => none }
def wishAgainRow : OpenClaim := { program := "ytiomahognfmpgaa", sum := "03a556a3b9355fbc10f70919d8ab44b35134efacc297a60ae3a956487c6e57f8", func := "bastide/bastidelaw11.WishAgain", spec := "wishAgain", plainKeys := false, apart := false }
def WishAgainSaid : Prop := wishAgainRow.holds Try.pinned (OpenSpec.ofChange wishAgainSpec)

/-- ITS FALSE NEIGHBOUR: 'it returns false'. Refute it at one input. -/
def wishAgainWrong : ChangeSpec := { name := "wishAgain", fn := fun _ => fun
  | [d] => { results := [.lit (.bool false)], args := [d] }
  | _ => none }
def WishAgainWrongFalsely : Prop := wishAgainRow.holds Try.pinned (OpenSpec.ofChange wishAgainWrong)

/-- 'bastidelaw11.WishBatches': WHATEVER THE INPUT: true; the input reads as it did. -/
def wishBatchesSpec : ChangeSpec := { name := "wishBatches", fn := fun _ => fun
  | [d] => { results := [.lit (.bool true)], args := [d] }
  | _ => none }
def wishBatchesRow : OpenClaim := { program := "ytiomahognfmpgaa", sum := "03a556a3b9355fbc10f70919d8ab44b35134efacc297a60ae3a956487c6e57f8", func := "bastide/bastidelaw11.WishBatches", spec := "wishBatches", plainKeys := false, apart := false }
def WishBatchesSaid : Prop := wishBatchesRow.holds Try.pinned (OpenSpec.ofChange wishBatchesSpec)

/-- ITS FALSE NEIGHBOUR: 'it returns false'. Refute it at one input. -/
def wishBatchesWrong : ChangeSpec := { name := "wishBatches", fn := fun _ => fun
  | [d] => { results := [.lit (.bool false)], args := [d] }
  | _ => none }
def WishBatchesWrongFalsely : Prop := wishBatchesRow.holds Try.pinned (OpenSpec.ofChange wishBatchesWrong)

/-- 'bastidelaw11.WishUnbatched': WHATEVER THE INPUT: true; the input reads as it did. -/
def wishUnbatchedSpec : ChangeSpec := { name := "wishUnbatched", fn := fun _ => fun
  | [d] => { results := [.lit (.bool true)], args := [d] }
  | _ => none }
def wishUnbatchedRow : OpenClaim := { program := "ytiomahognfmpgaa", sum := "03a556a3b9355fbc10f70919d8ab44b35134efacc297a60ae3a956487c6e57f8", func := "bastide/bastidelaw11.WishUnbatched", spec := "wishUnbatched", plainKeys := false, apart := false }
def WishUnbatchedSaid : Prop := wishUnbatchedRow.holds Try.pinned (OpenSpec.ofChange wishUnbatchedSpec)

/-- ITS FALSE NEIGHBOUR: 'it returns false'. Refute it at one input. -/
def wishUnbatchedWrong : ChangeSpec := { name := "wishUnbatched", fn := fun _ => fun
  | [d] => { results := [.lit (.bool false)], args := [d] }
  | _ => none }
def WishUnbatchedWrongFalsely : Prop := wishUnbatchedRow.holds Try.pinned (OpenSpec.ofChange wishUnbatchedWrong)

/-- 'bastidelaw11.WishCut': WHATEVER THE INPUT: true; the input reads as it did. -/
def wishCutSpec : ChangeSpec := { name := "wishCut", fn := fun _ => fun
  | [d1, d2] => { results := [.lit (.bool true)], args := [d1, d2] }
  | _ => none }
def wishCutRow : OpenClaim := { program := "ytiomahognfmpgaa", sum := "03a556a3b9355fbc10f70919d8ab44b35134efacc297a60ae3a956487c6e57f8", func := "bastide/bastidelaw11.WishCut", spec := "wishCut", plainKeys := false, apart := false }
def WishCutSaid : Prop := wishCutRow.holds Try.pinned (OpenSpec.ofChange wishCutSpec)

/-- ITS FALSE NEIGHBOUR: 'it returns false'. Refute it at one input. -/
def wishCutWrong : ChangeSpec := { name := "wishCut", fn := fun _ => fun
  | [d1, d2] => { results := [.lit (.bool false)], args := [d1, d2] }
  | _ => none }
def WishCutWrongFalsely : Prop := wishCutRow.holds Try.pinned (OpenSpec.ofChange wishCutWrong)

/-- 'bastidelaw11.WishFields': WHATEVER THE INPUT: true; the input reads as it did. -/
def wishFieldsSpec : ChangeSpec := { name := "wishFields", fn := fun _ => fun
  | [d1, d2] => { results := [.lit (.bool true)], args := [d1, d2] }
  | _ => none }
def wishFieldsRow : OpenClaim := { program := "ytiomahognfmpgaa", sum := "03a556a3b9355fbc10f70919d8ab44b35134efacc297a60ae3a956487c6e57f8", func := "bastide/bastidelaw11.WishFields", spec := "wishFields", plainKeys := false, apart := false }
def WishFieldsSaid : Prop := wishFieldsRow.holds Try.pinned (OpenSpec.ofChange wishFieldsSpec)

/-- ITS FALSE NEIGHBOUR: 'it returns false'. Refute it at one input. -/
def wishFieldsWrong : ChangeSpec := { name := "wishFields", fn := fun _ => fun
  | [d1, d2] => { results := [.lit (.bool false)], args := [d1, d2] }
  | _ => none }
def WishFieldsWrongFalsely : Prop := wishFieldsRow.holds Try.pinned (OpenSpec.ofChange wishFieldsWrong)

/-- 'bastidelaw11.WishSame': WHATEVER THE INPUT: true; the input reads as it did. -/
def wishSameSpec : ChangeSpec := { name := "wishSame", fn := fun _ => fun
  | [d1, d2] => { results := [.lit (.bool true)], args := [d1, d2] }
  | _ => none }
def wishSameRow : OpenClaim := { program := "ytiomahognfmpgaa", sum := "03a556a3b9355fbc10f70919d8ab44b35134efacc297a60ae3a956487c6e57f8", func := "bastide/bastidelaw11.WishSame", spec := "wishSame", unfollowed := true, recurses := true, plainKeys := false, apart := false }
def WishSameSaid : Prop := wishSameRow.holds Try.pinned (OpenSpec.ofChange wishSameSpec)

/-- ITS FALSE NEIGHBOUR: 'it returns false'. Refute it at one input. -/
def wishSameWrong : ChangeSpec := { name := "wishSame", fn := fun _ => fun
  | [d1, d2] => { results := [.lit (.bool false)], args := [d1, d2] }
  | _ => none }
def WishSameWrongFalsely : Prop := wishSameRow.holds Try.pinned (OpenSpec.ofChange wishSameWrong)

/-- 'bastidelaw11.WishBack': WHATEVER THE INPUT: true; the input reads as it did. -/
def wishBackSpec : ChangeSpec := { name := "wishBack", fn := fun _ => fun
  | [d] => { results := [.lit (.bool true)], args := [d] }
  | _ => none }
def wishBackRow : OpenClaim := { program := "ytiomahognfmpgaa", sum := "03a556a3b9355fbc10f70919d8ab44b35134efacc297a60ae3a956487c6e57f8", func := "bastide/bastidelaw11.WishBack", spec := "wishBack", unfollowed := true, recurses := true, plainKeys := false, apart := false }
def WishBackSaid : Prop := wishBackRow.holds Try.pinned (OpenSpec.ofChange wishBackSpec)

/-- ITS FALSE NEIGHBOUR: 'it returns false'. Refute it at one input. -/
def wishBackWrong : ChangeSpec := { name := "wishBack", fn := fun _ => fun
  | [d] => { results := [.lit (.bool false)], args := [d] }
  | _ => none }
def WishBackWrongFalsely : Prop := wishBackRow.holds Try.pinned (OpenSpec.ofChange wishBackWrong)

/-- 'bastidelaw11.WishOrders': WHATEVER THE INPUT: true; the input reads as it did. -/
def wishOrdersSpec : ChangeSpec := { name := "wishOrders", fn := fun _ => fun
  | [d1, d2] => { results := [.lit (.bool true)], args := [d1, d2] }
  | _ => none }
def wishOrdersRow : OpenClaim := { program := "ytiomahognfmpgaa", sum := "03a556a3b9355fbc10f70919d8ab44b35134efacc297a60ae3a956487c6e57f8", func := "bastide/bastidelaw11.WishOrders", spec := "wishOrders", inPlace := ["sync/atomic.AddInt64", "math/bits.Add64", "sync/atomic.LoadUint32", "(*internal/sync.Mutex).Lock", "internal/race.Disable", "sync/atomic.CompareAndSwapInt32", "internal/race.Enable", "internal/race.Acquire", "(*internal/sync.Mutex).lockSlow", "internal/sync.runtime_canSpin", "internal/sync.runtime_doSpin", "internal/sync.throw", "internal/sync.runtime_nanotime", "internal/sync.runtime_SemacquireMutex", "sync/atomic.AddInt32", "(*internal/sync.Mutex).Unlock", "internal/race.ReleaseMerge", "(*internal/sync.Mutex).unlockSlow", "internal/sync.fatal", "internal/sync.runtime_Semrelease", "sync/atomic.StoreUint32"], unfollowed := true, recurses := true, plainKeys := false, apart := false }
def WishOrdersSaid : Prop := wishOrdersRow.holds Try.pinned (OpenSpec.ofChange wishOrdersSpec)

/-- ITS FALSE NEIGHBOUR: 'it returns false'. Refute it at one input. -/
def wishOrdersWrong : ChangeSpec := { name := "wishOrders", fn := fun _ => fun
  | [d1, d2] => { results := [.lit (.bool false)], args := [d1, d2] }
  | _ => none }
def WishOrdersWrongFalsely : Prop := wishOrdersRow.holds Try.pinned (OpenSpec.ofChange wishOrdersWrong)

/- THE SECOND FORM. 'bulk': how many values and letters a reading holds, each counted each time it is reached (what is shared counts as often as it is met; a slice's spare places count too). A statement '..UptoSaid' is the law's where the arguments, and the package variables that the reading takes, are together of bulk at most 1048576: NARROWER than '..Said'. Prove '..Said' where nothing that the law and all that it calls make is longer than what came in: it says more and counts as full. Else prove '..UptoSaid'. A law counts once. -/
mutual
def uptoBulk {H : Type} : DataW H → Nat
  | .lit (.string bytes) => bytes.length + 1
  | .lit _ => 1
  | .nil => 1
  | .ptr d => uptoBulk d + 1
  | .slice elems spare => uptoBulkAll elems + uptoBulkAll spare + 1
  | .agg parts => uptoBulkAll parts + 1
  | .iface _ d => uptoBulk d + 1
  | .map entries => uptoBulkEntries entries + 1
  | .held _ => 1
def uptoBulkAll {H : Type} : List (DataW H) → Nat
  | [] => 0
  | d :: r => uptoBulk d + uptoBulkAll r
def uptoBulkEntries {H : Type} : List (Lit × DataW H) → Nat
  | [] => 0
  | x :: r => uptoBulkEntry x + uptoBulkEntries r
def uptoBulkEntry {H : Type} : Lit × DataW H → Nat
  | (.string bytes, d) => bytes.length + uptoBulk d + 1
  | (_, d) => uptoBulk d + 1
 end
def uptoSmall : (H : Type) → List (DataW H) → Bool := fun _ ds => decide (uptoBulkAll ds ≤ 1048576)
def OpenSpec.upto (s : _root_.Go.ChangeSpec) : _root_.Go.OpenSpec := { _root_.Go.OpenSpec.ofChange s with cond := some uptoSmall }

/-- 'bastidelaw11.WishBytes', WHERE WHAT IT READS IS OF BULK AT MOST 1048576: true; the input reads as it did. -/
def wishBytesUptoRow : OpenClaim := { program := "ytiomahognfmpgaa", sum := "03a556a3b9355fbc10f70919d8ab44b35134efacc297a60ae3a956487c6e57f8", func := "bastide/bastidelaw11.WishBytes", spec := "wishBytes", plainKeys := false, apart := false, narrowed := true }
def WishBytesUptoSaid : Prop := wishBytesUptoRow.holds Try.pinned (OpenSpec.upto wishBytesSpec)

/-- 'bastidelaw11.WishParse', WHERE WHAT IT READS IS OF BULK AT MOST 1048576: true; the input reads as it did. -/
def wishParseUptoRow : OpenClaim := { program := "ytiomahognfmpgaa", sum := "03a556a3b9355fbc10f70919d8ab44b35134efacc297a60ae3a956487c6e57f8", func := "bastide/bastidelaw11.WishParse", spec := "wishParse", plainKeys := false, apart := false, narrowed := true }
def WishParseUptoSaid : Prop := wishParseUptoRow.holds Try.pinned (OpenSpec.upto wishParseSpec)

/-- 'bastidelaw11.WishBatch', WHERE WHAT IT READS IS OF BULK AT MOST 1048576: true; the input reads as it did. -/
def wishBatchUptoRow : OpenClaim := { program := "ytiomahognfmpgaa", sum := "03a556a3b9355fbc10f70919d8ab44b35134efacc297a60ae3a956487c6e57f8", func := "bastide/bastidelaw11.WishBatch", spec := "wishBatch", plainKeys := false, apart := false, narrowed := true }
def WishBatchUptoSaid : Prop := wishBatchUptoRow.holds Try.pinned (OpenSpec.upto wishBatchSpec)

/-- 'bastidelaw11.WishAgain', WHERE WHAT IT READS IS OF BULK AT MOST 1048576: true; the input reads as it did. -/
def wishAgainUptoRow : OpenClaim := { program := "ytiomahognfmpgaa", sum := "03a556a3b9355fbc10f70919d8ab44b35134efacc297a60ae3a956487c6e57f8", func := "bastide/bastidelaw11.WishAgain", spec := "wishAgain", plainKeys := false, apart := false, narrowed := true }
def WishAgainUptoSaid : Prop := wishAgainUptoRow.holds Try.pinned (OpenSpec.upto wishAgainSpec)

/-- 'bastidelaw11.WishBatches', WHERE WHAT IT READS IS OF BULK AT MOST 1048576: true; the input reads as it did. -/
def wishBatchesUptoRow : OpenClaim := { program := "ytiomahognfmpgaa", sum := "03a556a3b9355fbc10f70919d8ab44b35134efacc297a60ae3a956487c6e57f8", func := "bastide/bastidelaw11.WishBatches", spec := "wishBatches", plainKeys := false, apart := false, narrowed := true }
def WishBatchesUptoSaid : Prop := wishBatchesUptoRow.holds Try.pinned (OpenSpec.upto wishBatchesSpec)

/-- 'bastidelaw11.WishUnbatched', WHERE WHAT IT READS IS OF BULK AT MOST 1048576: true; the input reads as it did. -/
def wishUnbatchedUptoRow : OpenClaim := { program := "ytiomahognfmpgaa", sum := "03a556a3b9355fbc10f70919d8ab44b35134efacc297a60ae3a956487c6e57f8", func := "bastide/bastidelaw11.WishUnbatched", spec := "wishUnbatched", plainKeys := false, apart := false, narrowed := true }
def WishUnbatchedUptoSaid : Prop := wishUnbatchedUptoRow.holds Try.pinned (OpenSpec.upto wishUnbatchedSpec)

/-- 'bastidelaw11.WishCut', WHERE WHAT IT READS IS OF BULK AT MOST 1048576: true; the input reads as it did. -/
def wishCutUptoRow : OpenClaim := { program := "ytiomahognfmpgaa", sum := "03a556a3b9355fbc10f70919d8ab44b35134efacc297a60ae3a956487c6e57f8", func := "bastide/bastidelaw11.WishCut", spec := "wishCut", plainKeys := false, apart := false, narrowed := true }
def WishCutUptoSaid : Prop := wishCutUptoRow.holds Try.pinned (OpenSpec.upto wishCutSpec)

/-- 'bastidelaw11.WishFields', WHERE WHAT IT READS IS OF BULK AT MOST 1048576: true; the input reads as it did. -/
def wishFieldsUptoRow : OpenClaim := { program := "ytiomahognfmpgaa", sum := "03a556a3b9355fbc10f70919d8ab44b35134efacc297a60ae3a956487c6e57f8", func := "bastide/bastidelaw11.WishFields", spec := "wishFields", plainKeys := false, apart := false, narrowed := true }
def WishFieldsUptoSaid : Prop := wishFieldsUptoRow.holds Try.pinned (OpenSpec.upto wishFieldsSpec)

/-- 'bastidelaw11.WishSame', WHERE WHAT IT READS IS OF BULK AT MOST 1048576: true; the input reads as it did. -/
def wishSameUptoRow : OpenClaim := { program := "ytiomahognfmpgaa", sum := "03a556a3b9355fbc10f70919d8ab44b35134efacc297a60ae3a956487c6e57f8", func := "bastide/bastidelaw11.WishSame", spec := "wishSame", unfollowed := true, recurses := true, plainKeys := false, apart := false, narrowed := true }
def WishSameUptoSaid : Prop := wishSameUptoRow.holds Try.pinned (OpenSpec.upto wishSameSpec)

/-- 'bastidelaw11.WishBack', WHERE WHAT IT READS IS OF BULK AT MOST 1048576: true; the input reads as it did. -/
def wishBackUptoRow : OpenClaim := { program := "ytiomahognfmpgaa", sum := "03a556a3b9355fbc10f70919d8ab44b35134efacc297a60ae3a956487c6e57f8", func := "bastide/bastidelaw11.WishBack", spec := "wishBack", unfollowed := true, recurses := true, plainKeys := false, apart := false, narrowed := true }
def WishBackUptoSaid : Prop := wishBackUptoRow.holds Try.pinned (OpenSpec.upto wishBackSpec)

/-- 'bastidelaw11.WishOrders', WHERE WHAT IT READS IS OF BULK AT MOST 1048576: true; the input reads as it did. -/
def wishOrdersUptoRow : OpenClaim := { program := "ytiomahognfmpgaa", sum := "03a556a3b9355fbc10f70919d8ab44b35134efacc297a60ae3a956487c6e57f8", func := "bastide/bastidelaw11.WishOrders", spec := "wishOrders", inPlace := ["sync/atomic.AddInt64", "math/bits.Add64", "sync/atomic.LoadUint32", "(*internal/sync.Mutex).Lock", "internal/race.Disable", "sync/atomic.CompareAndSwapInt32", "internal/race.Enable", "internal/race.Acquire", "(*internal/sync.Mutex).lockSlow", "internal/sync.runtime_canSpin", "internal/sync.runtime_doSpin", "internal/sync.throw", "internal/sync.runtime_nanotime", "internal/sync.runtime_SemacquireMutex", "sync/atomic.AddInt32", "(*internal/sync.Mutex).Unlock", "internal/race.ReleaseMerge", "(*internal/sync.Mutex).unlockSlow", "internal/sync.fatal", "internal/sync.runtime_Semrelease", "sync/atomic.StoreUint32"], unfollowed := true, recurses := true, plainKeys := false, apart := false, narrowed := true }
def WishOrdersUptoSaid : Prop := wishOrdersUptoRow.holds Try.pinned (OpenSpec.upto wishOrdersSpec)

end Rows
end Go.Proofs.Ytiomahognfmpgaa
