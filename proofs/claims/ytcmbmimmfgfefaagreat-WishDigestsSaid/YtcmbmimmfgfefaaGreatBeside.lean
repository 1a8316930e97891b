/-
  Hashes and blocks beside others that turn.
-/
import Derived.Test.YtcmbmimmfgfefaaGreatSum
namespace Go.Proofs.YtcmbmimmfgfefaaGreat
set_option linter.unusedVariables false
open Go.RowKit

theorem HashAt.below {w w' : World} {g : Nat} {l : List UInt8} (h : HashAt w g l) (hb : Below w.heap.size w w') : HashAt w' g l := h.keep (hb.block g h.lt)
theorem HashAt.beside {w w' : World} {g k : Nat} {l : List UInt8} (h : HashAt w g l) (hg : w.grownBy w' (some k)) (hne : g ≠ k) : HashAt w' g l := h.keep (hg.block g h.lt (fun e => hne (by injection e)))
theorem Blk.beside {w w' : World} {g k : Nat} {t : TypeId} {cs : Array Value} (h : Blk w g t cs) (hg : w.grownBy w' (some k)) (hne : g ≠ k) : Blk w' g t cs := (hg.block g h.lt (fun e => hne (by injection e))).trans h
theorem Blk.below' {w w' : World} {g : Nat} {t : TypeId} {cs : Array Value} (h : Blk w g t cs) (hb : Below w.heap.size w w') : Blk w' g t cs := h.below hb h.lt

theorem HashAt.apart {w w' : World} {g : Nat} {l : List UInt8} {row : Option Nat} (h : HashAt w g l) (hg : w.grownBy w' row) (hne : some g ≠ row) : HashAt w' g l := h.keep (hg.block g h.lt hne)


end Go.Proofs.YtcmbmimmfgfefaaGreat
