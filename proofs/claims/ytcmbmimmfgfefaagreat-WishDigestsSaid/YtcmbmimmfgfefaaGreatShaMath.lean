/-
  SHA-256 in plain terms: schedule, round, compression, padding, digest. No program is named.
-/
import Derived.Test.YtcmbmimmfgfefaaGreatWord
namespace Go.Proofs.YtcmbmimmfgfefaaGreat
set_option linter.unusedVariables false

/-- the eight numbers of a state -/
structure St where
  a : W32
  b : W32
  c : W32
  d : W32
  e : W32
  f : W32
  g : W32
  h : W32

def St.list (s : St) : List W32 := [s.a, s.b, s.c, s.d, s.e, s.f, s.g, s.h]
def St.vals (s : St) : Array Value := #[vw s.a, vw s.b, vw s.c, vw s.d, vw s.e, vw s.f, vw s.g, vw s.h]
def St.add (s r : St) : St := ⟨s.a + r.a, s.b + r.b, s.c + r.c, s.d + r.d, s.e + r.e, s.f + r.f, s.g + r.g, s.h + r.h⟩

def kc : List W32 := [
  0x428A2F98#32, 0x71374491#32, 0xB5C0FBCF#32, 0xE9B5DBA5#32, 0x3956C25B#32, 0x59F111F1#32, 0x923F82A4#32, 0xAB1C5ED5#32,
  0xD807AA98#32, 0x12835B01#32, 0x243185BE#32, 0x550C7DC3#32, 0x72BE5D74#32, 0x80DEB1FE#32, 0x9BDC06A7#32, 0xC19BF174#32,
  0xE49B69C1#32, 0xEFBE4786#32, 0x0FC19DC6#32, 0x240CA1CC#32, 0x2DE92C6F#32, 0x4A7484AA#32, 0x5CB0A9DC#32, 0x76F988DA#32,
  0x983E5152#32, 0xA831C66D#32, 0xB00327C8#32, 0xBF597FC7#32, 0xC6E00BF3#32, 0xD5A79147#32, 0x06CA6351#32, 0x14292967#32,
  0x27B70A85#32, 0x2E1B2138#32, 0x4D2C6DFC#32, 0x53380D13#32, 0x650A7354#32, 0x766A0ABB#32, 0x81C2C92E#32, 0x92722C85#32,
  0xA2BFE8A1#32, 0xA81A664B#32, 0xC24B8B70#32, 0xC76C51A3#32, 0xD192E819#32, 0xD6990624#32, 0xF40E3585#32, 0x106AA070#32,
  0x19A4C116#32, 0x1E376C08#32, 0x2748774C#32, 0x34B0BCB5#32, 0x391C0CB3#32, 0x4ED8AA4A#32, 0x5B9CCA4F#32, 0x682E6FF3#32,
  0x748F82EE#32, 0x78A5636F#32, 0x84C87814#32, 0x8CC70208#32, 0x90BEFFFA#32, 0xA4506CEB#32, 0xBEF9A3F7#32, 0xC67178F2#32]

def h0 : St := ⟨0x6A09E667#32, 0xBB67AE85#32, 0x3C6EF372#32, 0xA54FF53A#32, 0x510E527F#32, 0x9B05688C#32, 0x1F83D9AB#32, 0x5BE0CD19#32⟩

def sml0 (x : W32) : W32 := x.rotateRight 7 ^^^ x.rotateRight 18 ^^^ x >>> 3
def sml1 (x : W32) : W32 := x.rotateRight 17 ^^^ x.rotateRight 19 ^^^ x >>> 10
def big0 (x : W32) : W32 := x.rotateRight 2 ^^^ x.rotateRight 13 ^^^ x.rotateRight 22
def big1 (x : W32) : W32 := x.rotateRight 6 ^^^ x.rotateRight 11 ^^^ x.rotateRight 25

/-- a word of four bytes, the highest first -/
def be4 (a b c d : UInt8) : W32 := (((b32 a <<< 8 ||| b32 b) <<< 8) ||| b32 c) <<< 8 ||| b32 d

/-- the next word of a schedule, of those ahead of it -/
def nextW (blk : List UInt8) (l : List W32) (t : Nat) : W32 :=
  if t < 16 then be4 (blk.getD (4 * t) 0) (blk.getD (4 * t + 1) 0) (blk.getD (4 * t + 2) 0) (blk.getD (4 * t + 3) 0)
  else l.getD (t - 16) 0 + sml0 (l.getD (t - 15) 0) + l.getD (t - 7) 0 + sml1 (l.getD (t - 2) 0)

def schedTo (blk : List UInt8) : Nat → List W32
  | 0 => []
  | t + 1 => schedTo blk t ++ [nextW blk (schedTo blk t) t]

theorem schedTo_length (blk : List UInt8) (t : Nat) : (schedTo blk t).length = t := by
  induction t with
  | zero => rfl
  | succ t ih => simp [schedTo, ih]

def ch (e f g : W32) : W32 := (e &&& f) ^^^ (~~~e &&& g)
def maj (a b c : W32) : W32 := (a &&& b) ^^^ (a &&& c) ^^^ (b &&& c)

/-- one of the 64 steps -/
def rstep (s : St) (k w : W32) : St :=
  ⟨(s.h + big1 s.e + ch s.e s.f s.g + k + w) + (big0 s.a + maj s.a s.b s.c), s.a, s.b, s.c, s.d + (s.h + big1 s.e + ch s.e s.f s.g + k + w), s.e, s.f, s.g⟩

def roundsTo (s : St) (ws : List W32) : Nat → St
  | 0 => s
  | t + 1 => rstep (roundsTo s ws t) (kc.getD t 0) (ws.getD t 0)

/-- a block is taken into a state -/
def compress (s : St) (blk : List UInt8) : St := s.add (roundsTo s (schedTo blk 64) 64)

end Go.Proofs.YtcmbmimmfgfefaaGreat
