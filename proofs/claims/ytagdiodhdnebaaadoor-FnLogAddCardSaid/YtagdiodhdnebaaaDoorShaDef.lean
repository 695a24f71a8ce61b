/- SHA-256 on lists of numbers, plainly: what both of the program's and the reference's functions compute. -/
import Derived.Test.YtagdiodhdnebaaaDoorGlob
namespace Go.Proofs.YtagdiodhdnebaaaDoor.P
open Go.RowKit Go.Proofs.YtagdiodhdnebaaaDoorW.PrintWords Go.Proofs.YtagdiodhdnebaaaDoorW.PrintMore
def lenBytes (n : Nat) : List Int := [56, 48, 40, 32, 24, 16, 8, 0].map fun i => (8 * n : Int) / (2 ^ (i : Nat) : Int) % 256
def padB (s : ByteArray) : List Int := bytesOf s ++ 128 :: (List.replicate ((119 - s.size % 64) % 64) 0 ++ lenBytes s.size)
def turn (x n : Int) : Int := Go.bits .or .u32 (shr .u32 x n) (shl .u32 x (32 - n))
def sig0 (x : Int) : Int := Go.bits .xor .u32 (Go.bits .xor .u32 (turn x 7) (turn x 18)) (x / 8)
def sig1 (x : Int) : Int := Go.bits .xor .u32 (Go.bits .xor .u32 (turn x 17) (turn x 19)) (x / 1024)
def big0 (x : Int) : Int := Go.bits .xor .u32 (Go.bits .xor .u32 (turn x 2) (turn x 13)) (turn x 22)
def big1 (x : Int) : Int := Go.bits .xor .u32 (Go.bits .xor .u32 (turn x 6) (turn x 11)) (turn x 25)
def chB (e f g : Int) : Int := Go.bits .xor .u32 (Go.bits .and .u32 e f) (Go.bits .and .u32 (Go.bits .xor .u32 4294967295 e) g)
def majB (a b c : Int) : Int := Go.bits .xor .u32 (Go.bits .xor .u32 (Go.bits .and .u32 a b) (Go.bits .and .u32 a c)) (Go.bits .and .u32 b c)
def wordAt (b : List Int) (k : Nat) : Int :=
  Go.bits .or .u32 (Go.bits .or .u32 (Go.bits .or .u32 (((b.getD (4 * k) 0) % 4294967296 * 16777216) % 4294967296) (((b.getD (4 * k + 1) 0) % 4294967296 * 65536) % 4294967296)) (((b.getD (4 * k + 2) 0) % 4294967296 * 256) % 4294967296)) ((b.getD (4 * k + 3) 0) % 4294967296)
def nextW (l : List Int) : Int :=
  (((l.getD (l.length - 16) 0 + l.getD (l.length - 7) 0) % 4294967296 + sig0 (l.getD (l.length - 15) 0)) % 4294967296 + sig1 (l.getD (l.length - 2) 0)) % 4294967296
def wordsTo (b : List Int) : Nat → List Int
  | 0 => []
  | k + 1 => wordsTo b k ++ [if k < 16 then wordAt b k else nextW (wordsTo b k)]
def oneR (v : List Int) (c w : Int) : Int := ((((v.getD 7 0 + big1 (v.getD 4 0)) % 4294967296 + chB (v.getD 4 0) (v.getD 5 0) (v.getD 6 0)) % 4294967296 + c) % 4294967296 + w) % 4294967296
def twoR (v : List Int) : Int := (big0 (v.getD 0 0) + majB (v.getD 0 0) (v.getD 1 0) (v.getD 2 0)) % 4294967296
def rnd (v : List Int) (c w : Int) : List Int :=
  [(oneR v c w + twoR v) % 4294967296, v.getD 0 0, v.getD 1 0, v.getD 2 0, (v.getD 3 0 + oneR v c w) % 4294967296, v.getD 4 0, v.getD 5 0, v.getD 6 0]
def rndTo (ws v : List Int) : Nat → List Int
  | 0 => v
  | k + 1 => rnd (rndTo ws v k) (shaTab.getD k 0) (ws.getD k 0)
def addH (h v : List Int) : List Int := (List.range 8).map fun i => (h.getD i 0 + v.getD i 0) % 4294967296
def blockH (h b : List Int) : List Int := addH h (rndTo (wordsTo b 64) h 64)
def sumH : Nat → List Int → List Int → List Int
  | 0, h, _ => h
  | n + 1, h, b => sumH n (blockH h (b.take 64)) (b.drop 64)
def H0 : List Int := [1779033703, 3144134277, 1013904242, 2773480762, 1359893119, 2600822924, 528734635, 1541459225]
def bytes4 (x : Int) : List Int := [x / 16777216 % 256, x / 65536 % 256, x / 256 % 256, x % 256]
def shaB (s : ByteArray) : ByteArray := strOfNums ((sumH ((padB s).length / 64) H0 (padB s)).flatMap bytes4)
def spec_l1Padded.f (s : ByteArray) : Option (List Int) := if s.size ≤ 1099511627776 then some (padB s) else none
def impl_sha256Of.f (s : ByteArray) : Option ByteArray := if s.size ≤ 1099511627776 then some (shaB s) else none
end Go.Proofs.YtagdiodhdnebaaaDoor.P
