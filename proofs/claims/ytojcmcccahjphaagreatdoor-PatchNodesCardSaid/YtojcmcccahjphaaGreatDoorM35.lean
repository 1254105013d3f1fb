/- SHA-256 as a plain function on lists of integers (words and bytes as the machine holds them). No condition. -/
import Derived.Test.YtojcmcccahjphaaGreatDoorM1
import Derived.Test.YtojcmcccahjphaaGreatDoorProg
import Derived.Deep.DeepCutAuto
import Derived.Deep.RegionWith
import Derived.Deep.AppendLies
set_option linter.unusedSimpArgs false
set_option linter.unusedVariables false
set_option maxHeartbeats 16000000
set_option maxRecDepth 100000
namespace Go.Proofs.YtojcmcccahjphaaGreatDoor
open Go.RowKit
open Lib (hid)
def add32 (a b : Int) : Int := (a + b) % 4294967296
def xor32 (a b : Int) : Int := bits .xor .u32 a b
def and32 (a b : Int) : Int := bits .and .u32 a b
def not32 (a : Int) : Int := bits .xor .u32 IntKind.u32.max a
def rot (x s : Int) : Int := bits .or .u32 (IntKind.u32.wrap (x * 2 ^ s.toNat)) (x / 2 ^ (32 - s).toNat)
def mixI (x i j k : Int) : Int := xor32 (xor32 (rot x (32 - i)) (rot x (32 - j))) (rot x (32 - k))
def sig0 (p : Int) : Int := xor32 (xor32 (rot p 25) (rot p 14)) (p / 8)
def sig1 (p : Int) : Int := xor32 (xor32 (rot p 15) (rot p 13)) (p / 1024)
def wordAt (l : List Int) (t : Nat) : Int := 16777216 * l.getD (4 * t) 0 + 65536 * l.getD (4 * t + 1) 0 + 256 * l.getD (4 * t + 2) 0 + l.getD (4 * t + 3) 0
def nextW (l ws : List Int) (t : Nat) : Int :=
 if t < 16 then wordAt l t else (ws.getD (t - 16) 0 + sig0 (ws.getD (t - 15) 0) + ws.getD (t - 7) 0 + sig1 (ws.getD (t - 2) 0)) % 4294967296
def wl (l : List Int) : Nat → List Int
 | 0 => []
 | t + 1 => wl l t ++ [nextW l (wl l t) t]
structure St where
 (a b c d e f g h : Int)
def xOf (e f g h k w : Int) : Int := (h + mixI e 6 11 25 + xor32 (and32 e f) (and32 (not32 e) g) + k + w) % 4294967296
def yOf (a b c : Int) : Int := (mixI a 2 13 22 + xor32 (xor32 (and32 a b) (and32 a c)) (and32 b c)) % 4294967296
def stepI (s : St) (k w : Int) : St :=
 let x := xOf s.e s.f s.g s.h k w
 ⟨(x + yOf s.a s.b s.c) % 4294967296,s.a,s.b,s.c,(s.d + x) % 4294967296,s.e,s.f,s.g⟩
def kc : List Int := [1116352408,1899447441,3049323471,3921009573,961987163,1508970993,2453635748,2870763221,3624381080,310598401,607225278,1426881987,1925078388,2162078206,2614888103,3248222580,3835390401,4022224774,264347078,604807628,770255983,1249150122,1555081692,1996064986,2554220882,2821834349,2952996808,3210313671,3336571891,3584528711,113926993,338241895,666307205,773529912,1294757372,1396182291,1695183700,1986661051,2177026350,2456956037,2730485921,2820302411,3259730800,3345764771,3516065817,3600352804,4094571909,275423344,430227734,506948616,659060556,883997877,958139571,1322822218,1537002063,1747873779,1955562222,2024104815,2227730452,2361852424,2428436474,2756734187,3204031479,3329325298]
def rounds_ (l : List Int) (s : St) : Nat → St
 | 0 => s
 | t + 1 => stepI (rounds_ l s t) (kc.getD t 0) ((wl l 64).getD t 0)
def addSt (s v : St) : St := ⟨add32 s.a v.a,add32 s.b v.b,add32 s.c v.c,add32 s.d v.d,add32 s.e v.e,add32 s.f v.f,add32 s.g v.g,add32 s.h v.h⟩
def compI (s : St) (l : List Int) : St := addSt s (rounds_ l s 64)
def St.list (s : St) : List Int := [s.a,s.b,s.c,s.d,s.e,s.f,s.g,s.h]
def u32s (l : List Int) : List Value := l.map (Value.int .u32)
end Go.Proofs.YtojcmcccahjphaaGreatDoor
/- The walks of hash.mix, hash.schedule and what they call. No condition. -/
namespace Go.Proofs.YtojcmcccahjphaaGreatDoor
open Go.RowKit
open Lib (hid)
end Go.Proofs.YtojcmcccahjphaaGreatDoor
/- The walk of hash.compress. No condition. -/
namespace Go.Proofs.YtojcmcccahjphaaGreatDoor
open Go.RowKit
open Lib (hid)
end Go.Proofs.YtojcmcccahjphaaGreatDoor
/- Streams of SHA-256 as lists: the state behind a message, the padding, the hash. No condition. -/
namespace Go.Proofs.YtojcmcccahjphaaGreatDoor
open Go.RowKit
open Lib (hid)
def blocksI : Nat → List Int → St → St
 | 0,_,s => s
 | k + 1,m,s => blocksI k (m.drop 64) (compI s (m.take 64))
def initSt : St := ⟨1779033703,3144134277,1013904242,2773480762,1359893119,2600822924,528734635,1541459225⟩
def hst (m : List Int) : St := blocksI (m.length / 64) m initSt
structure IsStream (cs : List Value) (m blk : List Int) : Prop where
 cells : cs = u32s (hst m).list ++ (u8s blk ++ [.int .u64 m.length])
 len : blk.length = 64
 byt : Byt blk
 mbyt : Byt m
 part : blk.take (m.length % 64) = m.drop (m.length / 64 * 64)
def over (blk : List Int) (n : Nat) (x : List Int) : List Int := blk.take n ++ x ++ blk.drop (n + x.length)
end Go.Proofs.YtojcmcccahjphaaGreatDoor
/- The walks of hash.Begin, Stream.Add, Stream.Sum, hash.Sum. No condition. -/
namespace Go.Proofs.YtojcmcccahjphaaGreatDoor
open Go.RowKit
open Lib (hid)
theorem IsStream.size {cs : List Value} {m blk : List Int} (h : IsStream cs m blk) : cs.toArray.size = 73 := by
 rw [h.cells]
 simp [u32s,St.list,u8s,h.len]
theorem IsStream.one {cs : List Value} {m blk : List Int} (h : IsStream cs m blk) : cs.toArray.all (·.oneCell') = true := by
 rw [h.cells]
 simp [u32s,St.list,u8s,Value.oneCell']
end Go.Proofs.YtojcmcccahjphaaGreatDoor
/- The walks of Stream.Sum, hash.Sum. No condition. -/
namespace Go.Proofs.YtojcmcccahjphaaGreatDoor
open Go.RowKit
open Lib (hid)
theorem Rd.call {w w' : World} {B : Nat} {A : Option Addr} {n : Nat} {xs : List Value} (h : Rd w B A n xs) (hB : B ≤ w.heap.size) (hb : Below w.heap.size w w') : Rd w' B A n xs := h.below' hb hB
attribute [local go_sem ↓] wp_at_zero wp_at_succ
end Go.Proofs.YtojcmcccahjphaaGreatDoor
/- The walks of the reference's padded and words. No condition. -/
namespace Go.Proofs.YtojcmcccahjphaaGreatDoor
open Go.RowKit
open Lib (hid)
end Go.Proofs.YtojcmcccahjphaaGreatDoor
/- The walk of the reference's Sum: it hands back SHA-256. No condition. -/
namespace Go.Proofs.YtojcmcccahjphaaGreatDoor
open Go.RowKit
open Lib (hid)
end Go.Proofs.YtojcmcccahjphaaGreatDoor
