/- The reference of package patch: rows that lie apart from some blocks; contents of nodes. Conditions: none. -/
import Derived.Test.YtojcmcccahjphaaGreatDoorM19
import Derived.Test.YtojcmcccahjphaaGreatDoorM20
set_option linter.unusedSimpArgs false
set_option linter.unusedVariables false
set_option maxHeartbeats 16000000
set_option maxRecDepth 100000
set_option maxRecDepth 100000
set_option maxHeartbeats 16000000
namespace Go.Proofs.YtojcmcccahjphaaGreatDoor
open Go.RowKit
open Lib (hid)
def RdP (p : Nat → Prop) (w : World) (size : Nat) (A : Option Addr) (n : Nat) (xs : List Value) : Prop :=
 xs.length = n * size ∧ (0 < n → ∃ b o,A = some ⟨b,o,none⟩ ∧ p b ∧ b < w.heap.size ∧ ∀ j u,xs[j]? = some u → w.cell? ⟨b,o + j,none⟩ = some u)
theorem RdP.rdN {p : Nat → Prop} {w : World} {size n : Nat} {A : Option Addr} {xs : List Value} (h : RdP p w size A n xs) : RdN w w.heap.size size A n xs :=
 ⟨h.1,fun hn => by obtain ⟨b,o,h1,_,h3,h4⟩ := h.2 hn;exact ⟨b,o,h1,h3,h4⟩⟩
theorem RdP.keep {p : Nat → Prop} {w w' : World} (hs : w.heap.size ≤ w'.heap.size) (hk : ∀ b,p b → b < w.heap.size → w'.heap[b]? = w.heap[b]?) {size n : Nat} {A : Option Addr} {xs : List Value} (h : RdP p w size A n xs) : RdP p w' size A n xs :=
 ⟨h.1,fun hn => by obtain ⟨b,o,h1,h2,h3,h4⟩ := h.2 hn;exact ⟨b,o,h1,h2,Nat.lt_of_lt_of_le h3 hs,fun j u hu => (World.cell?_of_block (a := ⟨b,o + j,none⟩) (hk b h2 h3)).trans (h4 j u hu)⟩⟩
theorem RdP.nil (p : Nat → Prop) (w : World) (size : Nat) (A : Option Addr) : RdP p w size A 0 [] := ⟨by simp,fun h => absurd h (Nat.lt_irrefl _)⟩
theorem RdP.blk {p : Nat → Prop} {w : World} {size n g o : Nat} {t : TypeId} {cs xs : List Value} (h : Blk w g t cs) (hp : p g) (hl : xs.length = n * size) (hx : ∀ j u,xs[j]? = some u → cs[o + j]? = some u) : RdP p w size (some ⟨g,o,none⟩) n xs :=
 ⟨hl,fun _ => ⟨g,o,rfl,hp,h.lt,fun j u hu => by rw [h.cell];exact hx j u hu⟩⟩
structure NodR (p : Nat → Prop) (w : World) (x : NodA) (t : List Value) (A : Option Addr) (n c : Nat) (B : Option Addr) (m d : Nat) : Prop where
 ty : TyP p w x.ty t
 kids : RdP p w 3 A n (idsC x.kids)
 kle : n ≤ c
 kcap : c ≤ 9223372036854775807
 kfew : n ≤ 1000000
 nms : RdP p w 1 B m (x.names.map Value.string)
 nle : m ≤ d
 ncap : d ≤ 9223372036854775807
 nfew : m ≤ 1000000
theorem NodR.keep {p : Nat → Prop} {w w' : World} (hs : w.heap.size ≤ w'.heap.size) (hk : ∀ b,p b → b < w.heap.size → w'.heap[b]? = w.heap[b]?) {x : NodA} {t : List Value} {A : Option Addr} {n c : Nat} {B : Option Addr} {m d : Nat} (h : NodR p w x t A n c B m d) : NodR p w' x t A n c B m d :=
 ⟨h.ty.keep hs hk,h.kids.keep hs hk,h.kle,h.kcap,h.kfew,h.nms.keep hs hk,h.nle,h.ncap,h.nfew⟩
theorem NodR.nodS {p : Nat → Prop} {w : World} {x : NodA} {t : List Value} {A : Option Addr} {n c : Nat} {B : Option Addr} {m d : Nat} (h : NodR p w x t A n c B m d) : NodS w x t A n c B m d :=
 ⟨h.ty.tyV,h.kids.rdN,h.kle,h.kcap,h.kfew,⟨by have := h.nms.1;simpa using this,h.nms.rdN.2⟩,h.nle,h.ncap,h.nfew⟩
def NodP (p : Nat → Prop) (w : World) (x : NodA) (cs : List Value) : Prop := ∃ t A n c B m d,cs = nodC x t (.slice A n c) (.slice B m d) ∧ NodR p w x t A n c B m d
theorem NodP.keep {p : Nat → Prop} {w w' : World} (hs : w.heap.size ≤ w'.heap.size) (hk : ∀ b,p b → b < w.heap.size → w'.heap[b]? = w.heap[b]?) {x : NodA} {cs : List Value} (h : NodP p w x cs) : NodP p w' x cs := by
 obtain ⟨t,A,n,c,B,m,d,h1,h2⟩ := h
 exact ⟨t,A,n,c,B,m,d,h1,h2.keep hs hk⟩
theorem NodP.nodV {p : Nat → Prop} {w : World} {x : NodA} {cs : List Value} (h : NodP p w x cs) : NodV w x cs := by
 obtain ⟨t,A,n,c,B,m,d,h1,h2⟩ := h
 exact ⟨t,A,n,c,B,m,d,h1,h2.nodS⟩
end Go.Proofs.YtojcmcccahjphaaGreatDoor
