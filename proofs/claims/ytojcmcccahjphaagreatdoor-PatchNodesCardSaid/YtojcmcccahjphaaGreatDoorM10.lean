/- slices.IndexFunc and ContainsFunc with Standing's closures. Conditions: the slices can be read. -/
import Derived.Test.YtojcmcccahjphaaGreatDoorM7
set_option linter.unusedSimpArgs false
set_option linter.unusedVariables false
set_option maxHeartbeats 16000000
set_option maxRecDepth 100000
namespace Go.Proofs.YtojcmcccahjphaaGreatDoor
open Go.RowKit
open Lib (hid)
attribute [local go_sem ↓] wp_at_zero wp_at_succ
section
variable {α β : Type}
theorem flatK_len (f : α → List β) (K : Nat) : ∀ (L : List α),(∀ x ∈ L,(f x).length = K) → (L.flatMap f).length = L.length * K
 | [],_ => by simp
 | x :: L,h => by
  rw [List.flatMap_cons,List.length_append,h x (List.mem_cons_self ..),flatK_len f K L (fun y hy => h y (List.mem_cons_of_mem _ hy)),List.length_cons,Nat.succ_mul,Nat.add_comm]
theorem flatK_at (f : α → List β) (K : Nat) : ∀ (L : List α),(∀ x ∈ L,(f x).length = K) → ∀ (k : Nat) (x : α),L[k]? = some x → ∀ j,j < K → (L.flatMap f)[k * K + j]? = (f x)[j]?
 | [],_,_,_,h,_,_ => by simp at h
 | y :: L,hK,0,x,h,j,hj => by
  simp only [List.getElem?_cons_zero,Option.some.injEq] at h
  subst h
  rw [List.flatMap_cons,Nat.zero_mul,Nat.zero_add,List.getElem?_append_left (by rw [hK y (List.mem_cons_self ..)];exact hj)]
 | y :: L,hK,k + 1,x,h,j,hj => by
  simp only [List.getElem?_cons_succ] at h
  have hy := hK y (List.mem_cons_self ..)
  rw [List.flatMap_cons,List.getElem?_append_right (by rw [hy,Nat.succ_mul];omega),hy]
  have e : (k + 1) * K + j - K = k * K + j := by rw [Nat.succ_mul];omega
  rw [e]
  exact flatK_at f K L (fun z hz => hK z (List.mem_cons_of_mem _ hz)) k x h j hj
end
structure RX where
 r : Rev
 A : Option Addr
 n : Nat
 c : Nat
def rxC (x : RX) : List Value := revC x.r x.A x.n x.c
def RXV (w : World) (x : RX) : Prop := RevV w x.r x.A x.n x.c
theorem RXV.ext {w w' : World} {x : RX} (h : RXV w x) (hE : Ext w w') : RXV w' x := RevV.ext h hE
theorem RXV.len {w : World} {x : RX} (h : RXV w x) : (rxC x).length = 22 := revC_len _ _ _ _ h.mean
end Go.Proofs.YtojcmcccahjphaaGreatDoor
