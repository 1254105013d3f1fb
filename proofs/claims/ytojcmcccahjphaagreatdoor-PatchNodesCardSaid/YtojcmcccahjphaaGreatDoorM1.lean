/- General facts on worlds, blocks and slices, without any program: what the walks of this seat use. No condition. -/
import Derived.WalkKit
import Derived.WalkSpells
import Derived.WalkLawsBesides
import Derived.Lib.Hide
import Derived.BigQuiet
import Derived.Deep.QuietTactic
import Derived.Deep.Draws
import Derived.Maps.AppendAt
import Derived.Laws.IdiomStrings
import Derived.Lib.AppendStr
import Derived.Laws.CopyOwn
import Derived.Deep.MidRow
import Derived.Deep.DrawnRows
import Derived.Laws.AppendOwnNone
import Derived.Deep.AppendLies
import Derived.Deep.RegionLaw
set_option linter.unusedSimpArgs false
set_option linter.unusedVariables false
set_option maxHeartbeats 16000000
set_option maxRecDepth 100000
namespace Go.Proofs.YtojcmcccahjphaaGreatDoor
open Go.RowKit
open Lib (hid)
def Blk (w : World) (g : Nat) (t : TypeId) (cs : List Value) : Prop := w.heap[g]? = some (.cells cs.toArray t (0,0))
section
variable {w w' : World} {g : Nat} {t : TypeId} {cs : List Value} {B : Nat}
theorem Blk.lt (h : Blk w g t cs) : g < w.heap.size := by
 rcases Nat.lt_or_ge g w.heap.size with hlt | hge
 ·exact hlt
 ·unfold Blk at h;rw [Array.getElem?_eq_none hge] at h;cases h
theorem Blk.cell (h : Blk w g t cs) (i : Nat) : w.cell? ⟨g,i,none⟩ = cs[i]? := by
 have := cell_of_row w g i cs.toArray t (0,0) h
 simpa using this
theorem Blk.frozen (h : Blk w g t cs) (i : Nat) : w.frozen? ⟨g,i,none⟩ = false := frozen_of_row w g i cs.toArray t h
theorem Blk.fresh (w : World) (t : TypeId) (cs : List Value) : Blk (w.alloc (.cells cs.toArray t)) w.heap.size t cs := heap_alloc_new w _
theorem Blk.fresh' (w : World) (t : TypeId) (cs : List Value) (o : Obj) (n : Nat) (ho : o = .cells cs.toArray t) (hn : n = w.heap.size) : Blk (w.alloc o) n t cs := by
 subst ho hn
 exact heap_alloc_new w _
theorem Blk.drew (h : Blk w g t cs) : Blk w.drew g t cs := h
theorem Blk.drewN (h : Blk w g t cs) (n : Nat) : Blk (w.drewN n) g t cs := h
theorem Blk.alloc (h : Blk w g t cs) (o : Obj) : Blk (w.alloc o) g t cs := (Below.heap_alloc w o g h.lt).trans h
theorem Blk.set (h : Blk w g t cs) (i : Nat) (u : Value) : Blk (w.setCell ⟨g,i,none⟩ u) g t (cs.set i u) := by
 unfold Blk at h ⊢
 simp [World.setCell,Array.getElem?_modify,h]
theorem Blk.far (h : Blk w g t cs) {p : Addr} (hp : g ≠ p.block) (u : Value) : Blk (w.setCell p u) g t cs := (Below.heap_setCell w p u g hp).trans h
theorem Blk.below (h : Blk w g t cs) (hb : Below B w w') (hg : g < B) : Blk w' g t cs := (hb.block g hg).trans h
theorem Blk.grown {row : Option Nat} (h : Blk w g t cs) (hb : w.grownBy w' row) (hg : some g ≠ row) : Blk w' g t cs := (hb.block g h.lt hg).trans h
theorem Blk.setRow (h : Blk w g t cs) (ds : List Value) : Blk (w.setRow g ds.toArray) g t ds := setRow_heap w g _ _ t (0,0) h
end
def Tab (w : World) (g : Nat) (cs : List Value) : Prop := ∃ t fr,w.heap[g]? = some (.cells cs.toArray t fr)
section
variable {w w' : World} {g : Nat} {cs : List Value} {B : Nat}
theorem Tab.lt (h : Tab w g cs) : g < w.heap.size := by
 obtain ⟨t,fr,h⟩ := h
 rcases Nat.lt_or_ge g w.heap.size with hlt | hge
 ·exact hlt
 ·rw [Array.getElem?_eq_none hge] at h;cases h
theorem Tab.cell (h : Tab w g cs) (i : Nat) : w.cell? ⟨g,i,none⟩ = cs[i]? := by
 obtain ⟨t,fr,h⟩ := h
 have := cell_of_row w g i cs.toArray t fr h
 simpa using this
theorem Tab.drew (h : Tab w g cs) : Tab w.drew g cs := h
theorem Tab.alloc (h : Tab w g cs) (o : Obj) : Tab (w.alloc o) g cs := by
 have hl := h.lt
 obtain ⟨t,fr,h⟩ := h
 exact ⟨t,fr,(Below.heap_alloc w o g hl).trans h⟩
theorem Tab.below (h : Tab w g cs) (hb : Below B w w') (hg : g < B) : Tab w' g cs := by
 obtain ⟨t,fr,h⟩ := h
 exact ⟨t,fr,(hb.block g hg).trans h⟩
end
theorem below_drewN {B : Nat} {a w : World} (h : Below B a w) (n : Nat) : Below B a (w.drewN n) := ⟨h.os,h.tape,h.output,h.size,h.block⟩
theorem below_row {B g : Nat} {a w : World} (h : Below B a w) (hg : B ≤ g) (cs : Array Value) : Below B a (w.setRow g cs) :=
 ⟨h.os,h.tape,h.output,by simpa using h.size,fun k hk => (setRow_other w g k cs (by omega)).trans (h.block k hk)⟩
def Drew (w w' : World) : Prop := ∃ n,w' = w.drewN n
theorem Drew.refl (w : World) : Drew w w := ⟨0,rfl⟩
theorem Drew.mk (w : World) (n : Nat) : Drew w (w.drewN n) := ⟨n,rfl⟩
theorem Drew.drew {w w' : World} (h : Drew w w') : Drew w w'.drew := by obtain ⟨n,rfl⟩ := h;exact ⟨n + 1,rfl⟩
theorem Drew.trans {a b c : World} (h : Drew a b) (k : Drew b c) : Drew a c := by
 obtain ⟨n,rfl⟩ := h;obtain ⟨m,rfl⟩ := k;exact ⟨_,World.drewN_drewN _ _ _⟩
theorem Drew.cell {w w' : World} (h : Drew w w') (a : Addr) : w'.cell? a = w.cell? a := by obtain ⟨n,rfl⟩ := h;rfl
theorem Drew.frozen {w w' : World} (h : Drew w w') (a : Addr) : w'.frozen? a = w.frozen? a := by obtain ⟨n,rfl⟩ := h;rfl
theorem Drew.heap {w w' : World} (h : Drew w w') : w'.heap = w.heap := by obtain ⟨n,rfl⟩ := h;rfl
theorem Drew.blk {w w' : World} (h : Drew w w') {g : Nat} {t : TypeId} {cs : List Value} (hb : Blk w g t cs) : Blk w' g t cs := by obtain ⟨n,rfl⟩ := h;exact hb
theorem Drew.below {w w' : World} (h : Drew w w') (B : Nat) : Below B w w' := by obtain ⟨n,rfl⟩ := h;exact below_drewN (Below.refl _ _) n
end Go.Proofs.YtojcmcccahjphaaGreatDoor
/- Byte strings as lists of integers;slices that read as lists;the conversions between them. No condition. -/
namespace Go.Proofs.YtojcmcccahjphaaGreatDoor
open Go.RowKit
open Lib (hid)
def u8s (l : List Int) : List Value := l.map (Value.int .u8)
theorem u8s_get (l : List Int) (j : Nat) (h : j < l.length) : (u8s l)[j]? = some (.int .u8 (l.getD j 0)) := by
 simp [u8s,List.getElem?_map,List.getD_eq_getElem?_getD,List.getElem?_eq_getElem h]
theorem u8s_one (l : List Int) : ∀ u ∈ u8s l,u.oneCell' = true := ints_oneCell .u8 l
theorem u8s_append (a b : List Int) : u8s (a ++ b) = u8s a ++ u8s b := by simp [u8s]
theorem u8s_length (l : List Int) : (u8s l).length = l.length := by simp [u8s]
def Byt (l : List Int) : Prop := ∀ x ∈ l,0 ≤ x ∧ x ≤ 255
theorem Byt.at_ {l : List Int} (h : Byt l) (j : Nat) : 0 ≤ l.getD j 0 ∧ l.getD j 0 ≤ 255 := by
 rw [List.getD_eq_getElem?_getD]
 cases hj : l[j]? with
 | none => simp
 | some x => exact h x (List.mem_of_getElem? hj)
theorem Byt.nil : Byt [] := fun x hx => by cases hx
theorem Byt.app {a b : List Int} (ha : Byt a) (hb : Byt b) : Byt (a ++ b) := fun x hx => (List.mem_append.1 hx).elim (ha x) (hb x)
theorem Byt.one {x : Int} (h0 : 0 ≤ x) (h1 : x ≤ 255) : Byt [x] := fun y hy => by obtain rfl := List.mem_singleton.1 hy;exact ⟨h0,h1⟩
theorem Byt.take {a : List Int} (ha : Byt a) (n : Nat) : Byt (a.take n) := fun x hx => ha x (List.mem_of_mem_take hx)
theorem Byt.drop {a : List Int} (ha : Byt a) (n : Nat) : Byt (a.drop n) := fun x hx => ha x (List.mem_of_mem_drop hx)
theorem Byt.left {a b : List Int} (h : Byt (a ++ b)) : Byt a := fun x hx => h x (List.mem_append_left _ hx)
theorem Byt.right {a b : List Int} (h : Byt (a ++ b)) : Byt b := fun x hx => h x (List.mem_append_right _ hx)
def bys (s : ByteArray) : List Int := s.data.toList.map fun b => (b.toNat : Int)
def strOf (l : List Int) : ByteArray := ⟨(l.map fun n => UInt8.ofNat n.toNat).toArray⟩
theorem bys_byt (s : ByteArray) : Byt (bys s) := fun x hx => by
 obtain ⟨b,_,rfl⟩ := List.mem_map.1 hx
 have := b.toNat_lt
 omega
theorem bys_length (s : ByteArray) : (bys s).length = s.size := by
 unfold bys
 rw [List.length_map,Array.length_toList]
 rfl
theorem strOf_bys (s : ByteArray) : strOf (bys s) = s := by
 cases s with
 | mk d =>
  simp only [strOf,bys,List.map_map]
  congr 1
  have : (d.toList.map ((fun n : Int => UInt8.ofNat n.toNat) ∘ fun b : UInt8 => (b.toNat : Int))) = d.toList := by
   conv => rhs;rw [← List.map_id d.toList]
   exact List.map_congr_left fun b _ => by simp
  rw [this]
theorem bys_strOf (l : List Int) (h : Byt l) : bys (strOf l) = l := by
 simp only [bys,strOf,List.map_map]
 conv => rhs;rw [← List.map_id l]
 refine List.map_congr_left fun n hn => ?_
 have := h n hn
 simp only [Function.comp,id,UInt8.toNat_ofNat']
 omega
theorem strOf_size (l : List Int) : (strOf l).size = l.length := by simp [strOf,ByteArray.size]
def Rd (w : World) (B : Nat) (A : Option Addr) (n : Nat) (xs : List Value) : Prop :=
 xs.length = n ∧ (0 < n → ∃ b o,A = some ⟨b,o,none⟩ ∧ b < B ∧ ∀ j u,xs[j]? = some u → w.cell? ⟨b,o + j,none⟩ = some u)
section
variable {w w' : World} {B B' : Nat} {A : Option Addr} {n : Nat} {xs : List Value}
theorem Rd.keep (h : Rd w B A n xs) (hk : ∀ p : Addr,p.block < B → w'.cell? p = w.cell? p) : Rd w' B A n xs :=
 ⟨h.1,fun hn => by obtain ⟨b,o,hA,hb,hc⟩ := h.2 hn;exact ⟨b,o,hA,hb,fun j u hu => (hk ⟨b,o + j,none⟩ hb).trans (hc j u hu)⟩⟩
theorem Rd.more (h : Rd w B A n xs) (hB : B ≤ B') : Rd w B' A n xs :=
 ⟨h.1,fun hn => by obtain ⟨b,o,hA,hb,hc⟩ := h.2 hn;exact ⟨b,o,hA,by omega,hc⟩⟩
theorem Rd.below (h : Rd w B A n xs) (hb : Below B w w') : Rd w' B A n xs := h.keep fun _ hp => hb.cell hp
theorem Rd.below' {B2 : Nat} (h : Rd w B A n xs) (hb : Below B2 w w') (hB : B ≤ B2) : Rd w' B A n xs := h.below (hb.mono hB)
theorem Rd.drew (h : Rd w B A n xs) : Rd w.drew B A n xs := h
theorem Rd.drewN (h : Rd w B A n xs) (k : Nat) : Rd (w.drewN k) B A n xs := h
theorem Rd.alloc (h : Rd w B A n xs) (hB : B ≤ w.heap.size) (o : Obj) : Rd (w.alloc o) B A n xs := h.keep fun p hp => World.cell?_alloc_lt w o p (by omega)
theorem Rd.nil (w : World) (B : Nat) (A : Option Addr) : Rd w B A 0 [] := ⟨rfl,fun h => absurd h (by omega)⟩
theorem Rd.of_own {base : Nat} {e : TypeId} {c : Nat} (h : w.ownsRow base e 1 (.slice A n c) n xs) : Rd w w.heap.size A n xs := by
 refine ⟨by simpa using h.1,fun hn => ?_⟩
 rcases h.2 with ⟨hv,h0⟩ | ⟨g,cap,cur,hv,hg,hh,_⟩
 ·omega
 ·have hA : A = some ⟨g,0,none⟩ := by injection hv
  subst hA
  refine ⟨g,0,rfl,?_,fun j u hu => ?_⟩
  ·exact (h.lt g (by simp [Value.ownBlock])).2
  ·have := h.cells (g := g) (by simp [Value.ownBlock]) j u hu
   rw [Nat.zero_add]
   have e : (⟨g,0,none⟩ : Addr).add j = ⟨g,j,none⟩ := by unfold Addr.add;split <;> simp_all
   rwa [e] at this
theorem Rd.at_ (h : Rd w B A n xs) {j : Nat} (hj : j < n) : ∃ b o u,A = some ⟨b,o,none⟩ ∧ b < B ∧ xs[j]? = some u ∧ w.cell? ⟨b,o + j,none⟩ = some u := by
 obtain ⟨b,o,hA,hb,hc⟩ := h.2 (by omega)
 have hx : j < xs.length := by rw [h.1];exact hj
 exact ⟨b,o,xs[j],hA,hb,List.getElem?_eq_getElem hx,hc j _ (List.getElem?_eq_getElem hx)⟩
end
def laid (L : List Value) (off : Nat) (cs : List Value) : List Value := L.take off ++ cs ++ L.drop (off + cs.length)
theorem own_lit (W : World) (n base : Nat) (e : TypeId) (cs : List Value) (o : Obj) (k : Nat) (ho : o = .cells cs.toArray e) (hn : n = W.heap.size) (hb : base ≤ n) (hk : cs.length = k) (hm : k ≤ maxLen) :
  (W.alloc o).ownsRow base e 1 (.slice (some ⟨n,0,none⟩) k k) k cs := by
 subst ho hn hk
 have h := World.ownsRow_lit (base := base) (size := 1) (e := e) W cs.toArray cs.length hb hm (by simp)
 simpa using h
theorem run_toStr {P : Program} {src dst e : TypeId} (hs : P.underlying src = some (.slice e)) (he : P.underlying e = some (.int .u8)) (hd : P.underlying dst = some .string)
  {w : World} {B : Nat} {A : Option Addr} {n : Nat} {l : List Int} (h : Rd w B A n (u8s l)) (c : Nat) (hc : n = 0 → A = none ∨ ∃ a,A = some a) : (convert src dst (.slice A n c)).run P w = .ok (.string (strOf l)) w := by
 rw [run_convert_bytes_string w src dst e A n c hs he hd]
 have hl := h.1
 rcases Nat.eq_zero_or_pos n with h0 | h0
 ·subst h0
  have : l = [] := by simpa [u8s] using hl
  subst this
  rcases hc rfl with rfl | ⟨a,rfl⟩
  ·rfl
  ·rw [run_bytesToString w a 0 c [] (by simp [loadCells,loadCellsFrom])]
   rfl
 ·obtain ⟨b,o,rfl,_,hcell⟩ := h.2 h0
  have hadd : ∀ j,(⟨b,o,none⟩ : Addr).add j = ⟨b,o + j,none⟩ := fun j => by unfold Addr.add;split <;> simp_all
  have hll := run_loadCells_list (P := P) w ⟨b,o,none⟩ (l.map (Value.int .u8)) (fun j v hj => by rw [hadd];exact hcell j v hj)
  have hlen : (l.map (Value.int .u8)).length = n := hl
  rw [hlen] at hll
  rw [run_bytesToString w ⟨b,o,none⟩ n c l hll]
  have hf : ∀ (l : List Int) (r : ByteArray),l.foldl (fun r n => r.push (UInt8.ofNat n.toNat)) r = ⟨r.data ++ (l.map fun n => UInt8.ofNat n.toNat).toArray⟩ := by
   intro l
   induction l with
   | nil => intro r;simp
   | cons x l ih => intro r;simp only [List.foldl_cons];rw [ih];simp [ByteArray.push]
  rw [hf]
  have he2 : ByteArray.empty.data = #[] := rfl
  rw [he2,Array.empty_append]
  rfl
end Go.Proofs.YtojcmcccahjphaaGreatDoor
/- Whole rows stored and loaded at once,inside regions that draw their order too. No condition. -/
namespace Go.Proofs.YtojcmcccahjphaaGreatDoor
open Go.RowKit
open Lib (hid)
theorem Blk.there {w : World} {g : Nat} {t : TypeId} {cs : List Value} (h : Blk w g t cs) (o n : Nat) (hn : o + n ≤ cs.length) : w.there g o n := fun j hj => by
 refine ⟨?_,h.frozen _⟩
 rw [h.cell,List.getElem?_eq_getElem (by omega)]
 rfl
theorem Blk.range {w : World} {g : Nat} {t : TypeId} {cs : List Value} (h : Blk w g t cs) : w.rangeAt g 0 cs := fun j v hv => by
 rw [h.cell,Nat.zero_add];exact hv
end Go.Proofs.YtojcmcccahjphaaGreatDoor
/- append to a slice of the call's own: the source a slice that reads as a list (nil too),or a string. No condition. -/
namespace Go.Proofs.YtojcmcccahjphaaGreatDoor
open Go.RowKit
open Lib (hid)
def RdN (w : World) (B : Nat) (size : Nat) (A : Option Addr) (n : Nat) (xs : List Value) : Prop :=
 xs.length = n * size ∧ (0 < n → ∃ b o,A = some ⟨b,o,none⟩ ∧ b < B ∧ ∀ j u,xs[j]? = some u → w.cell? ⟨b,o + j,none⟩ = some u)
theorem RdN.of_Rd {w : World} {B : Nat} {A : Option Addr} {n : Nat} {xs : List Value} (h : Rd w B A n xs) : RdN w B 1 A n xs := ⟨by rw [h.1];omega,h.2⟩
section
variable {w w' : World} {B B' size : Nat} {A : Option Addr} {n : Nat} {xs : List Value}
theorem RdN.keep (h : RdN w B size A n xs) (hk : ∀ p : Addr,p.block < B → w'.cell? p = w.cell? p) : RdN w' B size A n xs :=
 ⟨h.1,fun hn => by obtain ⟨b,o,hA,hb,hc⟩ := h.2 hn;exact ⟨b,o,hA,hb,fun j u hu => (hk ⟨b,o + j,none⟩ hb).trans (hc j u hu)⟩⟩
theorem RdN.more (h : RdN w B size A n xs) (hB : B ≤ B') : RdN w B' size A n xs :=
 ⟨h.1,fun hn => by obtain ⟨b,o,hA,hb,hc⟩ := h.2 hn;exact ⟨b,o,hA,by omega,hc⟩⟩
theorem RdN.below {B2 : Nat} (h : RdN w B size A n xs) (hb : Below B2 w w') (hB : B ≤ B2) : RdN w' B size A n xs := h.keep fun _ hp => (hb.mono hB).cell hp
end
section
variable {P : Program} {w : World}
theorem run_app (base : Nat) (t ty e : TypeId) (i : TypeInfo) (z : Value) (size bytes : Nat) (ht : P.underlying t = some (.slice e)) (hi : P.info? e = some i) (hz : i.zero = some z)
  (hsize : i.size = size) (hby : i.bytes = bytes) (hzs : z.cells.size = size) (hsz : 0 < size)
  (A : Option Addr) (n c : Nat) (xs : List Value) (hown : w.ownsRow base e size (.slice A n c) n xs)
  (B : Nat) (Ad : Option Addr) (m cd : Nat) (news : List Value) (hr : RdN w B size Ad m news) (h1 : ∀ u ∈ news,u.oneCell' = true)
  (h63 : n + m ≤ maxLen) (hbytes : (n + m) * bytes ≤ 140737488355328) (hbase : base ≤ w.heap.size) :
  ∃ A' c' w',(Builtin.append_ #[t,t] ty #[.slice A n c,.slice Ad m cd]).run P w = .ok (.slice A' (n + m) c') w' ∧ w'.ownsRow base e size (.slice A' (n + m) c') (n + m) (xs ++ news) ∧ w.grownBy w' (Value.slice A n c).ownBlock := by
 have shape : ∀ (v' : Value) (w' : World),w'.ownsRow base e size v' (n + m) (xs ++ news) → ∃ A' c',v' = Value.slice A' (n + m) c' := by
  intro v' w' h
  rcases h.2 with ⟨rfl,h0⟩ | ⟨g,cap,cur,rfl,_⟩
  ·exact ⟨none,0,by rw [h0]⟩
  ·exact ⟨_,_,rfl⟩
 rcases Nat.eq_zero_or_pos m with h0 | h0
 ·subst h0
  have hn : news = [] := List.eq_nil_of_length_eq_zero (by simpa using hr.1)
  subst hn
  rcases Ad with _ | ad
  ·rcases hown.2 with ⟨hv,hn0⟩ | ⟨g,cap,cur,hv,_,_,hnc,_⟩
   ·injection hv with h1 h2 h3
    subst h1 h3 hn0
    exact ⟨none,0,w,by simp [Builtin.append_,run_underlying ht,sizeOf,typeInfo,hi,Builtin.lenOf,Builtin.firstCells],by simpa using hown,World.grownBy.refl w _⟩
   ·injection hv with h1 h2 h3
    subst h1 h3
    exact ⟨some ⟨g,0,none⟩,c,w,by simp [Builtin.append_,run_underlying ht,sizeOf,typeInfo,hi,Builtin.lenOf,Builtin.firstCells,hnc,storeCells],by simpa using hown,World.grownBy.refl w _⟩
  ·obtain ⟨v',w',hrun,h2,h3,_⟩ := run_append_own (P := P) w base t ty e i z size bytes ht hi hz hsize hby hzs hsz _ n xs hown ad 0 cd [] hr.1 (fun j u hu => by simp at hu) h1 h63 hbytes hbase
   obtain ⟨A',c',rfl⟩ := shape v' w' h2
   exact ⟨A',c',w',hrun,h2,h3⟩
 ·obtain ⟨b,o,rfl,_,hc⟩ := hr.2 h0
  obtain ⟨v',w',hrun,h2,h3,_⟩ := run_append_own (P := P) w base t ty e i z size bytes ht hi hz hsize hby hzs hsz _ n xs hown ⟨b,o,none⟩ m cd news hr.1 (fun j u hu => by rw [Addr.add_mid];exact hc j u hu) h1 h63 hbytes hbase
  obtain ⟨A',c',rfl⟩ := shape v' w' h2
  exact ⟨A',c',w',hrun,h2,h3⟩
theorem wp_app {o : Oper} {a : Act} {K : Act → World → Prop} {Q : Exit → Act → World → Prop} (s x : Operand) (t : TypeId)
  (ho : o.op = .call { callee := .builtin .append,args := #[s,x],argTypes := #[t,t] })
  (base : Nat) (e : TypeId) (i : TypeInfo) (z : Value) (size bytes : Nat) (ht : P.underlying t = some (.slice e)) (hi : P.info? e = some i) (hz : i.zero = some z)
  (hsize : i.size = size) (hby : i.bytes = bytes) (hzs : z.cells.size = size) (hsz : 0 < size)
  (A : Option Addr) (n c : Nat) (xs : List Value) (hs : a.eval s = .slice A n c) (hown : w.ownsRow base e size (.slice A n c) n xs)
  (B : Nat) (Ad : Option Addr) (m cd : Nat) (news : List Value) (hx : a.eval x = .slice Ad m cd) (hr : RdN w B size Ad m news) (h1 : ∀ u ∈ news,u.oneCell' = true)
  (h63 : n + m ≤ maxLen) (hbytes : (n + m) * bytes ≤ 140737488355328) (hbase : base ≤ w.heap.size)
  (h : ∀ A' c' w',w'.ownsRow base e size (.slice A' (n + m) c') (n + m) (xs ++ news) → w.grownBy w' (Value.slice A n c).ownBlock → K (a.put o.dst (.slice A' (n + m) c')) w') : o.wp P a w K Q := by
 obtain ⟨A',c',w',hrun,h2,h3⟩ := run_app (P := P) base t o.type e i z size bytes ht hi hz hsize hby hzs hsz A n c xs hown B Ad m cd news hr h1 h63 hbytes hbase
 unfold Oper.wp execOp
 simp only [ho,resolve,invoke,builtin,Sem.run_bind,Sem.run_pure,Result.andThen_ok,List.map_toArray,List.map_cons,List.map_nil,hs,hx,hrun]
 exact h A' c' w' h2 h3
theorem wpList_app {ops : Array Oper} {rest : List Oper} {o : Oper} {a : Act} {Q : Exit → Act → World → Prop} (hgd : o.guard = none) (s x : Operand) (t : TypeId)
  (ho : o.op = .call { callee := .builtin .append,args := #[s,x],argTypes := #[t,t] })
  (base : Nat) (e : TypeId) (i : TypeInfo) (z : Value) (size bytes : Nat) (ht : P.underlying t = some (.slice e)) (hi : P.info? e = some i) (hz : i.zero = some z)
  (hsize : i.size = size) (hby : i.bytes = bytes) (hzs : z.cells.size = size) (hsz : 0 < size)
  (A : Option Addr) (n c : Nat) (xs : List Value) (hs : a.eval s = .slice A n c) (hown : w.ownsRow base e size (.slice A n c) n xs)
  (B : Nat) (Ad : Option Addr) (m cd : Nat) (news : List Value) (hx : a.eval x = .slice Ad m cd) (hr : RdN w B size Ad m news) (h1 : ∀ u ∈ news,u.oneCell' = true)
  (h63 : n + m ≤ maxLen) (hbytes : (n + m) * bytes ≤ 140737488355328) (hbase : base ≤ w.heap.size)
  (h : ∀ A' c' w',w'.ownsRow base e size (.slice A' (n + m) c') (n + m) (xs ++ news) → w.grownBy w' (Value.slice A n c).ownBlock → wpList P ops Q rest (a.put o.dst (.slice A' (n + m) c')) w') : wpList P ops Q (o :: rest) a w :=
 wpList_plain hgd fun _ hK => wp_app s x t ho base e i z size bytes ht hi hz hsize hby hzs hsz A n c xs hs hown B Ad m cd news hx hr h1 h63 hbytes hbase fun A' c' w' h2 h3 => hK _ _ (h A' c' w' h2 h3)
theorem below_app {B base : Nat} {w0 w w' : World} {e : TypeId} {size n c : Nat} {A : Option Addr} {xs : List Value} (hb : Below B w0 w) (hg : w.grownBy w' (Value.slice A n c).ownBlock)
  (ho : w.ownsRow base e size (.slice A n c) n xs) (hB : B ≤ base) (hw : base ≤ w.heap.size) : Below B w0 w' :=
 hb.grown hg (by omega) (fun k hk => by have := (ho.lt k hk).1;omega)
theorem RdN.fresh {W : World} {e : TypeId} (cs : List Value) (o : Obj) (n size k : Nat) (ho : o = .cells cs.toArray e) (hn : n = W.heap.size) (hk : cs.length = k * size) : RdN (W.alloc o) (n + 1) size (some ⟨n,0,none⟩) k cs := by
 refine ⟨hk,fun _ => ⟨n,0,rfl,by omega,fun j u hu => ?_⟩⟩
 rw [(Blk.fresh' W e cs o n ho hn).cell,Nat.zero_add];exact hu
end
end Go.Proofs.YtojcmcccahjphaaGreatDoor
/- The encoding of an integer as a list of bytes. No condition. -/
namespace Go.Proofs.YtojcmcccahjphaaGreatDoor
open Go.RowKit
open Lib (hid)
def blenF : Nat → Nat → Nat
 | 0,_ => 0
 | f + 1,m => if m = 0 then 0 else blenF f (m / 256) + 1
def blen (m : Nat) : Nat := blenF 9 m
theorem blenF_spec : ∀ (f m : Nat),m < 256 ^ f → m < 256 ^ blenF f m ∧ (blenF f m = 0 ∨ 256 ^ (blenF f m - 1) ≤ m)
 | 0,m,h => ⟨h,Or.inl rfl⟩
 | f + 1,m,h => by
  unfold blenF
  by_cases h0 : m = 0
  ·simp [h0]
  ·rw [if_neg h0]
   have hd : m / 256 < 256 ^ f := by
    rw [Nat.div_lt_iff_lt_mul (by decide)]
    rw [Nat.pow_succ] at h
    exact h
   obtain ⟨h1,h2⟩ := blenF_spec f (m / 256) hd
   refine ⟨?_,Or.inr ?_⟩
   ·rw [Nat.pow_succ]
    have := Nat.lt_mul_of_div_lt h1 (by decide)
    omega
   ·rw [Nat.add_sub_cancel]
    rcases h2 with h2 | h2
    ·rw [h2];simp;omega
    ·rcases Nat.eq_zero_or_pos (blenF f (m / 256)) with hz | hz
     ·rw [hz];simp;omega
     ·obtain ⟨b,hb⟩ : ∃ b,blenF f (m / 256) = b + 1 := ⟨_,(Nat.sub_add_cancel hz).symm⟩
      rw [hb,Nat.add_sub_cancel] at h2
      rw [hb,Nat.pow_succ]
      have := Nat.mul_le_of_le_div 256 _ _ h2
      exact this
theorem blen_spec (m : Nat) (h : m < 256 ^ 9) : m < 256 ^ blen m ∧ (blen m = 0 ∨ 256 ^ (blen m - 1) ≤ m) := blenF_spec 9 m h
theorem blen_unique (m k : Nat) (h : m < 256 ^ 9) (h1 : m < 256 ^ k) (h2 : k = 0 ∨ 256 ^ (k - 1) ≤ m) : k = blen m := by
 obtain ⟨h3,h4⟩ := blen_spec m h
 rcases Nat.lt_trichotomy k (blen m) with hlt | he | hgt
 ·rcases h4 with h4 | h4
  ·omega
  ·have : 256 ^ k ≤ 256 ^ (blen m - 1) := Nat.pow_le_pow_right (by decide) (by omega)
   omega
 ·exact he
 ·rcases h2 with h2 | h2
  ·omega
  ·have : 256 ^ blen m ≤ 256 ^ (k - 1) := Nat.pow_le_pow_right (by decide) (by omega)
   omega
theorem blen_le (m : Nat) (h : m < 256 ^ 8) : blen m ≤ 8 := by
 obtain ⟨_,h4⟩ := blen_spec m (Nat.lt_trans h (by decide))
 rcases h4 with h4 | h4
 ·omega
 ·rcases Nat.lt_or_ge 8 (blen m) with hh | hh
  ·have : 256 ^ 8 ≤ 256 ^ (blen m - 1) := Nat.pow_le_pow_right (by decide) (by omega)
   omega
  ·exact hh
def mag (n : Int) : Nat := if n < 0 then (-1 - n).toNat else n.toNat
theorem mag_lt (n : Int) (h0 : -9223372036854775808 ≤ n) (h1 : n ≤ 9223372036854775807) : mag n < 9223372036854775808 := by unfold mag;split <;> omega
theorem mag_lt8 (n : Int) (h0 : -9223372036854775808 ≤ n) (h1 : n ≤ 9223372036854775807) : mag n < 256 ^ 8 := Nat.lt_trans (mag_lt n h0 h1) (by decide)
def flipB (n x : Int) : Int := if n < 0 then 255 - x else x
def flipV (n : Int) : Int := if n < 0 then 255 else 0
def digit (m i : Nat) : Int := ((m / 256 ^ i % 256 : Nat) : Int)
def headB (n : Int) : Int := flipB n (128 + (blen (mag n) : Int))
def tailTo (n : Int) (k j : Nat) : List Int := (List.range j).map fun i => flipB n (digit (mag n) (k - 1 - i))
def encInt (n : Int) : List Int := headB n :: tailTo n (blen (mag n)) (blen (mag n))
theorem tailTo_length (n : Int) (k j : Nat) : (tailTo n k j).length = j := by simp [tailTo]
theorem encInt_length (n : Int) : (encInt n).length = blen (mag n) + 1 := by simp [encInt,tailTo_length]
theorem tailTo_succ (n : Int) (k j : Nat) : tailTo n k (j + 1) = tailTo n k j ++ [flipB n (digit (mag n) (k - 1 - j))] := by
 simp [tailTo,List.range_succ]
theorem flipB_byt (n x : Int) (h0 : 0 ≤ x) (h1 : x ≤ 255) : 0 ≤ flipB n x ∧ flipB n x ≤ 255 := by unfold flipB;split <;> omega
theorem digit_bd (m i : Nat) : 0 ≤ digit m i ∧ digit m i ≤ 255 := by
 unfold digit
 have := Nat.mod_lt (m / 256 ^ i) (show 0 < 256 by decide)
 omega
theorem encInt_byt (n : Int) (h0 : -9223372036854775808 ≤ n) (h1 : n ≤ 9223372036854775807) : Byt (encInt n) := by
 intro x hx
 rcases List.mem_cons.1 hx with rfl | hx
 ·have := blen_le (mag n) (mag_lt8 n h0 h1)
  exact flipB_byt n _ (by omega) (by omega)
 ·obtain ⟨i,_,rfl⟩ := List.mem_map.1 hx
  exact flipB_byt n _ (digit_bd _ _).1 (digit_bd _ _).2
theorem xor_flip (n x : Int) (h0 : 0 ≤ x) (h1 : x ≤ 255) : bits .xor .u8 x (flipV n) = flipB n x := by
 obtain ⟨a,rfl⟩ := Int.eq_ofNat_of_zero_le h0
 have ha : a < 256 := by omega
 unfold flipV flipB
 split
 ·have := (by decide +kernel : ∀ a : Fin 256,bits .xor .u8 (a.val : Int) 255 = 255 - (a.val : Int)) ⟨a,ha⟩
  exact this
 ·have := (by decide +kernel : ∀ a : Fin 256,bits .xor .u8 (a.val : Int) 0 = (a.val : Int)) ⟨a,ha⟩
  exact this
theorem not_u64 (n : Int) (h0 : -9223372036854775808 ≤ n) (h : n < 0) : bits .xor .u64 IntKind.u64.max (IntKind.u64.wrap n) = (mag n : Int) := by
 have hw : IntKind.u64.wrap n = n + 18446744073709551616 := by
  simp [IntKind.wrap,IntKind.bits,IntKind.signed];omega
 rw [hw]
 obtain ⟨a,ha⟩ := Int.eq_ofNat_of_zero_le (show 0 ≤ n + 18446744073709551616 by omega)
 rw [ha]
 show IntKind.u64.wrap ((BitVec.ofInt 64 IntKind.u64.max ^^^ BitVec.ofInt 64 (a : Int)).toNat : Int) = _
 have hm : BitVec.ofInt 64 IntKind.u64.max = BitVec.allOnes 64 := by decide
 have hx : (BitVec.ofInt 64 (a : Int)).toNat = a := ofInt_u64 a (by omega)
 rw [hm,← BitVec.not_def,BitVec.toNat_not,hx]
 rw [IntWalk.u64_in _ (by omega)]
 unfold mag
 rw [if_pos h]
 omega
theorem pow_cast (i : Nat) : (2 : Int) ^ (8 * i) = ((256 ^ i : Nat) : Int) := by
 have : (2 : Nat) ^ (8 * i) = 256 ^ i := by rw [Nat.pow_mul]
 rw [← this]
 simp
theorem shr_cast (m i : Nat) : (m : Int) / 2 ^ (8 * i) = ((m / 256 ^ i : Nat) : Int) := by
 rw [pow_cast]
 rfl
theorem shr_digit (m i : Nat) : ((m : Int) / 2 ^ (8 * i)) % 256 = digit m i := by
 unfold digit
 rw [shr_cast]
 rfl
end Go.Proofs.YtojcmcccahjphaaGreatDoor
/- Worlds that extend another one: nothing that was there has changed. No condition. -/
namespace Go.Proofs.YtojcmcccahjphaaGreatDoor
open Go.RowKit
open Lib (hid)
abbrev Ext (a w : World) : Prop := Below a.heap.size a w
theorem Ext.refl (a : World) : Ext a a := Below.refl _ _
theorem Ext.next {a w w' : World} (h : Ext a w) (hb : Below w.heap.size w w') : Ext a w' := Below.trans h (Below.mono hb (Below.size h))
theorem Ext.alloc {a w : World} (h : Ext a w) (o : Obj) : Ext a (w.alloc o) := Below.alloc h (Below.size h) o
theorem Ext.drew {a w : World} (h : Ext a w) : Ext a w.drew := Below.drew h
theorem Ext.setRow {a w : World} (h : Ext a w) {g : Nat} (hg : a.heap.size ≤ g) (cs : Array Value) : Ext a (w.setRow g cs) := below_row h hg cs
theorem Blk.ext {a w : World} {g : Nat} {t : TypeId} {cs : List Value} (hb : Blk a g t cs) (h : Ext a w) : Blk w g t cs := Blk.below hb h hb.lt
theorem Rd.ext {a w : World} {A : Option Addr} {n : Nat} {xs : List Value} (hb : Rd a a.heap.size A n xs) (h : Ext a w) : Rd w a.heap.size A n xs := hb.below h
theorem Rd.ext' {a w : World} {A : Option Addr} {n : Nat} {xs : List Value} (hb : Rd a a.heap.size A n xs) (h : Ext a w) : Rd w w.heap.size A n xs := (hb.below h).more h.size
theorem Blk.one {w : World} {g : Nat} {t : TypeId} {v : Value} (hb : Blk w g t [v]) : w.cell? ⟨g,0,none⟩ = some v := hb.cell 0
theorem Blk.rd {w : World} {g : Nat} {t : TypeId} {cs : List Value} (hb : Blk w g t cs) {n : Nat} (hn : cs.length = n) : Rd w w.heap.size (some ⟨g,0,none⟩) n cs :=
 ⟨hn,fun _ => ⟨g,0,rfl,hb.lt,fun j u hu => by rw [hb.cell,Nat.zero_add];exact hu⟩⟩
theorem Rd.fresh_fr (w : World) (C : Array Value) (t : TypeId) (fr : Nat × Nat) (cs : List Value) (n : Nat) (hC : C.toList = cs) (hn : cs.length = n) : Rd (w.alloc (.cells C t fr)) (w.alloc (.cells C t fr)).heap.size (some ⟨w.heap.size,0,none⟩) n cs :=
 ⟨hn,fun _ => ⟨w.heap.size,0,rfl,by simp,fun j u hu => by
  rw [cell_of_row _ _ _ C t fr (heap_alloc_new w _),Nat.zero_add,← hu,← hC,Array.getElem?_toList]⟩⟩
theorem Rd.slice {w : World} {B b o n : Nat} {xs : List Value} (h : Rd w B (some ⟨b,o,none⟩) n xs) (k m : Nat) (hk : k + m ≤ n) : Rd w B (some ⟨b,o + k,none⟩) m ((xs.drop k).take m) := by
 refine ⟨by rw [List.length_take,List.length_drop,h.1];omega,fun hm => ?_⟩
 obtain ⟨b',o',hA,hb,hc⟩ := h.2 (by omega)
 simp only [Option.some.injEq,Addr.mk.injEq,and_true] at hA
 obtain ⟨rfl,rfl⟩ := hA
 refine ⟨b,o + k,rfl,hb,fun j u hu => ?_⟩
 have hj : j < m := by
  have := (List.getElem?_eq_some_iff.1 hu).1
  rw [List.length_take] at this;omega
 rw [List.getElem?_take,if_pos hj,List.getElem?_drop] at hu
 rw [Nat.add_assoc]
 exact hc _ _ hu
theorem Ext.drewN {a w : World} (h : Ext a w) (n : Nat) : Ext a (w.drewN n) := below_drewN h n
section
variable {P : Program} {ops : Array Oper} {rest : List Oper} {o : Oper} {a : Act} {w : World} {Q : Exit → Act → World → Prop}
theorem all_one {U : List Value} (h1 : ∀ v ∈ U,v.oneCell' = true) : U.toArray.all (·.oneCell') = true := Array.all_eq_true'.2 (fun v hv => h1 v (by simpa using hv))
theorem wpList_store_blk (hgd : o.guard = none) (ty : TypeId) (x y : Operand) (ho : o.op = Op.store ty x y) (g : Nat) (U : List Value) (hx : a.eval x = .pointer (some ⟨g,0,none⟩)) (hy : a.eval y = .agg U.toArray)
  {t : TypeId} {Z : List Value} (hb : Blk w g t Z) (hi : (P.info? ty).map (·.size) = some U.length) (hl : Z.length = U.length) (h1 : ∀ v ∈ U,v.oneCell' = true)
  (h : ∀ w2,Hid (w2 = w.setRow g U.toArray) → Blk w2 g t U → wpList P ops Q rest (a.put o.dst undef) w2) : wpList P ops Q (o :: rest) a w :=
 wpList_store_row hgd ty x y ho g U.toArray hx hy t Z.toArray hb (by rw [hi,List.size_toArray]) (by simpa using hl) (all_one h1) (h _ (hid rfl) (hb.setRow U))
theorem wpList_store_fresh (hgd : o.guard = none) (ty : TypeId) (x y : Operand) (ho : o.op = Op.store ty x y) (ob : Obj) (g : Nat) (hg : g = w.heap.size) (Z U : List Value) (t : TypeId) (hx : a.eval x = .pointer (some ⟨g,0,none⟩)) (hy : a.eval y = .agg U.toArray)
  (hob : ob = .cells Z.toArray t) (hi : (P.info? ty).map (·.size) = some U.length) (hl : Z.length = U.length) (h1 : ∀ v ∈ U,v.oneCell' = true)
  (h : ∀ w2,Blk w2 g t U → Ext w w2 → w.heap.size < w2.heap.size → wpList P ops Q rest (a.put o.dst undef) w2) : wpList P ops Q (o :: rest) a (w.alloc ob) := by
 subst hg hob
 have hb := Blk.fresh w t Z
 have he : Ext w ((w.alloc (.cells Z.toArray t)).setRow w.heap.size U.toArray) := ((Ext.refl w).alloc _).setRow (Nat.le_refl _) _
 exact wpList_store_row hgd ty x y ho w.heap.size U.toArray hx hy t Z.toArray hb (by rw [hi,List.size_toArray]) (by simpa using hl) (all_one h1) (h _ (hb.setRow U) he (hb.setRow U).lt)
theorem wpList_load_blk (hgd : o.guard = none) (ty : TypeId) (x : Operand) (ho : o.op = Op.load ty x) (g : Nat) (hx : a.eval x = .pointer (some ⟨g,0,none⟩)) {t : TypeId} {cs : List Value} (hb : Blk w g t cs) {d : TypeDesc} (hu : P.underlying ty = some d)
  (hd : d.isRow = true) (hi : (P.info? ty).map (·.size) = some cs.length) (h : wpList P ops Q rest (a.put o.dst (.agg cs.toArray)) w) : wpList P ops Q (o :: rest) a w :=
 wpList_load_mid hgd ty x ho g 0 hx cs d hb.range hu hd hi h
end
theorem wpList_load_want {P : Program} {ops : Array Oper} {rest : List Oper} {o : Oper} {a : Act} {w : World} {Q : Exit → Act → World → Prop} (hw : Region.wanted o (yielded ops a.tmps) = true) (ty : TypeId) (x : Operand) (ho : o.op = Op.load ty x) (g : Nat)
  (hx : a.eval x = .pointer (some ⟨g,0,none⟩)) {t : TypeId} {cs : List Value} (hb : Blk w g t cs) {d : TypeDesc} (hu : P.underlying ty = some d) (hd : d.isRow = true) (hi : (P.info? ty).map (·.size) = some cs.length)
  (h : wpList P ops Q rest (a.put o.dst (.agg cs.toArray)) w) : wpList P ops Q (o :: rest) a w :=
 BigFrame.wpList_want hw fun _ hK => wp_load_mid ty x ho g 0 hx cs d hb.range hu hd hi (hK _ _ h)
theorem results_blk {P : Program} {fn : Func} {p : Tmp} {ty : TypeId} (h : fn.results = #[ResultVar.cell p ty]) (tmps : Array Value) (w : World) (g : Nat) (t : TypeId) (cs : List Value) (d : TypeDesc) (hp : tmps.getD p undef = .pointer (some ⟨g,0,none⟩))
  (hb : Blk w g t cs) (hu : P.underlying ty = some d) (hd : d.isRow = true) (hi : (P.info? ty).map (·.size) = some cs.length) : (results fn tmps).run P w = .ok (.agg cs.toArray) w :=
 results_cell_row h tmps w g t cs.toArray (0,0) d hp hb hu (by cases d <;> first | rfl | cases hd) (by rw [hi,List.size_toArray])
end Go.Proofs.YtojcmcccahjphaaGreatDoor
/- Decoding an integer,in plain lists: what GetInt answers. No condition. -/
namespace Go.Proofs.YtojcmcccahjphaaGreatDoor
open Go.RowKit
open Lib (hid)
def flB (neg : Bool) (x : Int) : Int := if neg then 255 - x else x
def ngB (l : List Int) : Bool := decide (l.getD 0 0 < 128)
def cntB (l : List Int) : Nat := (flB (ngB l) (l.getD 0 0) - 128).toNat
def valB (l : List Int) : Nat → Nat
 | 0 => 0
 | j + 1 => 256 * valB l j + (flB (ngB l) (l.getD (j + 1) 0)).toNat
def numB (l : List Int) : Int := if ngB l then -1 - (valB l (cntB l) : Int) else (valB l (cntB l) : Int)
def getI (l : List Int) : Int × Int × Int :=
 if l.length = 0 then (0,0,3)
 else if 8 < cntB l then (0,0,2)
 else if l.length ≤ cntB l then (0,0,3)
 else if 0 < cntB l ∧ flB (ngB l) (l.getD 1 0) = 0 then (0,0,2)
 else if 9223372036854775808 ≤ valB l (cntB l) then (0,0,2)
 else (numB l,(cntB l : Int) + 1,0)
theorem flB_bd (neg : Bool) (x : Int) (h0 : 0 ≤ x) (h1 : x ≤ 255) : 0 ≤ flB neg x ∧ flB neg x ≤ 255 := by unfold flB;split <;> omega
theorem valB_lt (l : List Int) (h : Byt l) : ∀ j,valB l j < 256 ^ j
 | 0 => by simp [valB]
 | j + 1 => by
  have ih := valB_lt l h j
  have hb := h.at_ (j + 1)
  have := flB_bd (ngB l) _ hb.1 hb.2
  unfold valB
  rw [Nat.pow_succ]
  omega
theorem head_flB (l : List Int) (h : Byt l) : flB (ngB l) (l.getD 0 0) = 128 + (cntB l : Int) ∧ cntB l ≤ 127 := by
 have hb := h.at_ 0
 unfold cntB flB ngB
 by_cases hx : l.getD 0 0 < 128
 ·simp only [hx,decide_true,if_true];omega
 ·simp only [hx,decide_false,Bool.false_eq_true,if_false];omega
theorem xor_flB (l : List Int) (x : Int) (h0 : 0 ≤ x) (h1 : x ≤ 255) : bits .xor .u8 x (if ngB l then 255 else 0) = flB (ngB l) x := by
 have := xor_flip (if ngB l then -1 else 0) x h0 h1
 unfold flipV flipB at this
 unfold flB
 cases hn : ngB l <;> simpa [hn] using this
theorem u64_or_nat (a b : Nat) (ha : a < 18446744073709551616) (hb : b < 18446744073709551616) : bits .or .u64 (a : Int) (b : Int) = ((a ||| b : Nat) : Int) := by
 show IntKind.u64.wrap ((BitVec.ofInt 64 (a : Int) ||| BitVec.ofInt 64 (b : Int)).toNat : Int) = _
 rw [BitVec.toNat_or,ofInt_u64 a ha,ofInt_u64 b hb]
 have : a ||| b < 2 ^ 64 := Nat.or_lt_two_pow (by omega) (by omega)
 rw [IntWalk.u64_in _ (by omega)]
theorem or_join64 (a b : Nat) (ha : a < 72057594037927936) (hb : b ≤ 255) : bits .or .u64 (256 * (a : Int)) (b : Int) = ((256 * a + b : Nat) : Int) := by
 have e : (256 * (a : Int)) = ((256 * a : Nat) : Int) := by omega
 rw [e,u64_or_nat _ _ (by omega) (by omega)]
 congr 1
 have : 256 * a = a <<< 8 := by rw [Nat.shiftLeft_eq];omega
 rw [this,← Nat.shiftLeft_add_eq_or_of_lt (by omega : b < 2 ^ 8)]
theorem not_u64_nat (m : Nat) (h : m < 9223372036854775808) : wrap64 (bits .xor .u64 IntKind.u64.max (m : Int)) = -1 - (m : Int) := by
 have hm : BitVec.ofInt 64 IntKind.u64.max = BitVec.allOnes 64 := by decide
 have hx : (BitVec.ofInt 64 (m : Int)).toNat = m := ofInt_u64 m (by omega)
 have e : bits .xor .u64 IntKind.u64.max (m : Int) = 18446744073709551615 - (m : Int) := by
  show IntKind.u64.wrap ((BitVec.ofInt 64 IntKind.u64.max ^^^ BitVec.ofInt 64 (m : Int)).toNat : Int) = _
  rw [hm,← BitVec.not_def,BitVec.toNat_not,hx]
  rw [IntWalk.u64_in _ (by omega)]
  omega
 rw [e]
 unfold wrap64
 omega
end Go.Proofs.YtojcmcccahjphaaGreatDoor
/- Decoding an integer,in plain lists: the bytes that are accepted are the encoding of what is answered. No condition. -/
namespace Go.Proofs.YtojcmcccahjphaaGreatDoor
open Go.RowKit
open Lib (hid)
theorem flB_flB (neg : Bool) (x : Int) : flB neg (flB neg x) = x := by unfold flB;cases neg <;> simp;omega
theorem numB_neg (l : List Int) : (numB l < 0) ↔ ngB l = true := by
 unfold numB
 cases ngB l <;> simp <;> omega
theorem mag_numB (l : List Int) : mag (numB l) = valB l (cntB l) := by
 unfold mag
 by_cases h : ngB l = true
 ·rw [if_pos ((numB_neg l).2 h)];unfold numB;rw [h];simp;omega
 ·rw [if_neg (fun hh => h ((numB_neg l).1 hh))];unfold numB;rw [if_neg h];omega
theorem flipB_numB (l : List Int) (x : Int) : flipB (numB l) x = flB (ngB l) x := by
 unfold flipB flB
 by_cases h : ngB l = true
 ·rw [if_pos ((numB_neg l).2 h),if_pos h]
 ·rw [if_neg (fun hh => h ((numB_neg l).1 hh)),if_neg h]
theorem numB_bd (l : List Int) (h : valB l (cntB l) < 9223372036854775808) : -9223372036854775808 ≤ numB l ∧ numB l ≤ 9223372036854775807 := by
 unfold numB;split <;> omega
theorem valB_ge (l : List Int) (d : Nat) (hd : d = (flB (ngB l) (l.getD 1 0)).toNat) : ∀ j,d * 256 ^ j ≤ valB l (j + 1)
 | 0 => by unfold valB;simp [valB,hd]
 | j + 1 => by
  have ih := valB_ge l d hd j
  rw [valB,Nat.pow_succ,← Nat.mul_assoc]
  omega
theorem valB_digit (l : List Int) (hb : Byt l) : ∀ (K i : Nat),i < K → valB l K / 256 ^ (K - 1 - i) % 256 = (flB (ngB l) (l.getD (i + 1) 0)).toNat
 | 0,i,h => by omega
 | K + 1,i,h => by
  have hbj := hb.at_ (K + 1)
  have hf := flB_bd (ngB l) _ hbj.1 hbj.2
  by_cases hi : i = K
  ·subst hi
   rw [show i + 1 - 1 - i = 0 by omega,Nat.pow_zero,Nat.div_one,valB]
   omega
  ·have ih := valB_digit l hb K i (by omega)
   rw [show K + 1 - 1 - i = (K - 1 - i) + 1 by omega,Nat.pow_succ,Nat.mul_comm,← Nat.div_div_eq_div_mul,valB]
   rw [show (256 * valB l K + (flB (ngB l) (l.getD (K + 1) 0)).toNat) / 256 = valB l K by omega]
   exact ih
theorem blen_valB (l : List Int) (hb : Byt l) (h8 : cntB l ≤ 8) (hd : ¬ (0 < cntB l ∧ flB (ngB l) (l.getD 1 0) = 0)) : blen (valB l (cntB l)) = cntB l := by
 have hlt := valB_lt l hb (cntB l)
 refine (blen_unique _ _ (Nat.lt_of_lt_of_le hlt (Nat.pow_le_pow_right (by decide) (by omega))) hlt ?_).symm
 rcases Nat.eq_zero_or_pos (cntB l) with h0 | h0
 ·exact Or.inl h0
 ·right
  obtain ⟨j,hj⟩ : ∃ j,cntB l = j + 1 := ⟨cntB l - 1,by omega⟩
  have hge := valB_ge l _ rfl j
  have hb1 := hb.at_ 1
  have hf := flB_bd (ngB l) _ hb1.1 hb1.2
  have hne : flB (ngB l) (l.getD 1 0) ≠ 0 := fun h => hd ⟨h0,h⟩
  rw [hj,Nat.add_sub_cancel]
  refine Nat.le_trans ?_ hge
  have : 1 ≤ (flB (ngB l) (l.getD 1 0)).toNat := by omega
  exact Nat.le_mul_of_pos_left _ this
theorem enc_take (l : List Int) (hb : Byt l) (h8 : cntB l ≤ 8) (hn : cntB l < l.length) (hd : ¬ (0 < cntB l ∧ flB (ngB l) (l.getD 1 0) = 0)) : encInt (numB l) = l.take (cntB l + 1) := by
 have hbl := blen_valB l hb h8 hd
 unfold encInt
 rw [mag_numB,hbl]
 refine List.ext_getElem? fun i => ?_
 rw [List.getElem?_take]
 by_cases hi : i < cntB l + 1
 ·rw [if_pos hi,List.getElem?_eq_getElem (show i < l.length by omega)]
  cases i with
  | zero =>
   rw [List.getElem?_cons_zero]
   unfold headB
   rw [mag_numB,hbl,flipB_numB,← (head_flB l hb).1,flB_flB,List.getD_eq_getElem?_getD,List.getElem?_eq_getElem (show 0 < l.length by omega)]
   rfl
  | succ i =>
   rw [List.getElem?_cons_succ]
   unfold tailTo
   rw [List.getElem?_map,List.getElem?_range (show i < cntB l by omega),Option.map_some,flipB_numB,mag_numB]
   unfold digit
   have hbi := hb.at_ (i + 1)
   have hf := flB_bd (ngB l) _ hbi.1 hbi.2
   rw [valB_digit l hb (cntB l) i (by omega),Int.toNat_of_nonneg hf.1,flB_flB,List.getD_eq_getElem?_getD,List.getElem?_eq_getElem (show i + 1 < l.length by omega)]
   rfl
 ·rw [if_neg hi,List.getElem?_eq_none]
  rw [List.length_cons,tailTo_length]
  omega
end Go.Proofs.YtojcmcccahjphaaGreatDoor
/- Decoding counts,texts and lists,in plain lists. No condition. -/
namespace Go.Proofs.YtojcmcccahjphaaGreatDoor
open Go.RowKit
open Lib (hid)
theorem getI_cases (l : List Int) (hb : Byt l) : (∃ er,getI l = (0,0,er) ∧ (er = 2 ∨ er = 3)) ∨
  (∃ (n : Int) (k : Nat),getI l = (n,(k : Int),0) ∧ 1 ≤ k ∧ k ≤ 9 ∧ k ≤ l.length ∧ -9223372036854775808 ≤ n ∧ n ≤ 9223372036854775807 ∧ encInt n = l.take k) := by
 unfold getI
 by_cases h0 : l.length = 0
 ·rw [if_pos h0];exact Or.inl ⟨3,rfl,Or.inr rfl⟩
 ·rw [if_neg h0]
  by_cases h8 : 8 < cntB l
  ·rw [if_pos h8];exact Or.inl ⟨2,rfl,Or.inl rfl⟩
  ·rw [if_neg h8]
   by_cases hn : l.length ≤ cntB l
   ·rw [if_pos hn];exact Or.inl ⟨3,rfl,Or.inr rfl⟩
   ·rw [if_neg hn]
    by_cases hd : 0 < cntB l ∧ flB (ngB l) (l.getD 1 0) = 0
    ·rw [if_pos hd];exact Or.inl ⟨2,rfl,Or.inl rfl⟩
    ·rw [if_neg hd]
     by_cases hv : 9223372036854775808 ≤ valB l (cntB l)
     ·rw [if_pos hv];exact Or.inl ⟨2,rfl,Or.inl rfl⟩
     ·rw [if_neg hv]
      have hbd := numB_bd l (by omega)
      exact Or.inr ⟨_,cntB l + 1,by simp,by omega,by omega,by omega,hbd.1,hbd.2,enc_take l hb (by omega) (by omega) hd⟩
def cntI (l : List Int) (s : Nat) : Int × Int × Int :=
 if (getI l).2.2 ≠ 0 then (0,0,(getI l).2.2)
 else if (getI l).1 < 0 then (0,0,2)
 else if ((l.length : Int) - (getI l).2.1) / s < (getI l).1 then (0,0,3)
 else ((getI l).1,(getI l).2.1,0)
theorem cntI_cases (l : List Int) (hb : Byt l) (s : Nat) (hs : 1 ≤ s) : (∃ er,cntI l s = (0,0,er) ∧ (er = 2 ∨ er = 3)) ∨
  (∃ (n k : Nat),cntI l s = ((n : Int),(k : Int),0) ∧ 1 ≤ k ∧ k ≤ 9 ∧ k + n * s ≤ l.length ∧ (n : Int) ≤ 9223372036854775807 ∧ encInt n = l.take k) := by
 unfold cntI
 rcases getI_cases l hb with ⟨er,hg,he⟩ | ⟨n,k,hg,h1,h9,hk,hn0,hn1,henc⟩
 ·rw [hg]
  rw [if_pos (by rcases he with rfl | rfl <;> simp)]
  exact Or.inl ⟨er,rfl,he⟩
 ·rw [hg]
  simp only [ne_eq,not_true_eq_false,if_false]
  by_cases hneg : n < 0
  ·rw [if_pos hneg];exact Or.inl ⟨2,rfl,Or.inl rfl⟩
  ·rw [if_neg hneg]
   by_cases hq : ((l.length : Int) - k) / s < n
   ·rw [if_pos hq];exact Or.inl ⟨3,rfl,Or.inr rfl⟩
   ·rw [if_neg hq]
    obtain ⟨m,rfl⟩ := Int.eq_ofNat_of_zero_le (show 0 ≤ n by omega)
    refine Or.inr ⟨m,k,rfl,h1,h9,?_,hn1,henc⟩
    have h2 : (m : Int) * s ≤ (l.length : Int) - k := by
     have := (Int.le_ediv_iff_mul_le (show (0 : Int) < s by omega)).1 (Int.not_lt.1 hq)
     exact this
    have h3 : ((m * s : Nat) : Int) ≤ (l.length : Int) - k := by rw [Int.natCast_mul];exact h2
    omega
def decS (l : List Int) : ByteArray × Int × Int :=
 if (cntI l 1).2.2 ≠ 0 then (ByteArray.empty,0,(cntI l 1).2.2)
 else (strOf ((l.drop (cntI l 1).2.1.toNat).take (cntI l 1).1.toNat),(cntI l 1).2.1 + (cntI l 1).1,0)
theorem decS_cases (l : List Int) (hb : Byt l) : (∃ er,decS l = (ByteArray.empty,0,er) ∧ (er = 2 ∨ er = 3)) ∨
  (∃ (s : ByteArray) (k u : Nat),decS l = (s,(u : Int),0) ∧ cntI l 1 = ((s.size : Int),(k : Int),0) ∧ s = strOf ((l.drop k).take s.size) ∧ u = k + s.size ∧ 1 ≤ u ∧ 1 ≤ k ∧ k ≤ 9 ∧ u ≤ l.length ∧ encInt s.size ++ bys s = l.take u) := by
 unfold decS
 rcases cntI_cases l hb 1 (Nat.le_refl _) with ⟨er,hg,he⟩ | ⟨n,k,hg,h1,h9,hk,hn,henc⟩
 ·rw [hg]
  rw [if_pos (by rcases he with rfl | rfl <;> simp)]
  exact Or.inl ⟨er,rfl,he⟩
 ·rw [hg]
  simp only [ne_eq,not_true_eq_false,if_false,Int.toNat_natCast]
  right
  have hz : (strOf ((l.drop k).take n)).size = n := by rw [strOf_size,List.length_take,List.length_drop];omega
  refine ⟨strOf ((l.drop k).take n),k,k + n,by simp,by rw [hz],by rw [hz],by rw [hz],by omega,h1,h9,by omega,?_⟩
  rw [hz,bys_strOf _ ((hb.drop _).take _),henc,List.take_add]
def decMany {α : Type} (one : List Int → α × Int × Int) : Nat → List Int → Int × List α × Nat
 | 0,_ => (0,[],0)
 | m + 1,l =>
  if (one l).2.2 ≠ 0 then ((one l).2.2,[],0)
  else ((decMany one m (l.drop (one l).2.1.toNat)).1,(one l).1 :: (decMany one m (l.drop (one l).2.1.toNat)).2.1,(one l).2.1.toNat + (decMany one m (l.drop (one l).2.1.toNat)).2.2)
def decList {α : Type} (one : List Int → α × Int × Int) (l : List Int) : List α × Int × Int :=
 if (cntI l 1).2.2 ≠ 0 then ([],0,(cntI l 1).2.2)
 else if (decMany one (cntI l 1).1.toNat (l.drop (cntI l 1).2.1.toNat)).1 ≠ 0 then ([],0,(decMany one (cntI l 1).1.toNat (l.drop (cntI l 1).2.1.toNat)).1)
 else ((decMany one (cntI l 1).1.toNat (l.drop (cntI l 1).2.1.toNat)).2.1,(cntI l 1).2.1 + ((decMany one (cntI l 1).1.toNat (l.drop (cntI l 1).2.1.toNat)).2.2 : Int),0)
def joinD {α : Type} (xs : List α) (d : Nat) (r : Int × List α × Nat) : Int × List α × Nat := (r.1,xs ++ r.2.1,d + r.2.2)
theorem joinD_step {α : Type} (one : List Int → α × Int × Int) (m : Nat) (l : List Int) (xs : List α) (d u : Nat) (x : α) (h : one l = (x,(u : Int),0)) :
  joinD xs d (decMany one (m + 1) l) = joinD (xs ++ [x]) (d + u) (decMany one m (l.drop u)) := by
 simp only [decMany,h,ne_eq,not_true_eq_false,if_false,Int.toNat_natCast,joinD,List.append_assoc,List.singleton_append,Nat.add_assoc]
theorem joinD_err {α : Type} (one : List Int → α × Int × Int) (m : Nat) (l : List Int) (xs : List α) (d : Nat) (er : Int) (he : er ≠ 0) (h : (one l).2.2 = er) : (joinD xs d (decMany one (m + 1) l)).1 = er := by
 simp only [decMany,h,if_pos he,joinD]
def cutD (l : List Int) (n : Nat) : List (List Int) := (List.range n).map fun i => (l.drop (16 * i)).take 16
def decD (l : List Int) : List (List Int) × Int × Int :=
 if (cntI l 16).2.2 ≠ 0 then ([],0,(cntI l 16).2.2)
 else (cutD (l.drop (cntI l 16).2.1.toNat) (cntI l 16).1.toNat,(cntI l 16).2.1 + 16 * (cntI l 16).1,0)
end Go.Proofs.YtojcmcccahjphaaGreatDoor
/- Decoding what has been encoded,in plain lists: round trip,truncation,order. No condition. -/
namespace Go.Proofs.YtojcmcccahjphaaGreatDoor
open Go.RowKit
open Lib (hid)
theorem headB_flB (n : Int) (r : List Int) (h0 : -9223372036854775808 ≤ n) (h1 : n ≤ 9223372036854775807) : ngB (headB n :: r) = decide (n < 0) ∧ cntB (headB n :: r) = blen (mag n) := by
 have h8 := blen_le (mag n) (mag_lt8 n h0 h1)
 have hng : ngB (headB n :: r) = decide (n < 0) := by
  unfold ngB headB flipB
  by_cases hn : n < 0
  ·simp only [hn,if_true,decide_true]
   simp only [List.getD_cons_zero]
   rw [decide_eq_true];omega
  ·simp only [hn,if_false,decide_false]
   simp only [List.getD_cons_zero]
   rw [decide_eq_false];omega
 refine ⟨hng,?_⟩
 unfold cntB
 rw [hng]
 unfold flB headB flipB
 by_cases hn : n < 0
 ·simp only [hn,decide_true,if_true,List.getD_cons_zero];omega
 ·simp only [hn,decide_false,Bool.false_eq_true,if_false,List.getD_cons_zero];omega
theorem flB_dec (n x : Int) : flB (decide (n < 0)) (flipB n x) = x := by
 unfold flB flipB
 by_cases hn : n < 0
 ·simp only [hn,decide_true,if_true];omega
 ·simp only [hn,decide_false,Bool.false_eq_true,if_false]
theorem tail_get (n : Int) (k j i : Nat) (r : List Int) (h : i < j) : (headB n :: (tailTo n k j ++ r)).getD (i + 1) 0 = flipB n (digit (mag n) (k - 1 - i)) := by
 rw [List.getD_cons_succ,List.getD_eq_getElem?_getD,List.getElem?_append_left (by rw [tailTo_length];exact h)]
 unfold tailTo
 rw [List.getElem?_map,List.getElem?_range h]
 rfl
theorem valB_enc (n : Int) (r : List Int) (h0 : -9223372036854775808 ≤ n) (h1 : n ≤ 9223372036854775807) : ∀ j,j ≤ blen (mag n) → valB (encInt n ++ r) j = mag n / 256 ^ (blen (mag n) - j)
 | 0,_ => by
  have hs := (blen_spec (mag n) (Nat.lt_trans (mag_lt8 n h0 h1) (by decide))).1
  rw [Nat.sub_zero,Nat.div_eq_of_lt hs];rfl
 | j + 1,hj => by
  have ih := valB_enc n r h0 h1 j (by omega)
  have hng : ngB (encInt n ++ r) = decide (n < 0) := (headB_flB n _ h0 h1).1
  have hget : (encInt n ++ r).getD (j + 1) 0 = flipB n (digit (mag n) (blen (mag n) - 1 - j)) := tail_get n _ _ j r (by omega)
  rw [valB,ih,hng,hget,flB_dec]
  unfold digit
  rw [Int.toNat_natCast]
  obtain ⟨q,hq⟩ : ∃ q,blen (mag n) - j = q + 1 := ⟨blen (mag n) - j - 1,by omega⟩
  rw [show blen (mag n) - 1 - j = q by omega,show blen (mag n) - (j + 1) = q by omega,hq,Nat.pow_succ,← Nat.div_div_eq_div_mul]
  omega
theorem getI_enc (n : Int) (r : List Int) (h0 : -9223372036854775808 ≤ n) (h1 : n ≤ 9223372036854775807) : getI (encInt n ++ r) = (n,((encInt n).length : Int),0) := by
 have h8 := blen_le (mag n) (mag_lt8 n h0 h1)
 obtain ⟨hng,hcn⟩ : ngB (encInt n ++ r) = decide (n < 0) ∧ cntB (encInt n ++ r) = blen (mag n) := headB_flB n _ h0 h1
 have hv := valB_enc n r h0 h1 (blen (mag n)) (Nat.le_refl _)
 rw [Nat.sub_self,Nat.pow_zero,Nat.div_one] at hv
 have hlt := mag_lt n h0 h1
 unfold getI
 rw [hcn,if_neg (by simp [encInt]),if_neg (by omega),if_neg (by rw [List.length_append,encInt_length];omega)]
 have hd : ¬ (0 < blen (mag n) ∧ flB (ngB (encInt n ++ r)) ((encInt n ++ r).getD 1 0) = 0) := by
  rintro ⟨hp,hz⟩
  have hget : (encInt n ++ r).getD (0 + 1) 0 = flipB n (digit (mag n) (blen (mag n) - 1 - 0)) := tail_get n _ _ 0 r hp
  rw [Nat.zero_add,Nat.sub_zero] at hget
  rw [hng,hget,flB_dec] at hz
  unfold digit at hz
  have hs := blen_spec (mag n) (Nat.lt_trans (mag_lt8 n h0 h1) (by decide))
  rcases hs.2 with h | h
  ·omega
  ·obtain ⟨q,hq⟩ : ∃ q,blen (mag n) = q + 1 := ⟨blen (mag n) - 1,by omega⟩
   rw [hq,Nat.add_sub_cancel] at h hz
   rw [hq] at hs
   have h2 := hs.1
   rw [Nat.pow_succ] at h2
   have h3 : mag n / 256 ^ q < 256 := Nat.div_lt_of_lt_mul (by rw [Nat.mul_comm];omega)
   have h4 : 0 < mag n / 256 ^ q := Nat.div_pos h (Nat.pow_pos (by decide))
   omega
 rw [if_neg hd,hv,if_neg (by omega),encInt_length]
 have hnum : numB (encInt n ++ r) = n := by
  unfold numB
  rw [hng,hcn,hv]
  unfold mag
  by_cases hn : n < 0
  ·simp only [hn,decide_true,if_true];omega
  ·simp only [hn,decide_false,Bool.false_eq_true,if_false];omega
 rw [hnum]
 simp
theorem cntI_enc (m s : Nat) (r : List Int) (hm : (m : Int) ≤ 9223372036854775807) (hs : 1 ≤ s) (hr : m * s ≤ r.length) : cntI (encInt (m : Int) ++ r) s = ((m : Int),((encInt (m : Int)).length : Int),0) := by
 unfold cntI
 rw [getI_enc (m : Int) r (by omega) hm]
 simp only [ne_eq,not_true_eq_false,if_false]
 rw [if_neg (by omega),if_neg]
 refine Int.not_lt.2 ((Int.le_ediv_iff_mul_le (show (0 : Int) < s by omega)).2 ?_)
 have h2 : ((m * s : Nat) : Int) = (m : Int) * s := Int.natCast_mul _ _
 rw [List.length_append]
 omega
theorem decS_enc (s : ByteArray) (r : List Int) (h : (s.size : Int) ≤ 9223372036854775807) : decS (encInt (s.size : Int) ++ bys s ++ r) = (s,((encInt (s.size : Int) ++ bys s).length : Int),0) := by
 unfold decS
 rw [List.append_assoc,cntI_enc s.size 1 _ h (Nat.le_refl _) (by rw [List.length_append,bys_length];omega)]
 simp only [ne_eq,not_true_eq_false,if_false,Int.toNat_natCast]
 rw [List.drop_left,List.take_append_of_le_length (by rw [bys_length];exact Nat.le_refl _),List.take_of_length_le (by rw [bys_length];exact Nat.le_refl _),strOf_bys,List.length_append,bys_length]
 simp
theorem decMany_enc {α : Type} (one : List Int → α × Int × Int) (f : α → List Int) (r : List Int) : ∀ (xs : List α),(∀ x ∈ xs,∀ r,one (f x ++ r) = (x,((f x).length : Int),0)) → decMany one xs.length (xs.flatMap f ++ r) = (0,xs,(xs.flatMap f).length)
 | [],_ => by simp [decMany]
 | x :: xs,h => by
  have ih := decMany_enc one f r xs (fun y hy => h y (List.mem_cons_of_mem _ hy))
  have hx := h x (List.mem_cons_self ..) (xs.flatMap f ++ r)
  rw [List.flatMap_cons,List.append_assoc,List.length_cons,decMany,hx]
  simp only [ne_eq,not_true_eq_false,if_false,Int.toNat_natCast,List.drop_left,ih,List.length_append]
theorem flat_len {α : Type} (f : α → List Int) : ∀ (xs : List α),(∀ x ∈ xs,1 ≤ (f x).length) → xs.length ≤ (xs.flatMap f).length
 | [],_ => by simp
 | x :: xs,h => by
  have ih := flat_len f xs (fun y hy => h y (List.mem_cons_of_mem _ hy))
  have hx := h x (List.mem_cons_self ..)
  rw [List.flatMap_cons,List.length_append,List.length_cons]
  omega
theorem decList_enc {α : Type} (one : List Int → α × Int × Int) (f : α → List Int) (xs : List α) (r : List Int) (hx : ∀ x ∈ xs,∀ r,one (f x ++ r) = (x,((f x).length : Int),0)) (h1 : ∀ x ∈ xs,1 ≤ (f x).length) (hn : (xs.length : Int) ≤ 9223372036854775807) :
  decList one (encInt (xs.length : Int) ++ xs.flatMap f ++ r) = (xs,((encInt (xs.length : Int) ++ xs.flatMap f).length : Int),0) := by
 unfold decList
 rw [List.append_assoc,cntI_enc xs.length 1 _ hn (Nat.le_refl _) (by rw [List.length_append];have := flat_len f xs h1;omega)]
 simp only [ne_eq,not_true_eq_false,if_false,Int.toNat_natCast,List.drop_left]
 rw [decMany_enc one f r xs hx]
 simp [List.length_append]
end Go.Proofs.YtojcmcccahjphaaGreatDoor
/- What has been decoded is the encoding of the bytes consumed,in plain lists. No condition. -/
namespace Go.Proofs.YtojcmcccahjphaaGreatDoor
open Go.RowKit
open Lib (hid)
theorem decMany_canon {α : Type} (one : List Int → α × Int × Int) (f : α → List Int) (Q : α → Prop) (L : Nat)
  (hone : ∀ l,Byt l → l.length ≤ L → (one l).2.2 ≠ 0 ∨ ∃ (x : α) (u : Nat),one l = (x,(u : Int),0) ∧ u ≤ l.length ∧ f x = l.take u ∧ Q x) : ∀ (m : Nat) (l : List Int),Byt l → l.length ≤ L →
  (decMany one m l).1 ≠ 0 ∨ ∃ (xs : List α) (u : Nat),decMany one m l = (0,xs,u) ∧ xs.length = m ∧ u ≤ l.length ∧ xs.flatMap f = l.take u ∧ ∀ x ∈ xs,Q x
 | 0,l,_,_ => Or.inr ⟨[],0,rfl,rfl,Nat.zero_le _,by simp,fun x h => by cases h⟩
 | m + 1,l,hb,hL => by
  rcases hone l hb hL with he | ⟨x,u,hx,hu,hf,hq⟩
  ·left
   rw [decMany,if_pos he];exact he
  ·rw [decMany,hx]
   simp only [ne_eq,not_true_eq_false,if_false,Int.toNat_natCast]
   rcases decMany_canon one f Q L hone m (l.drop u) (hb.drop u) (by rw [List.length_drop];omega) with he | ⟨xs,v,hr,hm,hv,hfl,hqs⟩
   ·exact Or.inl he
   ·rw [hr]
    rw [List.length_drop] at hv
    refine Or.inr ⟨x :: xs,u + v,rfl,by simp [hm],by omega,by rw [List.flatMap_cons,hf,hfl,List.take_add],fun y hy => ?_⟩
    rcases List.mem_cons.1 hy with rfl | hy
    ·exact hq
    ·exact hqs y hy
theorem decList_canon {α : Type} (one : List Int → α × Int × Int) (f : α → List Int) (Q : α → Prop) (l : List Int) (hb : Byt l)
  (hone : ∀ r,Byt r → r.length ≤ l.length → (one r).2.2 ≠ 0 ∨ ∃ (x : α) (u : Nat),one r = (x,(u : Int),0) ∧ u ≤ r.length ∧ f x = r.take u ∧ Q x) :
  (∃ er,decList one l = ([],0,er) ∧ er ≠ 0) ∨ ∃ (xs : List α) (u : Nat),decList one l = (xs,(u : Int),0) ∧ u ≤ l.length ∧ encInt (xs.length : Int) ++ xs.flatMap f = l.take u ∧ ∀ x ∈ xs,Q x := by
 unfold decList
 rcases cntI_cases l hb 1 (Nat.le_refl _) with ⟨er,hg,he⟩ | ⟨n,k,hg,_,_,hk,_,henc⟩
 ·rw [hg,if_pos (by rcases he with rfl | rfl <;> simp)]
  exact Or.inl ⟨er,rfl,by rcases he with rfl | rfl <;> simp⟩
 ·rw [hg]
  simp only [ne_eq,not_true_eq_false,if_false,Int.toNat_natCast]
  rcases decMany_canon one f Q l.length hone n (l.drop k) (hb.drop k) (by rw [List.length_drop];omega) with he | ⟨xs,v,hr,hm,hv,hfl,hqs⟩
  ·rw [if_pos he];exact Or.inl ⟨_,rfl,he⟩
  ·rw [hr]
   rw [List.length_drop] at hv
   simp only [not_true_eq_false,if_false]
   exact Or.inr ⟨xs,k + v,by simp,by omega,by rw [hm,henc,hfl,List.take_add],hqs⟩
theorem oneI_canon (r : List Int) (hb : Byt r) : (getI r).2.2 ≠ 0 ∨ ∃ (x : Int) (u : Nat),getI r = (x,(u : Int),0) ∧ u ≤ r.length ∧ encInt x = r.take u ∧ -9223372036854775808 ≤ x ∧ x ≤ 9223372036854775807 := by
 rcases getI_cases r hb with ⟨er,hg,he⟩ | ⟨n,k,hg,_,_,hk,h0,h1,henc⟩
 ·left;rw [hg];rcases he with rfl | rfl <;> simp
 ·exact Or.inr ⟨n,k,hg,hk,henc,h0,h1⟩
end Go.Proofs.YtojcmcccahjphaaGreatDoor
