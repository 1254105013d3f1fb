/- What ReviewEncodes has at hand: a changed review's numbers, beginnings of bytes and of strings. No condition but sizes. -/
import Derived.Test.YtjeecfjeooehhaaGreatDoorM15
import Derived.Test.YtjeecfjeooehhaaGreatDoorM21
import Derived.Test.YtjeecfjeooehhaaGreatDoorM22
import Derived.Test.YtjeecfjeooehhaaGreatDoorM20
set_option linter.unusedSimpArgs false
set_option linter.unusedVariables false
set_option maxHeartbeats 16000000
set_option maxRecDepth 100000
namespace Go.Proofs.YtjeecfjeooehhaaGreatDoor
open Go.RowKit
open Lib (hid)
attribute [local go_sem ↓] wp_at_zero wp_at_succ
theorem opsI_app (L M : List Rid) : opsI (L ++ M) = opsI L ++ opsI M := by unfold opsI;rw [List.flatMap_append]
theorem spId_w (b : Int) : ∀ x ∈ opI (spId b),-9223372036854775808 ≤ x ∧ x ≤ 9223372036854775807 := by
 intro x hx
 have h1 := aroI_bd b 10 (by decide);have h2 := aroI_bd (b.tdiv 3) 19 (by decide);have h3 := aroI_bd (b.tdiv 5) 35 (by decide)
 unfold opI spId at hx
 simp only [List.mem_cons,List.not_mem_nil,or_false] at hx
 rcases hx with rfl | rfl | rfl <;> omega
theorem manyR_w (k : Nat) (hk : k ≤ 1000) : ∀ x ∈ opsI (manyR k),-9223372036854775808 ≤ x ∧ x ≤ 9223372036854775807 := by
 intro x hx
 unfold opsI manyR at hx
 obtain ⟨y,hy,hxy⟩ := List.mem_flatMap.1 hx
 obtain ⟨i,hi,rfl⟩ := List.mem_map.1 hy
 have hi' := List.mem_range.1 hi
 unfold opI at hxy
 simp only [List.mem_cons,List.not_mem_nil,or_false] at hxy
 rcases hxy with rfl | rfl | rfl <;> omega
theorem spDay_i (b : Int) (hb : i64 b) : i64 (spDay b) := by
 have h := aroI_bd b 5 (by decide)
 unfold spDay
 obtain ⟨k,hk⟩ : ∃ k,k = (aroI b 5).toNat := ⟨_,rfl⟩
 rw [← hk]
 rcases (by omega : k = 0 ∨ k = 1 ∨ k = 2 ∨ k = 3 ∨ k = 4) with h | h | h | h | h <;> subst h
 ·show i64 (0 : Int);exact ⟨by decide,by decide⟩
 ·show i64 (1 : Int);exact ⟨by decide,by decide⟩
 ·show i64 (1048576 : Int);exact ⟨by decide,by decide⟩
 ·show i64 (1048577 : Int);exact ⟨by decide,by decide⟩
 ·exact hb
theorem spLen_le (b : Int) : spLen b ≤ 1201 := by
 have h := aroI_bd b 4 (by decide)
 unfold spLen
 obtain ⟨k,hk⟩ : ∃ k,k = (aroI b 4).toNat := ⟨_,rfl⟩
 rw [← hk]
 rcases (by omega : k = 0 ∨ k = 1 ∨ k = 2 ∨ k = 3) with h | h | h | h <;> subst h <;> decide
theorem spoil_W {r : Rev} (how : Int) {b : Int} (h : RevW r) (hm : r.ops.length ≤ 500) (hb : i64 b) : RevW (spoil r how b) := by
 have h20 := aroI_bd b 20 (by decide)
 have h4 := aroI_bd b 4 (by decide)
 unfold spoil
 split
 ·exact ⟨⟨by show _ ≤ aroI b 20 - 2;omega,by show aroI b 20 - 2 ≤ _;omega⟩,h.seq,h.day,h.ops,h.sls,h.many⟩
 ·exact ⟨h.shop,⟨by show _ ≤ aroI b 20 - 2;omega,by show aroI b 20 - 2 ≤ _;omega⟩,h.day,h.ops,h.sls,h.many⟩
 ·exact ⟨h.shop,h.seq,spDay_i b hb,h.ops,h.sls,h.many⟩
 ·exact ⟨h.shop,h.seq,h.day,fun x hx => (by cases hx),h.sls,Nat.zero_le _⟩
 ·refine ⟨h.shop,h.seq,h.day,fun x hx => ?_,h.sls,by simp only [List.length_append,List.length_cons,List.length_nil];omega⟩
  rw [opsI_app] at hx
  rcases List.mem_append.1 hx with hx | hx
  ·exact h.ops x hx
  ·exact spId_w b x (by simpa [opsI] using hx)
 ·refine ⟨h.shop,h.seq,h.day,fun x hx => ?_,h.sls,by simp only [List.length_cons];omega⟩
  have hx : x ∈ opI (spId b) ++ opsI r.ops := by simpa [opsI] using hx
  rcases List.mem_append.1 hx with hx | hx
  ·exact spId_w b x hx
  ·exact h.ops x hx
 ·exact ⟨h.shop,h.seq,h.day,manyR_w _ (by omega),h.sls,by unfold manyR;simp only [List.length_map,List.length_range];omega⟩
 ·exact ⟨h.shop,h.seq,h.day,h.ops,h.sls,h.many⟩
 ·exact ⟨h.shop,h.seq,h.day,h.ops,by have := spLen_le b;show (strOf (List.replicate (spLen b) 0)).size ≤ _;rw [strOf_size,List.length_replicate];omega,h.many⟩
theorem ext_kept {F : Nat → Prop} {w0 w w' : World} (e : Ext w0 w) (hk : Kept F w w') (hF : ∀ b,F b → w0.heap.size ≤ b) : Ext w0 w' :=
 ((Kept.of_ext (F := fun _ => False) e).next hk (fun b hb hf => by have := hF b hf;omega)).ext (fun _ h => h.elim)
end Go.Proofs.YtjeecfjeooehhaaGreatDoor
/- Reviews in memory while other blocks change. No condition. -/
namespace Go.Proofs.YtjeecfjeooehhaaGreatDoor
open Go.RowKit
open Lib (hid)
theorem RXV.kept {w w' : World} {x : RX} {F : Nat → Prop} (h : RXV w x) (hk : Kept F w w') (hf : ∀ a,0 < x.n → x.A = some a → ¬ F a.block) : RXV w' x := by
 refine ⟨⟨h.row.1,fun h0 => ?_⟩,h.le,h.cap,h.few,h.mean,h.mbyt⟩
 obtain ⟨b,p,hA,hb,hc⟩ := h.row.2 h0
 exact ⟨b,p,hA,Nat.lt_of_lt_of_le hb hk.size,fun j u hu => (hk.cell (p := ⟨b,p + j,none⟩) hb (hf ⟨b,p,none⟩ h0 hA)).trans (hc j u hu)⟩
theorem RXV.in {w : World} {x : RX} (h : RXV w x) {a : Addr} (h0 : 0 < x.n) (ha : x.A = some a) : a.block < w.heap.size := by
 obtain ⟨b,p,hA,hb,_⟩ := h.row.2 h0
 rw [hA] at ha
 simp only [Option.some.injEq] at ha
 rw [← ha]
 exact hb
end Go.Proofs.YtjeecfjeooehhaaGreatDoor
