/- Byte strings as lists of integers; slices that read as lists; the conversions between them. No condition. -/
import Derived.Test.YtkgmoklifkojhaaBase
import Derived.Laws.IdiomStrings
import Derived.Lib.AppendStr
import Derived.Laws.CopyOwn
namespace Go.Proofs.Ytkgmoklifkojhaa
open Go.RowKit

def u8s (l : List Int) : List Value := l.map (Value.int .u8)
theorem u8s_get (l : List Int) (j : Nat) (h : j < l.length) : (u8s l)[j]? = some (.int .u8 (l.getD j 0)) := by
  simp [u8s, List.getElem?_map, List.getD_eq_getElem?_getD, List.getElem?_eq_getElem h]
theorem u8s_one (l : List Int) : ∀ u ∈ u8s l, u.oneCell' = true := ints_oneCell .u8 l
theorem u8s_append (a b : List Int) : u8s (a ++ b) = u8s a ++ u8s b := by simp [u8s]
theorem u8s_length (l : List Int) : (u8s l).length = l.length := by simp [u8s]
/-- A list of bytes. -/
def Byt (l : List Int) : Prop := ∀ x ∈ l, 0 ≤ x ∧ x ≤ 255
theorem Byt.at_ {l : List Int} (h : Byt l) (j : Nat) : 0 ≤ l.getD j 0 ∧ l.getD j 0 ≤ 255 := by
  rw [List.getD_eq_getElem?_getD]
  cases hj : l[j]? with
  | none => simp
  | some x => exact h x (List.mem_of_getElem? hj)
theorem Byt.nil : Byt [] := fun x hx => by cases hx
theorem Byt.app {a b : List Int} (ha : Byt a) (hb : Byt b) : Byt (a ++ b) := fun x hx => (List.mem_append.1 hx).elim (ha x) (hb x)
theorem Byt.one {x : Int} (h0 : 0 ≤ x) (h1 : x ≤ 255) : Byt [x] := fun y hy => by obtain rfl := List.mem_singleton.1 hy; exact ⟨h0, h1⟩
theorem Byt.take {a : List Int} (ha : Byt a) (n : Nat) : Byt (a.take n) := fun x hx => ha x (List.mem_of_mem_take hx)
theorem Byt.drop {a : List Int} (ha : Byt a) (n : Nat) : Byt (a.drop n) := fun x hx => ha x (List.mem_of_mem_drop hx)
theorem Byt.left {a b : List Int} (h : Byt (a ++ b)) : Byt a := fun x hx => h x (List.mem_append_left _ hx)
theorem Byt.right {a b : List Int} (h : Byt (a ++ b)) : Byt b := fun x hx => h x (List.mem_append_right _ hx)
/-- A string's bytes. -/
def bys (s : ByteArray) : List Int := s.data.toList.map fun b => (b.toNat : Int)
/-- The string with these bytes. -/
def strOf (l : List Int) : ByteArray := ⟨(l.map fun n => UInt8.ofNat n.toNat).toArray⟩
theorem bys_byt (s : ByteArray) : Byt (bys s) := fun x hx => by
  obtain ⟨b, _, rfl⟩ := List.mem_map.1 hx
  have := b.toNat_lt
  omega
theorem bys_length (s : ByteArray) : (bys s).length = s.size := by
  unfold bys
  rw [List.length_map, Array.length_toList]
  rfl
theorem strOf_bys (s : ByteArray) : strOf (bys s) = s := by
  cases s with
  | mk d =>
    simp only [strOf, bys, List.map_map]
    congr 1
    have : (d.toList.map ((fun n : Int => UInt8.ofNat n.toNat) ∘ fun b : UInt8 => (b.toNat : Int))) = d.toList := by
      conv => rhs; rw [← List.map_id d.toList]
      exact List.map_congr_left fun b _ => by simp
    rw [this]
theorem bys_strOf (l : List Int) (h : Byt l) : bys (strOf l) = l := by
  simp only [bys, strOf, List.map_map]
  conv => rhs; rw [← List.map_id l]
  refine List.map_congr_left fun n hn => ?_
  have := h n hn
  simp only [Function.comp, id, UInt8.toNat_ofNat']
  omega
theorem bys_inj {s t : ByteArray} (h : bys s = bys t) : s = t := by rw [← strOf_bys s, ← strOf_bys t, h]
theorem strOf_inj {a b : List Int} (ha : Byt a) (hb : Byt b) (h : strOf a = strOf b) : a = b := by rw [← bys_strOf a ha, ← bys_strOf b hb, h]
theorem strOf_size (l : List Int) : (strOf l).size = l.length := by simp [strOf, ByteArray.size]
theorem bys_extract (s : ByteArray) (a b : Nat) : bys (s.extract a b) = ((bys s).drop a).take (b - a) := by
  simp [bys, ByteArray.data_extract, Array.toList_extract, List.map_take, List.map_drop, List.extract]
theorem bys_append (s t : ByteArray) : bys (s ++ t) = bys s ++ bys t := by simp [bys]
theorem bys_get (s : ByteArray) (i : Nat) (h : i < s.size) : (s[i].toNat : Int) = (bys s).getD i 0 := by
  have h2 : i < (bys s).length := by rw [bys_length]; exact h
  rw [List.getD_eq_getElem?_getD, List.getElem?_eq_getElem h2]
  simp [bys]
  rfl
/-- A slice value's address A reads, in w, as the n cells xs; they lie below block B. -/
def Rd (w : World) (B : Nat) (A : Option Addr) (n : Nat) (xs : List Value) : Prop :=
  xs.length = n ∧ (0 < n → ∃ b o, A = some ⟨b, o, none⟩ ∧ b < B ∧ ∀ j u, xs[j]? = some u → w.cell? ⟨b, o + j, none⟩ = some u)
section
variable {w w' : World} {B B' : Nat} {A : Option Addr} {n : Nat} {xs : List Value}
theorem Rd.keep (h : Rd w B A n xs) (hk : ∀ p : Addr, p.block < B → w'.cell? p = w.cell? p) : Rd w' B A n xs :=
  ⟨h.1, fun hn => by obtain ⟨b, o, hA, hb, hc⟩ := h.2 hn; exact ⟨b, o, hA, hb, fun j u hu => (hk ⟨b, o + j, none⟩ hb).trans (hc j u hu)⟩⟩
theorem Rd.more (h : Rd w B A n xs) (hB : B ≤ B') : Rd w B' A n xs :=
  ⟨h.1, fun hn => by obtain ⟨b, o, hA, hb, hc⟩ := h.2 hn; exact ⟨b, o, hA, by omega, hc⟩⟩
theorem Rd.below (h : Rd w B A n xs) (hb : Below B w w') : Rd w' B A n xs := h.keep fun _ hp => hb.cell hp
theorem Rd.below' {B2 : Nat} (h : Rd w B A n xs) (hb : Below B2 w w') (hB : B ≤ B2) : Rd w' B A n xs := h.below (hb.mono hB)
theorem Rd.drew (h : Rd w B A n xs) : Rd w.drew B A n xs := h
theorem Rd.drewN (h : Rd w B A n xs) (k : Nat) : Rd (w.drewN k) B A n xs := h
theorem Rd.alloc (h : Rd w B A n xs) (hB : B ≤ w.heap.size) (o : Obj) : Rd (w.alloc o) B A n xs := h.keep fun p hp => World.cell?_alloc_lt w o p (by omega)
theorem Rd.nil (w : World) (B : Nat) (A : Option Addr) : Rd w B A 0 [] := ⟨rfl, fun h => absurd h (by omega)⟩
theorem Rd.of_own {base : Nat} {e : TypeId} {c : Nat} (h : w.ownsRow base e 1 (.slice A n c) n xs) : Rd w w.heap.size A n xs := by
  refine ⟨by simpa using h.1, fun hn => ?_⟩
  rcases h.2 with ⟨hv, h0⟩ | ⟨g, cap, cur, hv, hg, hh, _⟩
  · omega
  · have hA : A = some ⟨g, 0, none⟩ := by injection hv
    subst hA
    refine ⟨g, 0, rfl, ?_, fun j u hu => ?_⟩
    · exact (h.lt g (by simp [Value.ownBlock])).2
    · have := h.cells (g := g) (by simp [Value.ownBlock]) j u hu
      rw [Nat.zero_add]
      have e : (⟨g, 0, none⟩ : Addr).add j = ⟨g, j, none⟩ := by unfold Addr.add; split <;> simp_all
      rwa [e] at this
theorem Rd.at_ (h : Rd w B A n xs) {j : Nat} (hj : j < n) : ∃ b o u, A = some ⟨b, o, none⟩ ∧ b < B ∧ xs[j]? = some u ∧ w.cell? ⟨b, o + j, none⟩ = some u := by
  obtain ⟨b, o, hA, hb, hc⟩ := h.2 (by omega)
  have hx : j < xs.length := by rw [h.1]; exact hj
  exact ⟨b, o, xs[j], hA, hb, List.getElem?_eq_getElem hx, hc j _ (List.getElem?_eq_getElem hx)⟩
end
/-- 'cs' laid over 'L' from place 'off' on. -/
def laid (L : List Value) (off : Nat) (cs : List Value) : List Value := L.take off ++ cs ++ L.drop (off + cs.length)
/-- 'copy(dst, s)' of a string into a row that is known whole. -/
theorem run_copy_str {P : Program} (w : World) (dT sT ty elem : TypeId) (g o dLen dCap : Nat) (s : ByteArray) (cur : List Value) (t : TypeId)
    (hu : P.underlying dT = some (.slice elem)) (hs : (P.info? elem).map (·.size) = some 1)
    (hg : Blk w g t cur) (hfit : o + Nat.min s.size dLen ≤ cur.length) :
    (Builtin.copy_ #[dT, sT] ty #[.slice (some ⟨g, o, none⟩) dLen dCap, .string s]).run P w =
      .ok (goInt (Nat.min s.size dLen)) (w.setRow g (laid cur o (u8s ((bys s).take (Nat.min s.size dLen)))).toArray) := by
  have hlen : (u8s ((bys s).take (Nat.min s.size dLen))).length = Nat.min s.size dLen := by
    rw [u8s_length, List.length_take, bys_length]
    exact Nat.min_eq_left (Nat.min_le_left _ _)
  have hst := run_storeCells_at P g o t (u8s ((bys s).take (Nat.min s.size dLen))) 0 cur.toArray w hg (by rw [hlen]; simpa using hfit) (u8s_one _)
  have hcells : List.take (Nat.min s.size dLen) (List.map (fun b => Value.int .u8 (b.toNat : Int)) s.data.toList) = u8s ((bys s).take (Nat.min s.size dLen)) := by
    simp only [u8s, bys, List.map_take, List.map_map]
    rfl
  cases hq : P.info? elem with
  | none => simp [hq] at hs
  | some i =>
    have hi : i.size = 1 := by simpa [hq] using hs
    simp [Builtin.copy_, run_underlying hu, Builtin.lenOf, Builtin.firstCells, sizeOf, typeInfo, hq, ByteArray.data_extract, Array.toList_extract, List.extract]
    rw [hcells, hst]
    simp [laid]
/-- A slice literal owns its cells. -/
theorem own_lit (W : World) (n base : Nat) (e : TypeId) (cs : List Value) (o : Obj) (k : Nat) (ho : o = .cells cs.toArray e) (hn : n = W.heap.size) (hb : base ≤ n) (hk : cs.length = k) (hm : k ≤ maxLen) :
    (W.alloc o).ownsRow base e 1 (.slice (some ⟨n, 0, none⟩) k k) k cs := by
  subst ho hn hk
  have h := World.ownsRow_lit (base := base) (size := 1) (e := e) W cs.toArray cs.length hb hm (by simp)
  simpa using h
/-- 'string(b)'. -/
theorem run_toStr {P : Program} {src dst e : TypeId} (hs : P.underlying src = some (.slice e)) (he : P.underlying e = some (.int .u8)) (hd : P.underlying dst = some .string)
    {w : World} {B : Nat} {A : Option Addr} {n : Nat} {l : List Int} (h : Rd w B A n (u8s l)) (c : Nat) (hc : n = 0 → A = none ∨ ∃ a, A = some a) : (convert src dst (.slice A n c)).run P w = .ok (.string (strOf l)) w := by
  rw [run_convert_bytes_string w src dst e A n c hs he hd]
  have hl := h.1
  rcases Nat.eq_zero_or_pos n with h0 | h0
  · subst h0
    have : l = [] := by simpa [u8s] using hl
    subst this
    rcases hc rfl with rfl | ⟨a, rfl⟩
    · rfl
    · rw [run_bytesToString w a 0 c [] (by simp [loadCells, loadCellsFrom])]
      rfl
  · obtain ⟨b, o, rfl, _, hcell⟩ := h.2 h0
    have hadd : ∀ j, (⟨b, o, none⟩ : Addr).add j = ⟨b, o + j, none⟩ := fun j => by unfold Addr.add; split <;> simp_all
    have hll := run_loadCells_list (P := P) w ⟨b, o, none⟩ (l.map (Value.int .u8)) (fun j v hj => by rw [hadd]; exact hcell j v hj)
    have hlen : (l.map (Value.int .u8)).length = n := hl
    rw [hlen] at hll
    rw [run_bytesToString w ⟨b, o, none⟩ n c l hll]
    have hf : ∀ (l : List Int) (r : ByteArray), l.foldl (fun r n => r.push (UInt8.ofNat n.toNat)) r = ⟨r.data ++ (l.map fun n => UInt8.ofNat n.toNat).toArray⟩ := by
      intro l
      induction l with
      | nil => intro r; simp
      | cons x l ih => intro r; simp only [List.foldl_cons]; rw [ih]; simp [ByteArray.push]
    rw [hf]
    have he2 : ByteArray.empty.data = #[] := rfl
    rw [he2, Array.empty_append]
    rfl
end Go.Proofs.Ytkgmoklifkojhaa
