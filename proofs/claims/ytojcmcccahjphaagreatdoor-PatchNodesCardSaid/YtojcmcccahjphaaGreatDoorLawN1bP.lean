/- The tables of constants as the rows list them. No condition. -/
import Derived.Test.YtojcmcccahjphaaGreatDoorM34
import Derived.Test.YtojcmcccahjphaaGreatDoorM35
import Derived.Test.YtojcmcccahjphaaGreatDoorM12
set_option linter.unusedSimpArgs false
set_option linter.unusedVariables false
set_option maxHeartbeats 16000000
set_option maxRecDepth 100000
namespace Go.Proofs.YtojcmcccahjphaaGreatDoor
open Go.RowKit Go.WideShapes Go.ChangeShapes
open Lib (hid)
end Go.Proofs.YtojcmcccahjphaaGreatDoor
/- Tables of structs of numbers and Booleans, as the rows list them. No condition. -/
namespace Go.Proofs.YtojcmcccahjphaaGreatDoor
open Go.RowKit Go.WideShapes Go.ChangeShapes
open Lib (hid)
def litD : Value → DataW Unit
 | .bool b => .lit (.bool b)
 | .int k n => .lit (.int k n)
 | _ => .nil
def flatV (v : Value) : Prop := (∃ b,v = .bool b) ∨ ∃ k n,v = .int k n
section
variable {enc : TypeId × Value → Unit} {P : Program} {W : World} {base : Nat} {sp : Nat → Bool} {held : Bool} {fuel : Nat} {t : TypeId} {cs : List Value} {p : List MemPlace}
theorem field_of {v : Value} (ht : P.underlying t = some .bool ∨ ∃ k,P.underlying t = some (.int k)) (hv : flatV v) (h : DataW.trod enc P W base sp held fuel t cs = some (litD v,p)) : cs = [v] := by
 rcases ht with ht | ⟨k,ht⟩
 ·obtain ⟨b,rfl,hx⟩ := DataW.trod_bool ht h
  have h1 := congrArg Prod.fst hx
  rcases hv with ⟨b',rfl⟩ | ⟨k',n',rfl⟩
  ·simp only [litD,DataW.lit.injEq,Lit.bool.injEq] at h1
   rw [h1]
  ·simp [litD] at h1
 ·obtain ⟨m,rfl,hx,_⟩ := DataW.trod_int ht h
  have h1 := congrArg Prod.fst hx
  rcases hv with ⟨b',rfl⟩ | ⟨k',n',rfl⟩
  ·simp [litD] at h1
  ·simp only [litD,DataW.lit.injEq,Lit.int.injEq] at h1
   rw [h1.1,h1.2]
theorem struct_of {fs : Array Field} {row : List Value} (ht : P.underlying t = some (.struct fs)) (hf : ∀ (i : Nat) (f : Field),fs[i]? = some f → f.offset = i ∧ P.cellsOf f.type = 1 ∧ (P.underlying f.type = some .bool ∨ ∃ k,P.underlying f.type = some (.int k))) (hr : ∀ v ∈ row,flatV v) (hl : row.length = fs.size) (hc : P.cellsOf t = fs.size) (h : DataW.trod enc P W base sp held fuel t cs = some (.agg (row.map litD),p)) : cs = row := by
 obtain ⟨xs,n,rfl,hx,hcl,hxl,hel⟩ := DataW.trod_struct ht h
 have hm : row.map litD = xs.map (·.1) := by
  have h1 := congrArg Prod.fst hx
  simpa using h1
 rw [hc] at hcl
 apply List.ext_getElem?
 intro i
 by_cases hi : i < fs.size
 ·have hfi : fs[i]? = some fs[i] := Array.getElem?_eq_getElem hi
  obtain ⟨ho,hc1,hk⟩ := hf i _ hfi
  have h1 := hel i _ hfi
  rw [ho,hc1] at h1
  have hxi : xs[i]? = some (xs[i]'(by omega)) := List.getElem?_eq_getElem _
  have hri : row[i]? = some (row[i]'(by omega)) := List.getElem?_eq_getElem _
  have h2 : litD (row[i]'(by omega)) = (xs[i]'(by omega)).1 := by
   have h3 := congrArg (fun l => l[i]?) hm
   try dsimp only at h3
   rw [List.getElem?_map,List.getElem?_map,hxi,hri] at h3
   exact Option.some.inj h3
  rw [hxi,show xs[i]'(by omega) = ((xs[i]'(by omega)).1,(xs[i]'(by omega)).2) from rfl,← h2] at h1
  have h3 := field_of hk (hr _ (List.getElem_mem _)) h1
  have h4 := congrArg (fun l => l[0]?) h3
  try dsimp only at h4
  rw [List.getElem?_take,if_pos (by decide),List.getElem?_drop,Nat.add_zero] at h4
  rw [h4,hri]
  rfl
 ·rw [List.getElem?_eq_none (by omega),List.getElem?_eq_none (by omega)]
theorem flat_of_parts (m : Nat) : ∀ (rows : List (List Value)) (cs : List Value),cs.length = rows.length * m → (∀ (i : Nat) (r : List Value),rows[i]? = some r → (cs.drop (i * m)).take m = r) → cs = rows.flatMap (fun r => r)
 | [],cs,h,_ => by
  rw [List.length_nil,Nat.zero_mul] at h
  rw [List.length_eq_zero_iff.1 h]
  rfl
 | r :: rs,cs,h,hp => by
  have h0 := hp 0 r rfl
  rw [Nat.zero_mul,List.drop_zero] at h0
  have hr := flat_of_parts m rs (cs.drop m) (by rw [List.length_drop,h,List.length_cons,Nat.add_mul];omega) (fun i r' hi => by
   have h1 := hp (i + 1) r' hi
   rw [List.drop_drop,show m + i * m = (i + 1) * m by rw [Nat.add_mul];omega]
   exact h1)
  rw [List.flatMap_cons,← hr,← h0,List.take_append_drop]
end
def okFs (P : Program) (fs : Array Field) : Bool := (List.range fs.size).all fun i => match fs[i]? with
 | some f => f.offset == i && (P.cellsOf f.type == 1 && (match P.underlying f.type with | some .bool => true | some (.int _) => true | _ => false))
 | none => false
theorem okFs_at {P : Program} {fs : Array Field} (h : okFs P fs = true) (i : Nat) (f : Field) (hf : fs[i]? = some f) : f.offset = i ∧ P.cellsOf f.type = 1 ∧ (P.underlying f.type = some .bool ∨ ∃ k,P.underlying f.type = some (.int k)) := by
 have hi : i < fs.size := (Array.getElem?_eq_some_iff.1 hf).1
 have h1 := List.all_eq_true.1 h i (List.mem_range.2 hi)
 rw [hf] at h1
 simp only [Bool.and_eq_true,beq_iff_eq] at h1
 refine ⟨h1.1,h1.2.1,?_⟩
 have h2 := h1.2.2
 split at h2
 ·rename_i e;exact Or.inl e
 ·rename_i k e;exact Or.inr ⟨k,e⟩
 ·cases h2
theorem tab_of_structs {P : Program} {W : World} {name : String} {rest : List (String × DataW Unit)} {g : Nat} {t e : TypeId} {n : Nat} {fs : Array Field} {rows : List (List Value)} (hg : P.globalNamed name = some g) (hty : (P.globals[g]?).map (·.type) = some t) (ht : P.underlying t = some (.array n e)) (he : P.underlying e = some (.struct fs)) (hfs : okFs P fs = true) (hce : P.cellsOf e = fs.size) (hct : P.cellsOf t = n * fs.size) (hn : rows.length = n) (hrl : ∀ r ∈ rows,r.length = fs.size) (hrf : ∀ r ∈ rows,∀ v ∈ r,flatV v)
  (h : laidMet P ((name,.agg (rows.map fun r => .agg (r.map litD))) :: rest) W) : Tab W g (rows.flatMap fun r => r) := by
 obtain ⟨ps,⟨g',t',cs,fuel,p,q,hg',ht',hvar,hd,_,_⟩,_⟩ := h
 obtain rfl := Option.some.inj (hg.symm.trans hg')
 obtain rfl := Option.some.inj (hty.symm.trans ht')
 obtain ⟨xs,m,rfl,hx,hcl,hxl,hel⟩ := DataW.trod_array ht hd
 have hm : (rows.map fun r => (DataW.agg (r.map litD) : DataW Unit)) = xs.map (·.1) := by
  have h1 := congrArg Prod.fst hx
  simpa using h1
 have hcs : cs.toList = rows.flatMap (fun r => r) := by
  refine flat_of_parts fs.size rows cs.toList (by rw [hcl,hct,hn]) (fun i r hi => ?_)
  have hir : i < rows.length := (List.getElem?_eq_some_iff.1 hi).1
  have h1 := hel i (by omega)
  rw [hce] at h1
  have hxi : xs[i]? = some (xs[i]'(by omega)) := List.getElem?_eq_getElem _
  have h2 : (DataW.agg (r.map litD) : DataW Unit) = (xs[i]'(by omega)).1 := by
   have h3 := congrArg (fun l => l[i]?) hm
   try dsimp only at h3
   rw [List.getElem?_map,List.getElem?_map,hxi,hi] at h3
   exact Option.some.inj h3
  rw [hxi,show xs[i]'(by omega) = ((xs[i]'(by omega)).1,(xs[i]'(by omega)).2) from rfl,← h2] at h1
  exact struct_of he (okFs_at hfs) (hrf r (List.mem_of_getElem? hi)) (hrl r (List.mem_of_getElem? hi)) hce h1
 rw [← hcs]
 unfold World.var? at hvar
 rw [hg,Option.bind_some] at hvar
 split at hvar
 ·rename_i cs' t2 fr hq
  injection hvar with hvar
  subst hvar
  exact ⟨t2,fr,hq⟩
 ·cases hvar
theorem gC : Tryz.prog.globalNamed "splicery/patch.contents" = some 1 := by kernel_rfl
theorem gCt : (Tryz.prog.globals[1]?).map (·.type) = some 88 := by kernel_rfl
theorem gS : Tryz.prog.globalNamed "splicery/patch.shapes" = some 0 := by kernel_rfl
theorem gSt : (Tryz.prog.globals[0]?).map (·.type) = some 68 := by kernel_rfl
theorem flat_all {l : List Value} (h : (l.all fun v => match v with | .bool _ => true | .int _ _ => true | _ => false) = true) : ∀ v ∈ l,flatV v := fun v hv => by
 have h1 := List.all_eq_true.1 h v hv
 split at h1
 ·exact Or.inl ⟨_,rfl⟩
 ·exact Or.inr ⟨_,_,rfl⟩
 ·cases h1
theorem laid_c {W : World} {rest : List (String × DataW Unit)} (h : laidMet Tryz.prog (("splicery/patch.contents",Rows.laid_splicery_patch_contents) :: rest) W) : CTab W := by
 have h1 := tab_of_structs (rows := contL.map contC) gC gCt Tryz.underlying88 Tryz.underlying87 (by kernel_rfl) (by kernel_rfl) (by kernel_rfl) rfl (fun r hr => by obtain ⟨c,_,rfl⟩ := List.mem_map.1 hr;rfl) (fun r hr => by obtain ⟨c,_,rfl⟩ := List.mem_map.1 hr;exact flat_all rfl) h
 rw [List.flatMap_map] at h1
 exact h1
theorem laid_s {W : World} {rest : List (String × DataW Unit)} (h : laidMet Tryz.prog (("splicery/patch.shapes",Rows.laid_splicery_patch_shapes) :: rest) W) : STab W := by
 have h1 := tab_of_structs (rows := shapL.map shapC) gS gSt Tryz.underlying68 Tryz.underlying67 (by kernel_rfl) (by kernel_rfl) (by kernel_rfl) rfl (fun r hr => by obtain ⟨c,_,rfl⟩ := List.mem_map.1 hr;rfl) (fun r hr => by obtain ⟨c,_,rfl⟩ := List.mem_map.1 hr;exact flat_all rfl) h
 rw [List.flatMap_map] at h1
 exact h1
end Go.Proofs.YtojcmcccahjphaaGreatDoor
/- PatchNodes: for all arguments the law answers true and leaves them as they were. No condition (the tables are laid). -/
namespace Go.Proofs.YtojcmcccahjphaaGreatDoor
open Go.RowKit Go.WideShapes Go.ChangeShapes
open Lib (hid)
namespace fnPatchNodes
theorem params_patchNodes : (Tryz.f3.params.toList.all fun t => Tryz.prog.readableRec t && decide (t < Tryz.prog.types.size)) = true := by kernel_rfl
theorem contract (H : Type) (enc : TypeId × Value → H) (W : World) (base : Nat) (args : Array Value) (ds gs : List (DataW H)) (before : List MemPlace)
  (hval : ∀ (j : Nat) t v,Tryz.f3.params[j]? = some t → args[j]? = some v → Value.okWide Tryz.prog W .any base t v)
  (hW : DataW.Whole enc Tryz.prog Tryz.f3.params.toList Rows.patchNodesSpec.vars false W args.toList ds gs before) (hL : laidMetH Tryz.prog Rows.patchNodesRow.laid W) :
  Calls Tryz.prog 3 args W fun e W' => ∃ v,e = .returned v ∧ Rows.patchNodesSpec.post enc Tryz.prog Tryz.f3 false true false false W args v W' := by
 have hW' := hW
 obtain ⟨p,q,hA0,_,_,_,_⟩ := hW
 have hA : DataW.TrodAll enc Tryz.prog W 0 (fun _ => true) true Tryz.f3.params.toList args.toList ds p := hA0
 rw [Tryz.params3] at hA hval
 obtain ⟨v0,vs0,d0,ds0,p0,q0,hargs,e0d,e0p,h0,r0⟩ := trodAll_cons hA
 obtain ⟨v1,vs1,d1,ds1,p1,q1,e1,e1d,e1p,h1,r1⟩ := trodAll_cons r0
 obtain ⟨v2,vs2,d2,ds2,p2,q2,e2,e2d,e2p,h2,r2⟩ := trodAll_cons r1
 obtain ⟨en1,en2,en3⟩ := trodAll_nil r2
 obtain rfl : args = #[v0,v1,v2] := by cases args;simp_all
 clear hA hA0
 obtain ⟨x,rfl,_,_,hx⟩ := open_int Tryz.underlying3 (hval 0 _ v0 rfl rfl) h0
 obtain ⟨y,rfl,_,_,hy⟩ := open_int Tryz.underlying3 (hval 1 _ v1 rfl rfl) h1
 obtain ⟨z,rfl,_,_,hz⟩ := open_int Tryz.underlying3 (hval 2 _ v2 rfl rfl) h2
 refine (walk_nodes x y z W (wf_i64' hx) (wf_i64' hy) (wf_i64' hz) (laid_c (laidMet.filter (fun x => x.1 == "splicery/patch.contents") hL)) (laid_s (laidMet.filter (fun x => x.1 == "splicery/patch.shapes") hL))).mono fun e W' ⟨he,hg⟩ => ⟨_,he,?_⟩
 exact post_law hW' laidOut (params_ok params_patchNodes) 4 rfl Tryz.underlying4 rfl (fun ds h => by
  rw [Tryz.params3] at h
  match ds,h with
  | [_,_,_],_ => rfl) hg
noncomputable def laidWorld (os : Os) : World :=
 { World.holding Tryz.prog os ⟨#[],#[],[]⟩ with heap := ((((World.holding Tryz.prog os ⟨#[],#[],[]⟩).heap.modify 2 fun
   | .cells _ t frozen => .cells #[.int .u32 1116352408,.int .u32 1899447441,.int .u32 3049323471,.int .u32 3921009573,.int .u32 961987163,.int .u32 1508970993,.int .u32 2453635748,.int .u32 2870763221,.int .u32 3624381080,.int .u32 310598401,.int .u32 607225278,.int .u32 1426881987,.int .u32 1925078388,.int .u32 2162078206,.int .u32 2614888103,.int .u32 3248222580,.int .u32 3835390401,.int .u32 4022224774,.int .u32 264347078,.int .u32 604807628,.int .u32 770255983,.int .u32 1249150122,.int .u32 1555081692,.int .u32 1996064986,.int .u32 2554220882,.int .u32 2821834349,.int .u32 2952996808,.int .u32 3210313671,.int .u32 3336571891,.int .u32 3584528711,.int .u32 113926993,.int .u32 338241895,.int .u32 666307205,.int .u32 773529912,.int .u32 1294757372,.int .u32 1396182291,.int .u32 1695183700,.int .u32 1986661051,.int .u32 2177026350,.int .u32 2456956037,.int .u32 2730485921,.int .u32 2820302411,.int .u32 3259730800,.int .u32 3345764771,.int .u32 3516065817,.int .u32 3600352804,.int .u32 4094571909,.int .u32 275423344,.int .u32 430227734,.int .u32 506948616,.int .u32 659060556,.int .u32 883997877,.int .u32 958139571,.int .u32 1322822218,.int .u32 1537002063,.int .u32 1747873779,.int .u32 1955562222,.int .u32 2024104815,.int .u32 2227730452,.int .u32 2361852424,.int .u32 2428436474,.int .u32 2756734187,.int .u32 3204031479,.int .u32 3329325298] t frozen
   | o => o).modify 1 fun
   | .cells _ t frozen => .cells #[.int .i64 (-1099511627776),.int .i64 1099511627776,.bool false,.int .i64 0,.int .i64 0,.int .i64 0,.int .i64 0,.int .i64 1,.bool false,.int .i64 0,.int .i64 0,.int .i64 0,.int .i64 0,.int .i64 7,.bool true,.int .i64 0,.int .i64 0,.int .i64 0,.int .i64 0,.int .i64 0,.bool true,.int .i64 0,.int .i64 6,.int .i64 0,.int .i64 0,.int .i64 11,.bool false,.int .i64 1,.int .i64 2,.int .i64 0,.int .i64 0,.int .i64 0,.bool false,.int .i64 3,.int .i64 3,.int .i64 0,.int .i64 0,.int .i64 0,.bool false,.int .i64 2,.int .i64 2,.int .i64 1,.int .i64 0,.int .i64 0,.bool true,.int .i64 1,.int .i64 6,.int .i64 0,.int .i64 0,.int .i64 5,.bool true,.int .i64 1,.int .i64 1,.int .i64 0,.int .i64 0,.int .i64 5,.bool true,.int .i64 1,.int .i64 1,.int .i64 0,.int .i64 0,.int .i64 0,.bool true,.int .i64 2,.int .i64 7,.int .i64 0,.int .i64 0,.int .i64 0,.bool false,.int .i64 0,.int .i64 8,.int .i64 0,.int .i64 0,.int .i64 0,.bool false,.int .i64 3,.int .i64 3,.int .i64 2] t frozen
   | o => o).modify 0 fun
   | .cells _ t frozen => .cells #[.bool false,.bool false,.bool true,.bool false,.bool false,.bool false,.int .i64 0,.int .i64 0,.bool true,.bool true,.bool false,.bool false,.bool false,.bool false,.int .i64 1,.int .i64 0,.bool true,.bool false,.bool true,.bool false,.bool false,.bool false,.int .i64 5,.int .i64 0,.bool true,.bool false,.bool true,.bool true,.bool false,.bool false,.int .i64 1023,.int .i64 64,.bool false,.bool false,.bool false,.bool false,.bool true,.bool false,.int .i64 0,.int .i64 0,.bool true,.bool false,.bool true,.bool false,.bool false,.bool false,.int .i64 0,.int .i64 0,.bool true,.bool true,.bool false,.bool false,.bool false,.bool false,.int .i64 0,.int .i64 0,.bool true,.bool false,.bool false,.bool false,.bool false,.bool false,.int .i64 1023,.int .i64 0,.bool true,.bool false,.bool false,.bool false,.bool false,.bool false,.int .i64 1,.int .i64 0,.bool true,.bool false,.bool false,.bool true,.bool false,.bool false,.int .i64 0,.int .i64 64,.bool true,.bool false,.bool false,.bool true,.bool false,.bool false,.int .i64 0,.int .i64 0,.bool true,.bool true,.bool false,.bool false,.bool false,.bool false,.int .i64 0,.int .i64 0,.bool true,.bool false,.bool false,.bool false,.bool true,.bool false,.int .i64 0,.int .i64 0,.bool true,.bool false,.bool false,.bool false,.bool false,.bool true,.int .i64 0,.int .i64 0] t frozen
   | o => o) }
theorem laid_met (os : Os) : laidMet Tryz.prog Rows.patchNodesRow.laid ((laidWorld os).forCall (fun _ _ => 0) ⟨#[],#[.int .i64 0,.int .i64 0,.int .i64 0],[]⟩).memory :=
 laidMet_of_run' 8 (by kernel_rfl) (by kernel_rfl)
theorem reads (os : Os) {H : Type} (enc : TypeId × Value → H) : ∃ places,DataW.whole enc Tryz.prog ((laidWorld os).forCall (fun _ _ => 0) ⟨#[],#[.int .i64 0,.int .i64 0,.int .i64 0],[]⟩).memory Tryz.f3.params.toList Rows.patchNodesSpec.vars false (#[.int .i64 0,.int .i64 0,.int .i64 0] : Array Value).toList 8 = some ([.lit (.int .i64 0),.lit (.int .i64 0),.lit (.int .i64 0)],[],places) :=
 ⟨[],by kernel_rfl⟩
theorem lifted (os : Os) (started : os.Started) (H : Type) (enc : TypeId × Value → H) (F : Stop.Interp) :
  ReturnsInHanded {} Tryz.checked os 3 .any ((OpenSpec.ofChange Rows.patchNodesSpec).preRow enc Tryz.prog Tryz.f3 Rows.patchNodesRow.domain false Rows.patchNodesRow.laid) (((OpenSpec.ofChange Rows.patchNodesSpec).at F).post enc Tryz.prog Tryz.f3 false true false false) := by
 obtain ⟨places,hx⟩ := reads os enc
 refine returnsInHanded_of_row (C := Tryz.checked) (s := OpenSpec.ofChange Rows.patchNodesSpec) own started (by kernel_rfl) Tryz.func3
  (witness_row_at (enc := enc) (C := Tryz.checked) false (laidWorld os) #[.int .i64 0,.int .i64 0,.int .i64 0] rfl (by kernel_rfl) (by kernel_rfl) (by kernel_rfl)
   (OpenSpec.preRow_of_cond 8 hx (by kernel_rfl) (fun k hk => by cases hk) (by kernel_rfl) (laid_met os))) ?_
 intro W base args ds gs before hval hW _ _ _ hL _ _
 exact contract H enc W base args ds gs before hval hW hL
theorem said : Rows.PatchNodesSaid :=
 OpenClaim.holds_of_cond 3 Tryz.f3 rfl rfl rfl rfl rfl rfl rfl ⟨rfl,rfl,rfl,rfl,rfl⟩ rfl rfl rfl rfl rfl (by kernel_rfl) Tryz.func3 (by kernel_rfl)
  (of_decide_eq_true (by kernel_rfl)) (by unfold Func.isWrapper;first | (rw [if_pos (by decide +kernel)];kernel_rfl) | (rw [if_neg (by decide +kernel)];exact ⟨rfl,rfl⟩))
  (fun os started H enc _ F => by rw [OpenClaim.pre_eq_preRow];exact lifted os started H enc F)
theorem plain (f : FuncId) (fn : Func) (hf : Tryz.pinned.checked.prog.funcNamed "splicery/splicerylaw19.PatchNodes" = some f) (hfn : Tryz.pinned.checked.prog.funcs[f]? = some fn) :
  false = Tryz.pinned.checked.prog.looks [] ∧ ∀ (j : Nat) t,fn.params[j]? = some t → Tryz.pinned.checked.prog.wantsStandIn t = false := by
 obtain rfl : f = 3 := Option.some.inj ((show Tryz.prog.funcNamed "splicery/splicerylaw19.PatchNodes" = some 3 by kernel_rfl).symm.trans hf) |>.symm
 obtain rfl : fn = Tryz.f3 := (Option.some.inj (Tryz.func3.symm.trans hfn)).symm
 refine ⟨by kernel_rfl,fun j t ht => ?_⟩
 rw [Tryz.params3] at ht
 have := Array.mem_of_getElem? ht
 simp only [List.mem_toArray,List.mem_cons,List.not_mem_nil,or_false] at this
 rcases this with rfl | rfl | rfl
 ·exact (show Tryz.prog.wantsStandIn 3 = false by kernel_rfl)
 ·exact (show Tryz.prog.wantsStandIn 3 = false by kernel_rfl)
 ·exact (show Tryz.prog.wantsStandIn 3 = false by kernel_rfl)
theorem card : Rows.PatchNodesCardSaid :=
 Claim7.holds_tied_plain_at .later [] _ _ _ _ said (fun _ h => by cases h) (by kernel_rfl) (fun _ h => by cases h) patchNodes_row_tie rfl ⟨rfl,rfl⟩ (by kernel_rfl) rfl plain (by kernel_rfl)
end fnPatchNodes
end Go.Proofs.YtojcmcccahjphaaGreatDoor
