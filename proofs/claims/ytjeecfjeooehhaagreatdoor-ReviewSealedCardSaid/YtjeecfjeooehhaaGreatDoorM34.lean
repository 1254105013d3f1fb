/- What the proofs of all laws share: arguments that read afterwards as they read before; slices and strings that came in. No condition. -/
import Derived.Test.YtjeecfjeooehhaaGreatDoorRows
import Derived.Test.YtjeecfjeooehhaaGreatDoorM1
import Derived.WideKeyArgs
import Derived.ChangeSame
import Derived.Below
import Derived.ProofKit
import Derived.OpenShut
import Derived.SliceStrings
import Derived.Lib.LaidTab
import Derived.Test.YtjeecfjeooehhaaGreatDoorCards
import Derived.Test.YtjeecfjeooehhaaGreatDoorTie
import Derived.Deep.DeepHandedRow
set_option linter.unusedSimpArgs false
set_option linter.unusedVariables false
set_option maxHeartbeats 16000000
set_option maxRecDepth 100000
namespace Go.Proofs.YtjeecfjeooehhaaGreatDoor
open Go.RowKit
open Lib (hid)
section
open Go.RowKit Go.WideShapes Go.ChangeShapes
section
variable {H:Type} {enc:TypeId×Value→H} {P:Program}
theorem trodAll_keep (hl:laidOutB P=true){W W':World}{sp:Nat→Bool}(hb:Below W.heap.size W W'):∀ {ts:List TypeId} {vs:List Value} {ds:List (DataW H)} {ps:List MemPlace},
  (∀t∈ts,P.readableRec t=true∧t<P.types.size)→DataW.TrodAll enc P W 0 (fun _=>true) true ts vs ds ps→(∀p∈ps,p.block<W.heap.size)→(∀p∈ps,sp p.block=true)→DataW.TrodAll enc P W' 0 sp true ts vs ds ps
 | [],[],[],_,_,h,_,_=>h
 | t::ts,v::vs,d::ds,_,hr,⟨p,q,h,hs,e⟩,hlt,hsp=>by
  subst e
  exact⟨p,q,WideElems.Trod_stays hl (hr t (List.mem_cons_self ..)).1 (hr t (List.mem_cons_self ..)).2 h (fun x hx=>hb.same (hlt x (List.mem_append_left _ hx))) (fun x hx=>hsp x (List.mem_append_left _ hx)),
   trodAll_keep hl hb (fun x hx=>hr x (List.mem_cons_of_mem _ hx)) hs (fun x hx=>hlt x (List.mem_append_right _ hx)) (fun x hx=>hsp x (List.mem_append_right _ hx)),rfl⟩
 | [],[],_::_,_,_,h,_,_=>h.elim
 | [],_::_,_,_,_,h,_,_=>h.elim
 | _::_,[],_,_,_,h,_,_=>h.elim
 | _::_,_::_,[],_,_,h,_,_=>h.elim
theorem trodAll_length {w:World}{base:Nat}{sp:Nat→Bool}{held:Bool}:∀ {ts:List TypeId} {vs:List Value} {ds:List (DataW H)} {ps:List MemPlace},DataW.TrodAll enc P w base sp held ts vs ds ps→ds.length=ts.length
 | [],[],[],_,_=>rfl
 | _::_,_::_,_::_,_,⟨_,_,_,hs,_⟩=>congrArg (·+1) (trodAll_length hs)
 | [],[],_::_,_,h=>h.elim
 | [],_::_,_,_,h=>h.elim
 | _::_,[],_,_,h=>h.elim
 | _::_,_::_,[],_,h=>h.elim
theorem post_law {f:Func}{s:ChangeSpec}{apart fresh handsOn again:Bool}{W W':World}{args:Array Value}{ds gs:List (DataW H)}{before:List MemPlace}
  (hW:DataW.Whole enc P f.params.toList s.vars apart W args.toList ds gs before) (hl:laidOutB P=true) (hr:∀t∈f.params.toList,P.readableRec t=true∧t<P.types.size) (tb:TypeId) (hres:f.resultTypes=#[tb]) (htb:P.underlying tb=some .bool)
  (hv:s.vars=[]) (hfn:∀ds:List (DataW H),ds.length=f.params.toList.length→s.fn H ds={ results:=[.lit (.bool true)],args:=ds }) (hb:Below W.heap.size W W') :
  s.post enc P f apart fresh handsOn again W args (.bool true) W':=by
 have hlt:∀p∈before,p.block<W.heap.size:=fun p hp=>hW.lt p hp
 have hold:∀p∈before,(fun b=>decide (b<W.heap.size)) p.block=true:=fun p hp=>by simpa using hlt p hp
 obtain⟨pa,pv,hA,hV,hps,hfz,hnd⟩:=id hW;rw[hv] at hV;obtain⟨rfl,rfl⟩:=trodVars_none hV;have hlen:=trodAll_length hA;have hf:=hfn ds hlen;have hps':before=pa:=by simpa using hps
 subst hps';have hargs:∀sp:Nat→Bool,(∀p∈before,sp p.block=true)→DataW.TrodAll enc P W' 0 sp true f.params.toList args.toList ds before:=fun sp hs=>trodAll_keep hl hb hr hA hlt hs
 have hrs:∀(b:Nat) (sp:Nat→Bool) (hd:Bool),DataW.TrodAll enc P W' b sp hd f.resultTypes.toList ((Value.bool true).resultList f.resultTypes.size) [.lit (.bool true)] []:=fun b sp hd=>by
  rw[hres];exact trodAll_cons_mk (shut_bool htb true) trodAll_mk0
 have hok:∀(j:Nat) (t:TypeId) (r:Value),f.resultTypes[j]?=some t→((Value.bool true).resultList f.resultTypes.size)[j]?=some r→Value.okWide P W' .any 0 t r:=by
  exact ok_one hres rfl (okWide_bool_mk htb true)
 have e1:(s.fn H (ds++[])).results=[.lit (.bool true)]:=by rw[List.append_nil,hf]
 have e2:(s.fn H (ds++[])).args=ds:=by rw[List.append_nil,hf]
 have e3:(s.fn H (ds++[])).vars=[]:=by rw[List.append_nil,hf]
 have hvs:∀sp:Nat→Bool,DataW.TrodVars enc P W' sp s.vars (s.fn H (ds++[])).vars []:=fun sp=>by rw[hv,e3];rfl
 refine⟨ds,[],before,[],before,[],hW,by rw[e1];exact hrs _ _ _,by rw[e2];exact hargs _ hold,hvs _,World.keptBut_mono (fun p hp=>⟨hp,?_⟩) (hb.frame (·∈before)),fun _=>?_⟩
 ·exact Or.inr (Or.inl hp)
 ·refine⟨hok,_,_,([]++before)++[],⟨[]++before,[],trodAll_append (hargs _ (fun _ _=>rfl)) (hrs _ _ _),hvs _,rfl,?_,?_⟩,?_⟩
  ·intro b off hp
   have hin:MemPlace.cell b off∈before:=by simpa using hp
   rw[hb.frozen (hlt _ hin)];exact hfz b off hin
  ·intro ha
   have:=hnd ha
   simpa using this
  ·intro p hp _
   simpa using hp
theorem addr_form {w:World}{a:Addr}{v:Value}(h:w.cell? a=some v):a=⟨a.block,a.off,none⟩:=by
 cases hsp:a.spot with
 | none=>cases a;simp_all
 | some s =>
  simp only[World.cell?] at h
  split at h
  ·simp [hsp] at h
  ·cases h
theorem addr_add {a:Addr}(h:a=⟨a.block,a.off,none⟩)(j:Nat):a.add j=⟨a.block,a.off+j,none⟩:=by
 obtain⟨b,o,s⟩:=a;have hs:s=none:=by injection h
 subst hs;unfold Addr.add;split<;>simp_all
theorem open_u8s {W:World}{r:Reach}{b0:Nat}{t e:TypeId}{v:Value}{d:DataW H}{p:List MemPlace}{k:IntKind}(ht:P.underlying t=some (.slice e))(he:P.underlying e=some (.int k))(hc:P.cellsOf e=1)
  (hval:Value.okWide P W r b0 t v) (h:DataW.Trod enc P W 0 (fun _=>true) true t v d p) :
  ∃(A:Option Addr) (n c:Nat) (l:List Int),v=.slice A n c∧Rd W W.heap.size A n (l.map (Value.int k))∧(∀x∈l,(Lit.int k x).wf=true)∧n≤c∧c≤maxLen:=by
 obtain⟨a0,n0,c0,rfl⟩:=okWide_slice ht hval;obtain⟨fuel,hf⟩:=h;have hf':DataW.trod enc P W 0 (fun _=>true) true fuel t [.slice a0 n0 c0]=some (d,p):=hf
 rcases open_ints ht he hc hf' with ⟨hcs,hx⟩|⟨a,len,cap,zs,hcs,_,hl,hm,hz,hx,hcell,hwz⟩
 ·simp only[List.cons.injEq,Value.slice.injEq,and_true] at hcs
  obtain⟨rfl,rfl,rfl⟩:=hcs;exact⟨none,0,0,[],rfl,Rd.nil _ _ _,(fun x hx=>by cases hx),Nat.le_refl _,by decide⟩
 ·simp only[List.cons.injEq,Value.slice.injEq,and_true] at hcs
  obtain⟨rfl,rfl,rfl⟩:=hcs;simp only[if_true] at hz
  refine⟨some a,n0,c0,zs.take n0,rfl,⟨by simp;omega,fun hn=>?_⟩,fun x hx=>hwz x (List.mem_of_mem_take hx),hl,hm⟩
  have h0:=hcell 0 (by omega)
  have ha:a.add 0=a:=by unfold Addr.add;simp
  rw[ha] at h0;have hfm:=addr_form h0;refine⟨a.block,a.off,by rw[←hfm],World.block_lt_of_cell? W _ h0,fun j u hu=>?_⟩
  have hj:j<n0:=by
   have:=(List.getElem?_eq_some_iff.1 hu).1
   simp at this;omega
  have hcj:=hcell j (by omega)
  rw[addr_add hfm] at hcj;rw[hcj,←hu,List.getElem?_map,List.getElem?_take,if_pos hj,List.getD_eq_getElem?_getD,List.getElem?_eq_getElem (by omega)]
  rfl
theorem params_ok {l:List TypeId}(h:(l.all fun t=>P.readableRec t&&decide (t<P.types.size))=true):∀t∈l,P.readableRec t=true∧t<P.types.size:=fun t ht=>by
 have:=List.all_eq_true.1 h t ht
 simpa using this
theorem tab_of_is {W:World}{name:String}{k:IntKind}{zs:List Int}{g:Nat}(h:Lib.TabIs P W name k zs)(hg:P.globalNamed name=some g):Tab W g (zs.map (Value.int k)):=by
 unfold Lib.TabIs World.var? at h
 rw[hg,Option.bind_some] at h;split at h
 ·rename_i cs t fr hq
  injection h with h
  subst h;exact⟨t,fr,hq⟩
 ·cases h
end
end
section
open Go.RowKit Go.WideShapes Go.ChangeShapes
theorem cellsint:Tryz.prog.cellsOf 3=1:=by kernel_rfl
theorem wf_i64' {x:Int}(h:(Lit.int .i64 x).wf=true):-9223372036854775808≤x∧x≤9223372036854775807:=by
 simp [Lit.wf,IntKind.min,IntKind.max,IntKind.bits,IntKind.signed] at h
 omega
theorem own:ownKnob Tryz.prog.godebug=none:=by kernel_rfl
theorem laidOut:laidOutB Tryz.prog=true:=by kernel_rfl
end
end Go.Proofs.YtjeecfjeooehhaaGreatDoor