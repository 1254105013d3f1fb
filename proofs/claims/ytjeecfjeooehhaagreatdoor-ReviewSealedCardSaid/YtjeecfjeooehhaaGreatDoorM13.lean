/- bytes.Equal and bytes.HasPrefix. Conditions: the slices can be read. -/
import Derived.Test.YtjeecfjeooehhaaGreatDoorM12
set_option linter.unusedSimpArgs false
set_option linter.unusedVariables false
set_option maxHeartbeats 16000000
set_option maxRecDepth 100000
namespace Go.Proofs.YtjeecfjeooehhaaGreatDoor
open Go.RowKit
open Lib (hid)
section
theorem bequal_any (l p:List Int)(A B:Option Addr)(n c m d:Nat)(w:World)(hl:Rd w w.heap.size A n (u8s l))(hb:Byt l)(hp:Rd w w.heap.size B m (u8s p))(hq:Byt p) :
  Calls Tryz.prog 73 #[.slice A n c,.slice B m d] w fun e w'=>e=.returned (.bool (decide (l=p)))∧Ext w w':=by
 obtain⟨S1,hS1⟩:∃s,s=strOf l:=⟨_,rfl⟩
 obtain⟨S2,hS2⟩:∃s,s=strOf p:=⟨_,rfl⟩
 have h1:(convert 23 9 (.slice A n c)).run Tryz.prog w=.ok (.string S1) w:=by
  rw[hS1];exact run_toStr (P:=Tryz.prog) Tryz.underlying23 Tryz.underlying5 Tryz.underlying9 hl c (fun _=>by cases A<;>simp)
 have h2:(convert 23 9 (.slice B m d)).run Tryz.prog w=.ok (.string S2) w:=by
  rw[hS2];exact run_toStr (P:=Tryz.prog) Tryz.underlying23 Tryz.underlying5 Tryz.underlying9 hp d (fun _=>by cases B<;>simp)
 have h3:(S1.toList==S2.toList)=decide (l=p):=by rw[hS1,hS2];exact eqs_str l p hb hq
 have h3':=hid h3;obtain⟨t,ht⟩:∃t,t=decide (l=p):=⟨_,rfl⟩
 rw[←ht] at h3 h3'⊢;clear hl hp hb hq hS1 hS2 ht;go_enter Tryz.func73,Tryz.ntmps73
 go_wp2_with fail
 go_ret
 exact⟨rfl,Ext.refl _⟩
theorem rd_take {w:World}{B n m:Nat}{A:Option Addr}{l:List Int}(h:Rd w B A n (u8s l))(hm:m≤n):Rd w B A m (u8s (l.take m)):=by
 refine⟨by have:=h.1;simp only[u8s,List.length_map,List.length_take] at this⊢;omega,fun hn=>?_⟩
 obtain⟨b,o,hA,hb,hc⟩:=h.2 (by omega)
 refine⟨b,o,hA,hb,fun j v hv=>hc j v ?_⟩
 have hj:j<m:=by
  have:=(List.getElem?_eq_some_iff.1 hv).1
  simp only[u8s,List.length_map,List.length_take] at this
  omega
 rw[←hv];simp only[u8s,List.getElem?_map,List.getElem?_take,if_pos hj]
def preB (l p:List Int):Bool:=decide (l.take p.length=p)
theorem preB_long {l p:List Int}(h:l.length<p.length):preB l p=false:=by
 unfold preB;rw[decide_eq_false_iff_not];intro h2;have:=congrArg List.length h2
 rw[List.length_take] at this;omega
theorem hasPrefix_any (l p:List Int)(A B:Option Addr)(n c m d:Nat)(w:World)(hl:Rd w w.heap.size A n (u8s l))(hb:Byt l)(hp:Rd w w.heap.size B m (u8s p))(hq:Byt p)(hnc:n≤c)(hc:c≤9223372036854775807)(hmc:m≤9223372036854775807) :
  Calls Tryz.prog 33 #[.slice A n c,.slice B m d] w fun e w'=>e=.returned (.bool (preB l p))∧Ext w w':=by
 have hln:l.length=n:=by have:=hl.1;simpa [u8s] using this
 have hpm:p.length=m:=by have:=hp.1;simpa [u8s] using this
 by_cases hmn:m≤n
 ·have HE:Hid (Calls Tryz.prog 73 #[.slice A m c,.slice B m d] w fun e w'=>e=.returned (.bool (preB l p))∧Ext w w'):=hid (by
   have h:=bequal_any (l.take m) p A B m c m d w (rd_take hl hmn) (hb.take m) hp hq;unfold preB;rw[hpm];exact h)
  obtain⟨t,ht⟩:∃t,t=preB l p:=⟨_,rfl⟩
  rw[←ht] at HE⊢;have hge:decide ((m:Int)≤(n:Int))=true:=decide_eq_true (by omega)
  clear hl hp hb hq ht hln hpm;rcases A with _|⟨b,o,f⟩
  ·go_enter Tryz.func33,Tryz.ntmps33
   go_wp2_with (go_at_call 73;(with_reducible refine HE.out.mono ?_);rintro e w2 ⟨rfl,hE2⟩)
   go_ret
   exact⟨rfl,hE2⟩
  ·go_enter Tryz.func33,Tryz.ntmps33
   go_wp2_with (go_at_call 73;(with_reducible refine HE.out.mono ?_);rintro e w2 ⟨rfl,hE2⟩)
   all_goals go_ret
   all_goals exact⟨rfl,hE2⟩
 ·rw[preB_long (l:=l) (p:=p) (by omega)]
  have hge:decide ((m:Int)≤(n:Int))=false:=decide_eq_false (by omega)
  clear hl hp hb hq hln hpm;go_enter Tryz.func33,Tryz.ntmps33
  go_wp2_with fail
  go_ret
  exact⟨rfl,Ext.refl _⟩
end
section
attribute [local go_sem ↓] wp_at_zero wp_at_succ
theorem results_blk_bit3 {P:Program}{fn:Func}{p u v:Tmp}{ty:TypeId}(h:fn.results=#[ResultVar.cell p ty,.tmp u,.tmp v])(tmps:Array Value)(w:World)(g:Nat)(t:TypeId)(cs:List Value)(d:TypeDesc)(hp:tmps.getD p undef=.pointer (some ⟨g,0,none⟩))
  (hb:Blk w g t cs) (hu:P.underlying ty=some d) (hd:d.isRow=true) (hi:(P.info? ty).map (·.size)=some cs.length):(results fn tmps).run P w=.ok (.tuple #[.agg cs.toArray,tmps.getD u undef,tmps.getD v undef]) w:=by
 have hp':tmps[p]?.getD undef=.pointer (some ⟨g,0,none⟩):=by simpa using hp
 simp [results,h,hp',asAddr,run_loadVar_row w g t ty cs.toArray (0,0) d hb hu (by cases d<;>first|rfl|cases hd) (by rw[hi,List.size_toArray])]
theorem wpList_store_freshw {P:Program}{ops:Array Oper}{rest:List Oper}{o:Oper}{a:Act}{w:World}{Q:Exit→Act→World→Prop}(hgd:o.guard=none)(ty:TypeId)(x y:Operand)(ho:o.op=Op.store ty x y)(g:Nat)(hg:g=w.heap.size)(Z U:List Value)(t:TypeId)(hx:a.eval x=.pointer (some ⟨g,0,none⟩))(hy:a.eval y=.agg U.toArray)
  (hi:(P.info? ty).map (·.size)=some U.length) (hl:Z.length=U.length) (h1:∀v∈U,v.oneCell'=true)
  (h:∀w2,Blk w2 g t U→Ext w w2→w.heap.size<w2.heap.size→wpList P ops Q rest (a.put o.dst undef) w2):wpList P ops Q (o::rest) a (w.alloc (.cells Z.toArray t)) :=
 wpList_store_fresh hgd ty x y ho _ g hg Z U t hx hy rfl hi hl h1 h
def decF (rd:Option Rev)(l:List Int):Option Rev:=rd.bind fun r=>if encE r=0∧preB l (encR r)=true then some r else none
def decN (x:Option Rev):Int:=match x with
 | some r=>((encR r).length:Int)
 | none=>0
def decC (x:Option Rev):Int:=match x with
 | some _=>0
 | none=>2
theorem build_rev0:Tryz.prog.built 28 []=some Z0.toArray:=by kernel_rfl
theorem byt_app {a b:List Int}(h1:Byt a)(h2:Byt b):Byt (a++b):=fun x hx=>(List.mem_append.1 hx).elim (h1 x) (h2 x)
theorem byt_encL (l:List Int)(hl:∀x∈l,-9223372036854775808≤x∧x≤9223372036854775807)(hn:(l.length:Int)≤9223372036854775807):Byt (encL encInt l):=by
 unfold encL;refine byt_app (encInt_byt _ (by omega) hn) (fun x hx=>?_)
 obtain⟨y,hy,hxy⟩:=List.mem_flatMap.1 hx;exact encInt_byt y (hl y hy).1 (hl y hy).2 x hxy
theorem byt_bys (s:ByteArray):Byt (bys s):=fun x hx=>by
 unfold bys at hx;obtain⟨y,_,rfl⟩:=List.mem_map.1 hx;have:=y.toNat_lt
 omega
theorem byt_encB (s:ByteArray)(h:(s.size:Int)≤9223372036854775807):Byt (encB s):=by
 unfold encB;exact byt_app (encInt_byt _ (by omega) h) (byt_bys s)
theorem encR_byt {r:Rev}(hw:RevW r)(hm:r.mean.length=16)(hb:Byt r.mean):Byt (encR r):=by
 unfold encR;refine byt_app (byt_app (byt_app (byt_app (byt_encL _ (fun x hx=>?_) (by simp)) (encInt_byt _ (by unfold wdI;split<;>decide) (by unfold wdI;split<;>decide))) (byt_encL _ hw.ops (by rw[opsI_len];have:=hw.many;omega))) ?_) (byt_encB _ (by have:=hw.sls;omega))
 ·simp only[List.mem_cons,List.not_mem_nil,or_false] at hx
  rcases hx with rfl|rfl|rfl
  ·exact hw.shop
  ·exact hw.seq
  ·exact hw.day
 ·unfold encL idD
  refine byt_app (encInt_byt _ (by simp) (by simp)) (fun x hx=>?_)
  simp only[List.flatMap_cons,List.flatMap_nil,List.append_nil] at hx
  exact hb x hx
def ReadsR (rd:Option Rev)(f:FuncId)(A:Option Addr)(n c:Nat)(w:World):Prop:=Calls Tryz.prog f #[.slice A n c] w fun e w'=>(match rd with
 | none=>∃ZZ:List Value,e=.returned (.tuple #[.agg ZZ.toArray,.bool false])∧ZZ.length=22∧∀v∈ZZ,v.oneCell'=true
 | some r=>∃A' n' c',e=.returned (.tuple #[.agg (revC r A' n' c').toArray,.bool true])∧RevV w' r A' n' c'∧∀a,A'=some a→w.heap.size≤a.block)∧Ext w w'
theorem read_any (l:List Int)(A:Option Addr)(n c:Nat)(w:World)(hl:Rd w w.heap.size A n (u8s l))(hby:Byt l)(hnc:n≤c)(hc:c≤9223372036854775807)(hn:n≤1000000000000):ReadsR (readP l) 32 A n c w:=by
 unfold ReadsR readP;by_cases h:bad1 l∨bad2 l∨bad3 l∨bad4 l∨bad5 l
 ·rw[if_pos h]
  exact (read_bad l A n c w hl hby hnc hc hn h).mono (by rintro e w' ⟨rfl,hE⟩;exact⟨⟨Z0,rfl,rfl,revC_one rev0 none 0 0⟩,hE⟩)
 ·rw[if_neg h]
  exact read_good l A n c w hl hby hnc hc hn h
theorem decode_any (rd:Option Rev)(l:List Int)(A:Option Addr)(n c:Nat)(w:World)(hl:Rd w w.heap.size A n (u8s l))(hby:Byt l)(hnc:n≤c)(hc:c≤9223372036854775807)(hn:n≤1000000000000)(hr:∀W,Ext w W→ReadsR rd 32 A n c W) :
  Calls Tryz.prog 10 #[.slice A n c] w fun e w'=>(∃A' n' c',e=.returned (.tuple #[.agg (revC ((decF rd l).getD rev0) A' n' c').toArray,.int .i64 (decN (decF rd l)),.int .i64 (decC (decF rd l))])∧RevV w' ((decF rd l).getD rev0) A' n' c'∧∀a,A'=some a→w.heap.size≤a.block)∧Ext w w':=by
 have zz:∀W,(zeroValue 28).run Tryz.prog W=.ok (.agg Z0.toArray) W:=fun W=>by kernel_rfl
 have HR:=hid hr;have HL:=hid hl;have HBY:=hid hby;clear hr hl hby;unfold ReadsR at HR
 cases rd with
 | none =>
  have HD:Hid (decF none l=none):=hid rfl;dsimp only at HR;go_enter Tryz.func10,Tryz.ntmps10
  go_upto_region 1 with fail
  obtain⟨w1,hw1⟩:∃x,x=w.alloc (.cells Z0.toArray 28):=⟨_,rfl⟩
  change Code.wp _ _ _ _ (w.alloc (.cells Z0.toArray 28))
  rw[←hw1];have EX:Hid (Ext w w1):=hid (by rw[hw1];exact (Ext.refl w).alloc _)
  have BZ:Hid (Blk w1 w.heap.size 28 Z0):=hid (by rw[hw1];exact Blk.fresh' _ _ _ _ _ rfl rfl)
  clear hw1
  go_wp2_with (first
     | (go_at_call 32;(with_reducible refine (HR.out _ EX.out).mono ?_);rintro e w2 ⟨⟨ZZ,rfl,hZZ,hZ1⟩,hE2⟩;have HZZ:=hid hZZ;have HZ1:=hid hZ1;have BZ:=hid (BZ.out.ext hE2);have EX:=hid (EX.out.next hE2);clear hE2;clear hZZ hZ1)
     | (refine wpList_store_freshw rfl 28 (.tmp 5) (.tmp 12) rfl w2.heap.size rfl Z0 ZZ 28 (by kernel_rfl) (by kernel_rfl) (info_rev.trans (congrArg some HZZ.out.symm)) (Eq.trans (b:=22) rfl HZZ.out.symm) HZ1.out ?_;intro w3 hw3 hE3 hz3;have B5:=hid hw3;have E23:=hid hE3;have BZ:=hid (BZ.out.ext hE3);have EX:=hid (EX.out.next hE3);clear hE3;clear hw3 hz3)
     | (refine wpList_build_eq (by rfl) 28 _ rfl _ (by kernel_rfl) Z0 build_rev0 ?_)
     | (refine wpList_store_blk rfl 28 (.tmp 2) (.tmp 16) rfl w.heap.size Z0 (by kernel_rfl) (by kernel_rfl) BZ.out info_rev rfl (revC_one rev0 none 0 0) ?_;intro w9 hw9 hb9;have E9:Hid (Ext w w9):=hid (by rw[hw9.out];exact EX.out.setRow (Nat.le_refl _) _)))
  refine bodyPost_ret (results_blk_bit3 Tryz.results10 _ _ w.heap.size 28 Z0 _ (by rfl) hb9 Tryz.underlying28 rfl info_rev) rfl ?_
  rw[HD.out];exact⟨⟨none,0,0,rfl,rev0_V _,fun a h=>by cases h⟩,E9.out⟩
 | some r =>
  dsimp only at HR;have HEN:Hid (∀W B2 n2 d2,RevV W r B2 n2 d2→Calls Tryz.prog 8 #[.agg (revC r B2 n2 d2).toArray] W fun e w'=>(∃A' c',e=.returned (.tuple #[.slice A' (encX r).length c',.int .i64 (encE r)])∧w'.ownsRow W.heap.size 5 1 (.slice A' (encX r).length c') (encX r).length (u8s (encX r)))∧Ext W w'):=hid (fun W B2 n2 d2 hv=>encodeX_any r B2 n2 d2 W hv)
  obtain⟨k,hk⟩:∃k,k=(encX r).length:=⟨_,rfl⟩
  obtain⟨v,hv⟩:∃v,v=encE r:=⟨_,rfl⟩
  rw[←hk,←hv] at HEN;by_cases hv0:v=0
  ·subst hv0
   have hX:encX r=encR r:=by unfold encX;rw[if_pos hv.symm]
   have HRW:=hid (revW_of hv.symm);rw[hX] at HEN hk;have HKL:=hid hk;by_cases hp:preB l (encR r)=true
   ·have HD:Hid (decF (some r) l=some r):=hid (by unfold decF;rw[Option.bind_some,if_pos ⟨hv.symm,hp⟩])
    have HDN:Hid (decN (some r)=(k:Int)):=hid (by unfold decN;rw[hk])
    have HPR:Hid (∀W B d,Ext w W→Rd W W.heap.size B k (u8s (encR r))→∀B2 n2 d2,RevV W r B2 n2 d2→Calls Tryz.prog 33 #[.slice A n c,.slice B k d] W fun e w'=>e=.returned (.bool true)∧Ext W w'):=hid (fun W B d hW hB B2 n2 d2 hV=>by
     have h:=hasPrefix_any l (encR r) A B n c k d W (HL.out.ext' hW) HBY.out hB (encR_byt HRW.out hV.mean hV.mbyt) hnc hc (by rw[HKL.out];have:=encR_le r hV HRW.out;omega)
     rw[hp] at h;exact h)
    clear hk hv hX hp;go_enter Tryz.func10,Tryz.ntmps10
    go_upto_region 1 with fail
    obtain⟨w1,hw1⟩:∃x,x=w.alloc (.cells Z0.toArray 28):=⟨_,rfl⟩
    change Code.wp _ _ _ _ (w.alloc (.cells Z0.toArray 28))
    rw[←hw1];have EX:Hid (Ext w w1):=hid (by rw[hw1];exact (Ext.refl w).alloc _)
    have BZ:Hid (Blk w1 w.heap.size 28 Z0):=hid (by rw[hw1];exact Blk.fresh' _ _ _ _ _ rfl rfl)
    clear hw1
    go_wp2_with (first
       | (go_at_call 32;(with_reducible refine (HR.out _ EX.out).mono ?_);rintro e w2 ⟨⟨B2,n2,d2,rfl,hv2,hf2⟩,hE2⟩;have HV:=hid hv2;have HF:=hid hf2;have EX2:=EX;have HW1:=hid BZ.out.lt;have HL2:Hid ((revC r B2 n2 d2).length=22):=hid (revC_len _ _ _ _ hv2.mean);have BZ:=hid (BZ.out.ext hE2);have EX:=hid (EX.out.next hE2);clear hE2;clear hv2 hf2)
       | (refine wpList_store_freshw rfl 28 (.tmp 5) (.tmp 12) rfl w2.heap.size rfl Z0 (revC r B2 n2 d2) 28 (by kernel_rfl) (by kernel_rfl) (info_rev.trans (congrArg some HL2.out.symm)) (Eq.trans (b:=22) rfl HL2.out.symm) (revC_one r B2 n2 d2) ?_;intro w3 hw3 hE3 hz3;have B5:=hid hw3;have E23:=hid hE3;have BZ:=hid (BZ.out.ext hE3);have EX:=hid (EX.out.next hE3);clear hE3;clear hw3 hz3)
       | (refine wpList_load_blk rfl 28 (.tmp 5) rfl w2.heap.size (by kernel_rfl) B5.out Tryz.underlying28 rfl (info_rev.trans (congrArg some HL2.out.symm)) ?_)
       | (go_at_call 8;(with_reducible refine (HEN.out _ B2 n2 d2 (HV.out.ext E23.out)).mono ?_);rintro e w4 ⟨⟨B4,d4,rfl,ho4⟩,hE4⟩;have O4:=hid ho4;have B5:=hid (B5.out.ext hE4);have HV4:=hid ((HV.out.ext E23.out).ext hE4);have BZ:=hid (BZ.out.ext hE4);have EX:=hid (EX.out.next hE4);clear hE4;clear ho4)
       | (go_at_call 33;(with_reducible refine (HPR.out _ B4 d4 EX.out (Rd.of_own O4.out) B2 n2 d2 HV4.out).mono ?_);rintro e w5 ⟨rfl,hE5⟩;have HV4:=hid (HV4.out.ext hE5);have B5:=hid (B5.out.ext hE5);have BZ:=hid (BZ.out.ext hE5);have EX:=hid (EX.out.next hE5);clear hE5)
       | (refine wpList_store_blk rfl 28 (.tmp 2) (.tmp 31) rfl w.heap.size (revC r B2 n2 d2) (by kernel_rfl) (by kernel_rfl) BZ.out (info_rev.trans (congrArg some HL2.out.symm)) (Eq.trans (b:=22) rfl HL2.out.symm) (revC_one r B2 n2 d2) ?_;intro w9 hw9 hb9;have E9:Hid (Ext w w9):=hid (by rw[hw9.out];exact EX.out.setRow (Nat.le_refl _) _)))
    refine bodyPost_ret (results_blk_bit3 Tryz.results10 _ _ w.heap.size 28 (revC r B2 n2 d2) _ (by rfl) hb9 Tryz.underlying28 rfl (info_rev.trans (congrArg some HL2.out.symm))) rfl ?_
    rw[HD.out];refine⟨⟨B2,n2,d2,by rw[HDN.out];rfl,?_,fun a ha=>Nat.le_trans EX2.out.size (HF.out a ha)⟩,E9.out⟩
    have hv4:=HV4.out;have hf4:=HF.out;have hw4:=HW1.out;rw[hw9.out];exact⟨rdn_setRow hv4.row (fun a ha=>by have h1:=hf4 a ha;omega) _,hv4.le,hv4.cap,hv4.few,hv4.mean,hv4.mbyt⟩
   ·have hp:preB l (encR r)=false:=by
     cases h:preB l (encR r) with
     | false=>rfl
     | true=>exact absurd h hp
    have HD:Hid (decF (some r) l=none):=hid (by unfold decF;rw[Option.bind_some,if_neg (by rw[hp];rintro ⟨_,h⟩;cases h)])
    have HPR:Hid (∀W B d,Ext w W→Rd W W.heap.size B k (u8s (encR r))→∀B2 n2 d2,RevV W r B2 n2 d2→Calls Tryz.prog 33 #[.slice A n c,.slice B k d] W fun e w'=>e=.returned (.bool false)∧Ext W w'):=hid (fun W B d hW hB B2 n2 d2 hV=>by
     have h:=hasPrefix_any l (encR r) A B n c k d W (HL.out.ext' hW) HBY.out hB (encR_byt HRW.out hV.mean hV.mbyt) hnc hc (by rw[HKL.out];have:=encR_le r hV HRW.out;omega)
     rw[hp] at h;exact h)
    clear hk hv hX hp;go_enter Tryz.func10,Tryz.ntmps10
    go_upto_region 1 with fail
    obtain⟨w1,hw1⟩:∃x,x=w.alloc (.cells Z0.toArray 28):=⟨_,rfl⟩
    change Code.wp _ _ _ _ (w.alloc (.cells Z0.toArray 28))
    rw[←hw1];have EX:Hid (Ext w w1):=hid (by rw[hw1];exact (Ext.refl w).alloc _)
    have BZ:Hid (Blk w1 w.heap.size 28 Z0):=hid (by rw[hw1];exact Blk.fresh' _ _ _ _ _ rfl rfl)
    clear hw1
    go_wp2_with (first
       | (go_at_call 32;(with_reducible refine (HR.out _ EX.out).mono ?_);rintro e w2 ⟨⟨B2,n2,d2,rfl,hv2,hf2⟩,hE2⟩;have HV:=hid hv2;have HF:=hid hf2;have EX2:=EX;have HW1:=hid BZ.out.lt;have HL2:Hid ((revC r B2 n2 d2).length=22):=hid (revC_len _ _ _ _ hv2.mean);have BZ:=hid (BZ.out.ext hE2);have EX:=hid (EX.out.next hE2);clear hE2;clear hv2 hf2)
       | (refine wpList_store_freshw rfl 28 (.tmp 5) (.tmp 12) rfl w2.heap.size rfl Z0 (revC r B2 n2 d2) 28 (by kernel_rfl) (by kernel_rfl) (info_rev.trans (congrArg some HL2.out.symm)) (Eq.trans (b:=22) rfl HL2.out.symm) (revC_one r B2 n2 d2) ?_;intro w3 hw3 hE3 hz3;have B5:=hid hw3;have E23:=hid hE3;have BZ:=hid (BZ.out.ext hE3);have EX:=hid (EX.out.next hE3);clear hE3;clear hw3 hz3)
       | (refine wpList_load_blk rfl 28 (.tmp 5) rfl w2.heap.size (by kernel_rfl) B5.out Tryz.underlying28 rfl (info_rev.trans (congrArg some HL2.out.symm)) ?_)
       | (go_at_call 8;(with_reducible refine (HEN.out _ B2 n2 d2 (HV.out.ext E23.out)).mono ?_);rintro e w4 ⟨⟨B4,d4,rfl,ho4⟩,hE4⟩;have O4:=hid ho4;have B5:=hid (B5.out.ext hE4);have HV4:=hid ((HV.out.ext E23.out).ext hE4);have BZ:=hid (BZ.out.ext hE4);have EX:=hid (EX.out.next hE4);clear hE4;clear ho4)
       | (go_at_call 33;(with_reducible refine (HPR.out _ B4 d4 EX.out (Rd.of_own O4.out) B2 n2 d2 HV4.out).mono ?_);rintro e w5 ⟨rfl,hE5⟩;have HV4:=hid (HV4.out.ext hE5);have B5:=hid (B5.out.ext hE5);have BZ:=hid (BZ.out.ext hE5);have EX:=hid (EX.out.next hE5);clear hE5)
       | (refine wpList_build_eq (by rfl) 28 _ rfl _ (by kernel_rfl) Z0 build_rev0 ?_)
       | (refine wpList_store_blk rfl 28 (.tmp 2) (.tmp 30) rfl w.heap.size Z0 (by kernel_rfl) (by kernel_rfl) BZ.out info_rev rfl (revC_one rev0 none 0 0) ?_;intro w9 hw9 hb9;have E9:Hid (Ext w w9):=hid (by rw[hw9.out];exact EX.out.setRow (Nat.le_refl _) _)))
    refine bodyPost_ret (results_blk_bit3 Tryz.results10 _ _ w.heap.size 28 Z0 _ (by rfl) hb9 Tryz.underlying28 rfl info_rev) rfl ?_
    rw[HD.out];exact⟨⟨none,0,0,rfl,rev0_V _,fun a h=>by cases h⟩,E9.out⟩
  ·have hne:(v==0)=false:=by simpa using hv0
   have HD:Hid (decF (some r) l=none):=hid (by unfold decF;rw[Option.bind_some,if_neg (by rw[←hv];rintro ⟨h,_⟩;exact hv0 h)])
   clear hk hv;go_enter Tryz.func10,Tryz.ntmps10
   go_upto_region 1 with fail
   obtain⟨w1,hw1⟩:∃x,x=w.alloc (.cells Z0.toArray 28):=⟨_,rfl⟩
   change Code.wp _ _ _ _ (w.alloc (.cells Z0.toArray 28))
   rw[←hw1];have EX:Hid (Ext w w1):=hid (by rw[hw1];exact (Ext.refl w).alloc _)
   have BZ:Hid (Blk w1 w.heap.size 28 Z0):=hid (by rw[hw1];exact Blk.fresh' _ _ _ _ _ rfl rfl)
   clear hw1
   go_wp2_with (first
      | (go_at_call 32;(with_reducible refine (HR.out _ EX.out).mono ?_);rintro e w2 ⟨⟨B2,n2,d2,rfl,hv2,hf2⟩,hE2⟩;have HV:=hid hv2;have HF:=hid hf2;have EX2:=EX;have HW1:=hid BZ.out.lt;have HL2:Hid ((revC r B2 n2 d2).length=22):=hid (revC_len _ _ _ _ hv2.mean);have BZ:=hid (BZ.out.ext hE2);have EX:=hid (EX.out.next hE2);clear hE2;clear hv2 hf2)
      | (refine wpList_store_freshw rfl 28 (.tmp 5) (.tmp 12) rfl w2.heap.size rfl Z0 (revC r B2 n2 d2) 28 (by kernel_rfl) (by kernel_rfl) (info_rev.trans (congrArg some HL2.out.symm)) (Eq.trans (b:=22) rfl HL2.out.symm) (revC_one r B2 n2 d2) ?_;intro w3 hw3 hE3 hz3;have B5:=hid hw3;have E23:=hid hE3;have BZ:=hid (BZ.out.ext hE3);have EX:=hid (EX.out.next hE3);clear hE3;clear hw3 hz3)
      | (refine wpList_load_blk rfl 28 (.tmp 5) rfl w2.heap.size (by kernel_rfl) B5.out Tryz.underlying28 rfl (info_rev.trans (congrArg some HL2.out.symm)) ?_)
      | (go_at_call 8;(with_reducible refine (HEN.out _ B2 n2 d2 (HV.out.ext E23.out)).mono ?_);rintro e w4 ⟨⟨B4,d4,rfl,ho4⟩,hE4⟩;have O4:=hid ho4;have B5:=hid (B5.out.ext hE4);have HV4:=hid ((HV.out.ext E23.out).ext hE4);have BZ:=hid (BZ.out.ext hE4);have EX:=hid (EX.out.next hE4);clear hE4;clear ho4)
      | (refine wpList_build_eq (by rfl) 28 _ rfl _ (by kernel_rfl) Z0 build_rev0 ?_)
      | (refine wpList_store_blk rfl 28 (.tmp 2) (.tmp 30) rfl w.heap.size Z0 (by kernel_rfl) (by kernel_rfl) BZ.out info_rev rfl (revC_one rev0 none 0 0) ?_;intro w9 hw9 hb9;have E9:Hid (Ext w w9):=hid (by rw[hw9.out];exact EX.out.setRow (Nat.le_refl _) _)))
   refine bodyPost_ret (results_blk_bit3 Tryz.results10 _ _ w.heap.size 28 Z0 _ (by rfl) hb9 Tryz.underlying28 rfl info_rev) rfl ?_
   rw[HD.out];exact⟨⟨none,0,0,rfl,rev0_V _,fun a h=>by cases h⟩,E9.out⟩
end
section
attribute [local go_sem ↓] wp_at_zero wp_at_succ
theorem rid_at {w:World}{B n:Nat}{A:Option Addr}{L:List Rid}(h:RdN w B 3 A n (idsC L))(hn:0<n):∃b p,A=some ⟨b,p,none⟩∧b<B∧∀W:World,(∀a:Addr,a.block<B→W.cell? a=w.cell? a)→∀k x,L[k]?=some x→W.rangeAt b (p+k*3) [.int .i64 x.s,.int .i64 x.q,.int .i64 x.i]:=by
 obtain⟨b,p,hA,hb,hc⟩:=h.2 hn;refine⟨b,p,hA,hb,fun W hW k x hx=>?_⟩
 exact ids_range (L:=L) (fun j u hu=>(hW _ hb).trans (hc j u hu)) hx
theorem idsC_n {w:World}{B n:Nat}{A:Option Addr}{L:List Rid}(h:RdN w B 3 A n (idsC L)):L.length=n:=by
 have:=h.1
 rw[idsC_len] at this;omega
theorem index_id (L:List Rid)(x:Rid)(A:Option Addr)(n c:Nat)(w:World)(hl:RdN w w.heap.size 3 A n (idsC L))(hn:n≤1000000000000) :
  Calls Tryz.prog 124 #[.slice A n c,.agg #[.int .i64 x.s,.int .i64 x.q,.int .i64 x.i]] w fun e w'=>(∃v:Int,e=.returned (.int .i64 v)∧decide (0≤v)=decide (x∈L))∧Ext w w':=by
 have HL:=hid hl;have HLN:=hid (idsC_n hl);clear hl;obtain⟨s,q,z⟩:=x;dsimp only;go_enter Tryz.func124,Tryz.ntmps124
 go_upto_region 1 with fail
 obtain⟨w1,hw1⟩:∃x,x=w.alloc (.cells #[.int .i64 s,.int .i64 q,.int .i64 z] 68):=⟨_,rfl⟩
 change Code.wp _ _ _ _ (w.alloc (.cells #[.int .i64 s,.int .i64 q,.int .i64 z] 68))
 rw[←hw1];have E1:Hid (Ext w w1):=hid (by rw[hw1];exact (Ext.refl w).alloc _)
 have BX:Hid (Blk w1 w.heap.size 68 [.int .i64 s,.int .i64 q,.int .i64 z]):=hid (by rw[hw1];exact Blk.fresh' _ _ _ _ _ rfl rfl)
 clear hw1;go_wp2_with fail
 go_loopw [5,8] (fun _ k wr=>∃t:Nat,t≤n∧k=.int .i64 (t:Int)∧Ext w1 wr∧∀j,j<t→L[j]?≠some ⟨s,q,z⟩) (fun _ k _=>n-(intOf k).toNat)
 case atStart=>exact⟨0,by omega,rfl,Ext.refl _,fun j hj=>by omega⟩
 case round =>
  obtain⟨t,ht,rfl,hE,hz⟩:=hrel;have EO:=hid hE;have HZ:=hid hz;clear hE hz;obtain⟨wo,rfl⟩:∃x:World,x=wr:=⟨_,rfl⟩
  by_cases hlt:t<n
  ·obtain⟨b,p,hA,hb,hrg⟩:=rid_at HL.out (by omega)
   subst hA;obtain⟨⟨s1,q1,z1⟩,hy⟩:∃y,y=L.getD t rid0:=⟨_,rfl⟩
   have hy2:L[t]?=some ⟨s1,q1,z1⟩:=by rw[hy];exact getD_of (by rw[HLN.out];exact hlt)
   have HR:Hid (∀W,Ext w W→W.rangeAt b (p+t*3) [.int .i64 s1,.int .i64 q1,.int .i64 z1]):=hid (fun W hW=>hrg W (fun a ha=>hW.cell ha) t _ hy2)
   have HQ:Hid (∀W,(Op.equalIn 10000 68 (.agg #[.int .i64 s,.int .i64 q,.int .i64 z]) (.agg #[.int .i64 s1,.int .i64 q1,.int .i64 z1])).run Tryz.prog W=.ok (decide ((⟨s,q,z⟩:Rid)=⟨s1,q1,z1⟩)) W):=hid (fun W=>id_equal ⟨s,q,z⟩ ⟨s1,q1,z1⟩ W)
   obtain⟨eb,heb⟩:∃e,e=decide ((⟨s,q,z⟩:Rid)=⟨s1,q1,z1⟩):=⟨_,rfl⟩
   have HY:Hid (eb=true→(⟨s,q,z⟩:Rid)∈L):=hid (fun h=>by
    rw[heb,decide_eq_true_iff] at h;rw[h];exact List.mem_of_getElem? hy2)
   have HN:Hid (eb=false→∀j,j<t+1→L[j]?≠some ⟨s,q,z⟩):=hid (fun h j hj=>by
    rw[heb,decide_eq_false_iff_not] at h;rcases Nat.lt_or_ge j t with h1|h1
    ·exact HZ.out j h1
    ·obtain rfl:j=t:=by omega
     rw[hy2];intro h2;exact h (Option.some.inj h2).symm)
   have HTN:Hid (t+1≤n):=hid (by omega)
   rw[←heb] at HQ;clear hrg hb heb hy hy2;go_upto_region 4 with fail
   refine wp_region_flowG 6 ?FW1 (fun us=>?_) (by kernel_rfl) (by kernel_rfl) (fun a b=>Ext a b) Ext.refl (fun h1 h2=>h1.next h2) (fun i v W=>match i with
    | 0=>v=.agg #[.int .i64 s,.int .i64 q,.int .i64 z]
    | 1=>v=.slice (some ⟨b,p,none⟩) n c
    | 2=>v=.int .i64 (t:Int)
    | 3=>v=.pointer (some ⟨b,p+t*3,none⟩)
    | 4=>v=.agg #[.int .i64 s1,.int .i64 q1,.int .i64 z1]
    | 5=>v=.bool eb
    | _=>True) ?_ ?_
   case refine_1 =>
    simp only[List.take_succ_cons,List.take_zero,flowAct,Nat.zero_add,Nat.reduceAdd,Act.put,List.setIfInBounds_toArray,List.set_cons_succ,List.set_cons_zero]
    rfl
   ·simp only[List.take_succ_cons,List.take_zero,flowStepsG]
    refine⟨?_,?_,?_,?_,?_,?_,trivial⟩
    ·intro us W K HE hd HK
     have BW:=hid (BX.out.ext (EO.out.next (sg_undrew HE.out)));dsimp only at HK⊢;clear hd;go_wp2_with ((refine wpList_load_want (by rfl) 68 (.tmp 3) rfl w.heap.size (by kernel_rfl) BW.out Tryz.underlying68 rfl (info_id.trans rfl) ?_))
     exact K_at (Kz HK) (by kernel_rfl)
    ·intro us W K HE hd HK
     dsimp only at HK⊢;clear hd;go_wp2_with fail
     exact K_at (Kz HK) (by kernel_rfl)
    ·intro us W K HE hd HK
     dsimp only at HK⊢;clear hd;go_wp2_with fail
     exact K_at (Kz HK) (by kernel_rfl)
    ·intro us W K HE hd HK
     have d1:=hd 1 (by kernel_rfl)
     have d2:=hd 2 (by kernel_rfl)
     dsimp only at HK⊢;rw[d1,d2] at HK⊢;clear hd d1 d2;go_wp2_with fail
     exact K_at (Kz HK) (by kernel_rfl)
    ·intro us W K HE hd HK
     have d3:=hd 3 (by kernel_rfl)
     have HRW:=hid (HR.out W (E1.out.next (EO.out.next (sg_undrew HE.out))));dsimp only at HK⊢;rw[d3] at HK⊢;clear hd d3;go_wp2_with ((refine wpList_midw (by rfl) 68 (.tmp 14) rfl b (p+t*3) rfl [.int .i64 s1,.int .i64 q1,.int .i64 z1] HRW.out Tryz.underlying68 rfl (info_id.trans rfl) ?_))
     exact K_at (Kz HK) (by kernel_rfl)
    ·intro us W K HE hd HK
     have d0:=hd 0 (by kernel_rfl)
     have d4:=hd 4 (by kernel_rfl)
     have hq:=HQ.out;dsimp only at HK⊢;rw[d0,d4] at HK⊢;clear hd d0 d4;go_wp2_with fail
     exact K_at (Kz HK) (by kernel_rfl)
   ·intro us W hE hd
    try dsimp only
    have d5:=hd 5 (by decide)
    simp only[List.drop_succ_cons,List.drop_zero]
    rw[d5];have EW:=hid (EO.out.next (sg_undrew hE));clear hd hE d5
    cases eb
    ·have hN:=hid (HN.out rfl)
     go_wp2_with fail
     exact⟨⟨t+1,HTN.out,by go_num,EW.out,hN.out⟩,by have:=HTN.out;simp [intOf];omega⟩
    ·have hY:=hid (HY.out rfl)
     go_wp2_with fail
     go_ret
     exact⟨⟨(t:Int),rfl,⟨fun _=>hY.out,fun _=>by omega⟩⟩,E1.out.next EW.out⟩
  ·obtain rfl:t=n:=by omega
   have hmem:decide ((⟨s,q,z⟩:Rid)∈L)=false:=decide_eq_false (fun h=>by
    obtain⟨j,hj⟩:=List.mem_iff_getElem?.1 h
    have hlt2:=(List.getElem?_eq_some_iff.1 hj).1
    rw[HLN.out] at hlt2;exact HZ.out j hlt2 hj)
   go_wp2_with fail
   go_ret
   exact⟨⟨-1,rfl,by rw[hmem];rfl⟩,E1.out.next EO.out⟩
theorem contains_id (L:List Rid)(x:Rid)(A:Option Addr)(n c:Nat)(w:World)(hl:RdN w w.heap.size 3 A n (idsC L))(hn:n≤1000000000000) :
  Calls Tryz.prog 86 #[.slice A n c,.agg #[.int .i64 x.s,.int .i64 x.q,.int .i64 x.i]] w fun e w'=>e=.returned (.bool (decide (x∈L)))∧Ext w w':=by
 have HI:Hid (∀W,Ext w W→Calls Tryz.prog 124 #[.slice A n c,.agg #[.int .i64 x.s,.int .i64 x.q,.int .i64 x.i]] W fun e w'=>(∃v:Int,e=.returned (.int .i64 v)∧decide (0≤v)=decide (x∈L))∧Ext W w'):=hid (fun W hW=>index_id L x A n c W ((hl.below hW (Nat.le_refl _)).more hW.size) hn)
 clear hl;obtain⟨s,q,z⟩:=x;dsimp only at HI⊢;obtain⟨eb,heb⟩:∃e,e=decide ((⟨s,q,z⟩:Rid)∈L):=⟨_,rfl⟩
 rw[←heb] at HI⊢;clear heb;go_enter Tryz.func86,Tryz.ntmps86
 go_upto_region 1 with fail
 obtain⟨w1,hw1⟩:∃x,x=w.alloc (.cells #[.int .i64 s,.int .i64 q,.int .i64 z] 68):=⟨_,rfl⟩
 change Code.wp _ _ _ _ (w.alloc (.cells #[.int .i64 s,.int .i64 q,.int .i64 z] 68))
 rw[←hw1];have E1:Hid (Ext w w1):=hid (by rw[hw1];exact (Ext.refl w).alloc _)
 have BX:Hid (Blk w1 w.heap.size 68 [.int .i64 s,.int .i64 q,.int .i64 z]):=hid (by rw[hw1];exact Blk.fresh' _ _ _ _ _ rfl rfl)
 clear hw1
 go_wp2_with (first
  | (refine wpList_load_blk rfl 68 (.tmp 3) rfl w.heap.size (by kernel_rfl) BX.out Tryz.underlying68 rfl (info_id.trans rfl) ?_)
  | (go_at_call 124;(with_reducible refine (HI.out w1 E1.out).mono ?_);rintro e w2 ⟨⟨v,rfl,hv⟩,hE2⟩))
 go_ret
 exact⟨rfl,E1.out.next hE2⟩
end
section
attribute [local go_sem ↓] wp_at_zero wp_at_succ
section
variable {α β:Type}
theorem flatK_len (f:α→List β)(K:Nat):∀(L:List α),(∀x∈L,(f x).length=K)→(L.flatMap f).length=L.length*K
 | [],_=>by simp
 | x::L,h=>by
  rw[List.flatMap_cons,List.length_append,h x (List.mem_cons_self ..),flatK_len f K L (fun y hy=>h y (List.mem_cons_of_mem _ hy)),List.length_cons,Nat.succ_mul,Nat.add_comm]
theorem flatK_at (f:α→List β)(K:Nat):∀(L:List α),(∀x∈L,(f x).length=K)→∀(k:Nat) (x:α),L[k]?=some x→∀j,j<K→(L.flatMap f)[k*K+j]?=(f x)[j]?
 | [],_,_,_,h,_,_=>by simp at h
 | y::L,hK,0,x,h,j,hj=>by
  simp only[List.getElem?_cons_zero,Option.some.injEq] at h
  subst h;rw[List.flatMap_cons,Nat.zero_mul,Nat.zero_add,List.getElem?_append_left (by rw[hK y (List.mem_cons_self ..)];exact hj)]
 | y::L,hK,k+1,x,h,j,hj=>by
  simp only[List.getElem?_cons_succ] at h
  have hy:=hK y (List.mem_cons_self ..);rw[List.flatMap_cons,List.getElem?_append_right (by rw[hy,Nat.succ_mul];omega),hy]
  have e:(k+1)*K+j-K=k*K+j:=by rw[Nat.succ_mul];omega
  rw[e];exact flatK_at f K L (fun z hz=>hK z (List.mem_cons_of_mem _ hz)) k x h j hj
end
structure RX where
 r:Rev
 A:Option Addr
 n:Nat
 c:Nat
def rxC (x:RX):List Value:=revC x.r x.A x.n x.c
def rxsC (L:List RX):List Value:=L.flatMap rxC
def RXV (w:World)(x:RX):Prop:=RevV w x.r x.A x.n x.c
theorem RXV.ext {w w':World}{x:RX}(h:RXV w x)(hE:Ext w w'):RXV w' x:=RevV.ext h hE
theorem RXV.len {w:World}{x:RX}(h:RXV w x):(rxC x).length=22:=revC_len _ _ _ _ h.mean
theorem rxC_one (x:RX):∀v∈rxC x,v.oneCell'=true:=revC_one _ _ _ _
theorem rx_at {w:World}{B n:Nat}{A:Option Addr}{L:List RX}(h:RdN w B 22 A n (rxsC L))(hL:∀x∈L,(rxC x).length=22)(hn:0<n):∃b p,A=some ⟨b,p,none⟩∧b<B∧∀W:World,(∀a:Addr,a.block<B→W.cell? a=w.cell? a)→∀k x,L[k]?=some x→W.rangeAt b (p+k*22) (rxC x):=by
 obtain⟨b,p,hA,hb,hc⟩:=h.2 hn;refine⟨b,p,hA,hb,fun W hW k x hx j u hu=>?_⟩
 have hj:j<22:=by
  have:=(List.getElem?_eq_some_iff.1 hu).1
  rw[hL x (List.mem_of_getElem? hx)] at this
  exact this
 rw[Nat.add_assoc];exact (hW _ hb).trans (hc (k*22+j) u ((flatK_at rxC 22 L hL k x hx j hj).trans hu))
theorem rx_n {w:World}{B n:Nat}{A:Option Addr}{L:List RX}(h:RdN w B 22 A n (rxsC L))(hL:∀x∈L,(rxC x).length=22):L.length=n:=by
 have h1:=h.1;unfold rxsC at h1;rw[flatK_len rxC 22 L hL] at h1;omega
def meetB (a b:List Rid):Bool:=a.any fun x=>decide (x∈b)
theorem clos3_any (y:RX)(x:Rid)(g:Nat)(w:World)(hB:Blk w g 28 (rxC y))(hy:RXV w y) :
  Calls Tryz.prog 85 #[.agg #[.int .i64 x.s,.int .i64 x.q,.int .i64 x.i],.pointer (some ⟨g,0,none⟩)] w fun e w'=>e=.returned (.bool (decide (x∈y.r.ops)))∧Ext w w':=by
 have HC:Hid (∀W,Ext w W→Calls Tryz.prog 86 #[.slice y.A y.n y.c,.agg #[.int .i64 x.s,.int .i64 x.q,.int .i64 x.i]] W fun e w'=>e=.returned (.bool (decide (x∈y.r.ops)))∧Ext W w'):=hid (fun W hW=>contains_id y.r.ops x y.A y.n y.c W (hy.ext hW).row hy.few)
 have HB:=hid hB;clear hy hB;obtain⟨s,q,z⟩:=x;obtain⟨yr,yA,yn,yc⟩:=y;dsimp only at HC⊢;obtain⟨eb,heb⟩:∃e,e=decide ((⟨s,q,z⟩:Rid)∈yr.ops):=⟨_,rfl⟩
 rw[←heb] at HC⊢;clear heb;go_enter Tryz.func85,Tryz.ntmps85
 go_upto_region 1 with fail
 obtain⟨w1,hw1⟩:∃x,x=w.alloc (.cells #[.int .i64 s,.int .i64 q,.int .i64 z] 68):=⟨_,rfl⟩
 change Code.wp _ _ _ _ (w.alloc (.cells #[.int .i64 s,.int .i64 q,.int .i64 z] 68))
 rw[←hw1];have E1:Hid (Ext w w1):=hid (by rw[hw1];exact (Ext.refl w).alloc _)
 have BX:Hid (Blk w1 w.heap.size 68 [.int .i64 s,.int .i64 q,.int .i64 z]):=hid (by rw[hw1];exact Blk.fresh' _ _ _ _ _ rfl rfl)
 have c4:w1.cell? ⟨g,4,none⟩=some (.slice yA yn yc):=(HB.out.ext E1.out).cell 4
 clear hw1
 go_wp2_with (first
  | (refine wpList_load_blk rfl 68 (.tmp 2) rfl w.heap.size (by kernel_rfl) BX.out Tryz.underlying68 rfl (info_id.trans rfl) ?_)
  | (go_at_call 86;(with_reducible refine (HC.out w1 E1.out).mono ?_);rintro e w2 ⟨rfl,hE2⟩))
 go_ret
 exact⟨rfl,E1.out.next hE2⟩
theorem indexF_id {n:Nat}(A:Option Addr)(c:Nat)(v1:Value)(p:Nat→Bool)(w:World)(b o:Nat)(hA:0<n→A=some ⟨b,o,none⟩)(encs:Nat→List Value)(hR:∀j,j<n→∀W,Ext w W→W.rangeAt b (o+j*3) (encs j))(hlen:∀j,j<n→(encs j).length=3)
  (hn:n≤1000000000000) (hp:∀j,j<n→∀W,Ext w W→Calls Tryz.prog 85 #[.agg (encs j).toArray,v1] W fun e w'=>e=.returned (.bool (p j))∧Ext W w') :
  Calls Tryz.prog 123 #[.slice A n c,.func (.func 85) #[] #[v1]] w fun e w'=>(∃v:Int,e=.returned (.int .i64 v)∧decide (0≤v)=(List.range n).any p)∧Ext w w':=by
 have HR:=hid hR;have HP:=hid hp;have HLN:=hid hlen;clear hR hp hlen;go_enter Tryz.func123,Tryz.ntmps123
 go_wp2_with fail
 go_loopw [5,8] (fun _ k wr=>∃t:Nat,t≤n∧k=.int .i64 (t:Int)∧Ext w wr∧∀j,j<t→p j=false) (fun _ k _=>n-(intOf k).toNat)
 case atStart=>exact⟨0,by omega,rfl,Ext.refl _,fun j hj=>by omega⟩
 case round =>
  obtain⟨t,ht,rfl,hE,hz⟩:=hrel;have EO:=hid hE;have HZ:=hid hz;clear hE hz;obtain⟨wo,rfl⟩:∃x:World,x=wr:=⟨_,rfl⟩
  by_cases hlt:t<n
  ·have hA':=hA (by omega)
   subst hA';have HRW:=hid (HR.out t hlt wo EO.out);have HPW:=hid (HP.out t hlt);have HLE:=hid (HLN.out t hlt);have HTN:Hid (t+1≤n):=hid (by omega)
   obtain⟨E,hE⟩:∃E,E=encs t:=⟨_,rfl⟩
   rw[←hE] at HRW HPW HLE;obtain⟨pb,hpb⟩:∃x,x=p t:=⟨_,rfl⟩
   rw[←hpb] at HPW;have HY:Hid (pb=true→(List.range n).any p=true):=hid (fun h=>List.any_eq_true.2 ⟨t,List.mem_range.2 hlt,by rw[←hpb,h]⟩)
   have HN:Hid (pb=false→∀j,j<t+1→p j=false):=hid (fun h j hj=>by
    rcases Nat.lt_or_ge j t with h1|h1
    ·exact HZ.out j h1
    ·obtain rfl:j=t:=by omega
     rw[←hpb,h])
   clear hE hpb
   cases pb
   ·have hN:=hid (HN.out rfl)
    go_wp2_with (first
     | (refine wpList_midw (by rfl) 68 (.tmp 14) rfl b (o+t*3) (by kernel_rfl) E HRW.out Tryz.underlying68 rfl (info_id.trans (congrArg some HLE.out.symm)) ?_)
     | (go_at_call 85;(with_reducible refine (HPW.out wo EO.out).mono ?_);rintro e w2 ⟨rfl,hE2⟩))
    exact⟨⟨t+1,HTN.out,by go_num,EO.out.next hE2,hN.out⟩,by have:=HTN.out;simp [intOf];omega⟩
   ·have hY:=hid (HY.out rfl)
    go_wp2_with (first
     | (refine wpList_midw (by rfl) 68 (.tmp 14) rfl b (o+t*3) (by kernel_rfl) E HRW.out Tryz.underlying68 rfl (info_id.trans (congrArg some HLE.out.symm)) ?_)
     | (go_at_call 85;(with_reducible refine (HPW.out wo EO.out).mono ?_);rintro e w2 ⟨rfl,hE2⟩))
    go_ret
    exact⟨⟨(t:Int),rfl,by rw[hY.out];exact decide_eq_true (by omega)⟩,EO.out.next hE2⟩
  ·obtain rfl:t=n:=by omega
   have hno:(List.range t).any p=false:=by
    rw[Bool.eq_false_iff];intro h;obtain⟨j,hj,hpj⟩:=List.any_eq_true.1 h;rw[HZ.out j (List.mem_range.1 hj)] at hpj
    cases hpj
   go_wp2_with fail
   go_ret
   exact⟨⟨-1,rfl,by rw[hno];rfl⟩,EO.out⟩
theorem containsF_id {n:Nat}(A:Option Addr)(c:Nat)(v1:Value)(p:Nat→Bool)(w:World)(b o:Nat)(hA:0<n→A=some ⟨b,o,none⟩)(encs:Nat→List Value)(hR:∀j,j<n→∀W,Ext w W→W.rangeAt b (o+j*3) (encs j))(hlen:∀j,j<n→(encs j).length=3)
  (hn:n≤1000000000000) (hp:∀j,j<n→∀W,Ext w W→Calls Tryz.prog 85 #[.agg (encs j).toArray,v1] W fun e w'=>e=.returned (.bool (p j))∧Ext W w') :
  Calls Tryz.prog 84 #[.slice A n c,.func (.func 85) #[] #[v1]] w fun e w'=>e=.returned (.bool ((List.range n).any p))∧Ext w w':=by
 have HI:=hid (indexF_id A c v1 p w b o hA encs hR hlen hn hp);clear hA hR hlen hp;obtain⟨eb,heb⟩:∃e,e=(List.range n).any p:=⟨_,rfl⟩
 rw[←heb] at HI⊢;clear heb;go_enter Tryz.func84,Tryz.ntmps84
 go_wp2_with (go_at_call 123;(with_reducible refine HI.out.mono ?_);rintro e w2 ⟨⟨v,rfl,hv⟩,hE2⟩)
 go_ret
 exact⟨rfl,hE2⟩
theorem indexF_rv {n:Nat}(A:Option Addr)(c:Nat)(v1 v2:Value)(p:Nat→Bool)(w:World)(b o:Nat)(hA:0<n→A=some ⟨b,o,none⟩)(encs:Nat→List Value)(hR:∀j,j<n→∀W,Ext w W→W.rangeAt b (o+j*22) (encs j))(hlen:∀j,j<n→(encs j).length=22)
  (hn:n≤1000000000000) (hp:∀j,j<n→∀W,Ext w W→Calls Tryz.prog 83 #[.agg (encs j).toArray,v1,v2] W fun e w'=>e=.returned (.bool (p j))∧Ext W w') :
  Calls Tryz.prog 122 #[.slice A n c,.func (.func 83) #[] #[v1,v2]] w fun e w'=>(∃v:Int,e=.returned (.int .i64 v)∧decide (0≤v)=(List.range n).any p)∧Ext w w':=by
 have HR:=hid hR;have HP:=hid hp;have HLN:=hid hlen;clear hR hp hlen;go_enter Tryz.func122,Tryz.ntmps122
 go_wp2_with fail
 go_loopw [5,8] (fun _ k wr=>∃t:Nat,t≤n∧k=.int .i64 (t:Int)∧Ext w wr∧∀j,j<t→p j=false) (fun _ k _=>n-(intOf k).toNat)
 case atStart=>exact⟨0,by omega,rfl,Ext.refl _,fun j hj=>by omega⟩
 case round =>
  obtain⟨t,ht,rfl,hE,hz⟩:=hrel;have EO:=hid hE;have HZ:=hid hz;clear hE hz;obtain⟨wo,rfl⟩:∃x:World,x=wr:=⟨_,rfl⟩
  by_cases hlt:t<n
  ·have hA':=hA (by omega)
   subst hA';have HRW:=hid (HR.out t hlt wo EO.out);have HPW:=hid (HP.out t hlt);have HLE:=hid (HLN.out t hlt);have HTN:Hid (t+1≤n):=hid (by omega)
   obtain⟨E,hE⟩:∃E,E=encs t:=⟨_,rfl⟩
   rw[←hE] at HRW HPW HLE;obtain⟨pb,hpb⟩:∃x,x=p t:=⟨_,rfl⟩
   rw[←hpb] at HPW;have HY:Hid (pb=true→(List.range n).any p=true):=hid (fun h=>List.any_eq_true.2 ⟨t,List.mem_range.2 hlt,by rw[←hpb,h]⟩)
   have HN:Hid (pb=false→∀j,j<t+1→p j=false):=hid (fun h j hj=>by
    rcases Nat.lt_or_ge j t with h1|h1
    ·exact HZ.out j h1
    ·obtain rfl:j=t:=by omega
     rw[←hpb,h])
   clear hE hpb
   cases pb
   ·have hN:=hid (HN.out rfl)
    go_wp2_with (first
     | (refine wpList_midw (by rfl) 28 (.tmp 14) rfl b (o+t*22) (by kernel_rfl) E HRW.out Tryz.underlying28 rfl (info_rev.trans (congrArg some HLE.out.symm)) ?_)
     | (go_at_call 83;(with_reducible refine (HPW.out wo EO.out).mono ?_);rintro e w2 ⟨rfl,hE2⟩))
    exact⟨⟨t+1,HTN.out,by go_num,EO.out.next hE2,hN.out⟩,by have:=HTN.out;simp [intOf];omega⟩
   ·have hY:=hid (HY.out rfl)
    go_wp2_with (first
     | (refine wpList_midw (by rfl) 28 (.tmp 14) rfl b (o+t*22) (by kernel_rfl) E HRW.out Tryz.underlying28 rfl (info_rev.trans (congrArg some HLE.out.symm)) ?_)
     | (go_at_call 83;(with_reducible refine (HPW.out wo EO.out).mono ?_);rintro e w2 ⟨rfl,hE2⟩))
    go_ret
    exact⟨⟨(t:Int),rfl,by rw[hY.out];exact decide_eq_true (by omega)⟩,EO.out.next hE2⟩
  ·obtain rfl:t=n:=by omega
   have hno:(List.range t).any p=false:=by
    rw[Bool.eq_false_iff];intro h;obtain⟨j,hj,hpj⟩:=List.any_eq_true.1 h;rw[HZ.out j (List.mem_range.1 hj)] at hpj
    cases hpj
   go_wp2_with fail
   go_ret
   exact⟨⟨-1,rfl,by rw[hno];rfl⟩,EO.out⟩
theorem containsF_rv {n:Nat}(A:Option Addr)(c:Nat)(v1 v2:Value)(p:Nat→Bool)(w:World)(b o:Nat)(hA:0<n→A=some ⟨b,o,none⟩)(encs:Nat→List Value)(hR:∀j,j<n→∀W,Ext w W→W.rangeAt b (o+j*22) (encs j))(hlen:∀j,j<n→(encs j).length=22)
  (hn:n≤1000000000000) (hp:∀j,j<n→∀W,Ext w W→Calls Tryz.prog 83 #[.agg (encs j).toArray,v1,v2] W fun e w'=>e=.returned (.bool (p j))∧Ext W w') :
  Calls Tryz.prog 82 #[.slice A n c,.func (.func 83) #[] #[v1,v2]] w fun e w'=>e=.returned (.bool ((List.range n).any p))∧Ext w w':=by
 have HI:=hid (indexF_rv A c v1 v2 p w b o hA encs hR hlen hn hp);clear hA hR hlen hp;obtain⟨eb,heb⟩:∃e,e=(List.range n).any p:=⟨_,rfl⟩
 rw[←heb] at HI⊢;clear heb;go_enter Tryz.func82,Tryz.ntmps82
 go_wp2_with (go_at_call 122;(with_reducible refine HI.out.mono ?_);rintro e w2 ⟨⟨v,rfl,hv⟩,hE2⟩)
 go_ret
 exact⟨rfl,hE2⟩
end
end Go.Proofs.YtjeecfjeooehhaaGreatDoor