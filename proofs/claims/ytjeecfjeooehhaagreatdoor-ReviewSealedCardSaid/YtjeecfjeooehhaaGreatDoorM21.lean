/- The walks of the reference's Short and Of. No condition. -/
import Derived.Test.YtjeecfjeooehhaaGreatDoorM20
set_option linter.unusedSimpArgs false
set_option linter.unusedVariables false
set_option maxHeartbeats 16000000
set_option maxRecDepth 100000
namespace Go.Proofs.YtjeecfjeooehhaaGreatDoor
open Go.RowKit
open Lib (hid)
section
theorem RTab.below {w w':World}(h:RTab w)(hb:Below w.heap.size w w'):RTab w':=Tab.below h hb (Tab.lt h)
theorem KTab.below {w w':World}(h:KTab w)(hb:Below w.heap.size w w'):KTab w':=Tab.below h hb (Tab.lt h)
theorem KTab.drew {w:World}(h:KTab w):KTab w.drew:=h
theorem KTab.alloc {w:World}(h:KTab w)(o:Obj):KTab (w.alloc o):=Tab.alloc h o
theorem info_16u8:(Tryz.prog.info? 26).map (·.size)=some 16:=by kernel_rfl
theorem u8s_all (l:List Int):(u8s l).toArray.all (·.oneCell')=true:=Array.all_eq_true'.2 (fun v hv=>u8s_one l v (by simpa using hv))
theorem zero16_len:(u8s (List.replicate 16 0)).toArray.size=16:=rfl
def upTo (l:List Int)(t:Nat):List Int:=l.take t++List.replicate (16-t) 0
theorem upTo_set (l:List Int)(t:Nat)(h:t<16)(hl:16≤l.length):(u8s (upTo l t)).set t (.int .u8 (l.getD t 0))=u8s (upTo l (t+1)):=by
 have hx:l[t]?=some (l.getD t 0):=by simp [List.getD_eq_getElem?_getD,List.getElem?_eq_getElem (show t<l.length by omega)]
 have h16:16-t=16-(t+1)+1:=by omega
 unfold upTo u8s;rw[List.take_add_one,hx,h16,List.replicate_succ,←List.map_set,List.set_append_right _ _ (by simp;omega)]
 simp [Nat.min_eq_left (show t≤l.length by omega)]
theorem rshort_any (l:List Int)(A:Option Addr)(n c:Nat)(w:World)(hl:Rd w w.heap.size A n (u8s l))(hb:Byt l)(hn:n≤1000000000000)(hK:RTab w) :
  Calls Tryz.prog 104 #[.slice A n c] w fun e w'=>e=.returned (.agg (u8s ((sha l).take 16)).toArray)∧Below w.heap.size w w':=by
 have HL:=hid hl;have HK:=hid hK;clear hl hK;obtain⟨O,hO⟩:∃O:List Int,O=sha l:=⟨_,rfl⟩
 have HOL:Hid (O.length=32):=hid (by rw[hO,sha_length])
 have HO:=hid hO;clear hO;go_enter Tryz.func104,Tryz.ntmps104
 go_wp2_with fail
 obtain⟨w0,hw0⟩:∃w0,w0=w.alloc (.cells (u8s (List.replicate 16 0)).toArray 26):=⟨_,rfl⟩
 have hbl:Blk w0 w.heap.size 26 (u8s (List.replicate 16 0)):=by rw[hw0];exact Blk.fresh _ _ _
 have hB0:Below w.heap.size w w0:=by rw[hw0];exact (Below.refl _ _).alloc (Nat.le_refl _) _
 have hz0:w.heap.size<w0.heap.size:=hbl.lt;change Calls _ _ _ (w.alloc (.cells (u8s (List.replicate 16 0)).toArray 26)) _
 rw[←hw0];clear hw0;refine (rsum_any l A n c w0 ((HL.out.below' hB0 (Nat.le_refl _)).more (Nat.le_of_lt hz0)) hb hn (Tab.below HK.out hB0 (Tab.lt HK.out))).mono ?_
 rintro e w1 ⟨rfl,hB1⟩
 rw[←HO.out];have hone:(u8s O).toArray.all (·.oneCell')=true:=by simp [u8s,Value.oneCell']
 have hsz:(u8s O).toArray.size=32:=by simp [u8s,HOL.out]
 have hb1:=hB0.trans (hB1.mono (Nat.le_of_lt hz0));have hbl1:=hbl.below hB1 hz0;have hz1:=hB1.size;clear hbl hB1 hB0;have HONE:=hid hone;have HSZ:=hid hsz;have HBL1:=hid hbl1;clear hone hsz hbl1;obtain⟨V,hV⟩:∃V,V=u8s O:=⟨_,rfl⟩
 rw[←hV] at HONE HSZ⊢;have HV:=hid hV;clear hV;go_wp2_with (refine wpList_store_row rfl 189 (.tmp 3) (.tmp 7) rfl w1.heap.size _ rfl rfl 189 _ (heap_alloc_new _ _) (info_32u8.trans (congrArg some HSZ.out.symm)) HSZ.out.symm HONE.out ?_)
 go_loopw [5] (fun i wr=>∃t:Nat,t≤16∧i=.int .i64 t∧Blk wr w1.heap.size 189 V∧Blk wr (w1.heap.size+1) 26 (u8s (upTo O t))∧Blk wr w.heap.size 26 (u8s (List.replicate 16 0))∧Below w.heap.size w wr)
  (fun i _=>16-(intOf i).toNat)
 case atStart =>
  have q0:Blk (w1.alloc (.cells (u8s (List.replicate 32 0)).toArray 189)) w1.heap.size 189 (u8s (List.replicate 32 0)):=Blk.fresh _ _ _;have q1:=q0.setRow V;have q2:=((HBL1.out.alloc (.cells (u8s (List.replicate 32 0)).toArray 189))).setRow_far (k:=w1.heap.size) (by omega) V.toArray
  have q3:=below_row (hb1.alloc (by omega) (.cells (u8s (List.replicate 32 0)).toArray 189)) (g:=w1.heap.size) (by omega) V.toArray
  refine⟨0,by omega,rfl,q1.alloc _,Blk.fresh' _ _ (u8s (List.replicate 16 0)) _ _ rfl (by simp),q2.alloc _,q3.alloc (by simp;omega) _⟩
 case round =>
  obtain⟨t,ht,rfl,hv,hd,h0,hB⟩:=hrel;have HB1:=hid hv;have HB2:=hid hd;have HB3:=hid h0;have hneq:w1.heap.size≠w.heap.size:=by omega
  by_cases hlt:t<16
  ·have c0:=hv.cell t
   rw[HV.out,u8s_get _ t (by rw[HOL.out];omega)] at c0
   have fz:=hd.frozen t;have cd:=hd.cell t;have hul:(upTo O t).length=16:=by unfold upTo;simp [HOL.out];omega
   rw[u8s_get _ t (by rw[hul];exact hlt)] at cd
   have HS:=hid (upTo_set O t hlt (by rw[HOL.out];omega))
   clear hv hd h0 hul;generalize O.getD t 0=x at *
   generalize (upTo O t).getD t 0=y at *
   go_wp2_with fail
   go_roundw
   case rel =>
    refine⟨t+1,by omega,by go_num,HB1.out.far (by simp) _,?_,HB3.out.far (by simp;omega) _,hB.setCell (by simp;omega) _⟩
    rw[←HS.out];exact HB2.out.set t _
   case measure=>simp [intOf];omega
  ·obtain rfl:t=16:=by omega
   have he:upTo O 16=(sha l).take 16:=by unfold upTo;rw[HO.out];simp
   rw[he] at hd;have hs16:(u8s ((sha l).take 16)).toArray.size=16:=by simp [u8s,sha_length]
   have ho16:(u8s ((sha l).take 16)).toArray.all (·.oneCell')=true:=u8s_all _;have HS16:=hid hs16;have HO16:=hid ho16;clear hs16 ho16 he HB2;generalize hout:u8s ((sha l).take 16)=out at *
   have HOUT:=hid hout;clear hout
   go_wp2_with (first
    | refine wpList_load_row rfl 26 (.tmp 4) rfl (w1.heap.size+1) rfl 26 _ (0,0) _ hd Tryz.underlying26 rfl (info_16u8.trans (congrArg some HS16.out.symm)) ?_
    | refine wpList_store_row rfl 26 (.tmp 2) (.tmp 18) rfl w.heap.size _ rfl rfl 26 _ h0 (info_16u8.trans (congrArg some HS16.out.symm)) (zero16_len.trans HS16.out.symm) HO16.out ?_)
   exact bodyPost_ret (results_cell_row Tryz.results104 _ _ w.heap.size 26 _ (0,0) _ rfl (h0.setRow out) Tryz.underlying26 rfl (info_16u8.trans (congrArg some HS16.out.symm))) rfl ⟨by rw[HOUT.out],below_row hB (Nat.le_refl _) _⟩
theorem rof_any (tag:Int)(l:List ByteArray)(A:Option Addr)(n c:Nat)(w:World)(hl:Rd w w.heap.size A n (strs l))(hn:n≤9223372036854775807)(hcat:(encs l).length≤100000000000)(hK:RTab w) :
  Calls Tryz.prog 50 #[.int .i64 tag,.slice A n c] w fun e w'=>e=.returned (.agg (u8s ((sha (inputB tag l)).take 16)).toArray)∧Below w.heap.size w w':=by
 have HL:=hid hl;have HK:=hid hK;have HBY:=hid (inputB_byt tag l (by omega))
 have hlen:(inputB tag l).length≤1000000000000:=by simp only[inputB,List.length_cons];omega
 obtain⟨V,hV⟩:∃V,V=u8s ((sha (inputB tag l)).take 16):=⟨_,rfl⟩
 have HSZ:Hid (V.toArray.size=16):=hid (by rw[hV];simp [u8s,sha_length])
 have HONE:Hid (V.toArray.all (·.oneCell')=true):=hid (by rw[hV];exact u8s_all _)
 have HV:=hid hV;clear hl hK hV;go_enter Tryz.func50,Tryz.ntmps50
 go_wp2_with fail
 obtain⟨w0,hw0⟩:∃w0,w0=w.alloc (.cells (u8s (List.replicate 16 0)).toArray 26):=⟨_,rfl⟩
 have hbl:Blk w0 w.heap.size 26 (u8s (List.replicate 16 0)):=by rw[hw0];exact Blk.fresh _ _ _
 have hB0:Below w.heap.size w w0:=by rw[hw0];exact (Below.refl _ _).alloc (Nat.le_refl _) _
 have hz0:w.heap.size<w0.heap.size:=hbl.lt;change Calls _ _ _ (w.alloc (.cells (u8s (List.replicate 16 0)).toArray 26)) _
 rw[←hw0];clear hw0;refine (input_any tag l A n c w0 ((HL.out.below' hB0 (Nat.le_refl _)).more (Nat.le_of_lt hz0)) hn hcat).mono ?_
 rintro e w1 ⟨⟨A1,c1,rfl,hown⟩,hB1⟩
 have hb1:=hB0.trans (hB1.mono (Nat.le_of_lt hz0));have hbl1:=hbl.below hB1 hz0;have hz1:=hB1.size;go_wp2_with fail
 refine (rshort_any _ A1 _ c1 w1 (Rd.of_own hown) HBY.out hlen (Tab.below HK.out hb1 (Tab.lt HK.out))).mono ?_
 rintro e w2 ⟨rfl,hB2⟩
 rw[←HV.out];have hb2:=hb1.trans (hB2.mono (by omega))
 have hbl2:=hbl1.below hB2 (by omega)
 clear hown hB1 hB2 hbl hbl1 hB0;go_wp2_with (refine wpList_store_row rfl 26 (.tmp 4) (.tmp 8) rfl w.heap.size _ rfl rfl 26 _ hbl2 (info_16u8.trans (congrArg some HSZ.out.symm)) (zero16_len.trans HSZ.out.symm) HONE.out ?_)
 exact bodyPost_ret (results_cell_row Tryz.results50 _ _ w.heap.size 26 _ (0,0) _ rfl (hbl2.setRow V) Tryz.underlying26 rfl (info_16u8.trans (congrArg some HSZ.out.symm))) rfl ⟨by rw[HV.out],below_row hb2 (Nat.le_refl _) _⟩
end
section
def rowAt (n:Nat)(w:World)(v:Value):Option Value :=
 match v with
 | .pointer (some ⟨g,0,none⟩)=>(match w.heap[g]? with|some (.cells cs _ _)=>if cs.size=n then some (.agg cs) else none|_=>none)
 | _=>none
def wpPlain (P:Program)(o:Oper)(a:Act)(w:World)(K:Act→World→Prop)(Q:Exit→Act→World→Prop):Prop:=Oper.wp P o a w K Q
theorem Blk.rowAt {w:World}{g:Nat}{t:TypeId}{cs:List Value}(h:Blk w g t cs){n:Nat}(hn:cs.toArray.size=n):rowAt n w (.pointer (some ⟨g,0,none⟩))=some (.agg cs.toArray):=by
 unfold Blk at h;simp only[Go.Proofs.YtjeecfjeooehhaaGreatDoor.rowAt,h,if_pos hn]
theorem wp_loadStream (dst:Option Tmp)(x:Operand)(ty:TypeId)(pos:String)(after)(guard)(a:Act)(w:World)(K:Act→World→Prop)(Q:Exit→Act→World→Prop) :
  Oper.wp Tryz.prog { dst:=dst,op:=Op.load 195 x,type:=ty,pos:=pos,after:=after,guard:=guard } a w K Q =
   match rowAt 73 w (a.eval x) with
   | some v=>K (a.put dst v) w
   | none=>wpPlain Tryz.prog { dst:=dst,op:=Op.load 195 x,type:=ty,pos:=pos,after:=after,guard:=guard } a w K Q:=by
 cases h:rowAt 73 w (a.eval x) with
 | none=>rfl
 | some v =>
  unfold rowAt at h;split at h
  ·rename_i g hx
   split at h
   ·rename_i cs t fr hg
    split at h
    ·rename_i hs
     injection h with h;subst h
     unfold Oper.wp execOp;simp only[hx,Instr.loadAt,Instr.sureAddr,Sem.run_bind,Sem.run_pure,Result.andThen_ok,run_loadVar_row w g t 195 cs fr _ hg Tryz.underlying195 rfl (info_stream.trans (congrArg some hs.symm))]
     rfl
    ·cases h
   ·cases h
  ·cases h
attribute [local go_sem ↓] wp_at_zero wp_at_succ wp_loadStream
theorem of_any (tag:Int)(l:List ByteArray)(A:Option Addr)(n c:Nat)(w:World)(hl:Rd w w.heap.size A n (strs l))(hn:n≤9223372036854775807)(hcat:(encs l).length≤100000000000)(hK:KTab w) :
  Calls Tryz.prog 106 #[.int .i64 tag,.slice A n c] w fun e w'=>e=.returned (.agg (u8s ((sha (inputB tag l)).take 16)).toArray)∧Below w.heap.size w w':=by
 have HL:=hid hl;have HK:=hid hK;have HBY:=hid (inputB_byt tag l (by omega))
 have hlen:(inputB tag l).length≤1000000000000:=by simp only[inputB,List.length_cons];omega
 obtain⟨V,hV⟩:∃V,V=u8s ((sha (inputB tag l)).take 16):=⟨_,rfl⟩
 have HSZ:Hid (V.toArray.size=16):=hid (by rw[hV];simp [u8s,sha_length])
 have HONE:Hid (V.toArray.all (·.oneCell')=true):=hid (by rw[hV];exact u8s_all _)
 have HV:=hid hV;clear hl hK hV;go_enter Tryz.func106,Tryz.ntmps106
 go_upto_region 1 with (fail)
 obtain⟨w0,hw0⟩:∃w0,w0=w.alloc (.cells (u8s (List.replicate 16 0)).toArray 26):=⟨_,rfl⟩
 have hbl:Blk w0 w.heap.size 26 (u8s (List.replicate 16 0)):=by rw[hw0];exact Blk.fresh _ _ _
 have hB0:Below w.heap.size w w0:=by rw[hw0];exact (Below.refl _ _).alloc (Nat.le_refl _) _
 have hz0:w.heap.size<w0.heap.size:=hbl.lt;change Code.wp _ _ _ _ (w.alloc (.cells (u8s (List.replicate 16 0)).toArray 26))
 rw[←hw0];have HK0:Hid (KTab w0):=hid (Tab.below HK.out hB0 (Tab.lt HK.out));clear hw0;go_cut [5] (fun s5 wx=>∃p5 cs blk,s5=.pointer (some ⟨p5,0,none⟩)∧w0.heap.size≤p5∧Blk wx p5 195 cs∧IsStream cs [tag % 256] blk∧Below w0.heap.size w0 wx)
 case first =>
  have hwr:IntKind.u8.wrap tag=tag % 256:=by simp [IntKind.wrap,IntKind.bits,IntKind.signed]
  have HCV:Hid (∀(g:Nat) (W:World),W.cell? ⟨g,0,none⟩=some (.int .u8 (IntKind.u8.wrap tag))→(convert 23 9 (.slice (some ⟨g,0,none⟩) 1 1)).run Tryz.prog W=.ok (.string (strOf [tag % 256])) W):=hid (fun g W h=>by
   rw[hwr] at h
   have hr:Rd W (g+1) (some ⟨g,0,none⟩) 1 (u8s [tag % 256]):=⟨rfl,fun _=>⟨g,0,rfl,by omega,fun j u hu=>by
    rcases j with _|j
    ·simp only[u8s,List.map_cons,List.getElem?_cons_zero,Option.some.injEq] at hu
     rw[←hu];exact h
    ·simp [u8s] at hu⟩⟩
   exact run_toStr (P:=Tryz.prog) Tryz.underlying23 Tryz.underlying5 Tryz.underlying9 hr 1 (fun h=>by omega))
  clear hwr;have hz:=zero_run;have hcv:=HCV.out
  go_region_with (first
   | (go_at_call 136;refine (begin_any ((w0.drew.alloc (.cells #[.int .u8 (IntKind.u8.wrap tag)] 5)).alloc (.cells zeroS.toArray 195))).mono ?_;rintro e w1 ⟨rfl,hB1⟩;have hb1:Below w0.heap.size w0 w1:=Below.trans (((Below.refl w0.heap.size w0).drew.alloc (by simp) _).alloc (by simp) _) (hB1.mono (by simp;try omega));have HK1:=hid (Tab.below HK0.out hb1 (Tab.lt HK0.out));have hc1:=(((Blk.fresh' w0.drew 5 [.int .u8 (IntKind.u8.wrap tag)] _ w0.heap.size rfl rfl).alloc (.cells zeroS.toArray 195)).below hB1 (by simp;try omega)).cell 0;have hc2:=fun o=>(Blk.alloc (((Blk.fresh' w0.drew 5 [.int .u8 (IntKind.u8.wrap tag)] _ w0.heap.size rfl rfl).alloc (.cells zeroS.toArray 195)).below hB1 (by simp;try omega)) o).cell 0;have hz5:=hid ((Blk.fresh' (w0.drew.alloc (.cells #[.int .u8 (IntKind.u8.wrap tag)] 5)) 195 zeroS _ (w0.heap.size+1) rfl (by simp)).below hB1 (by simp)))
   | (go_at_call 136;refine (begin_any ((w0.drew.alloc (.cells zeroS.toArray 195)).alloc (.cells #[.int .u8 (IntKind.u8.wrap tag)] 5))).mono ?_;rintro e w1 ⟨rfl,hB1⟩;have hb1:Below w0.heap.size w0 w1:=Below.trans (((Below.refl w0.heap.size w0).drew.alloc (by simp) _).alloc (by simp) _) (hB1.mono (by simp;try omega));have HK1:=hid (Tab.below HK0.out hb1 (Tab.lt HK0.out));have hc1:=((Blk.fresh' (w0.drew.alloc (.cells zeroS.toArray 195)) 5 [.int .u8 (IntKind.u8.wrap tag)] _ (w0.heap.size+1) rfl (by simp)).below hB1 (by simp)).cell 0;have hc2:=fun o=>(Blk.alloc ((Blk.fresh' (w0.drew.alloc (.cells zeroS.toArray 195)) 5 [.int .u8 (IntKind.u8.wrap tag)] _ (w0.heap.size+1) rfl (by simp)).below hB1 (by simp)) o).cell 0;have hz5:=hid (((Blk.fresh' w0.drew 195 zeroS _ w0.heap.size rfl rfl).alloc (.cells #[.int .u8 (IntKind.u8.wrap tag)] 5)).below hB1 (by simp;try omega)))
   | (go_at_call 136;refine (begin_any (w0.drew.alloc (.cells #[.int .u8 (IntKind.u8.wrap tag)] 5))).mono ?_;rintro e w1 ⟨rfl,hB1⟩;have hb1:Below w0.heap.size w0 w1:=Below.trans ((Below.refl w0.heap.size w0).drew.alloc (by simp) _) (hB1.mono (by simp;try omega));have HK1:=hid (Tab.below HK0.out hb1 (Tab.lt HK0.out));have hc1:=((Blk.fresh' w0.drew 5 [.int .u8 (IntKind.u8.wrap tag)] _ w0.heap.size rfl rfl).below hB1 (by simp)).cell 0;have hc2:=fun o=>(Blk.alloc ((Blk.fresh' w0.drew 5 [.int .u8 (IntKind.u8.wrap tag)] _ w0.heap.size rfl rfl).below hB1 (by simp)) o).cell 0)
   | (go_at_call 136;refine (begin_any (w0.drew.alloc (.cells zeroS.toArray 195))).mono ?_;rintro e w1 ⟨rfl,hB1⟩;have hb1:Below w0.heap.size w0 w1:=Below.trans ((Below.refl w0.heap.size w0).drew.alloc (by simp) _) (hB1.mono (by simp;try omega));have HK1:=hid (Tab.below HK0.out hb1 (Tab.lt HK0.out));have hz5:=hid ((Blk.fresh' w0.drew 195 zeroS _ w0.heap.size rfl rfl).below hB1 (by simp)))
   | (go_at_call 136;refine (begin_any w0.drew).mono ?_;rintro e w1 ⟨rfl,hB1⟩;have hb1:Below w0.heap.size w0 w1:=Below.trans (Below.refl w0.heap.size w0).drew (hB1.mono (by simp;try omega));have HK1:=hid (Tab.below HK0.out hb1 (Tab.lt HK0.out)))
   | (go_at_call 137;refine (add_any initS [] (List.replicate 64 0) (strOf [tag % 256]) (w1.alloc (.cells #[.int .u8 (IntKind.u8.wrap tag)] 5)) zero_stream (by rw[strOf_size];simp) (Tab.alloc HK1.out _)).mono ?_;rintro e w2 ⟨⟨cs,blk,rfl,hI⟩,hB2⟩;have hb2:Below w0.heap.size w0 w2:=Below.trans (hb1.alloc (by have:=hb1.size;simp;try omega) _) (hB2.mono (by have:=hb1.size;simp;omega));have hI2:=hid hI;have hb5:=hid ((hz5.out.alloc _).below hB2 (by have:=hz5.out.lt;simp;omega));obtain⟨O,hO⟩:∃O,O=cs.toArray:=⟨_,rfl⟩;have hs1:=hI.size;have hs2:=hI.one;rw[←hO] at hs1 hs2⊢;have HO:=hid hO;have HS1:=hid hs1;have hstc:=run_storeRow (P:=Tryz.prog) hb5.out O (hs1.trans zeroS_len.symm) hs2;clear hI hO hs1 hs2)
   | (go_at_call 137;refine (add_any initS [] (List.replicate 64 0) (strOf [tag % 256]) w1 zero_stream (by rw[strOf_size];simp) HK1.out).mono ?_;rintro e w2 ⟨⟨cs,blk,rfl,hI⟩,hB2⟩;have hb2:Below w0.heap.size w0 w2:=Below.trans hb1 (hB2.mono (by have:=hb1.size;simp;omega));have hI2:=hid hI;have hb5:=hid (hz5.out.below hB2 hz5.out.lt);obtain⟨O,hO⟩:∃O,O=cs.toArray:=⟨_,rfl⟩;have hs1:=hI.size;have hs2:=hI.one;rw[←hO] at hs1 hs2⊢;have HO:=hid hO;have HS1:=hid hs1;have hstc:=run_storeRow (P:=Tryz.prog) hb5.out O (hs1.trans zeroS_len.symm) hs2;clear hI hO hs1 hs2)
   | (go_at_call 137;refine (add_any initS [] (List.replicate 64 0) (strOf [tag % 256]) ((w1.alloc (.cells #[.int .u8 (IntKind.u8.wrap tag)] 5)).alloc (.cells zeroS.toArray 195)) zero_stream (by rw[strOf_size];simp) (Tab.alloc (Tab.alloc HK1.out _) _)).mono ?_;rintro e w2 ⟨⟨cs,blk,rfl,hI⟩,hB2⟩;have hb2:Below w0.heap.size w0 w2:=Below.trans ((hb1.alloc (by have:=hb1.size;simp;try omega) _).alloc (by have:=hb1.size;simp;try omega) _) (hB2.mono (by have:=hb1.size;simp;omega));have hI2:=hid hI;have hb5:=hid ((Blk.fresh' (w1.alloc (.cells #[.int .u8 (IntKind.u8.wrap tag)] 5)) 195 zeroS _ (w1.heap.size+1) rfl (by simp)).below hB2 (by simp));obtain⟨O,hO⟩:∃O,O=cs.toArray:=⟨_,rfl⟩;have hs1:=hI.size;have hs2:=hI.one;rw[←hO] at hs1 hs2⊢;have HO:=hid hO;have HS1:=hid hs1;have hstc:=run_storeRow (P:=Tryz.prog) hb5.out O (hs1.trans zeroS_len.symm) hs2;clear hI hO hs1 hs2)
   | (go_at_call 137;refine (add_any initS [] (List.replicate 64 0) (strOf [tag % 256]) ((w1.alloc (.cells zeroS.toArray 195)).alloc (.cells #[.int .u8 (IntKind.u8.wrap tag)] 5)) zero_stream (by rw[strOf_size];simp) (Tab.alloc (Tab.alloc HK1.out _) _)).mono ?_;rintro e w2 ⟨⟨cs,blk,rfl,hI⟩,hB2⟩;have hb2:Below w0.heap.size w0 w2:=Below.trans ((hb1.alloc (by have:=hb1.size;simp;try omega) _).alloc (by have:=hb1.size;simp;try omega) _) (hB2.mono (by have:=hb1.size;simp;omega));have hI2:=hid hI;have hb5:=hid (((Blk.fresh' w1 195 zeroS _ w1.heap.size rfl rfl).alloc (.cells #[.int .u8 (IntKind.u8.wrap tag)] 5)).below hB2 (by simp;try omega));obtain⟨O,hO⟩:∃O,O=cs.toArray:=⟨_,rfl⟩;have hs1:=hI.size;have hs2:=hI.one;rw[←hO] at hs1 hs2⊢;have HO:=hid hO;have HS1:=hid hs1;have hstc:=run_storeRow (P:=Tryz.prog) hb5.out O (hs1.trans zeroS_len.symm) hs2;clear hI hO hs1 hs2)
   | (go_at_call 137;refine (add_any initS [] (List.replicate 64 0) (strOf [tag % 256]) (w1.alloc (.cells #[.int .u8 (IntKind.u8.wrap tag)] 5)) zero_stream (by rw[strOf_size];simp) (Tab.alloc HK1.out _)).mono ?_;rintro e w2 ⟨⟨cs,blk,rfl,hI⟩,hB2⟩;have hb2:Below w0.heap.size w0 w2:=Below.trans (hb1.alloc (by have:=hb1.size;simp;try omega) _) (hB2.mono (by have:=hb1.size;simp;omega));have hI2:=hid hI;have hb5:=hid (Blk.fresh' w2 195 zeroS _ _ rfl rfl);obtain⟨O,hO⟩:∃O,O=cs.toArray:=⟨_,rfl⟩;have hs1:=hI.size;have hs2:=hI.one;rw[←hO] at hs1 hs2⊢;have HO:=hid hO;have HS1:=hid hs1;have hstc:=run_storeRow (P:=Tryz.prog) hb5.out O (hs1.trans zeroS_len.symm) hs2;clear hI hO hs1 hs2)
   | (go_at_call 137;refine (add_any initS [] (List.replicate 64 0) (strOf [tag % 256]) (w1.alloc (.cells zeroS.toArray 195)) zero_stream (by rw[strOf_size];simp) (Tab.alloc HK1.out _)).mono ?_;rintro e w2 ⟨⟨cs,blk,rfl,hI⟩,hB2⟩;have hb2:Below w0.heap.size w0 w2:=Below.trans (hb1.alloc (by have:=hb1.size;simp;try omega) _) (hB2.mono (by have:=hb1.size;simp;omega));have hI2:=hid hI;have hb5:=hid ((Blk.fresh' w1 195 zeroS _ w1.heap.size rfl rfl).below hB2 (by simp));obtain⟨O,hO⟩:∃O,O=cs.toArray:=⟨_,rfl⟩;have hs1:=hI.size;have hs2:=hI.one;rw[←hO] at hs1 hs2⊢;have HO:=hid hO;have HS1:=hid hs1;have hstc:=run_storeRow (P:=Tryz.prog) hb5.out O (hs1.trans zeroS_len.symm) hs2;clear hI hO hs1 hs2)
   | (go_at_call 137;refine (add_any initS [] (List.replicate 64 0) (strOf [tag % 256]) w1 zero_stream (by rw[strOf_size];simp) HK1.out).mono ?_;rintro e w2 ⟨⟨cs,blk,rfl,hI⟩,hB2⟩;have hb2:Below w0.heap.size w0 w2:=Below.trans hb1 (hB2.mono (by have:=hb1.size;simp;omega));have hI2:=hid hI;have hb5:=hid (Blk.fresh' w2 195 zeroS _ _ rfl rfl);obtain⟨O,hO⟩:∃O,O=cs.toArray:=⟨_,rfl⟩;have hs1:=hI.size;have hs2:=hI.one;rw[←hO] at hs1 hs2⊢;have HO:=hid hO;have HS1:=hid hs1;have hstc:=run_storeRow (P:=Tryz.prog) hb5.out O (hs1.trans zeroS_len.symm) hs2;clear hI hO hs1 hs2))
  all_goals
   go_wp2_with fail
   go_meet
   case rel=>exact⟨_,cs,blk,rfl,by first|exact hb2.size|(have:=hb1.size;omega),by rw[HO.out];exact hb5.out.setRow cs,by have h:=hI2.out;rw[List.nil_append,bys_strOf _ (Byt.one (by omega) (by omega))] at h;exact h,below_row (by first|exact hb2|exact hb2.alloc hb2.size _) (by first|exact hb2.size|(have:=hb1.size;omega)) _⟩
 case rest =>
  obtain⟨p5,cs,blk,rfl,hp5,hb5,hI,hB5⟩:=hcut;have hbw:=hB0.trans (hB5.mono (Nat.le_of_lt hz0));have hblw:=hbl.below hB5 hz0;have hzw:=hB5.size;have HIN:Hid (inputB tag (l.take 0)=[tag % 256]):=hid rfl;have hlen2:l.length=n:=by simpa [strs] using HL.out.1
  have HCAT:Hid (∀t,(encs (l.take t)).length≤100000000000):=hid (fun t=>Nat.le_trans (encs_take_le l t) hcat)
  have HN:=hid hlen2;have HB5:=hid hb5;have HI5:=hid hI;have HBL:=hid hblw;clear hlen2 hb5 hI hblw hbl HK0 hB0;obtain⟨wb,rfl⟩:∃x:World,x=wc:=⟨_,rfl⟩
  have hp5b:=HB5.out.lt;go_wp2_with fail
  go_loopw [17] (fun i wr=>∃(t:Nat) (cs:List Value) (blk:List Int),t≤n∧i=.int .i64 t∧Blk wr p5 195 cs∧IsStream cs (inputB tag (l.take t)) blk∧Blk wr w.heap.size 26 (u8s (List.replicate 16 0))∧Below w.heap.size w wr)
   (fun i _=>n-(intOf i).toNat)
  case atStart=>exact⟨0,cs,blk,Nat.zero_le _,rfl,HB5.out,by rw[HIN.out];exact HI5.out,HBL.out,hbw⟩
  case round =>
   obtain⟨t,cs,blk,ht,rfl,hb5,hI,hbl,hB⟩:=hrel;have hs:=hB.size;have hp5c:=hb5.lt;by_cases hlt:t<n
   ·obtain⟨b,o,rfl,hb,hc⟩:=HL.out.2 (by omega)
    have c0:=(hB.cell (p:=⟨b,o+t,none⟩) hb).trans (hc t _ (strs_get l t (by rw[HN.out];exact hlt)))
    have hT:=encs_take l t (by rw[HN.out];exact hlt)
    have hsz:=HCAT.out (t+1);rw[hT,List.length_append] at hsz
    have hss:(l.getD t ByteArray.empty).size≤1000000000000:=by
     have:=encB_length (l.getD t ByteArray.empty)
     omega
    have hm2:(inputB tag (l.take t)).length+(encB (l.getD t ByteArray.empty)).length≤100000000001:=by
     simp only[inputB,List.length_cons];omega
    have HT:Hid (inputB tag (l.take (t+1))=inputB tag (l.take t)++encB (l.getD t ByteArray.empty)):=hid (by simp [inputB,hT])
    have HS:=hid hss;clear hc hT hsz hss;generalize l.getD t ByteArray.empty=s at *
    go_upto_region 5 with (fail)
    obtain⟨wd,rfl⟩:∃x:World,x=wr:=⟨_,rfl⟩
    obtain⟨O,hO⟩:∃O,O=cs.toArray:=⟨_,rfl⟩
    have HO:=hid hO;have HI:=hid hI;have HBX:=hid hb5;have HBL2:=hid hbl;clear hO hI hb5 hbl;have HSZ1:=hid (HI.out.size);have HES:=hid (strOf_size (encB s));have HEB:=hid (bys_strOf _ (encB_byt s HS.out));have hrow:=Blk.rowAt HBX.out.drew HSZ1.out;rw[←HO.out] at hrow;have HKD:=hid (HK.out.below hB)
    go_region_with (first
     | (go_at_call 68;((with_reducible refine (wbytes_any s _ HS.out).mono ?_);rintro e w1 ⟨⟨A3,c3,rfl,hown3⟩,hB3⟩;have hrow1:=Blk.rowAt (HBX.out.drew.below hB3 hp5c) HSZ1.out;rw[←HO.out] at hrow1;have hcv:=run_toStr (P:=Tryz.prog) Tryz.underlying23 Tryz.underlying5 Tryz.underlying9 (Rd.of_own hown3) c3 (opt_cases A3 _);have hz1:=hB3.size;clear hown3))
     | (go_at_call 137;have hadd:=add_any cs _ blk (strOf (encB s)) w1 HI.out (by rw[HES.out];omega) (HKD.out.drew.below hB3);rw[←HO.out] at hadd;(with_reducible refine hadd.mono ?_);rintro e w2 ⟨⟨cs2,blk2,rfl,hI2⟩,hB2⟩;obtain⟨O2,hO2⟩:∃O,O=cs2.toArray:=⟨_,rfl⟩;have hs1:=hI2.size;have hs2:=hI2.one;rw[←hO2] at hs1 hs2⊢;have HI2:=hid hI2;have HO2:=hid hO2;have HS2:=hid hs1;have hbx2:=hid ((HBX.out.drew.below hB3 hp5c).below hB2 (Nat.lt_of_lt_of_le hp5c hz1));have hstc:=run_storeRow (P:=Tryz.prog) hbx2.out O2 (hs1.trans HSZ1.out.symm) hs2;clear hI2 hO2 hs1 hs2 hadd))
    all_goals
     clear hstc hcv hrow1
     first
     | (exfalso;rename_i hx;exact hx HS2.out)
     | skip
    all_goals
     go_wp2_with fail
     go_roundw
     case rel =>
      have hp5d:=Nat.lt_of_lt_of_le hp5c hz1;refine⟨t+1,cs2,blk2,by omega,by go_num,by rw[HO2.out];exact hbx2.out.setRow cs2,?_,?_,?_⟩
      ·have h:=HI2.out
       rw[HEB.out,←HT.out] at h;exact h
      ·exact ((HBL2.out.drew.below hB3 (Nat.lt_trans (show w.heap.size<p5 by omega) hp5c)).below hB2 (Nat.lt_trans (show w.heap.size<p5 by omega) hp5d)).setRow_far (by omega) _
      ·exact below_row ((hB.drew.trans (hB3.mono hs)).trans (hB2.mono (Nat.le_trans hs hz1))) (by omega) _
     case measure=>simp [intOf];omega
   ·obtain rfl:t=n:=by omega
    have HTN:Hid (l.take t=l):=hid (List.take_of_length_le (by rw[HN.out];omega))
    rw[HTN.out] at hI;have HSZ1:=hid hI.size;have HKD:=hid (HK.out.below hB);have hb4:w.heap.size≠p5:=by omega
    obtain⟨L,hL⟩:∃L,L=sha (inputB tag l):=⟨_,rfl⟩
    have HL32:Hid (L.length=32):=hid (by rw[hL];exact sha_length _)
    have HVL:Hid (V=(u8s L).take 16):=hid (by rw[HV.out,hL];simp [u8s,List.map_take])
    have HLL:=hid hL;clear hL;have HI:=hid hI;obtain⟨wd,rfl⟩:∃x:World,x=wr:=⟨_,rfl⟩
    clear hI;obtain⟨U,hU⟩:∃U,U=u8s L:=⟨_,rfl⟩
    have HU:=hid hU;have HU32:Hid (U.toArray.size=32):=hid (by rw[hU];simp [u8s,HL32.out])
    have HU1:Hid (U.toArray.all (·.oneCell')=true):=hid (by rw[hU];exact u8s_all _)
    have HRG:Hid (∀(W:World) g,Blk W g 189 U→W.rangeAt g 0 V):=hid (fun W g hW j v hv=>by
     rw[Nat.zero_add,hW.cell,hU];rw[HVL.out,List.getElem?_take] at hv
     split at hv
     ·exact hv
     ·cases hv)
    clear hU;have ha:=fun (W:World) (a:Option Addr) (cap:Nat)=>run_arrayAt (P:=Tryz.prog) W 26 5 16 a 16 cap Tryz.underlying26 (Nat.le_refl _)
    go_wp2_with (first
     | (refine wpList_load_row rfl 195 (.tmp 5) rfl p5 rfl 195 _ (0,0) _ hb5 Tryz.underlying195 rfl (info_stream.trans (congrArg some HSZ1.out.symm)) ?_)
     | (go_at_call 138;(refine (ssum_any cs _ blk wd HI.out (by omega) HKD.out).mono ?_);rintro e w1 ⟨rfl,hB1⟩;rw[←HLL.out,←HU.out];have hz1:=hB1.size;have hbl1:=hid (hbl.below hB1 (by omega));have hb1:=hB.trans (hB1.mono hs))
     | (refine wpList_store_row rfl 189 (.tmp 8) (.tmp 28) rfl w1.heap.size _ rfl rfl 189 _ (heap_alloc_new _ _) (info_32u8.trans (congrArg some HU32.out.symm)) HU32.out.symm HU1.out ?_;have hw2:=hid (HRG.out _ _ ((Blk.fresh w1 189 (u8s (List.replicate 32 0))).setRow U));have hbl2:=hid ((hbl1.out.alloc (.cells (u8s (List.replicate 32 0)).toArray 189)).setRow_far (k:=w1.heap.size) (by omega) U.toArray);have hb2:=below_row (hb1.alloc (Nat.le_trans hs hz1) (.cells (u8s (List.replicate 32 0)).toArray 189)) (g:=w1.heap.size) (Nat.le_trans hs hz1) U.toArray)
     | (refine wpList_load_mid rfl 26 (.tmp 30) rfl w1.heap.size 0 rfl V _ hw2.out Tryz.underlying26 rfl (info_16u8.trans (congrArg some HSZ.out.symm)) ?_)
     | (refine wpList_store_row rfl 26 (.tmp 4) (.tmp 31) rfl w.heap.size _ rfl rfl 26 _ hbl2.out (info_16u8.trans (congrArg some HSZ.out.symm)) (zero16_len.trans HSZ.out.symm) HONE.out ?_))
    exact bodyPost_ret (results_cell_row Tryz.results106 _ _ w.heap.size 26 _ (0,0) _ rfl (hbl2.out.setRow V) Tryz.underlying26 rfl (info_16u8.trans (congrArg some HSZ.out.symm))) rfl ⟨by rw[HV.out],below_row hb2 (Nat.le_refl _) _⟩
end
section
def padX (k:List Int)(x:Int):List Int:=(List.range 64).map fun i=>bits .xor .u8 (k.getD i 0) x
theorem padX_length (k:List Int)(x:Int):(padX k x).length=64:=by simp [padX]
theorem padX_get (k:List Int)(x:Int)(i:Nat)(h:i<64):(padX k x).getD i 0=bits .xor .u8 (k.getD i 0) x:=by
 simp [padX,List.getD_eq_getElem?_getD,h]
theorem xor_u8_bd (x y:Int):0≤bits .xor .u8 x y∧bits .xor .u8 x y≤255:=by
 have h:∀m:Nat,0≤IntKind.u8.wrap (m:Int)∧IntKind.u8.wrap (m:Int)≤255:=fun m=>by
  simp [IntKind.wrap,IntKind.bits,IntKind.signed];omega
 exact h _
theorem padX_byt (k:List Int)(x:Int):Byt (padX k x):=by
 intro y hy;obtain⟨i,_,rfl⟩:=List.mem_map.1 hy;exact xor_u8_bd _ _
def padTo (k:List Int)(x:Int)(t:Nat):List Int:=(padX k x).take t++((List.range 64).map fun i=>k.getD i 0).drop t
theorem padTo_length (k:List Int)(x:Int)(t:Nat)(h:t≤64):(padTo k x t).length=64:=by simp [padTo,padX];omega
theorem padTo_get (k:List Int)(x:Int)(t:Nat)(h:t<64):(padTo k x t).getD t 0=k.getD t 0:=by
 unfold padTo;rw[List.getD_eq_getElem?_getD,List.getElem?_append_right (by simp [padX_length];exact Nat.min_le_left _ _)]
 simp [padX_length,Nat.min_eq_left (Nat.le_of_lt h),h]
theorem padTo_set (k:List Int)(x:Int)(t:Nat)(h:t<64):(u8s (padTo k x t)).set t (.int .u8 (bits .xor .u8 (k.getD t 0) x))=u8s (padTo k x (t+1)):=by
 unfold u8s;rw[←List.map_set]
 congr 1
 refine List.ext_getElem? fun i=>?_
 have e:=padX_get k x t h;rw[List.getD_eq_getElem?_getD] at e
 rcases Nat.lt_trichotomy i t with hi|hi|hi
 ·rw[List.getElem?_set_ne (by omega)]
  unfold padTo;rw[List.getElem?_append_left (by simp [padX_length];omega),List.getElem?_append_left (by simp [padX_length];omega),List.getElem?_take_of_lt hi,List.getElem?_take_of_lt (by omega)]
 ·subst hi
  rw[List.getElem?_set_self (by rw[padTo_length _ _ _ (by omega)];exact h)]
  unfold padTo;rw[List.getElem?_append_left (by simp [padX_length];omega),List.getElem?_take_of_lt (by omega)]
  simp [padX,h]
 ·rw[List.getElem?_set_ne (by omega)]
  unfold padTo;rw[List.getElem?_append_right (by simp [padX_length];omega),List.getElem?_append_right (by simp [padX_length];omega)]
  simp only[List.length_take,padX_length,List.getElem?_drop]
  congr 1
  omega
theorem padTo_zero (k:List Int)(x:Int)(h:k.length≤64):laid (u8s (List.replicate 64 0)) 0 (u8s k)=u8s (padTo k x 0):=by
 unfold laid padTo u8s;rw[List.take_zero,List.take_zero,List.nil_append,List.nil_append,List.drop_zero,Nat.zero_add,List.length_map,←List.map_drop,←List.map_append]
 congr 1
 refine List.ext_getElem? fun i=>?_
 rcases Nat.lt_or_ge i k.length with hi|hi
 ·rw[List.getElem?_append_left hi]
  simp [List.getElem?_map,List.getElem?_range (show i<64 by omega),List.getElem?_eq_getElem hi]
 ·rw[List.getElem?_append_right hi]
  rw[List.getElem?_drop,show k.length+(i-k.length)=i by omega,List.getElem?_replicate]
  rcases Nat.lt_or_ge i 64 with h64|h64
  ·rw[if_pos h64];simp [h64,List.getElem?_eq_none hi]
  ·rw[if_neg (by omega)];simp [h64]
theorem padTo_full (k:List Int)(x:Int):padTo k x 64=padX k x:=by
 unfold padTo;rw[List.take_of_length_le (by rw[padX_length];omega),List.drop_of_length_le (by simp),List.append_nil]
theorem mac1_any (key:ByteArray)(kb:Nat)(x:Int)(w:World)(hk:w.cell? ⟨kb,0,none⟩=some (.string key))(hkb:kb<w.heap.size)(hlen:key.size≤64) :
  Calls Tryz.prog 162 #[.int .u8 x,.pointer (some ⟨kb,0,none⟩)] w fun e w'=>e=.returned (.string (strOf (padX (bys key) x)))∧Below w.heap.size w w':=by
 have HP:=hid (padTo_zero (bys key) x (by rw[bys_length];exact hlen))
 go_enter Tryz.func162,Tryz.ntmps162
 go_upto_region 2 with (fail)
 obtain⟨w0,hw0⟩:∃w0,w0=w.alloc (.cells (u8s (List.replicate 64 0)).toArray 193):=⟨_,rfl⟩
 have hbl:Blk w0 w.heap.size 193 (u8s (List.replicate 64 0)):=by rw[hw0];exact Blk.fresh _ _ _
 have hB0:Below w.heap.size w w0:=by rw[hw0];exact (Below.refl _ _).alloc (Nat.le_refl _) _
 have hz0:w.heap.size<w0.heap.size:=hbl.lt;have hk0:=(hB0.cell (p:=⟨kb,0,none⟩) hkb).trans hk;change Code.wp _ _ _ _ (w.alloc (.cells (u8s (List.replicate 64 0)).toArray 193))
 rw[←hw0];clear hw0 hk;have hmin:Nat.min key.size 64=key.size:=Nat.min_eq_left hlen;have hcp:=run_copy_str (P:=Tryz.prog) w0.drew 23 9 3 5 w.heap.size 0 64 64 key (u8s (List.replicate 64 0)) 193 Tryz.underlying23 (by kernel_rfl) hbl.drew (by rw[hmin];simpa [u8s] using hlen)
 rw[hmin,List.take_of_length_le (by rw[bys_length];omega),HP.out] at hcp
 have hb1:Blk (w0.drew.setRow w.heap.size (u8s (padTo (bys key) x 0)).toArray) w.heap.size 193 (u8s (padTo (bys key) x 0)):=hbl.drew.setRow _;have hB1:Below w.heap.size w (w0.drew.setRow w.heap.size (u8s (padTo (bys key) x 0)).toArray):=below_row hB0.drew (Nat.le_refl _) _;generalize w0.drew.setRow w.heap.size (u8s (padTo (bys key) x 0)).toArray=w1 at *
 have HB1:=hid hb1;have HBB:=hid hB1;clear hmin hbl hB0 hb1 hB1;have HSZ:=hid hlen;go_region_law (fail)
 go_wp2_with fail
 go_loopw [9] (fun i wr=>∃t:Nat,t≤64∧i=.int .i64 t∧Blk wr w.heap.size 193 (u8s (padTo (bys key) x t))∧Below w.heap.size w wr) (fun i _=>64-(intOf i).toNat)
 case atStart=>exact⟨0,by omega,rfl,HB1.out,HBB.out⟩
 case round =>
  clear hcp;obtain⟨t,ht,rfl,hb,hB⟩:=hrel;have hz:=hb.lt;have HB:=hid hb;by_cases hlt:t<64
  ·have c0:=(hb.cell t).trans (u8s_get _ t (by rw[padTo_length _ _ _ ht];exact hlt))
   rw[padTo_get _ _ _ hlt] at c0;have fz:=hb.frozen t;have HS:=hid (padTo_set (bys key) x t hlt);clear hb;generalize (bys key).getD t 0=y at *
   go_wp2_with fail
   go_roundw
   case rel =>
    refine⟨t+1,by omega,by go_num,?_,hB.setCell (by simp) _⟩
    rw[←HS.out];exact HB.out.set t _
   case measure=>simp [intOf];omega
  ·obtain rfl:t=64:=by omega
   rw[padTo_full] at hb;have hr:Rd wr wr.heap.size (some ⟨w.heap.size,0,none⟩) 64 (u8s (padX (bys key) x)):=⟨by rw[u8s_length,padX_length],fun _=>⟨w.heap.size,0,rfl,hz,fun j u hu=>by rw[hb.cell,Nat.zero_add];exact hu⟩⟩
   have hcv:=run_toStr (P:=Tryz.prog) Tryz.underlying23 Tryz.underlying5 Tryz.underlying9 hr 64 (fun h=>by omega)
   clear hr hb;go_wp2_with fail
   go_ret
   exact⟨rfl,hB⟩
end
section
def keyL (key:ByteArray):List Int:=if 64<key.size then sha (bys key) else bys key
theorem keyL_byt (key:ByteArray):Byt (keyL key):=by unfold keyL;split;exact sha_byt _;exact bys_byt _
theorem keyL_length (key:ByteArray):(keyL key).length≤64:=by
 unfold keyL;split
 ·rw[sha_length];omega
 ·rw[bys_length];omega
def macI (key text:ByteArray):List Int:=sha (padX (keyL key) 54++bys text)
def macL (key text:ByteArray):List Int:=sha (padX (keyL key) 92++macI key text)
end
end Go.Proofs.YtjeecfjeooehhaaGreatDoor