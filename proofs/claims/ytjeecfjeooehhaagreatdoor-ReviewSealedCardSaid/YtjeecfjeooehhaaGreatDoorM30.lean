/- Digests compared by == and !=. Conditions: digests of 16 bytes. -/
import Derived.Test.YtjeecfjeooehhaaGreatDoorM22
import Derived.DeepKeys4
import Derived.Laws.StructEq
import Derived.Test.YtjeecfjeooehhaaGreatDoorM26
import Derived.Laws.EntriesVeiled
import Derived.Laws.Shifts
set_option linter.unusedSimpArgs false
set_option linter.unusedVariables false
set_option maxHeartbeats 16000000
set_option maxRecDepth 100000
namespace Go.Proofs.YtjeecfjeooehhaaGreatDoor
open Go.RowKit
open Lib (hid)
section
theorem mapM_some {α β:Type}(f:α→Option β):∀(l:List α),(∀x∈l,∃y,f x=some y)→∃ys,l.mapM f=some ys
 | [],_=>⟨[],rfl⟩
 | x::l,h=>by
  obtain⟨y,hy⟩:=h x (by simp)
  obtain⟨ys,hys⟩:=mapM_some f l (fun z hz=>h z (by simp [hz]))
  exact⟨y::ys,by simp [List.mapM_cons,hy,hys]⟩
theorem keyOf_dig {P:Program}{t e:TypeId}(ht:P.underlying t=some (.array 16 e))(he:P.underlying e=some (.int .u8))(hk:P.keyType t=true)(hc:P.cellsOf t=16)(hce:P.cellsOf e=1)(hs:1<P.types.size)(d:List Int)(hl:d.length=16)(hb:Byt d) :
  ∃l,keyOf P t (.agg (u8s d).toArray)=some l:=by
 obtain⟨n,hn⟩:∃n,P.types.size=n+1:=⟨P.types.size-1,by omega⟩
 have hcl:(u8s d).length=16:=by rw[u8s_len];exact hl
 have hf:(Value.agg (u8s d).toArray).formed P t=true:=by
  unfold Value.formed;rw[ht];simp only[List.size_toArray,hcl,hc]
  rfl
 obtain⟨ys,hys⟩:=mapM_some (fun i=>P.keyLits (n+1) e (((u8s d).drop (i*P.cellsOf e)).take (P.cellsOf e))) (List.range 16) (fun i hi=>by
  have hi2:i<d.length:=by rw[hl];exact List.mem_range.1 hi
  have hx:=hb (d[i]) (List.getElem_mem hi2);refine⟨[.int .u8 d[i]],?_⟩
  have e1:((u8s d).drop (i*P.cellsOf e)).take (P.cellsOf e)=[.int .u8 d[i]]:=by
   rw[hce,Nat.mul_one];have hi3:i<(u8s d).length:=by rw[u8s_len];exact hi2
   rw[List.drop_eq_getElem_cons hi3];simp [u8s]
  rw[e1]
  have hw:(Lit.int .u8 d[i]).wf=true:=by
   simp [Lit.wf,IntKind.min,IntKind.max,IntKind.bits,IntKind.signed]
   omega
  simp [Program.keyLits,he,hw])
 refine⟨.string (keyBytes ys.flatten),?_⟩
 unfold keyOf;rw[ht];simp only[hk,hf,Bool.and_self,if_true]
 rw[hn];unfold Program.keyLits;simp only[ht,Value.cells,hcl,hc,if_true,hys,Option.map_some]
theorem dig_key (d:List Int)(h:Dig d):∃l,keyOf Tryz.prog 26 (.agg (u8s d).toArray)=some l :=
 keyOf_dig Tryz.underlying26 Tryz.underlying5 (by kernel_rfl) (by kernel_rfl) (by kernel_rfl) (of_decide_eq_true (by kernel_rfl)) d h.l h.b
theorem u8s_inj {a b:List Int}(h:u8s a=u8s b):a=b:=by
 induction a generalizing b with
 | nil=>cases b with
  | nil=>rfl
  | cons y b=>cases h
 | cons x a ih=>cases b with
  | nil=>cases h
  | cons y b =>
   simp only[u8s,List.map_cons,List.cons.injEq,Value.int.injEq,true_and] at h
   rw[h.1,ih h.2]
theorem dig_equal (a b:List Int)(ha:Dig a)(hb:Dig b)(W:World):(Op.equalIn 10000 26 (.agg (u8s a).toArray) (.agg (u8s b).toArray)).run Tryz.prog W=.ok (decide (a=b)) W:=by
 obtain⟨la,hla⟩:=dig_key a ha;obtain⟨lb,hlb⟩:=dig_key b hb;have hk:Tryz.prog.keyTypeAt 2 26=true:=by kernel_rfl
 have hwide:(match Tryz.prog.underlying 26 with|some (.array _ _)|some (.struct _)=>true|_=>false)=true:=by kernel_rfl
 have hti:Tryz.prog.tiled 2 26=true:=by kernel_rfl
 obtain⟨r,hr,hiff⟩:=run_equal_deep W (m:=2) (by decide) hk hwide hla hlb
 have e:r=decide (a=b):=by
  by_cases h:a=b
  ·subst h
   rw[decide_eq_true rfl];rw[hla] at hlb;injection hlb with hlb
   exact hiff.2 hlb
  ·rw[decide_eq_false h]
   cases hr2:r with
   | false=>rfl
   | true =>
    exfalso
    apply h
    have h2:=hiff.1 hr2;rw[←h2] at hlb;have h3:=keyOf_inj_deep hti hwide hla hlb;injection h3 with h3
    exact u8s_inj (by simpa using congrArg Array.toList h3)
 rw[←e];exact hr
end
section
attribute [local go_sem ↓] wp_at_zero wp_at_succ
def climbD (X:List Int)(i:Nat)(v:List Int):Nat→List Int
 | 0=>v
 | l+1=>if i / 2^l % 2=1 then nodeD (valD X (68+l)) (climbD X i v l) else nodeD (climbD X i v l) (valD X (68+l))
theorem climbD_dig (X:List Int)(i:Nat)(v:List Int)(hv:Dig v):∀l,Dig (climbD X i v l)
 | 0=>hv
 | l+1=>by unfold climbD;split<;>exact ofD_dig _ _
def rootD (pub:List Int)(h i:Nat)(msg:ByteArray)(X:List Int):List Int:=climbD X i (leafD (endD (i:Int) X (dgN (digestD pub (i:Int) msg)))) h
theorem bits_and1 (s:Nat)(h:s<64):bits .and .i64 (s:Int) 1=((s % 2:Nat):Int):=by
 have hx:∀s:Fin 64,bits .and .i64 ((s.val:Nat):Int) 1=((s.val % 2:Nat):Int):=by decide
 exact hx ⟨s,h⟩
theorem verify_gen (pub:List Int)(h i p m:Nat)(msg S:ByteArray)(X:List Int)(w:World)(hpub:Dig pub)(h6:h≤6)(hp:p=2^h)(hip:i<p)(hm:msg.size≤1000000)(hS:S=strOf (encInt (i:Int)++X))(hX:Byt X)(hXm:X.length=m)(hmh:m=(68+h)*16)(hK:KTab w) :
  Calls Tryz.prog 25 #[.agg (u8s pub).toArray,.int .i64 (h:Int),.string msg,.string S] w fun e w'=>((rootD pub h i msg X=pub∧e=.returned (.tuple #[.int .i64 (i:Int),.int .i64 0]))∨(¬rootD pub h i msg X=pub∧e=.returned (.tuple #[.int .i64 0,.int .i64 10])))∧Ext w w':=by
 have HXL:Hid (X.length=m):=hid hXm;have HMH:Hid (m=(68+h)*16):=hid hmh;have HX:=hid hX;have HPB:=hid hpub;have HM:Hid (msg.size≤1000000000):=hid (by omega)
 obtain⟨RV,hRV⟩:∃r,r=rootD pub h i msg X:=⟨_,rfl⟩
 have HRV:=hid hRV;rw[←hRV];clear hRV;have HK:=hid hK;have hmf:∀(fn:Fn) (first cap:Array Value) (w:World),(Instr.makeFunc fn first cap).run Tryz.prog w=.ok (.func fn first cap) w:=fun _ _ _ _=>rfl
 have hp64:p≤64:=by
  have:=Nat.pow_le_pow_right (show 0<2 by decide) h6
  omega
 have hp2:(2:Int)^h=(p:Int):=by rw[hp];exact_mod_cast rfl
 have HI:Hid (I64 (i:Int)):=hid ⟨by omega,by omega⟩
 have hle:=encInt_le9 (i:Int) HI.out.1 HI.out.2;have hEB:=encInt_byt (i:Int) HI.out.1 HI.out.2;obtain⟨n,hn⟩:∃n,n=(encInt (i:Int)).length:=⟨_,rfl⟩
 have hn9:n≤9:=by rw[hn];exact hle
 have hn0:0<n:=by rw[hn,encInt_length];omega
 have hsz:S.size=n+m:=by rw[hS,strOf_size,List.length_append,←hn,hXm]
 have hSB:bys S=encInt (i:Int)++X:=by rw[hS];exact bys_strOf _ (sg_byt_app hEB hX)
 have hm1:m≤1000000:=by omega
 have hne1:m≤(68+h)*16:=by omega
 have hne2:(68+h)*16≤m:=by omega
 have hm6:1088≤m:=by omega
 clear hmh
 have hcut:S.extract n S.size=strOf X:=by
  rw[←strOf_bys (S.extract n S.size),bys_extract,hSB]
  congr 1
  rw[hn,List.drop_left];rw[List.take_of_length_le];rw[hsz,hXm,hn];omega
 have hXs:(strOf X).size=m:=by rw[strOf_size];exact hXm
 obtain⟨sz,hz⟩:∃z,z=S.size:=⟨_,rfl⟩
 have hszz:sz=n+m:=by rw[hz,hsz]
 have HCV:Hid (∀W,∃cb wb,(convert 9 23 (.string S)).run Tryz.prog W=.ok (.slice (some ⟨W.heap.size,0,none⟩) sz cb) wb∧Calls Tryz.prog 54 #[.slice (some ⟨W.heap.size,0,none⟩) sz cb] wb (fun e w'=>e=.returned (.tuple #[.int .i64 (i:Int),.int .i64 (n:Int),.int .i64 0])∧wb=w')∧Ext W wb):=hid (fun W=>by
  obtain⟨cb,wb,hcb,hc2,hRb,hBb⟩:=run_toBytes2 (P:=Tryz.prog) W 9 23 5 S Tryz.underlying9 Tryz.underlying23 Tryz.underlying5 (by omega)
  rw[hSB] at hRb;rw[←hz] at hcb hRb hc2;have hg:=gint_any (encInt (i:Int)++X) _ sz cb wb hRb (sg_byt_app hEB hX) hc2.1 hc2.2;rw[getI_enc (i:Int) X HI.out.1 HI.out.2,←hn] at hg;exact⟨cb,wb,hcb,hg,hBb⟩)
 have HCX:Hid (∀W,∃cb wb,(convert 9 23 (.string (strOf X))).run Tryz.prog W=.ok (.slice (some ⟨W.heap.size,0,none⟩) m cb) wb∧(m≤cb∧cb≤9223372036854775807)∧Rd wb wb.heap.size (some ⟨W.heap.size,0,none⟩) m (u8s X)∧Ext W wb):=hid (fun W=>by
  obtain⟨cb,wb,hcb,hc2,hRb,hBb⟩:=run_toBytes2 (P:=Tryz.prog) W 9 23 5 (strOf X) Tryz.underlying9 Tryz.underlying23 Tryz.underlying5 (by omega)
  rw[bys_strOf X hX,hXs] at hRb;rw[hXs] at hcb hc2;exact⟨cb,wb,hcb,hc2,hRb,hBb⟩)
 have hnS:(n:Int)≤(S.size:Int):=by omega
 have hnz:n≤sz:=by omega
 clear hn hp hle hEB hSB hXm hS hszz hz hsz hXs;go_enter Tryz.func25,Tryz.ntmps25
 go_upto_region 1 with fail
 obtain⟨w1,hw1⟩:∃x,x=w.alloc (.cells (u8s pub).toArray 26):=⟨_,rfl⟩
 change Code.wp _ _ _ _ (w.alloc (.cells (u8s pub).toArray 26))
 rw[←hw1];have E1:Hid (Ext w w1):=hid (by rw[hw1];exact (Ext.refl w).alloc _)
 have B1:Hid (Blk w1 w.heap.size 26 (u8s pub)):=hid (by rw[hw1];exact Blk.fresh' _ _ _ _ _ rfl rfl)
 clear hw1;obtain⟨cb,wb,hcb,HGI0,hEb⟩:=HCV.out w1;have HGI:=hid HGI0;have EB:=hid hEb;clear HGI0 hEb
 go_upto_region 8 with ((first
  | (go_at_call 53;(with_reducible refine (valid_ok h w1 h6).mono ?_);rintro e w3 ⟨rfl,rfl⟩)
  | (go_at_call 54;(with_reducible refine HGI.out.mono ?_);rintro e w3 ⟨rfl,rfl⟩)))
 clear hcb HCV;obtain⟨w3,hw3⟩:∃x,x=wb.alloc (.cells #[.int .i64 (i:Int)] 3):=⟨_,rfl⟩
 change Code.wp _ _ _ _ (wb.alloc (.cells #[.int .i64 (i:Int)] 3))
 rw[←hw3];have EW3:Hid (Ext wb w3):=hid (by rw[hw3];exact (Ext.refl wb).alloc _)
 have BI:Hid (Blk w3 wb.heap.size 3 [.int .i64 (i:Int)]):=hid (by rw[hw3];exact Blk.fresh' _ _ _ _ _ rfl rfl)
 clear hw3;obtain⟨cx,w4,hcx,hcc,hrx,he4⟩:=HCX.out w3;have E4:Hid (Ext w3 w4):=hid he4;have RX:=hid hrx;obtain⟨hc1,hc2⟩:=hcc;clear hrx he4 HCX;go_upto_region 9 with fail
 clear hcx;obtain⟨gx,hgx⟩:∃x,x=w3.heap.size:=⟨_,rfl⟩
 rw[←hgx] at RX⊢;obtain⟨w5,hw5⟩:∃x,x=w4.alloc (.cells #[.slice (some ⟨gx,0,none⟩) m cx] 23):=⟨_,rfl⟩
 change Code.wp _ _ _ _ (w4.alloc (.cells #[.slice (some ⟨gx,0,none⟩) m cx] 23))
 rw[←hw5];have E5:Hid (Ext w4 w5):=hid (by rw[hw5];exact (Ext.refl w4).alloc _)
 have BR:Hid (Blk w5 w4.heap.size 23 [.slice (some ⟨gx,0,none⟩) m cx]):=hid (by rw[hw5];exact Blk.fresh' _ _ _ _ _ rfl rfl)
 have EA:Hid (Ext w w5):=hid (((E1.out.next EB.out).next EW3.out).next (E4.out.next E5.out));have BI5:=hid (BI.out.ext (E4.out.next E5.out));clear hw5 hgx;have ci:=BI5.out.one;have cr:=BR.out.one;have hd0:decide ((i:Int)<0)=false:=decide_eq_false (by omega)
 have hd1:decide ((p:Int)≤(i:Int))=false:=decide_eq_false (by omega)
 have hdp:decide (p≤i)=false:=decide_eq_false (by omega)
 have hwp:IntKind.i64.wrap (p:Int)=(p:Int):=wrap_id _ (by omega) (by omega)
 obtain⟨r,hr⟩:∃r:Nat,r=68+h:=⟨_,rfl⟩
 obtain⟨q,hq⟩:∃q:Nat,q=r*16:=⟨_,rfl⟩
 have hwr:IntKind.i64.wrap (68+(h:Int))=(r:Int):=by rw[wrap_id _ (by omega) (by omega)];omega
 have hwq:IntKind.i64.wrap ((r:Int)*16)=(q:Int):=by rw[wrap_id _ (by omega) (by omega)];omega
 have hmq:((m:Int) != (q:Int))=false:=by rw[bne_eq_false_iff_eq];omega
 clear hr hq;go_wp2_with fail
 go_quiet (fail)
 clear hd0 hd1 hdp hwp hwr hwq hmq ci cr;generalize hwd:w5.drewN nq=w6
 have E56:Hid (Ext w5 w6):=hid (by rw[←hwd];exact (Ext.refl w5).drewN _)
 clear hwd;have EW6:=hid (EA.out.next E56.out);have HK6:=hid (HK.out.below EW6.out);go_upto_region 12 with fail
 obtain⟨w7,hw7⟩:∃x,x=w6.alloc (.cells #[.func (.func 55) #[] #[.pointer (some ⟨w4.heap.size,0,none⟩)]] 108):=⟨_,rfl⟩
 change Code.wp _ _ _ _ (w6.alloc (.cells #[.func (.func 55) #[] #[.pointer (some ⟨w4.heap.size,0,none⟩)]] 108))
 rw[←hw7];obtain⟨vb,hvb⟩:∃x,x=w6.heap.size:=⟨_,rfl⟩
 rw[←hvb];have E67:Hid (Ext w6 w7):=hid (by rw[hw7];exact (Ext.refl w6).alloc _)
 have BF:Hid (Blk w7 vb 108 [.func (.func 55) #[] #[.pointer (some ⟨w4.heap.size,0,none⟩)]]):=hid (by rw[hw7];exact Blk.fresh' _ _ _ _ _ rfl hvb)
 have E57:=hid (E56.out.next E67.out);have EW7:=hid (EA.out.next E57.out);clear hw7 hvb;obtain⟨ib,hib⟩:∃x,x=wb.heap.size:=⟨_,rfl⟩
 obtain⟨rb,hrb⟩:∃x,x=w4.heap.size:=⟨_,rfl⟩
 rw[←hib] at BI5⊢;rw[←hrb] at BR BF⊢;have BI7:=hid (BI5.out.ext E57.out);have BR7:=hid (BR.out.ext E57.out);have RX7:Hid (Rd w7 w7.heap.size (some ⟨gx,0,none⟩) m (u8s X)):=hid (RX.out.ext' (E5.out.next E57.out));have B17:Hid (Blk w7 w.heap.size 26 (u8s pub)):=hid (B1.out.ext ((EB.out.next EW3.out).next ((E4.out.next E5.out).next E57.out)));clear hib hrb BI BI5 BR RX EA E56 E57 E67 E5 E4 EW3 EB E1 B1 HK6 HGI EW6;obtain⟨D,hD⟩:∃D,D=digestD pub (i:Int) msg:=⟨_,rfl⟩
 have HD:=hid hD;have HDD:Hid (Dig D):=hid (by rw[hD];exact ofD_dig _ _)
 have K7:=hid (HK.out.below EW7.out)
 have HDG:Hid (Calls Tryz.prog 57 #[.agg (u8s pub).toArray,.int .i64 (i:Int),.string msg] w7 fun e w'=>e=.returned (.agg (u8s D).toArray)∧Ext w7 w'):=hid (by
  rw[hD];exact digest_any pub (i:Int) msg w7 HPB.out HI.out HM.out K7.out)
 have HPL:Hid ((u8s pub).length=16):=hid (by rw[u8s_len];exact HPB.out.l)
 clear hD;have ci:=BI7.out.one
 go_upto_region 13 with ((first
  | (refine wpList_load_blk rfl 26 (.tmp 4) rfl w.heap.size (by kernel_rfl) B17.out Tryz.underlying26 rfl (dg_info.trans (congrArg some HPL.out.symm)) ?_)
  | (go_at_call 57;(with_reducible refine HDG.out.mono ?_);rintro e w8 ⟨rfl,hE8⟩;have E8:=hid hE8;clear hE8)
  | (go_at_call 56;(with_reducible refine (digits_any D w8 HDD.out.l HDD.out.b).mono ?_);rintro e w9 ⟨gd,rfl,hgd,hbd,hE9⟩;have E9:Hid (Ext w8 w9):=hid hE9;have BD:=hid hbd;clear hgd hbd hE9)))
 clear ci;obtain⟨w10,hw10⟩:∃x,x=w9.alloc (.cells #[.slice (some ⟨gd,0,none⟩) 68 68] 22):=⟨_,rfl⟩
 change Code.wp _ _ _ _ (w9.alloc (.cells #[.slice (some ⟨gd,0,none⟩) 68 68] 22))
 rw[←hw10];obtain⟨fb,hfb⟩:∃x,x=w9.heap.size:=⟨_,rfl⟩
 rw[←hfb];have E9A:Hid (Ext w9 w10):=hid (by rw[hw10];exact (Ext.refl w9).alloc _)
 have BG:Hid (Blk w10 fb 22 [.slice (some ⟨gd,0,none⟩) 68 68]):=hid (by rw[hw10];exact Blk.fresh' _ _ _ _ _ rfl hfb)
 have E7A:Hid (Ext w7 w10):=hid ((E8.out.next E9.out).next E9A.out);have BDA:=hid (BD.out.ext E9A.out);have KA:=hid (K7.out.below E7A.out);have EWA:=hid (EW7.out.next E7A.out);have CAP:Hid (Caps w10 (i:Int) X (dgN D) ib fb vb rb):=hid ⟨(BI7.out.ext E7A.out).one,⟨gd,68,BG.out.one,BDA.out.lt,fun c hc=>(BDA.out.cell c).trans (dgN_cell D hc)⟩,(BF.out.ext E7A.out).one,⟨gx,m,cx,(BR7.out.ext E7A.out).one,RX7.out.ext' E7A.out,hm6,hc1,hc2⟩,(BI7.out.ext E7A.out).lt,BG.out.lt,(BF.out.ext E7A.out).lt,(BR7.out.ext E7A.out).lt,HI.out,fun c=>dgN_le D c⟩
 obtain⟨LV,hLV⟩:∃V,V=leafD (endD (i:Int) X (dgN D)):=⟨_,rfl⟩
 have HLV:=hid hLV;have HLD:Hid (Dig LV):=hid (by rw[hLV];exact ofD_dig _ _)
 have HVD:Hid (∀k,k<68+h→Dig (valD X k)):=hid (fun k hk=>valD_dig HX.out (by rw[HXL.out,HMH.out];omega))
 have HLF:Hid (Calls Tryz.prog 58 #[.func (.func 59) #[] #[.pointer (some ⟨ib,0,none⟩),.pointer (some ⟨fb,0,none⟩),.pointer (some ⟨vb,0,none⟩)]] w10 fun e w'=>e=.returned (.agg (u8s LV).toArray)∧Ext w10 w'):=hid (by
  rw[hLV];exact leaf24_any (endD (i:Int) X (dgN D)) ib fb vb w10 (fun t ht=>endD_dig (HVD.out t (by omega))) (fun t ht W hW=>chain2_any (i:Int) X (dgN D) ib fb vb rb t W (CAP.out.ext hW) HX.out ht (KA.out.below hW)) KA.out)
 have HLL:Hid ((u8s LV).length=16):=hid (by rw[u8s_len];exact HLD.out.l)
 have zz:∀W,(zeroValue 26).run Tryz.prog W=.ok (.agg (u8s (List.replicate 16 0)).toArray) W:=fun W=>by kernel_rfl
 obtain⟨Z,hZ⟩:∃Z,Z=u8s (List.replicate 16 0):=⟨_,rfl⟩
 have HZL:Hid (Z.length=16):=hid (by rw[hZ];rfl)
 rw[←hZ] at zz;clear hZ hLV hw10 hfb E8 E9 E9A BD BG BDA K7 HDG
 go_upto_region 14 with ((first
  | (go_at_call 58;(with_reducible refine HLF.out.mono ?_);rintro e wB ⟨rfl,hEB⟩;have EAB:=hid hEB;clear hEB)
  | ((refine wpList_store_fresh rfl 26 (.tmp 16) (.tmp 63) rfl _ wB.heap.size rfl Z (u8s LV) 26 (by rfl) (by rfl) rfl (dg_info.trans (congrArg some HLL.out.symm)) (HZL.out.trans HLL.out.symm) (u8s_one LV) ?_);intro wC hwC hEC hzC;have ECC:Hid (Ext wB wC):=hid hEC;have BV:=hid hwC;clear hwC hEC hzC)))
 obtain⟨tv,htv⟩:∃x,x=wB.heap.size:=⟨_,rfl⟩
 rw[←htv] at BV⊢;have HTV:=hid htv;have KB:=hid (KA.out.below EAB.out);have CB:=hid (CAP.out.ext EAB.out);have BPB:Hid (Blk wB w.heap.size 26 (u8s pub)):=hid (B17.out.ext (E7A.out.next EAB.out));have EWB:=hid (EWA.out.next EAB.out)
 have HVA:Hid (∀k:Nat,k<68+h→∀W,Ext wB W→Calls Tryz.prog 55 #[.int .i64 (k:Int),.pointer (some ⟨rb,0,none⟩)] W fun e w'=>e=.returned (.agg (u8s (valD X k)).toArray)∧Ext W w'):=hid (fun k hk W hW=>by
  have hr:=RX7.out.ext' ((E7A.out.next EAB.out).next hW);have hb:=((BR7.out.ext (E7A.out.next EAB.out)).ext hW);exact value_any X gx m cx rb k W hb.one hr (by have:=HMH.out;omega) (by omega) hc1 hc2 hb.lt)
 have HCL:Hid (climbD X i LV 0=LV):=hid rfl;have HRT:Hid (climbD X i LV h=RV):=hid (by rw[HRV.out,HLV.out,HD.out];rfl)
 have HCD:Hid (∀l,Dig (climbD X i LV l)):=hid (climbD_dig X i LV HLD.out)
 clear htv HLF CAP KA EAB EWA E7A BI7 BR7 RX7 B17 EW7 BF hm6 hc1 hc2;go_wp2_with fail
 go_loopw [65] (fun x wr=>∃t:Nat,t≤h∧x=.int .i64 (t:Int)∧Blk wr tv 26 (u8s (climbD X i LV t))∧Ext wB wr) (fun x _=>h-(intOf x).toNat)
 case atStart=>exact⟨0,by omega,rfl,BV.out,ECC.out⟩
 case round =>
  clear BV ECC;obtain⟨t,ht,rfl,hbv,hE⟩:=hrel;have BV:=hid hbv;have EO:=hid hE;clear hbv hE;obtain⟨wo,rfl⟩:∃x:World,x=wr:=⟨_,rfl⟩
  by_cases hlt:t<h
  ·have ci:=(CB.out.ext EO.out).cIx
   obtain⟨s,hs'⟩:∃s,s=i / 2^t:=⟨_,rfl⟩
   have hs64:s<64:=by
    have:=Nat.div_le_self i (2^t)
    omega
   have hsr:(i:Int) / 2^t=(s:Int):=by rw[hs'];exact_mod_cast rfl
   have HSUC:Hid (climbD X i LV (t+1)=if s % 2=1 then nodeD (valD X (68+t)) (climbD X i LV t) else nodeD (climbD X i LV t) (valD X (68+t))):=hid (by rw[hs'];rfl)
   have hand:=bits_and1 s hs64
   have HVT:Hid (∀W,Ext wo W→Calls Tryz.prog 55 #[.int .i64 (68+(t:Int)),.pointer (some ⟨rb,0,none⟩)] W fun e w'=>e=.returned (.agg (u8s (valD X (68+t))).toArray)∧Ext W w'):=hid (fun W hW=>by
    have h:=HVA.out (68+t) (by omega) W (EO.out.next hW)
    rw[show ((68+t:Nat):Int)=68+(t:Int) by omega] at h
    exact h)
   have HD1:Hid (Dig (valD X (68+t))):=hid (HVD.out (68+t) (by omega))
   have HD2:Hid (Dig (climbD X i LV t)):=hid (HCD.out t);have HL3:Hid ((u8s (climbD X i LV (t+1))).length=16):=hid (by rw[u8s_len];exact (HCD.out (t+1)).l)
   have HL2:Hid ((u8s (climbD X i LV t)).length=16):=hid (by rw[u8s_len];exact HD2.out.l)
   obtain⟨D1,hD1⟩:∃d,d=valD X (68+t):=⟨_,rfl⟩
   obtain⟨D2,hD2⟩:∃d,d=climbD X i LV t:=⟨_,rfl⟩
   obtain⟨D3,hD3⟩:∃d,d=climbD X i LV (t+1):=⟨_,rfl⟩
   have HD3:=hid hD3;rw[←hD1] at HVT HD1 HSUC;rw[←hD2] at BV HD2 HL2 HSUC;rw[←hD3] at HL3 HSUC;clear hs' hD1 hD2 hD3;rcases (show s % 2=1∨s % 2=0 by omega) with hodd|hodd
   ·have HNO:Hid (∀W,Ext wo W→Calls Tryz.prog 61 #[.agg (u8s D1).toArray,.agg (u8s D2).toArray] W fun e w'=>e=.returned (.agg (u8s D3).toArray)∧Ext W w'):=hid (fun W hW=>by
     rw[HSUC.out,if_pos hodd];exact node_any D1 D2 W HD1.out HD2.out (KB.out.below (EO.out.next hW)))
    rw[hodd] at hand;have hand2:bits .and .i64 (s:Int) 1=1:=hand;clear hand hodd;go_upto_region 18 with fail
    clear ci hsr hand2
    refine wp_region_flowG 6 ?FW78 (fun us=>?_) (by kernel_rfl) (by kernel_rfl) (fun a b=>Ext a b) Ext.refl (fun h1 h2=>h1.next h2) (fun i v W=>match i with
     | 0=>v=.func (.func 55) #[] #[.pointer (some ⟨rb,0,none⟩)]
     | 1=>v=.int .i64 (t:Int)
     | 2=>v=.int .i64 (68+(t:Int))
     | 3=>v=.agg (u8s D1).toArray
     | 4=>v=.agg (u8s D2).toArray
     | 5=>v=.agg (u8s D3).toArray
     | _=>True) ?_ ?_
    case refine_1 =>
     simp only[List.take_succ_cons,List.take_zero,flowAct,Nat.zero_add,Nat.reduceAdd,Act.put,List.setIfInBounds_toArray,List.set_cons_succ,List.set_cons_zero]
     rfl
    ·simp only[List.take_succ_cons,List.take_zero,flowStepsG]
     refine⟨?_,?_,?_,?_,?_,?_,trivial⟩
     ·intro us W K HE hd HK
      have xk:=(CB.out.ext (EO.out.next (sg_udrew HE.out))).cFn;dsimp only at HK⊢;clear hd;go_wp2_with fail
      exact K_at (Kz HK) (by kernel_rfl)
     ·intro us W K HE hd HK
      dsimp only at HK⊢;clear hd;go_wp2_with fail
      exact K_at (Kz HK) (by kernel_rfl)
     ·intro us W K HE hd HK
      have d1:=hd 1 (by kernel_rfl)
      dsimp only at HK⊢;rw[d1] at HK⊢;clear hd d1;go_wp2_with fail
      exact K_at (Kz HK) (by kernel_rfl)
     ·intro us W K HE hd HK
      have d0:=hd 0 (by kernel_rfl)
      have d2:=hd 2 (by kernel_rfl)
      have EXW:=hid (sg_udrew HE.out);dsimp only at HK⊢;rw[d0,d2] at HK⊢;clear hd d0 d2;go_wp2_with ((go_at_call 55;(with_reducible refine (HVT.out W EXW.out).mono ?_);rintro e w6 ⟨rfl,hB6⟩))
      exact K_at (HK.out (.agg (u8s D1).toArray) w6 (fun _ _=>rfl) hB6) (by kernel_rfl)
     ·intro us W K HE hd HK
      have BVW:=hid (BV.out.ext (sg_udrew HE.out));dsimp only at HK⊢;clear hd;go_wp2_with ((refine wpList_load_blk rfl 26 (.tmp 16) rfl tv (by kernel_rfl) BVW.out Tryz.underlying26 rfl (dg_info.trans (congrArg some HL2.out.symm)) ?_))
      exact K_at (Kz HK) (by kernel_rfl)
     ·intro us W K HE hd HK
      have d3:=hd 3 (by kernel_rfl)
      have d4:=hd 4 (by kernel_rfl)
      have EXW:=hid (sg_udrew HE.out);dsimp only at HK⊢;rw[d3,d4] at HK⊢;clear hd d3 d4;go_wp2_with ((go_at_call 61;(with_reducible refine (HNO.out W EXW.out).mono ?_);rintro e w6 ⟨rfl,hB6⟩))
      exact K_at (HK.out (.agg (u8s D3).toArray) w6 (fun _ _=>rfl) hB6) (by kernel_rfl)
    ·intro us W hE hd
     try dsimp only
     have d5:=hd 5 (by decide)
     simp only[List.drop_succ_cons,List.drop_zero]
     rw[d5];have NE:=hid (sg_udrew hE);have BVW:=hid (BV.out.ext NE.out);clear hd hE d5;go_upto_region 20 with (refine wpList_store_blk rfl 26 (.tmp 16) (.tmp 78) (by rfl) tv (u8s D3) rfl rfl BVW.out (dg_info.trans (congrArg some HL3.out.symm)) (HL2.out.trans HL3.out.symm) (u8s_one _) ?_;intro w9 hw9 hb9)
     have B9:=hid hb9;have E9:Hid (Ext wB w9):=hid (by rw[hw9.out];exact (EO.out.next NE.out).setRow (by rw[HTV.out];exact Nat.le_refl _) _)
     clear hw9 hb9;go_wp2_with fail
     go_roundw
     case rel=>exact⟨t+1,by omega,by go_num,by rw[←HD3.out];exact B9.out,E9.out⟩
     case measure=>simp [intOf];omega
   ·have HNO:Hid (∀W,Ext wo W→Calls Tryz.prog 61 #[.agg (u8s D2).toArray,.agg (u8s D1).toArray] W fun e w'=>e=.returned (.agg (u8s D3).toArray)∧Ext W w'):=hid (fun W hW=>by
     rw[HSUC.out,if_neg (by omega)]
     exact node_any D2 D1 W HD2.out HD1.out (KB.out.below (EO.out.next hW)))
    rw[hodd] at hand;have hand2:bits .and .i64 (s:Int) 1=0:=hand;clear hand hodd;go_upto_region 19 with fail
    clear ci hsr hand2
    refine wp_region_flowG 6 ?FW84 (fun us=>?_) (by kernel_rfl) (by kernel_rfl) (fun a b=>Ext a b) Ext.refl (fun h1 h2=>h1.next h2) (fun i v W=>match i with
     | 0=>v=.agg (u8s D2).toArray
     | 1=>v=.func (.func 55) #[] #[.pointer (some ⟨rb,0,none⟩)]
     | 2=>v=.int .i64 (t:Int)
     | 3=>v=.int .i64 (68+(t:Int))
     | 4=>v=.agg (u8s D1).toArray
     | 5=>v=.agg (u8s D3).toArray
     | _=>True) ?_ ?_
    case refine_1 =>
     simp only[List.take_succ_cons,List.take_zero,flowAct,Nat.zero_add,Nat.reduceAdd,Act.put,List.setIfInBounds_toArray,List.set_cons_succ,List.set_cons_zero]
     rfl
    ·simp only[List.take_succ_cons,List.take_zero,flowStepsG]
     refine⟨?_,?_,?_,?_,?_,?_,trivial⟩
     ·intro us W K HE hd HK
      have BVW:=hid (BV.out.ext (sg_udrew HE.out));dsimp only at HK⊢;clear hd;go_wp2_with ((refine wpList_load_blk rfl 26 (.tmp 16) rfl tv (by kernel_rfl) BVW.out Tryz.underlying26 rfl (dg_info.trans (congrArg some HL2.out.symm)) ?_))
      exact K_at (Kz HK) (by kernel_rfl)
     ·intro us W K HE hd HK
      have xk:=(CB.out.ext (EO.out.next (sg_udrew HE.out))).cFn;dsimp only at HK⊢;clear hd;go_wp2_with fail
      exact K_at (Kz HK) (by kernel_rfl)
     ·intro us W K HE hd HK
      dsimp only at HK⊢;clear hd;go_wp2_with fail
      exact K_at (Kz HK) (by kernel_rfl)
     ·intro us W K HE hd HK
      have d2:=hd 2 (by kernel_rfl)
      dsimp only at HK⊢;rw[d2] at HK⊢;clear hd d2;go_wp2_with fail
      exact K_at (Kz HK) (by kernel_rfl)
     ·intro us W K HE hd HK
      have d1:=hd 1 (by kernel_rfl)
      have d3:=hd 3 (by kernel_rfl)
      have EXW:=hid (sg_udrew HE.out);dsimp only at HK⊢;rw[d1,d3] at HK⊢;clear hd d1 d3;go_wp2_with ((go_at_call 55;(with_reducible refine (HVT.out W EXW.out).mono ?_);rintro e w6 ⟨rfl,hB6⟩))
      exact K_at (HK.out (.agg (u8s D1).toArray) w6 (fun _ _=>rfl) hB6) (by kernel_rfl)
     ·intro us W K HE hd HK
      have d0:=hd 0 (by kernel_rfl)
      have d4:=hd 4 (by kernel_rfl)
      have EXW:=hid (sg_udrew HE.out);dsimp only at HK⊢;rw[d0,d4] at HK⊢;clear hd d0 d4;go_wp2_with ((go_at_call 61;(with_reducible refine (HNO.out W EXW.out).mono ?_);rintro e w6 ⟨rfl,hB6⟩))
      exact K_at (HK.out (.agg (u8s D3).toArray) w6 (fun _ _=>rfl) hB6) (by kernel_rfl)
    ·intro us W hE hd
     try dsimp only
     have d5:=hd 5 (by decide)
     simp only[List.drop_succ_cons,List.drop_zero]
     rw[d5];have NE:=hid (sg_udrew hE);have BVW:=hid (BV.out.ext NE.out);clear hd hE d5;go_upto_region 20 with (refine wpList_store_blk rfl 26 (.tmp 16) (.tmp 84) (by rfl) tv (u8s D3) rfl rfl BVW.out (dg_info.trans (congrArg some HL3.out.symm)) (HL2.out.trans HL3.out.symm) (u8s_one _) ?_;intro w9 hw9 hb9)
     have B9:=hid hb9;have E9:Hid (Ext wB w9):=hid (by rw[hw9.out];exact (EO.out.next NE.out).setRow (by rw[HTV.out];exact Nat.le_refl _) _)
     clear hw9 hb9;go_wp2_with fail
     go_roundw
     case rel=>exact⟨t+1,by omega,by go_num,by rw[←HD3.out];exact B9.out,E9.out⟩
     case measure=>simp [intOf];omega
  ·obtain rfl:t=h:=by omega
   have HRL:Hid (Dig RV):=hid (by rw[←HRT.out];exact HCD.out _)
   have BVR:Hid (Blk wo tv 26 (u8s RV)):=hid (by rw[←HRT.out];exact BV.out)
   have BPO:=hid (BPB.out.ext EO.out);have HL2:Hid ((u8s RV).length=16):=hid (by rw[u8s_len];exact HRL.out.l)
   have hq:=dig_equal RV pub HRL.out HPB.out;have ci:=(CB.out.ext EO.out).cIx;clear BV;by_cases heq:RV=pub
   ·have hq2:∀W,(Op.equalIn 10000 26 (.agg (u8s RV).toArray) (.agg (u8s pub).toArray)).run Tryz.prog W=.ok true W:=fun W=>by rw[hq W,decide_eq_true heq]
    have HEQ:=hid heq;clear hq heq
    go_wp2_with ((first
     | (refine wpList_load_blk rfl 26 (.tmp 16) rfl tv (by kernel_rfl) BVR.out Tryz.underlying26 rfl (dg_info.trans (congrArg some HL2.out.symm)) ?_)
     | (refine wpList_load_blk rfl 26 (.tmp 4) rfl w.heap.size (by kernel_rfl) BPO.out Tryz.underlying26 rfl (dg_info.trans (congrArg some HPL.out.symm)) ?_)))
    go_ret2
    exact⟨Or.inl ⟨HEQ.out,rfl⟩,EWB.out.next EO.out⟩
   ·have hq2:∀W,(Op.equalIn 10000 26 (.agg (u8s RV).toArray) (.agg (u8s pub).toArray)).run Tryz.prog W=.ok false W:=fun W=>by rw[hq W,decide_eq_false heq]
    have HEQ:=hid heq;clear hq heq
    go_wp2_with ((first
     | (refine wpList_load_blk rfl 26 (.tmp 16) rfl tv (by kernel_rfl) BVR.out Tryz.underlying26 rfl (dg_info.trans (congrArg some HL2.out.symm)) ?_)
     | (refine wpList_load_blk rfl 26 (.tmp 4) rfl w.heap.size (by kernel_rfl) BPO.out Tryz.underlying26 rfl (dg_info.trans (congrArg some HPL.out.symm)) ?_)))
    go_ret2
    exact⟨Or.inr ⟨HEQ.out,rfl⟩,EWB.out.next EO.out⟩
end
end Go.Proofs.YtjeecfjeooehhaaGreatDoor