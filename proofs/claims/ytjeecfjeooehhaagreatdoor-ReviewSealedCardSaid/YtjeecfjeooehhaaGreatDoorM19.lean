/- The walks of hash.Begin, Stream.Add, Stream.Sum, hash.Sum. No condition. -/
import Derived.Test.YtjeecfjeooehhaaGreatDoorM18
import Derived.Deep.RegionWith
import Derived.Deep.DeepCutAuto
import Derived.Deep.AppendLies
import Derived.Test.YtjeecfjeooehhaaGreatDoorM1
set_option linter.unusedSimpArgs false
set_option linter.unusedVariables false
set_option maxHeartbeats 16000000
set_option maxRecDepth 100000
namespace Go.Proofs.YtjeecfjeooehhaaGreatDoor
open Go.RowKit
open Lib (hid)
section
theorem zero_stream:IsStream (u32s initSt.list++(u8s (List.replicate 64 0)++[.int .u64 0])) [] (List.replicate 64 0) :=
 ⟨rfl,rfl,fun x hx=>by obtain rfl:=(List.mem_replicate.1 hx).2;omega,Byt.nil,rfl⟩
def zeroS:List Value:=u32s [0,0,0,0,0,0,0,0]++(u8s (List.replicate 64 0)++[Value.int .u64 0])
def initS:List Value:=u32s initSt.list++(u8s (List.replicate 64 0)++[Value.int .u64 0])
theorem zeroS_len:zeroS.toArray.size=73:=rfl
theorem initS_len:initS.toArray.size=73:=rfl
theorem initS_one:initS.toArray.all (·.oneCell')=true:=by simp [initS,u32s,u8s,St.list,Value.oneCell']
theorem zero_run (W:World):(zeroValue 195).run Tryz.prog W=.ok (.agg zeroS.toArray) W:=by kernel_rfl
theorem build_init (W:World):(Instr.build 195 #[(0,.agg #[.int .u32 1779033703,.int .u32 3144134277,.int .u32 1013904242,.int .u32 2773480762,.int .u32 1359893119,.int .u32 2600822924,.int .u32 528734635,.int .u32 1541459225])]).run Tryz.prog W=.ok (.agg initS.toArray) W:=by kernel_rfl
theorem info_stream:(Tryz.prog.info? 195).map (·.size)=some 73:=by kernel_rfl
theorem IsStream.size {cs:List Value}{m blk:List Int}(h:IsStream cs m blk):cs.toArray.size=73:=by
 rw[h.cells];simp [u32s,St.list,u8s,h.len]
theorem IsStream.one {cs:List Value}{m blk:List Int}(h:IsStream cs m blk):cs.toArray.all (·.oneCell')=true:=by
 rw[h.cells];simp [u32s,St.list,u8s,Value.oneCell']
theorem begin_any (w:World) :
  Calls Tryz.prog 136 #[] w fun e w'=>e=.returned (.agg initS.toArray)∧Below w.heap.size w w':=by
 have hz:=zero_run;have hbi:=build_init;go_enter Tryz.func136,Tryz.ntmps136
 go_wp2_with (refine wpList_store_row rfl 195 (.tmp 0) (.tmp 2) rfl w.heap.size _ rfl rfl 195 _ (heap_alloc_new w _) (info_stream.trans (congrArg some initS_len.symm)) (zeroS_len.trans initS_len.symm) initS_one ?_)
 exact bodyPost_ret (results_cell_row Tryz.results136 _ _ w.heap.size 195 _ (0,0) _ rfl ((Blk.fresh w _ zeroS).setRow initS) Tryz.underlying195 rfl (info_stream.trans (congrArg some initS_len.symm))) rfl ⟨rfl,below_row ((Below.refl _ _).alloc (Nat.le_refl _) _) (Nat.le_refl _) _⟩
theorem compress_ex (s:St)(l:List Int)(g o c:Nat)(w:World)(hl:l.length=64)(hc:∀j,j<64→w.cell? ⟨g,o+j,none⟩=some (.int .u8 (l.getD j 0)))(hb:Byt l)(hcap:64≤c)(hcm:c≤9223372036854775807)(hK:KTab w) :
  Calls Tryz.prog 168 #[.agg #[.int .u32 s.a,.int .u32 s.b,.int .u32 s.c,.int .u32 s.d,.int .u32 s.e,.int .u32 s.f,.int .u32 s.g,.int .u32 s.h],.slice (some ⟨g,o,none⟩) 64 c] w fun e w' =>
   e=.returned (.agg #[.int .u32 (compI s l).a,.int .u32 (compI s l).b,.int .u32 (compI s l).c,.int .u32 (compI s l).d,.int .u32 (compI s l).e,.int .u32 (compI s l).f,.int .u32 (compI s l).g,.int .u32 (compI s l).h])∧Below w.heap.size w w' :=
 compress_any s l g o c w hl hc hb hcap hcm hK
def strC (st:St)(b:List Int)(n:Int):List Value:=u32s st.list++(u8s b++[.int .u64 n])
theorem strC_72 (st:St)(b:List Int)(n:Int)(h:b.length=64):(strC st b n)[72]?=some (.int .u64 n):=by
 unfold strC;rw[List.getElem?_append_right (by simp [u32s,St.list]),List.getElem?_append_right (by simp [u32s,St.list,u8s,h])]
 simp [u32s,St.list,u8s,h]
theorem strC_set72 (st:St)(b:List Int)(n k:Int)(h:b.length=64):(strC st b n).set 72 (.int .u64 k)=strC st b k:=by
 unfold strC;rw[List.set_append_right _ _ (by simp [u32s,St.list]),List.set_append_right _ _ (by simp [u32s,St.list,u8s,h])]
 simp [u32s,St.list,u8s,h]
theorem strC_blk (st:St)(b:List Int)(n:Int)(h:b.length=64)(j:Nat)(hj:j<64):(strC st b n)[8+j]?=some (.int .u8 (b.getD j 0)):=by
 unfold strC;rw[List.getElem?_append_right (by simp [u32s,St.list]),List.getElem?_append_left (by simp [u32s,St.list,u8s,h];omega)]
 have:8+j-(u32s st.list).length=j:=by simp [u32s,St.list]
 rw[this];exact u8s_get b j (by omega)
theorem strC_st (st:St)(b:List Int)(n:Int):(strC st b n)[0]?=some (.int .u32 st.a)∧(strC st b n)[1]?=some (.int .u32 st.b)∧(strC st b n)[2]?=some (.int .u32 st.c)∧(strC st b n)[3]?=some (.int .u32 st.d) ∧
  (strC st b n)[4]?=some (.int .u32 st.e)∧(strC st b n)[5]?=some (.int .u32 st.f)∧(strC st b n)[6]?=some (.int .u32 st.g)∧(strC st b n)[7]?=some (.int .u32 st.h):=⟨rfl,rfl,rfl,rfl,rfl,rfl,rfl,rfl⟩
theorem strC_setst (st r:St)(b:List Int)(n:Int):((((((((strC st b n).set 0 (.int .u32 r.a)).set 1 (.int .u32 r.b)).set 2 (.int .u32 r.c)).set 3 (.int .u32 r.d)).set 4 (.int .u32 r.e)).set 5 (.int .u32 r.f)).set 6 (.int .u32 r.g)).set 7 (.int .u32 r.h)=strC r b n:=rfl
theorem laid_mid (P X Q:List Value)(n k:Nat)(x:List Value)(hP:P.length=n)(h:k+x.length≤X.length):laid (P++(X++Q)) (n+k) x=P++(laid X k x++Q):=by
 unfold laid;subst hP;rw[List.take_length_add_append,Nat.add_assoc,List.drop_length_add_append,List.take_append_of_le_length (by omega),List.drop_append_of_le_length (by omega)]
 simp
theorem laid_u8s (blk x:List Int)(k:Nat):laid (u8s blk) k (u8s x)=u8s (over blk k x):=by
 simp [laid,over,u8s]
theorem strC_laid (st:St)(b:List Int)(n:Int)(h:b.length=64)(k:Nat)(x:List Int)(hx:k+x.length≤64):laid (strC st b n) (8+k) (u8s x)=strC st (over b k x) n:=by
 unfold strC;rw[laid_mid _ _ _ 8 _ _ (by simp [u32s,St.list]) (by rw[u8s_length,u8s_length,h];omega),laid_u8s]
theorem stream_small {cs:List Value}{m blk x:List Int}{a k:Nat}(h:IsStream cs m blk)(ha:a=m.length % 64)(_hk:x.length=k)(hx:Byt x)(hf:a+k<64) :
  IsStream (strC (hst m) (over blk a x) (m.length+k)) (m++x) (over blk a x):=by
 subst ha _hk;refine⟨?_,by rw[over_len _ _ _ (by rw[h.len];omega),h.len],over_byt h.byt hx _,h.mbyt.app hx,str_part h.part h.len hf⟩
 rw[hst_small m x hf,List.length_append,Int.natCast_add];rfl
theorem stream_full {cs:List Value}{m blk x:List Int}{a k:Nat}(h:IsStream cs m blk)(ha:a=m.length % 64)(hk:x.length=k)(hx:Byt x)(hf:a+k=64) :
  IsStream (strC (compI (hst m) (over blk a x)) (over blk a x) (m.length+k)) (m++x) (over blk a x):=by
 subst ha hk;refine⟨?_,by rw[over_len _ _ _ (by rw[h.len];omega),h.len],over_byt h.byt hx _,h.mbyt.app hx,str_full_part m x blk hf⟩
 rw[hst_full m x hf,List.length_append,Int.natCast_add,str_full h.part h.len hf];rfl
theorem rest_bys {s s':ByteArray}{d k:Nat}(hs:bys s'=(bys s).drop d)(_hk:k≤s'.size):bys (s'.extract k s'.size)=(bys s).drop (d+k):=by
 rw[bys_extract,List.take_of_length_le (by rw[List.length_drop,bys_length];omega),hs,List.drop_drop]
theorem rest_app {s s':ByteArray}{m m':List Int}{d k:Nat}(hm:m++(bys s).take d=m')(hs:bys s'=(bys s).drop d):m++(bys s).take (d+k)=m'++(bys s').take k:=by
 rw[←hm,hs,List.append_assoc,List.take_add]
theorem rest_size {s s':ByteArray}{d k:Nat}(hd:d+s'.size=s.size)(hk:k≤s'.size):d+k+(s'.extract k s'.size).size=s.size:=by
 rw[ByteArray.size_extract];omega
theorem not_empty {s:ByteArray}(h:¬s.size=0):(!s.toList.isEmpty)=true:=by
 rw[ByteArray.toList_eq]
 cases hh:s.data.toList with
 | nil=>exact absurd (by rw[←bys_length];simp [bys,hh]) h
 | cons a l=>rfl
theorem is_empty {s:ByteArray}(h:s.size=0):(!s.toList.isEmpty)=false:=by
 rw[ByteArray.toList_eq]
 cases hh:s.data.toList with
 | nil=>rfl
 | cons a l=>rw[←bys_length] at h;simp [bys,hh] at h
theorem after_comp {w w':World}{g:Nat}{t:TypeId}{st:St}{b:List Int}{n:Int}(h:Blk w g t (strC st b n))(hb:Below w.heap.size w w') :
  w'.cell? ⟨g,0,none⟩=some (.int .u32 st.a)∧w'.cell? ⟨g,1,none⟩=some (.int .u32 st.b)∧w'.cell? ⟨g,2,none⟩=some (.int .u32 st.c)∧w'.cell? ⟨g,3,none⟩=some (.int .u32 st.d) ∧
  w'.cell? ⟨g,4,none⟩=some (.int .u32 st.e)∧w'.cell? ⟨g,5,none⟩=some (.int .u32 st.f)∧w'.cell? ⟨g,6,none⟩=some (.int .u32 st.g)∧w'.cell? ⟨g,7,none⟩=some (.int .u32 st.h) ∧
  w'.frozen? ⟨g,0,none⟩=false∧w'.frozen? ⟨g,1,none⟩=false∧w'.frozen? ⟨g,2,none⟩=false∧w'.frozen? ⟨g,3,none⟩=false∧w'.frozen? ⟨g,4,none⟩=false∧w'.frozen? ⟨g,5,none⟩=false∧w'.frozen? ⟨g,6,none⟩=false∧w'.frozen? ⟨g,7,none⟩=false:=by
 have h':=h.below hb h.lt;exact⟨h'.cell 0,h'.cell 1,h'.cell 2,h'.cell 3,h'.cell 4,h'.cell 5,h'.cell 6,h'.cell 7,h'.frozen 0,h'.frozen 1,h'.frozen 2,h'.frozen 3,h'.frozen 4,h'.frozen 5,h'.frozen 6,h'.frozen 7⟩
def slen:Value→Nat|.string s=>s.size|_=>0
theorem add_any (cs:List Value)(m blk:List Int)(s:ByteArray)(w:World)(hI:IsStream cs m blk)(hn:m.length+s.size≤4611686018427387904)(hK:KTab w) :
  Calls Tryz.prog 137 #[.agg cs.toArray,.string s] w fun e w'=>(∃cs' blk',e=.returned (.agg cs'.toArray)∧IsStream cs' (m++bys s) blk')∧Below w.heap.size w w':=by
 have hz:=zero_run;go_enter Tryz.func137,Tryz.ntmps137
 go_wp2_with fail
 clear hz
 go_loopw [1] (fun s1 wr=>∃(d:Nat) (s':ByteArray) (cs':List Value) (blk':List Int),s1=.string s'∧d+s'.size=s.size∧bys s'=(bys s).drop d∧IsStream cs' (m++(bys s).take d) blk'∧Blk wr w.heap.size 195 cs'∧Blk wr (w.heap.size+1) 195 zeroS∧Below w.heap.size w wr)
  (fun s1 _=>slen s1)
 case atStart=>exact⟨0,s,cs,blk,rfl,by omega,rfl,by simpa using hI,(Blk.fresh' _ _ _ _ _ rfl rfl).alloc _,Blk.fresh' _ _ _ _ _ rfl (by simp),((Below.refl _ _).alloc (Nat.le_refl _) _).alloc (by simp) _⟩
 case round =>
  obtain⟨d,s',cs',blk',rfl,hd,hs',hI',hb0,hb1,hB⟩:=hrel;have hl':=bys_length s'
  have hmlen:(m++(bys s).take d).length=m.length+d:=by
   rw[List.length_append,List.length_take,bys_length];omega
  generalize hm':m++(bys s).take d=m' at *
  have HM:=hid hm';clear hm';by_cases h0:s'.size=0
  ·have hne:=is_empty h0
   have hsz:=hI'.size;have hone:=hI'.one;have HI:=hid hI';have HML:=hid hmlen;have HL:=hid hl';have HD:=hid hd;have HS:=hid hs';clear hI' hmlen hl' hd hs'
   go_wp2_with (first
    | refine wpList_load_row rfl 195 (.tmp 2) rfl w.heap.size rfl 195 _ (0,0) _ hb0 Tryz.underlying195 rfl (info_stream.trans (congrArg some hsz.symm)) ?_
    | refine wpList_store_row rfl 195 (.tmp 4) (.tmp 37) rfl (w.heap.size+1) _ rfl rfl 195 _ hb1 (info_stream.trans (congrArg some hsz.symm)) (zeroS_len.trans hsz.symm) hone ?_)
   refine bodyPost_ret (results_cell_row Tryz.results137 _ _ (w.heap.size+1) 195 _ (0,0) _ rfl (hb1.setRow cs') Tryz.underlying195 rfl (info_stream.trans (congrArg some hsz.symm))) rfl ⟨⟨cs',blk',rfl,?_⟩,below_row hB (by omega) _⟩
   have:(bys s).take d=bys s:=List.take_of_length_le (by rw[bys_length];have:=HD.out;omega)
   rw[←this,HM.out];exact HI.out
  ·have hne:=not_empty h0
   obtain⟨a,had⟩:∃a,a=m'.length % 64:=⟨_,rfl⟩
   have ha:((m'.length:Int) % 64)=(a:Int):=by omega
   have ha1:a<64:=by omega
   have ha0:(0:Int)≤(a:Int):=by omega
   have ha3:(a:Int)≤64:=by omega
   obtain⟨k,hkd⟩:∃k,k=Nat.min s'.size (64-a):=⟨_,rfl⟩
   have hk1:k≤s'.size:=by rw[hkd];exact Nat.min_le_left _ _
   have hk2:a+k≤64:=by
    have:k≤64-a:=by rw[hkd];exact Nat.min_le_right _ _
    omega
   have hk0:0<k:=by
    have:k=s'.size∨k=64-a:=by rw[hkd];simp only[Nat.min_def];split<;>simp
    omega
   have hcp:=run_copy_str (P:=Tryz.prog) wr 23 9 3 5 w.heap.size (8+a) (64-a) (64-a) s' cs' 195 Tryz.underlying23 (by kernel_rfl) hb0 (by
    rw[←hkd];have:=hI'.size
    simp at this
    omega)
   rw[←hkd] at hcp;have hxl:((bys s').take k).length=k:=by rw[List.length_take,bys_length];omega
   have hcs:laid cs' (8+a) (u8s ((bys s').take k))=strC (hst m') (over blk' a ((bys s').take k)) m'.length:=by
    rw[hI'.cells];exact strC_laid _ _ _ hI'.len _ _ (by omega)
   have hol:(over blk' a ((bys s').take k)).length=64:=by rw[over_len _ _ _ (by rw[hI'.len];omega),hI'.len]
   rw[hcs] at hcp;obtain⟨w2,hw2⟩:∃w2,w2=wr.setRow w.heap.size (strC (hst m') (over blk' a ((bys s').take k)) m'.length).toArray:=⟨_,rfl⟩
   rw[←hw2] at hcp;have b0:Blk w2 w.heap.size 195 (strC (hst m') (over blk' a ((bys s').take k)) m'.length):=by rw[hw2];exact hb0.setRow _
   have b1:Blk w2 (w.heap.size+1) 195 zeroS:=by rw[hw2];exact hb1.setRow_far (by omega) _
   have hB2:Below w.heap.size w w2:=by rw[hw2];exact below_row hB (Nat.le_refl _) _
   have c72:wr.cell? ⟨w.heap.size,72,none⟩=some (.int .u64 m'.length):=by rw[hb0.cell 72,hI'.cells];exact strC_72 _ _ _ hI'.len
   have d72:=(b0.cell 72).trans (strC_72 _ _ _ hol);have f72:=b0.frozen 72;clear hw2 hcs;have HB0:=hid b0;have HB1:=hid b1;have HOL:=hid hol;have HXL:=hid hxl;clear b0 b1 hb0 hb1 hB hol hxl;have HAD:=hid had;have HKD:=hid hkd;have HML:=hid hmlen;have HL:=hid hl';have HD:=hid hd;have HS:=hid hs';have hbd:m'.length+s'.size≤4611686018427387904:=by omega
   clear hkd had hmlen hl' hd hs';by_cases hf:a+k<64
   ·go_wp2_with fail
    go_roundw
    case rel =>
     have hN:=stream_small hI' HAD.out HXL.out ((bys_byt s').take k) hf;refine⟨d+k,_,_,_,rfl,rest_size HD.out hk1,rest_bys HS.out hk1,by rw[rest_app HM.out HS.out];exact hN,?_,HB1.out.far (by simp) _,hB2.setCell (by simp) _⟩
     have:=HB0.out.set 72 (.int .u64 ((m'.length:Int)+(k:Int)))
     rw[strC_set72 _ _ _ _ HOL.out] at this;exact this
    case measure=>simp [slen,ByteArray.size_extract];omega
   ·go_upto_region 7 with (fail)
    obtain⟨w3,hw3⟩:∃w3,w3=w2.setCell ⟨w.heap.size,72,none⟩ (.int .u64 ((m'.length:Int)+(k:Int))):=⟨_,rfl⟩
    rw[←hw3]
    have b0:Blk w3 w.heap.size 195 (strC (hst m') (over blk' a ((bys s').take k)) (m'.length+k)):=by
     have:=HB0.out.set 72 (.int .u64 ((m'.length:Int)+(k:Int)))
     rw[strC_set72 _ _ _ _ HOL.out] at this;rw[hw3];exact this
    have b1:Blk w3 (w.heap.size+1) 195 zeroS:=by rw[hw3];exact HB1.out.far (by simp) _
    have hB3:Below w.heap.size w w3:=by rw[hw3];exact hB2.setCell (by simp) _
    have hK3:KTab w3:=Tab.below hK hB3 (Tab.lt hK);have hfull:=stream_full hI' HAD.out HXL.out ((bys_byt s').take k) (by omega)
    have HF:=hid hfull;have hby:=hfull.byt;clear hfull hw3 hcp c72 d72 f72 HB0 HB1 hB2 HAD;generalize over blk' a ((bys s').take k)=nb at *
    obtain⟨s0,s1,s2,s3,s4,s5,s6,s7⟩:=strC_st (hst m') nb (m'.length+k);have d0:=(b0.cell 0).trans s0;have d1:=(b0.cell 1).trans s1;have d2:=(b0.cell 2).trans s2;have d3:=(b0.cell 3).trans s3;have d4:=(b0.cell 4).trans s4;have d5:=(b0.cell 5).trans s5;have d6:=(b0.cell 6).trans s6;have d7:=(b0.cell 7).trans s7;have HB0:=hid b0;have HB1:=hid b1;have HB3:=hid hB3;have HK3:=hid hK3;clear s0 s1 s2 s3 s4 s5 s6 s7 b0 b1 hB3 hK3;have hsz:w.heap.size+1<w3.heap.size:=HB1.out.lt;have hOL:=HOL.out;have hlt:w.heap.size<w3.heap.size:=HB0.out.lt;go_region_with (go_at_call 168;refine (compress_ex (hst m') nb w.heap.size 8 64 w3.drew HOL.out (fun j hj=>(HB0.out.drew.cell (8+j)).trans (strC_blk _ _ _ HOL.out j hj)) hby (Nat.le_refl _) (by decide) (Tab.drew HK3.out)).mono ?_;rintro e w4 ⟨rfl,hB4⟩;have g0:=after_comp (HB0.out.drew) hB4;obtain⟨g0,g1,g2,g3,g4,g5,g6,g7,f0,f1,f2,f3,f4,f5,f6,f7⟩:=g0)
    clear g0 g1 g2 g3 g4 g5 g6 g7 f0 f1 f2 f3 f4 f5 f6 f7 d0 d1 d2 d3 d4 d5 d6 d7;go_wp2_with fail
    go_roundw
    case rel =>
     have hN:=HF.out;refine⟨d+k,_,_,_,rfl,rest_size HD.out hk1,rest_bys HS.out hk1,by rw[rest_app HM.out HS.out];exact hN,?_,?_,?_⟩
     ·have h4:=(HB0.out.drew).below hB4 HB0.out.drew.lt
      have:=((((((((h4.set 0 (.int .u32 (compI (hst m') nb).a)).set 1 (.int .u32 (compI (hst m') nb).b)).set 2 (.int .u32 (compI (hst m') nb).c)).set 3 (.int .u32 (compI (hst m') nb).d)).set 4 (.int .u32 (compI (hst m') nb).e)).set 5 (.int .u32 (compI (hst m') nb).f)).set 6 (.int .u32 (compI (hst m') nb).g)).set 7 (.int .u32 (compI (hst m') nb).h))
      rw[strC_setst] at this;exact this
     ·have h4:=(HB1.out.drew).below hB4 HB1.out.drew.lt
      refine (((((((h4.far ?_ _).far ?_ _).far ?_ _).far ?_ _).far ?_ _).far ?_ _).far ?_ _).far ?_ _<;>simp
     ·have h4:Below w.heap.size w w4:=HB3.out.drew.trans (hB4.mono (Nat.le_of_lt hlt))
      refine (((((((h4.setCell ?_ _).setCell ?_ _).setCell ?_ _).setCell ?_ _).setCell ?_ _).setCell ?_ _).setCell ?_ _).setCell ?_ _<;>simp
    case measure=>simp [slen,ByteArray.size_extract];omega
end
section
theorem info_u8:(Tryz.prog.info? 5).map (fun i=>(i.zero,i.size,i.bytes))=some (some (.int .u8 0),1,1):=by kernel_rfl
theorem info_32u8:(Tryz.prog.info? 189).map (·.size)=some 32:=by kernel_rfl
theorem zero32_len:(u8s (List.replicate 32 0)).toArray.size=32:=rfl
def padZ (j:Nat):List Int:=128::List.replicate j 0
theorem padZ_succ (j:Nat):u8s (padZ j)++[.int .u8 0]=u8s (padZ (j+1)):=by
 simp only[padZ,u8s,List.map_cons,List.map_replicate,List.cons_append,List.replicate_succ',List.map_append,List.map_cons,List.map_nil]
def padB (L j:Nat):List Int:=padZ ((119-L % 64) % 64)++(be64 (8*(L:Int))).take j
theorem padB_succ (L j:Nat)(h:j<8):u8s (padB L j)++[.int .u8 ((8*(L:Int)) / 2^(56-8*j) % 256)]=u8s (padB L (j+1)):=by
 unfold padB;rw[List.take_add_one,u8s_append,u8s_append,u8s_append,List.append_assoc]
 congr 2
 simp [be64,u8s,h]
theorem hs_own_blk {w:World}{base:Nat}{e:TypeId}{size n c:Nat}{A:Option Addr}{xs:List Value}(h:w.ownsRow base e size (.slice A n c) n xs):∀k,(Value.slice A n c).ownBlock=some k→base≤k:=fun k hk=>(h.lt k hk).1
theorem strC_word (st:St)(b:List Int)(n:Int)(k:Nat)(h:k<8):(strC st b n)[k]?=some (.int .u32 (st.list.getD k 0)):=by
 unfold strC;rw[List.getElem?_append_left (by simpa [u32s,St.list] using h)]
 exact u32s_get _ k h
theorem out_succ (st:St)(i:Nat)(h:i<32)(x:Int)(hx:x=(st.list.getD (i / 4) 0 / 2^(24-8*(i % 4))) % 256) :
  (u8s ((outI st).take i++List.replicate (32-i) 0)).set i (.int .u8 x)=u8s ((outI st).take (i+1)++List.replicate (32-(i+1)) 0):=by
 subst hx;obtain⟨n,hn⟩:∃n,32-i=n+1:=⟨31-i,by omega⟩
 have hl:(outI st).length=32:=by simp [outI]
 have hg:(outI st)[i]?=some ((st.list.getD (i / 4) 0 / 2^(24-8*(i % 4))) % 256):=by simp [outI,h]
 rw[hn,show 32-(i+1)=n from by omega,List.take_add_one,hg]
 unfold u8s;rw[List.map_append,List.set_append_right _ _ (by simp [hl];omega)]
 have:i-(List.map (Value.int IntKind.u8) (List.take i (outI st))).length=0:=by simp [hl];omega
 rw[this];simp [List.replicate_succ]
def slicelen:Value→Nat|.slice _ n _=>n|_=>0
theorem ssum_any (cs:List Value)(m blk:List Int)(w:World)(hI:IsStream cs m blk)(hn:m.length≤1000000000000)(hK:KTab w) :
  Calls Tryz.prog 138 #[.agg cs.toArray] w fun e w'=>e=.returned (.agg (u8s (sha m)).toArray)∧Below w.heap.size w w':=by
 obtain⟨i0,hi,hz0,hz1,hz2⟩:=info_parts info_u8;have HSZ:=hid hI.size;have HONE:=hid hI.one;go_enter Tryz.func138,Tryz.ntmps138
 have hc72:cs[72]?=some (.int .u64 m.length):=by rw[hI.cells];exact strC_72 _ _ _ hI.len
 obtain⟨z,hz⟩:∃z,z=(119-m.length % 64) % 64:=⟨_,rfl⟩
 have HZ:=hid hz;have hzb:z<64:=by omega
 clear hz;go_wp2_with fail
 have hb0:Blk (w.alloc (.cells cs.toArray 195)) w.heap.size 195 cs:=Blk.fresh w _ cs
 go_loopw [4] (fun s4 wr=>∃(A:Option Addr) (c j:Nat),s4=.slice A (j+1) c∧j≤z∧wr.ownsRow (w.heap.size+2) 5 1 (.slice A (j+1) c) (j+1) (u8s (padZ j))∧Blk wr w.heap.size 195 cs∧Blk wr (w.heap.size+1) 189 (u8s (List.replicate 32 0))∧Below w.heap.size w wr)
  (fun s4 _=>z+1-slicelen s4)
 case atStart =>
  exact⟨_,_,0,rfl,Nat.zero_le _,own_lit _ _ _ _ (u8s (padZ 0)) _ 1 rfl (by simp) (by omega) rfl (by decide),((hb0).alloc _).alloc _,(Blk.fresh' _ _ _ _ _ rfl (by simp)).alloc _,(((Below.refl _ _).alloc (Nat.le_refl _) _).alloc (by simp) _).alloc (by simp;omega) _⟩
 case round =>
  clear hb0;obtain⟨A,c,j,rfl,hj,hown,hb0,hb1,hB⟩:=hrel;have c72:wr.cell? ⟨w.heap.size,72,none⟩=some (.int .u64 m.length):=(hb0.cell 72).trans hc72
  have hsz1:=hb1.lt;by_cases hjz:j<z
  ·have ht:(((m.length:Int)+((j:Int)+1)) % 64 != 56)=true:=by
    have:=HZ.out
    rw[bne_iff_ne];omega
   have HB0:=hid hb0;have HB1:=hid hb1;have HT:=hid hc72;clear hb0 hb1 hc72 hI;go_wp2_with (at_builtin;refine wpList_append_lies _ rfl (.tmp 20) (.tmp 21) 23 rfl (w.heap.size+2) 5 i0 (.int .u8 0) 1 1 Tryz.underlying23 hi hz0 hz1 hz2 rfl (by omega) _ _ _ rfl (hown.alloc _) ⟨wr.heap.size,0,none⟩ 1 1 [.int .u8 0] rfl rfl (World.news_of_block (heap_alloc_new _ _)) (u8s_one [0]) (by omega) (by simp only[maxLen];omega) (by omega) (by simp;omega) (wr.heap.size+1) (by simp) ?_;intro g1 c1 w1 hown1 hgrow1 hat1 hlt1)
   go_roundw
   case rel =>
    have hne:∀k,(Value.slice A (j+1) c).ownBlock=some k→w.heap.size+2≤k:=hs_own_blk hown
    refine⟨_,_,j+1,rfl,by omega,?_,?_,?_,?_⟩
    ·rw[←padZ_succ];exact hown1
    ·exact (HB0.out.alloc _).grown hgrow1 (fun h=>by have:=hne _ h.symm;omega)
    ·exact (HB1.out.alloc _).grown hgrow1 (fun h=>by have:=hne _ h.symm;omega)
    ·exact (hB.alloc (by omega) _).grown hgrow1 (by simp;omega) (fun k hk=>by have:=hne k hk;omega)
   case measure=>simp [slicelen];omega
  ·obtain rfl:j=z:=by omega
   have ht:(((m.length:Int)+((j:Int)+1)) % 64 != 56)=false:=by
    have:=HZ.out
    rw[bne_eq_false_iff_eq];omega
   have hK1:KTab wr:=Tab.below hK hB (Tab.lt hK);have hln:(8*(m.length:Int))≤8000000000000:=by omega
   obtain⟨wo,rfl⟩:∃wo:World,wo=wr:=⟨_,rfl⟩
   go_wp2_with fail
   go_loopw [23,4] (fun i s4 wr=>∃(A:Option Addr) (c i':Nat),i=.int .i64 i'∧s4=.slice A (j+1+i') c∧i'≤8∧wr.ownsRow (w.heap.size+2) 5 1 (.slice A (j+1+i') c) (j+1+i') (u8s (padB m.length i'))∧Blk wr w.heap.size 195 cs∧Blk wr (w.heap.size+1) 189 (u8s (List.replicate 32 0))∧Below w.heap.size w wr)
    (fun i _ _=>8-(intOf i).toNat)
   case atStart=>exact⟨_,_,0,rfl,rfl,Nat.zero_le _,by rw[show padB m.length 0=padZ j from by unfold padB;rw[HZ.out];simp];exact hown,hb0,hb1,hB⟩
   case round =>
    clear hown hb0 hb1 hB c72 ht hsz1;obtain⟨A,c,i',rfl,rfl,hi8,hown,hb0,hb1,hB⟩:=hrel;have hsz1:=hb1.lt;by_cases hlt:i'<8
    ·have HB0:=hid hb0;have HB1:=hid hb1;have HT:=hid hc72
     clear hb0 hb1 hc72 hI;go_wp2_with (at_builtin;refine wpList_append_lies _ rfl (.tmp 26) (.tmp 33) 23 rfl (w.heap.size+2) 5 i0 (.int .u8 0) 1 1 Tryz.underlying23 hi hz0 hz1 hz2 rfl (by omega) _ _ _ rfl (hown.alloc _) ⟨wr.heap.size,0,none⟩ 1 1 [.int .u8 (8*(m.length:Int) / 2^(56-8*i') % 256)] rfl rfl (World.news_of_block (heap_alloc_new _ _)) (u8s_one [_]) (by omega) (by simp only[maxLen];omega) (by omega) (by simp;omega) (wr.heap.size+1) (by simp) ?_;intro g1 c1 w1 hown1 hgrow1 hat1 hlt1)
     go_roundw
     case rel =>
      have hne:∀k,(Value.slice A (j+1+i') c).ownBlock=some k→w.heap.size+2≤k:=hs_own_blk hown
      refine⟨_,_,i'+1,by go_num,rfl,by omega,?_,?_,?_,?_⟩
      ·rw[←padB_succ _ _ hlt];exact hown1
      ·exact (HB0.out.alloc _).grown hgrow1 (fun h=>by have:=hne _ h.symm;omega)
      ·exact (HB1.out.alloc _).grown hgrow1 (fun h=>by have:=hne _ h.symm;omega)
      ·exact (hB.alloc (by omega) _).grown hgrow1 (by simp;omega) (fun k hk=>by have:=hne k hk;omega)
     case measure=>simp [intOf]<;>omega
    ·obtain rfl:i'=8:=by omega
     have hK2:KTab wr:=Tab.below hK hB (Tab.lt hK)
     have hpad:padB m.length 8=padOf m.length:=by
      unfold padB padOf padZ;rw[List.take_of_length_le (by simp [be64])]
     rw[hpad] at hown;have hcv:=run_toStr (P:=Tryz.prog) Tryz.underlying23 Tryz.underlying5 Tryz.underlying9 (Rd.of_own hown) c (fun h=>by omega)
     have hlen:=padOf_len m.length;have hbys:=bys_strOf _ (padOf_byt m.length);have HI:=hid hI;have HB1:=hid hb1;have HK2:=hid hK2;have HP:=hid hpad;have HLEN:Hid ((strOf (padOf m.length)).size≤72):=hid (by rw[strOf_size];exact hlen)
     have HBY:=hid hbys;have hr:=HSZ.out;clear hI hb1 hK2 hpad hown hlen hbys hK1;generalize strOf (padOf m.length)=ps at *
     have hs64:ps.size≤72:=HLEN.out;go_wp2_with (refine wpList_load_row rfl 195 (.tmp 1) rfl w.heap.size rfl 195 _ (0,0) _ hb0 Tryz.underlying195 rfl (info_stream.trans (congrArg some HSZ.out.symm)) ?_)
     with_reducible refine (add_any cs m blk ps wr HI.out (by omega) HK2.out).mono ?_
     rintro e w5 ⟨⟨cs5,blk5,rfl,hI5⟩,hB5⟩
     rw[HBY.out] at hI5;have hr5:=hI5.size;have ho5:=hI5.one;have hb5:=hb0.below hB5 hb0.lt;have HR55:Hid (cs.toArray.size=cs5.toArray.size):=hid (HSZ.out.trans hr5.symm);have HI55:=hid (info_stream.trans (congrArg some hr5.symm));have HST0:=hid (strC_st (hst (m++padOf m.length)) blk5 ((m++padOf m.length).length));have HC5:Hid (cs5=strC (hst (m++padOf m.length)) blk5 ((m++padOf m.length).length)):=hid hI5.cells;have HO5:=hid ho5;clear hr5 hb0 ho5 hI5;go_wp2_with (refine wpList_store_row rfl 195 (.tmp 1) (.tmp 39) rfl w.heap.size _ rfl rfl 195 _ hb5 HI55.out HR55.out HO5.out ?_)
     obtain⟨wq,rfl⟩:∃x:World,x=w5:=⟨_,rfl⟩
     have hb1':=(HB1.out.below hB5 HB1.out.lt);have hBw:Below w.heap.size w wq:=hB.trans (hB5.mono (Nat.le_of_lt (Nat.lt_of_succ_lt hsz1)));have hq5:w.heap.size+1<wq.heap.size:=hb1'.lt;have hcl:∀k,k<8→cs5[k]?=some (.int .u32 ((hst (m++padOf m.length)).list.getD k 0)):=fun k hk=>by rw[HC5.out];exact strC_word _ _ _ k hk
     have HSTT:=hid hcl;have HN:Hid (outI (hst (m++padOf m.length))=sha m):=hid rfl;clear hcl HST0 HC5 HI HP HBY HLEN hcv hc72 HZ;generalize hst (m++padOf m.length)=st at *
     go_loopw [40] (fun i wr=>∃t:Nat,t≤32∧i=.int .i64 t∧Blk wr wq.heap.size 189 (u8s ((outI st).take t++List.replicate (32-t) 0))∧Blk wr w.heap.size 195 cs5∧Blk wr (w.heap.size+1) 189 (u8s (List.replicate 32 0))∧Below w.heap.size w wr)
      (fun i _=>32-(intOf i).toNat)
     case atStart=>exact⟨0,by omega,rfl,Blk.fresh' _ _ _ _ _ rfl (by simp),(hb5.setRow cs5).alloc _,(hb1'.setRow_far (by omega) _).alloc _,(below_row hBw (Nat.le_refl _) _).alloc (by simp;omega) _⟩
     case round =>
      clear hb5 hb1' hBw hB;obtain⟨t,ht,rfl,hbo,hb5,hb1,hB⟩:=hrel;by_cases hlt:t<32
      ·have c0:=(hb5.cell (t / 4)).trans (HSTT.out (t / 4) (by omega))
       have fz:=hbo.frozen t;have co:=hbo.cell t;have hol:(outI st).length=32:=by simp [outI]
       rw[show (u8s ((outI st).take t++List.replicate (32-t) 0))[t]?=some (.int .u8 0) from by
        rw[u8s_get _ _ (by simp [hol];omega),List.getD_eq_getElem?_getD,List.getElem?_append_right (by simp [hol];omega)]
        simp [hol,List.getElem?_replicate]
        split<;>rfl] at co
       have HO:=hid (out_succ st t hlt);have HBO:=hid hbo;have HB5:=hid hb5;have HBB1:=hid hb1;clear hbo hb5 hb1 hol;generalize st.list.getD (t / 4) 0=x at *
       obtain⟨q,hq⟩:∃q,q=t % 4:=⟨_,rfl⟩
       rw[←hq] at HO;have hm4:((t:Int) % 4)=(q:Int):=by omega
       have hm4b:q<4:=by omega
       have HQ:=hid hq;clear hq;go_wp2_with fail
       go_roundw
       case rel =>
        refine⟨t+1,by omega,by go_num,?_,HB5.out.far (by simp;omega) _,HBB1.out.far (by simp;omega) _,hB.setCell (by simp;omega) _⟩
        rw[←HO.out _ rfl];exact HBO.out.set t _
       case measure=>simp [intOf];omega
      ·obtain rfl:t=32:=by omega
       have hol:(outI st).length=32:=by simp [outI]
       have he:(outI st).take 32++List.replicate (32-32) 0=sha m:=by
        rw[List.take_of_length_le (by omega),HN.out];simp
       rw[he] at hbo;have hs32:(u8s (sha m)).toArray.size=32:=by simp [u8s,sha_length]
       have ho32:(u8s (sha m)).toArray.all (·.oneCell')=true:=by simp [u8s,Value.oneCell']
       have HS32:=hid hs32;have HO32:=hid ho32;clear hs32 ho32 he hol HN;generalize hout:u8s (sha m)=out at *
       have HOUT:=hid hout;clear hout
       go_wp2_with (first
        | refine wpList_load_row rfl 189 (.tmp 6) rfl wq.heap.size rfl 189 _ (0,0) _ hbo Tryz.underlying189 rfl (info_32u8.trans (congrArg some HS32.out.symm)) ?_
        | refine wpList_store_row rfl 189 (.tmp 2) (.tmp 57) rfl (w.heap.size+1) _ rfl rfl 189 _ hb1 (info_32u8.trans (congrArg some HS32.out.symm)) (zero32_len.trans HS32.out.symm) HO32.out ?_)
       exact bodyPost_ret (results_cell_row Tryz.results138 _ _ (w.heap.size+1) 189 _ (0,0) _ rfl (hb1.setRow out) Tryz.underlying189 rfl (info_32u8.trans (congrArg some HS32.out.symm))) rfl ⟨by rw[HOUT.out],below_row hB (by omega) _⟩
theorem opt_cases (A:Option Addr)(n:Nat)(_:n=0):A=none∨∃a,A=some a:=by cases A<;>simp
attribute [local go_sem ↓] wp_at_zero wp_at_succ
theorem sum_any (l:List Int)(A:Option Addr)(n c:Nat)(w:World)(hl:Rd w w.heap.size A n (u8s l))(hb:Byt l)(hn:n≤1000000000000)(hK:KTab w) :
  Calls Tryz.prog 161 #[.slice A n c] w fun e w'=>e=.returned (.agg (u8s (sha l)).toArray)∧Below w.heap.size w w':=by
 have hlen:l.length=n:=by simpa [u8s] using hl.1
 have hcv:∀W:World,Rd W w.heap.size A n (u8s l)→(convert 23 9 (.slice A n c)).run Tryz.prog W=.ok (.string (strOf l)) W:=fun W h=>run_toStr (P:=Tryz.prog) Tryz.underlying23 Tryz.underlying5 Tryz.underlying9 h c (opt_cases A n)
 obtain⟨O,hO⟩:∃O:Array Value,O=(u8s (sha l)).toArray:=⟨_,rfl⟩
 have hsz:O.size=32:=by rw[hO];simp [u8s,sha_length]
 have hone:O.all (·.oneCell')=true:=by rw[hO];simp [u8s,Value.oneCell']
 have hinf:=info_32u8.trans (congrArg some hsz.symm);have hbs:=bys_strOf l hb;have hss:(strOf l).size=n:=by rw[strOf_size,hlen]
 have hs1:(strOf l).size≤1000000000000:=by omega
 have HSS:=hid hss;have HBS:=hid hbs;have HSZ:=hid hsz;have HOO:=hid hO;have HLEN:=hid hlen;have HK:=hid hK;have HL:=hid hl;have HCV:=hid hcv;clear hss hbs hO hlen hK hl hcv hinf;generalize strOf l=s at *
 go_enter Tryz.func161,Tryz.ntmps161
 go_upto_region 1 with (fail)
 obtain⟨w0,hw0⟩:∃w0,w0=w.alloc (.cells (u8s (List.replicate 32 0)).toArray 189):=⟨_,rfl⟩
 have hbl:Blk w0 w.heap.size 189 (u8s (List.replicate 32 0)):=by rw[hw0];exact Blk.fresh _ _ _
 have hB0:Below w.heap.size w w0:=by rw[hw0];exact (Below.refl _ _).alloc (Nat.le_refl _) _
 have hz0:w.heap.size<w0.heap.size:=hbl.lt;change Code.wp _ _ _ _ (w.alloc (.cells (u8s (List.replicate 32 0)).toArray 189))
 rw[←hw0];have hcv0:=HCV.out _ ((HL.out.below' hB0 (Nat.le_refl _)).drew);clear hw0;have HBL:=hid hbl;clear hbl
 go_region_with (first
  | (go_at_call 136;refine (begin_any w0.drew).mono ?_;rintro e w1 ⟨rfl,hB1⟩;have hb1:=hB0.drew.trans (hB1.mono (Nat.le_of_lt hz0));have hcv1:=HCV.out _ (HL.out.below' hb1 (Nat.le_refl _));have hz1:w.heap.size<w1.heap.size:=Nat.lt_of_lt_of_le hz0 hB1.size)
  | (go_at_call 137;refine (add_any initS [] (List.replicate 64 0) s w1 zero_stream (by rw[List.length_nil];omega) (Tab.below HK.out hb1 (Tab.lt HK.out))).mono ?_;rintro e w2 ⟨⟨cs,blk,rfl,hI⟩,hB2⟩;have hz2:w.heap.size<w2.heap.size:=Nat.lt_of_lt_of_le hz1 hB2.size)
  | (go_at_call 138;refine (ssum_any cs ([]++bys s) blk w2 hI (by rw[List.nil_append,bys_length];omega) (Tab.below HK.out (hb1.trans (hB2.mono (Nat.le_of_lt hz1))) (Tab.lt HK.out))).mono ?_;rintro e w3 ⟨rfl,hB3⟩;rw[List.nil_append,HBS.out,←HOO.out];have hb3:=hb1.trans ((hB2.trans (hB3.mono hB2.size)).mono (Nat.le_of_lt hz1));have hbl3:=hid (((HBL.out.drew.below hB1 hz0).below hB2 hz1).below hB3 hz2);have hstc:=run_storeRow (P:=Tryz.prog) hbl3.out O HSZ.out hone))
 all_goals
  clear hstc;go_wp2_with fail
  exact bodyPost_ret (results_cell_row Tryz.results161 _ _ w.heap.size 189 _ (0,0) _ rfl (setRow_heap w3 _ _ O _ (0,0) hbl3.out) Tryz.underlying189 rfl (info_32u8.trans (congrArg some HSZ.out.symm))) rfl ⟨by rw[HOO.out],below_row hb3 (Nat.le_refl _) _⟩
end
end Go.Proofs.YtjeecfjeooehhaaGreatDoor