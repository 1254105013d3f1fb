/- The walks of the reference's padded and words. No condition. -/
import Derived.Test.YtjeecfjeooehhaaGreatDoorM19
import Derived.Test.YtjeecfjeooehhaaGreatDoorM1
import Derived.Test.YtjeecfjeooehhaaGreatDoorM2
set_option linter.unusedSimpArgs false
set_option linter.unusedVariables false
set_option maxHeartbeats 16000000
set_option maxRecDepth 100000
namespace Go.Proofs.YtjeecfjeooehhaaGreatDoor
open Go.RowKit
open Lib (hid)
section
theorem one_u8 (x:Int):∀u∈[Value.int .u8 x],u.oneCell'=true:=u8s_one [x]
theorem padZ_zero:u8s (padZ 0)=[Value.int .u8 128]:=rfl
theorem padded_any (l:List Int)(A:Option Addr)(n c:Nat)(w:World)(hl:Rd w w.heap.size A n (u8s l))(hn:n≤1000000000000) :
  Calls Tryz.prog 165 #[.slice A n c] w fun e w'=>(∃A' c',e=.returned (.slice A' (n+(padOf n).length) c')∧w'.ownsRow w.heap.size 5 1 (.slice A' (n+(padOf n).length) c') (n+(padOf n).length) (u8s (l++padOf n)))∧Below w.heap.size w w':=by
 obtain⟨i0,hi,hz0,hz1,hz2⟩:=info_parts info_u8;have hlen:l.length=n:=by simpa [u8s] using hl.1
 obtain⟨z,hz⟩:∃z,z=(119-n % 64) % 64:=⟨_,rfl⟩
 have HZ:=hid hz;have hzb:z<64:=by omega
 have HLEN:=hid hlen;clear hz hlen;go_enter Tryz.func165,Tryz.ntmps165
 go_wp2_with (first
  | (at_builtin;refine wpList_app rfl (.tmp 6) (.tmp 7) 23 rfl w.heap.size 5 i0 (.int .u8 0) 1 1 Tryz.underlying23 hi hz0 hz1 hz2 rfl (by omega) _ 0 0 [] rfl (own_lit w _ _ _ [] _ 0 rfl rfl (Nat.le_refl _) rfl (by decide)) w.heap.size A n c (u8s l) rfl ((RdN.of_Rd hl).keep fun p hp=>World.cell?_alloc_lt _ _ _ hp) (u8s_one l) (by simp only[maxLen];omega) (by omega) (by simp) ?_;intro A1 c1 w1 hown1 hg1;have hb1:=below_app ((Below.refl w.heap.size w).alloc (Nat.le_refl _) _) hg1 (own_lit w _ _ _ [] _ 0 rfl rfl (Nat.le_refl _) rfl (by decide)) (Nat.le_refl _) (by simp);have hs1:=hb1.size;simp only[Nat.zero_add,List.nil_append] at hown1)
  | (at_builtin;refine wpList_app rfl (.tmp 9) (.tmp 10) 23 rfl w.heap.size 5 i0 (.int .u8 0) 1 1 Tryz.underlying23 hi hz0 hz1 hz2 rfl (by omega) A1 n c1 (u8s l) rfl (hown1.alloc _) (w1.heap.size+1) _ 1 1 [.int .u8 128] rfl (RdN.fresh [.int .u8 128] _ _ 1 1 rfl rfl rfl) (one_u8 _) (by simp only[maxLen];omega) (by omega) (by simp;omega) ?_;intro A2 c2 w2 hown2 hg2;have hb2:=below_app (hb1.alloc (by omega) _) hg2 (hown1.alloc _) (Nat.le_refl _) (by simp;omega)))
 have hs2:=hb2.size
 go_loopw [3] (fun s3 wr=>∃(A:Option Addr) (c j:Nat),s3=.slice A (n+1+j) c∧j≤z∧wr.ownsRow w.heap.size 5 1 (.slice A (n+1+j) c) (n+1+j) (u8s (l++padZ j))∧Below w.heap.size w wr)
  (fun s3 _=>n+1+z-slicelen s3)
 case atStart=>exact⟨A2,c2,0,rfl,Nat.zero_le _,by rw[u8s_append,padZ_zero];exact hown2,hb2⟩
 case round =>
  clear hown1 hg1 hb1 hs1 hown2 hg2 hb2 hs2;obtain⟨A3,c3,j,rfl,hj,hown,hB⟩:=hrel;have hs:=hB.size;by_cases hjz:j<z
  ·have ht:((((n:Int)+1+(j:Int))) % 64 != 56)=true:=by
    have:=HZ.out
    rw[bne_iff_ne];omega
   go_wp2_with (at_builtin;refine wpList_app rfl (.tmp 16) (.tmp 17) 23 rfl w.heap.size 5 i0 (.int .u8 0) 1 1 Tryz.underlying23 hi hz0 hz1 hz2 rfl (by omega) A3 _ c3 _ rfl (hown.alloc _) (wr.heap.size+1) _ 1 1 [.int .u8 0] rfl (RdN.fresh [.int .u8 0] _ _ 1 1 rfl rfl rfl) (one_u8 _) (by simp only[maxLen];omega) (by omega) (by simp;omega) ?_;intro A4 c4 w4 hown4 hg4;have hb4:=below_app (hB.alloc (by omega) _) hg4 (hown.alloc _) (Nat.le_refl _) (by simp;omega))
   go_roundw
   case rel=>exact⟨A4,c4,j+1,rfl,by omega,by rw[u8s_append,←padZ_succ,←List.append_assoc,←u8s_append];exact hown4,hb4⟩
   case measure=>simp [slicelen];omega
  ·obtain rfl:j=z:=by omega
   have ht:((((n:Int)+1+(j:Int))) % 64 != 56)=false:=by
    have:=HZ.out
    rw[bne_eq_false_iff_eq];omega
   have hln:(8*(n:Int))≤8000000000000:=by omega
   obtain⟨wo,rfl⟩:∃wo:World,wo=wr:=⟨_,rfl⟩
   go_wp2_with fail
   go_loopw [5,3] (fun i s3 wr=>∃(A:Option Addr) (c i':Nat),i=.int .i64 i'∧s3=.slice A (n+1+j+i') c∧i'≤8∧wr.ownsRow w.heap.size 5 1 (.slice A (n+1+j+i') c) (n+1+j+i') (u8s (l++padB n i'))∧Below w.heap.size w wr)
    (fun i _ _=>8-(intOf i).toNat)
   case atStart=>exact⟨_,_,0,rfl,rfl,Nat.zero_le _,by rw[show padB n 0=padZ j from by unfold padB;rw[HZ.out];simp];exact hown,hB⟩
   case round =>
    clear hown hB ht hs;obtain⟨A5,c5,i',rfl,rfl,hi8,hown,hB⟩:=hrel;have hs:=hB.size;by_cases hlt:i'<8
    ·go_wp2_with (at_builtin;refine wpList_app rfl (.tmp 27) (.tmp 34) 23 rfl w.heap.size 5 i0 (.int .u8 0) 1 1 Tryz.underlying23 hi hz0 hz1 hz2 rfl (by omega) A5 _ c5 _ rfl (hown.alloc _) (wr.heap.size+1) _ 1 1 [.int .u8 (8*(n:Int) / 2^(56-8*i') % 256)] rfl (RdN.fresh [_] _ _ 1 1 rfl rfl rfl) (one_u8 _) (by simp only[maxLen];omega) (by omega) (by simp;omega) ?_;intro A4 c4 w4 hown4 hg4;have hb4:=below_app (hB.alloc (by omega) _) hg4 (hown.alloc _) (Nat.le_refl _) (by simp;omega))
     go_roundw
     case rel=>exact⟨A4,c4,i'+1,by go_num,rfl,by omega,by rw[u8s_append,←padB_succ _ _ hlt,←List.append_assoc,←u8s_append];exact hown4,hb4⟩
     case measure=>simp [intOf]<;>omega
    ·obtain rfl:i'=8:=by omega
     have hpl:n+1+j+8=n+(padOf n).length:=by
      have:=HZ.out
      simp [padOf,be64];omega
     have hpad:padB n 8=padOf n:=by
      unfold padB padOf padZ;rw[List.take_of_length_le (by simp [be64])]
     rw[hpl,hpad] at hown;have HPL:=hid hpl;clear hpl hpad;go_wp2_with fail
     go_ret
     exact⟨⟨A5,c5,by rw[HPL.out];rfl,hown⟩,hB⟩
theorem or_comm32 (a b:Int):bits .or .u32 a b=bits .or .u32 b a:=by
 show IntKind.u32.wrap ((BitVec.ofInt 32 a|||BitVec.ofInt 32 b).toNat:Int)=IntKind.u32.wrap ((BitVec.ofInt 32 b|||BitVec.ofInt 32 a).toNat:Int)
 rw[BitVec.or_comm]
theorem rotr_any (x n:Int)(w:World)(i0:1≤n)(i1:n≤31) :
  Calls Tryz.prog 167 #[.int .u32 x,.int .i64 n] w fun e w'=>e=.returned (.int .u32 (rot x (32-n)))∧∃n,w'=w.drewN n:=by
 go_enter Tryz.func167,Tryz.ntmps167
 go_wp2
 go_quiet (fail)
 go_wp2
 go_ret
 refine⟨?_,_,rfl⟩
 unfold rot;rw[or_comm32,show (32-(32-n))=n from by omega]
 rfl
theorem word_eq (b0 b1 b2 b3:Int)(h0:0≤b0∧b0≤255)(h1:0≤b1∧b1≤255)(h2:0≤b2∧b2≤255)(h3:0≤b3∧b3≤255) :
  bits .or .u32 (bits .or .u32 (bits .or .u32 (b0*16777216) (b1*65536)) (b2*256)) b3=16777216*b0+65536*b1+256*b2+b3:=by
 obtain⟨a0,rfl⟩:=Int.eq_ofNat_of_zero_le h0.1;obtain⟨a1,rfl⟩:=Int.eq_ofNat_of_zero_le h1.1;obtain⟨a2,rfl⟩:=Int.eq_ofNat_of_zero_le h2.1;obtain⟨a3,rfl⟩:=Int.eq_ofNat_of_zero_le h3.1;have e0:((a0:Int)*16777216)=((a0*16777216:Nat):Int):=by omega
 have e1:((a1:Int)*65536)=((a1*65536:Nat):Int):=by omega
 have e2:((a2:Int)*256)=((a2*256:Nat):Int):=by omega
 rw[e0,e1,e2,u32_or_nat _ _ (by omega) (by omega),nat_join 24 _ _ (by omega) (by omega),u32_or_nat _ _ (by omega) (by omega),nat_join 16 _ _ (by omega) (by omega),u32_or_nat _ _ (by omega) (by omega),nat_join 8 _ _ (by omega) (by omega)]
 omega
theorem words_any (l:List Int)(A:Option Addr)(c:Nat)(w:World)(hl:Rd w w.heap.size A 64 (u8s l))(hb:Byt l) :
  Calls Tryz.prog 166 #[.slice A 64 c] w fun e w'=>e=.returned (.agg (u32s (wl l 64)).toArray)∧Below w.heap.size w w':=by
 have hlen:l.length=64:=by simpa [u8s] using hl.1
 obtain⟨g,o,rfl,hg,hc⟩:=hl.2 (by omega)
 have HL:=hid hlen;have hc':∀j,j<64→w.cell? ⟨g,o+j,none⟩=some (.int .u8 (l.getD j 0)):=fun j hj=>hc j _ (u8s_get l j (by omega))
 have HC:=hid hc';clear hc hc' hl hlen;go_enter Tryz.func166,Tryz.ntmps166
 go_wp2_with fail
 go_loopw [4] (fun i wr=>∃t:Nat,t≤16∧i=.int .i64 t∧Blk wr (w.heap.size+1) 227 (schedCells l t)∧Blk wr w.heap.size 227 (schedCells l 0)∧Below w.heap.size w wr)
  (fun i _=>16-(intOf i).toNat)
 case atStart=>exact⟨0,by omega,rfl,Blk.fresh' _ _ _ _ _ rfl (by simp),(Blk.fresh' _ _ _ _ _ rfl rfl).alloc _,((Below.refl _ _).alloc (Nat.le_refl _) _).alloc (by simp) _⟩
 case round =>
  obtain⟨t,ht,rfl,hW,hR,hB⟩:=hrel;have HW:=hid hW;have HR:=hid hR;clear hW hR;by_cases hlt:t<16
  ·have c0:=(HW.out.cell t).trans (schedCells_zero l t (by omega))
   have fz:=HW.out.frozen t;have x0:=(hB.cell (p:=⟨g,o+(4*t),none⟩) hg).trans (HC.out (4*t) (by omega))
   have x1:=(hB.cell (p:=⟨g,o+(4*t+1),none⟩) hg).trans (HC.out (4*t+1) (by omega))
   have x2:=(hB.cell (p:=⟨g,o+(4*t+2),none⟩) hg).trans (HC.out (4*t+2) (by omega))
   have x3:=(hB.cell (p:=⟨g,o+(4*t+3),none⟩) hg).trans (HC.out (4*t+3) (by omega))
   have HN:=hid (word_eq _ _ _ _ (hb.at_ (4*t)) (hb.at_ (4*t+1)) (hb.at_ (4*t+2)) (hb.at_ (4*t+3)));have HNW:Hid (16777216*l.getD (4*t) 0+65536*l.getD (4*t+1) 0+256*l.getD (4*t+2) 0+l.getD (4*t+3) 0=nextW l (wl l t) t):=hid (by unfold nextW;rw[if_pos hlt];rfl)
   have b0:=hb.at_ (4*t);have b1:=hb.at_ (4*t+1);have b2:=hb.at_ (4*t+2);have b3:=hb.at_ (4*t+3);generalize l.getD (4*t) 0=y0 at *
   generalize l.getD (4*t+1) 0=y1 at *
   generalize l.getD (4*t+2) 0=y2 at *
   generalize l.getD (4*t+3) 0=y3 at *
   obtain⟨b00,b01⟩:=b0;obtain⟨b10,b11⟩:=b1;obtain⟨b20,b21⟩:=b2;obtain⟨b30,b31⟩:=b3;go_upto_region 5 with (fail)
   go_region
   go_wp2_with fail
   go_roundw
   case rel =>
    refine⟨t+1,by omega,by go_num,?_,?_,?_⟩
    ·rw[HN.out,HNW.out,←schedCells_succ l t (by omega) _ rfl]
     exact (HW.out.set t _).drew
    ·exact (HR.out.far (by simp) _).drew
    ·exact (hB.setCell (by simp) _).drew
   case measure=>simp [intOf];omega
  ·obtain rfl:t=16:=by omega
   obtain⟨wo,rfl⟩:∃wo:World,wo=wr:=⟨_,rfl⟩
   go_wp2_with fail
   go_loopw [5] (fun i wr=>∃t:Nat,16≤t∧t≤64∧i=.int .i64 t∧Blk wr (w.heap.size+1) 227 (schedCells l t)∧Blk wr w.heap.size 227 (schedCells l 0)∧Below w.heap.size w wr)
    (fun i _=>64-(intOf i).toNat)
   case atStart=>exact⟨16,by omega,by omega,rfl,HW.out,HR.out,hB⟩
   case round =>
    clear HW HR hB;obtain⟨t,h16,ht,rfl,hW,hR,hB⟩:=hrel;have HW:=hid hW;have HR:=hid hR;by_cases hlt:t<64
    ·have hN:=nextW_hi l (wl l t) t (by omega)
     have c0:=(hW.cell t).trans (schedCells_zero l t hlt);have c16:=(hW.cell (t-16)).trans (schedCells_get l t (t-16) (by omega))
     have c15:=(hW.cell (t-15)).trans (schedCells_get l t (t-15) (by omega))
     have c7:=(hW.cell (t-7)).trans (schedCells_get l t (t-7) (by omega))
     have c2:=(hW.cell (t-2)).trans (schedCells_get l t (t-2) (by omega))
     have fz:=hW.frozen t;clear hW hR;generalize (wl l t).getD (t-16) 0=x16 at *
     generalize (wl l t).getD (t-15) 0=x15 at *
     generalize (wl l t).getD (t-7) 0=x7 at *
     generalize (wl l t).getD (t-2) 0=x2 at *
     have HN:=hid hN;clear hN;go_upto_region 9 with (fail)
     go_cut [6] (fun s6 wx=>s6=.int .u32 (xor32 (xor32 (rot x15 25) (rot x15 14)) (x15 / 8))∧Drew wr wx)
     case first =>
      go_quiet ((go_at_call 167;exact Calls.quiet_of (rotr_any _ _ _ (by decide) (by decide))))
      go_wp2_with fail
      go_meet
      case rel=>exact⟨rfl,Drew.mk _ _⟩
     case rest =>
      obtain⟨rfl,hd1⟩:=hcut;obtain⟨w8,rfl⟩:∃x:World,x=wc:=⟨_,rfl⟩
      rw[←hd1.cell] at c0 c16 c15 c7 c2;rw[←hd1.frozen] at fz;generalize hs0:xor32 (xor32 (rot x15 25) (rot x15 14)) (x15 / 8)=s0 at *
      have HS0:=hid hs0;clear hs0;go_upto_region 10 with (fail)
      go_cut [7] (fun s7 wx=>s7=.int .u32 (xor32 (xor32 (rot x2 15) (rot x2 13)) (x2 / 1024))∧Drew w8 wx)
      case first =>
       go_quiet ((go_at_call 167;exact Calls.quiet_of (rotr_any _ _ _ (by decide) (by decide))))
       go_wp2_with fail
       go_meet
       case rel=>exact⟨rfl,Drew.mk _ _⟩
      case rest =>
       obtain⟨rfl,hd2⟩:=hcut;rw[←hd2.cell] at c0 c16 c15 c7 c2;rw[←hd2.frozen] at fz;generalize hs1:xor32 (xor32 (rot x2 15) (rot x2 13)) (x2 / 1024)=s1 at *
       have HS1:=hid hs1;clear hs1;go_upto_region 11 with (fail)
       go_region
       go_wp2_with fail
       go_roundw
       case rel =>
        refine⟨t+1,by omega,by omega,by go_num,?_,?_,?_⟩
        ·rw[←schedCells_succ l t hlt _ HN.out]
         exact ((hd2.blk (hd1.blk HW.out)).set t _).drew
        ·exact ((hd2.blk (hd1.blk HR.out)).far (by simp) _).drew
        ·exact (((hB.trans (hd1.below _)).trans (hd2.below _)).setCell (by simp) _).drew
       case measure=>simp [intOf];omega
    ·obtain rfl:t=64:=by omega
     have hs:(schedCells l 64).toArray.size=64:=by simp [schedCells,u32s,wl_length]
     have hz:(schedCells l 0).toArray.size=64:=by simp [schedCells,u32s,wl_length]
     have hone:(schedCells l 64).toArray.all (·.oneCell')=true:=by simp [schedCells,u32s,Value.oneCell']
     have hfin:schedCells l 64=u32s (wl l 64):=by simp [schedCells]
     have HF:=hid hfin;have HS:=hid hs;have HZ:=hid hz;have HO:=hid hone;clear hfin hs hz hone;generalize schedCells l 64=X at *
     generalize schedCells l 0=Y at *
     go_wp2_with (first
      | refine wpList_load_row rfl 227 (.tmp 3) rfl (w.heap.size+1) rfl 227 _ (0,0) _ hW Tryz.underlying227 rfl (info_64u32.trans (congrArg some HS.out.symm)) ?_
      | refine wpList_store_row rfl 227 (.tmp 2) (.tmp 100) rfl w.heap.size _ rfl rfl 227 _ hR (info_64u32.trans (congrArg some HS.out.symm)) (HZ.out.trans HS.out.symm) HO.out ?_)
     exact bodyPost_ret (results_cell_row Tryz.results166 _ _ w.heap.size 227 _ (0,0) _ rfl (hR.setRow X) Tryz.underlying227 rfl (info_64u32.trans (congrArg some HS.out.symm))) rfl ⟨by rw[HF.out],below_row hB (Nat.le_refl _) _⟩
end
section
def RTab (w:World):Prop:=Tab w 1 (u32s kc)
theorem not_eq (e:Int):bits .xor .u32 e 4294967295=not32 e:=by
 show IntKind.u32.wrap ((BitVec.ofInt 32 e ^^^ BitVec.ofInt 32 4294967295).toNat:Int)=IntKind.u32.wrap ((BitVec.ofInt 32 IntKind.u32.max ^^^ BitVec.ofInt 32 e).toNat:Int)
 rw[BitVec.xor_comm];rfl
theorem pad_mult (n:Nat):(n+(padOf n).length) % 64=0:=by
 simp [padOf,be64];omega
theorem pad_pos (n:Nat):0<n+(padOf n).length:=by simp [padOf];omega
theorem cell_set_far {w:World}{p q:Addr}(u:Value)(h:q.block≠p.block):(w.setCell p u).cell? q=w.cell? q :=
 World.cell?_of_block (heap_setCell_other w p q.block u h)
theorem rsum_any (l:List Int)(A:Option Addr)(n c:Nat)(w:World)(hl:Rd w w.heap.size A n (u8s l))(hb:Byt l)(hn:n≤1000000000000)(hK:RTab w) :
  Calls Tryz.prog 135 #[.slice A n c] w fun e w'=>e=.returned (.agg (u8s (sha l)).toArray)∧Below w.heap.size w w':=by
 have HLEN:Hid (l.length=n):=hid (by simpa [u8s] using hl.1)
 have HL:=hid hl;clear hl;go_enter Tryz.func135,Tryz.ntmps135
 go_wp2_with fail
 with_reducible refine (padded_any l A n c _ (((HL.out.alloc (Nat.le_refl _) _).alloc (by simp) _).more (by simp;omega)) hn).mono ?_
 rintro e w1 ⟨⟨A1,c1,rfl,hown⟩,hB1⟩
 obtain⟨g1,cc,hv,hg1,hg1'⟩:=hown.form (pad_pos n);injection hv with hA1 _ hcc
 subst hA1;have hz:w.heap.size+2≤w1.heap.size:=by have:=hB1.size;simpa using this
 have hb0:Blk w1 w.heap.size 189 (u8s (List.replicate 32 0)):=((Blk.fresh' _ _ _ _ _ rfl rfl).alloc _).below hB1 (by simp;omega)
 have hb1:Blk w1 (w.heap.size+1) 192 (u32s initSt.list):=(Blk.fresh' _ _ _ _ _ rfl (by simp)).below hB1 (by simp)
 have hB:Below w.heap.size w w1:=(((Below.refl _ _).alloc (Nat.le_refl _) _).alloc (by simp) _).trans (hB1.mono (by simp;omega))
 have hm:∀j,j<n+(padOf n).length→w1.cell? ⟨g1,j,none⟩=some (.int .u8 ((l++padOf n).getD j 0)):=fun j hj=>by
  rw[hown.cellAt j (by omega),u8s_get _ _ (by have:=hown.1;rw[u8s_length] at this;omega)]
 have hmb:Byt (l++padOf n):=hb.app (padOf_byt n);have hmult:=pad_mult n;have hml:(l++padOf n).length=n+(padOf n).length:=by rw[List.length_append,HLEN.out]
 have hNb:n+(padOf n).length≤1000000000072:=by have:=padOf_len n;omega
 have HFIN:Hid (outI (blocksI ((n+(padOf n).length) / 64) (l++padOf n) initSt)=sha l):=hid (by unfold sha hst;rw[HLEN.out,hml])
 have hcap:n+(padOf n).length≤c1:=by
  rcases hown.2 with ⟨h,_⟩|⟨_,_,_,h,_,_,h2,_⟩
  ·injection h with h1;cases h1
  ·injection h with _ _ h3;omega
 clear hown hB1 HLEN HL hcc hb;generalize n+(padOf n).length=N at *
 generalize l++padOf n=M at *
 have HM:=hid hm;have HML:=hid hml;have HK:=hid hK;clear hm hml hK;obtain⟨K,hKN⟩:∃K,N=64*K:=⟨N / 64,by omega⟩
 have HKN:=hid hKN;clear hmult hKN;go_wp2_with fail
 have HB1x:Hid (Below w1.heap.size w1 w1):=hid (Below.refl _ _)
 go_loopw [5] (fun i wr=>∃k:Nat,k≤K∧i=.int .i64 ((64*k:Nat):Int)∧Blk wr (w.heap.size+1) 192 (u32s (blocksI k M initSt).list)∧Blk wr w.heap.size 189 (u8s (List.replicate 32 0))∧Below w.heap.size w wr∧(∀j,j<N→wr.cell? ⟨g1,j,none⟩=some (.int .u8 (M.getD j 0)))∧g1<wr.heap.size)
  (fun i _=>N-(intOf i).toNat)
 case atStart=>exact⟨0,Nat.zero_le _,rfl,hb1,hb0,hB,HM.out,hg1'⟩
 case round =>
  clear hb1 hb0 hB HM;obtain⟨k,hk,rfl,hb1,hb0,hB,hm,hg1'⟩:=hrel;have HB1:=hid hb1;have HB0:=hid hb0;have HM:=hid hm;clear hb1 hb0 hm HB1x;have hKN2:=HKN.out;obtain⟨at_,hat⟩:∃a,a=64*k:=⟨_,rfl⟩
  rw[←hat];by_cases hlt:k<K
  ·have hat2:at_+64≤N:=by omega
   have HAT:=hid hat;clear hat hKN2;have hlt2:(at_:Int)<(N:Int):=by omega
   go_upto_region 6 with (fail)
   obtain⟨wd,rfl⟩:∃x:World,x=wr:=⟨_,rfl⟩
   obtain⟨bl,hbl⟩:∃b,b=(M.drop at_).take 64:=⟨_,rfl⟩
   have hbll:bl.length=64:=by rw[hbl,List.length_take,List.length_drop,HML.out];omega
   have hblb:Byt bl:=by rw[hbl];exact (hmb.drop _).take _
   have hrd:Rd wd wd.heap.size (some ⟨g1,at_,none⟩) 64 (u8s bl):=by
    refine⟨by rw[u8s_length,hbll],fun _=>⟨g1,at_,rfl,hg1',fun j u hu=>?_⟩⟩
    have hj:j<64:=by
     have:=(List.getElem?_eq_some_iff.1 hu).1
     rw[u8s_length,hbll] at this;exact this
    rw[HM.out (at_+j) (by omega)]
    rw[u8s_get _ _ (by rw[hbll];exact hj)] at hu
    rw[←hu,hbl]
    congr 2
    rw[List.getD_eq_getElem?_getD,List.getD_eq_getElem?_getD,List.getElem?_take_of_lt hj,List.getElem?_drop]
   have HBL:=hid hbl;have HBLL:=hid hbll;have HRD:=hid hrd;clear hbl hbll hrd;go_cut [6] (fun s6 wx=>∃p6,s6=.pointer (some ⟨p6,0,none⟩)∧wd.heap.size≤p6∧Blk wx p6 227 (u32s (wl bl 64))∧Below wd.heap.size wd wx)
   case first =>
    go_wp2_with fail
    have e64:at_+64-at_=64:=by omega
    rw[e64]
    with_reducible refine (words_any bl (some ⟨g1,at_,none⟩) _ wd HRD.out hblb).mono ?_
    rintro e w2 ⟨rfl,hB2⟩
    have hs:(u32s (wl bl 64)).toArray.size=64:=by simp [u32s,wl_length]
    have hone:(u32s (wl bl 64)).toArray.all (·.oneCell')=true:=by simp [u32s,Value.oneCell']
    have hz2:=hB2.size;have HS:=hid hs;have HO:=hid hone;clear hs hone e64;generalize u32s (wl bl 64)=WL at *
    go_wp2_with (refine wpList_store_row rfl 227 (.tmp 6) (.tmp 34) rfl w2.heap.size _ rfl rfl 227 _ (heap_alloc_new _ _) (info_64u32.trans (congrArg some HS.out.symm)) HS.out.symm HO.out ?_)
    go_meet
    case rel=>exact⟨_,rfl,hz2,Blk.setRow (Blk.fresh' _ _ (u32s (List.replicate 64 0)) _ _ rfl rfl) _,below_row (hB2.alloc hz2 _) hz2 _⟩
   case rest =>
    obtain⟨p6,rfl,hp6,hw6,hB6⟩:=hcut;have hst0:Blk wc (w.heap.size+1) 192 (u32s (blocksI k M initSt).list):=HB1.out.below hB6 HB1.out.lt;have hK6:RTab wc:=Tab.below (Tab.below HK.out hB (Tab.lt HK.out)) hB6 (Tab.lt (Tab.below HK.out hB (Tab.lt HK.out)));have HCMP:Hid (blocksI (k+1) M initSt=compI (blocksI k M initSt) bl):=hid (by rw[blocksI_succ,HBL.out,HAT.out])
    generalize blocksI k M initSt=st at *
    obtain⟨sa,sb,sc,sd,se,sf,sg,sh⟩:=st;have s0:=hst0.cell 0;have s1:=hst0.cell 1;have s2:=hst0.cell 2;have s3:=hst0.cell 3;have s4:=hst0.cell 4;have s5:=hst0.cell 5;have s6:=hst0.cell 6;have s7:=hst0.cell 7;simp only[u32s,St.list,List.map_cons,List.map_nil,List.getElem?_cons_zero,List.getElem?_cons_succ] at s0 s1 s2 s3 s4 s5 s6 s7
    have HST:=hid hst0;have HK6:=hid hK6;have HW6:=hid hw6;have HB6:=hid hB6;clear hst0 hK6 hw6 hB6 HRD;obtain⟨we,rfl⟩:∃x:World,x=wc:=⟨_,rfl⟩
    go_wp2_with fail
    go_quiet (fail)
    go_wp2_with fail
    go_loopw [15,7,8,9,10,11,12,13,14] (fun i v7 v8 v9 v10 v11 v12 v13 v14 wr=>∃(t:Nat) (r:St),t≤64∧r=rounds_ bl ⟨sa,sb,sc,sd,se,sf,sg,sh⟩ t∧i=.int .i64 t∧v7=.int .u32 r.a∧v8=.int .u32 r.b∧v9=.int .u32 r.c∧v10=.int .u32 r.d∧v11=.int .u32 r.e∧v12=.int .u32 r.f∧v13=.int .u32 r.g∧v14=.int .u32 r.h∧Drew we wr)
     (fun i _ _ _ _ _ _ _ _ _=>64-(intOf i).toNat)
    case atStart=>exact⟨0,_,by omega,rfl,rfl,rfl,rfl,rfl,rfl,rfl,rfl,rfl,rfl,Drew.mk _ _⟩
    case round =>
     obtain⟨t,r,ht,hr,rfl,rfl,rfl,rfl,rfl,rfl,rfl,rfl,rfl,hd⟩:=hrel;have HR:=hid hr;clear hr s0 s1 s2 s3 s4 s5 s6 s7;by_cases hlt3:t<64
     ·have kt:wr.cell? ⟨1,t,none⟩=some (.int .u32 (kc.getD t 0)):=(hd.cell _).trans ((Tab.cell HK6.out t).trans (u32s_get kc t hlt3))
      have wt:wr.cell? ⟨p6,t,none⟩=some (.int .u32 ((wl bl 64).getD t 0)):=(hd.cell _).trans ((HW6.out.cell t).trans (u32s_get _ t (by rw[wl_length];exact hlt3)))
      have HN:Hid (rounds_ bl ⟨sa,sb,sc,sd,se,sf,sg,sh⟩ (t+1)=stepI r (kc.getD t 0) ((wl bl 64).getD t 0)):=hid (by rw[HR.out];rfl)
      generalize kc.getD t 0=kx at *
      generalize (wl bl 64).getD t 0=wx at *
      obtain⟨a,b,c',d,e,f,g',h'⟩:=r;simp only
      obtain⟨wq,rfl⟩:∃x:World,x=wr:=⟨_,rfl⟩
      go_upto_region 11 with (fail)
      go_cut [16] (fun s16 wz=>s16=.int .u32 (xOf e f g' h' kx wx)∧Drew wq wz)
      case first =>
       have hne:=not_eq e;go_quiet ((go_at_call 167;exact Calls.quiet_of (rotr_any _ _ _ (by decide) (by decide))))
       go_wp2_with fail
       go_meet
       case rel =>
        refine⟨?_,Drew.mk _ _⟩
        rw[Int.emod_add_emod];rfl
      case rest =>
       obtain⟨rfl,hd2⟩:=hcut;generalize hx:xOf e f g' h' kx wx=x at *
       have HX:=hid hx;clear hx;obtain⟨wz,rfl⟩:∃x:World,x=wc:=⟨_,rfl⟩
       go_wp2_with fail
       with_reducible refine (rotr_any a 2 _ (by decide) (by decide)).mono ?_
       rintro e1 w1 ⟨rfl,n1,rfl⟩
       go_wp2_with fail
       with_reducible refine (rotr_any a 13 _ (by decide) (by decide)).mono ?_
       rintro e1 w1 ⟨rfl,n2,rfl⟩
       go_wp2_with fail
       with_reducible refine (rotr_any a 22 _ (by decide) (by decide)).mono ?_
       rintro e1 w1 ⟨rfl,n3,rfl⟩
       go_wp2_with fail
       go_roundw
       case rel =>
        exact⟨t+1,_,by omega,HN.out.symm,by go_num,by simp only[stepI];rw[HX.out];rfl,rfl,rfl,rfl,by simp only[stepI];rw[HX.out],rfl,rfl,rfl,(hd.trans hd2).trans (Drew.mk _ _)⟩
       case measure=>simp [intOf];omega
     ·obtain rfl:t=64:=by omega
      have HADD:Hid (compI ⟨sa,sb,sc,sd,se,sf,sg,sh⟩ bl=addSt ⟨sa,sb,sc,sd,se,sf,sg,sh⟩ r):=hid (by unfold compI;rw[HR.out])
      obtain⟨a,b,c',d,e,f,g',h'⟩:=r;simp only
      have hst:=hd.blk HST.out;have s0:=hst.cell 0;have s1:=hst.cell 1;have s2:=hst.cell 2;have s3:=hst.cell 3;have s4:=hst.cell 4;have s5:=hst.cell 5;have s6:=hst.cell 6;have s7:=hst.cell 7;have f0:=hst.frozen 0;have f1:=hst.frozen 1;have f2:=hst.frozen 2;have f3:=hst.frozen 3;have f4:=hst.frozen 4;have f5:=hst.frozen 5;have f6:=hst.frozen 6;have f7:=hst.frozen 7;simp only[u32s,St.list,List.map_cons,List.map_nil,List.getElem?_cons_zero,List.getElem?_cons_succ] at s0 s1 s2 s3 s4 s5 s6 s7
      have HST2:=hid hst;clear hst;have hlen:at_+64≤1000000000072:=by omega
      go_wp2_with fail
      go_roundw
      case rel =>
       have hBw:Below wd.heap.size wd wr:=HB6.out.trans (hd.below _);have h0:=HB0.out.below hBw HB0.out.lt;refine⟨k+1,by omega,by have:=HAT.out;go_num,?_,?_,?_,?_,?_⟩
       ·rw[HCMP.out,HADD.out]
        exact (((((((HST2.out.set 0 _).set 1 _).set 2 _).set 3 _).set 4 _).set 5 _).set 6 _).set 7 _
       ·refine (((((((h0.far ?_ _).far ?_ _).far ?_ _).far ?_ _).far ?_ _).far ?_ _).far ?_ _).far ?_ _<;>simp
       ·refine ((((((((hB.trans (hBw.mono hB.size)).setCell ?_ _).setCell ?_ _).setCell ?_ _).setCell ?_ _).setCell ?_ _).setCell ?_ _).setCell ?_ _).setCell ?_ _<;>simp
       ·intro j hj
        have hne:g1≠w.heap.size+1:=by simp at hg1;omega
        rw[cell_set_far _ hne,cell_set_far _ hne,cell_set_far _ hne,cell_set_far _ hne,cell_set_far _ hne,cell_set_far _ hne,cell_set_far _ hne,cell_set_far _ hne];exact (hBw.cell (p:=⟨g1,j,none⟩) hg1').trans (HM.out j hj)
       ·have:=hBw.size
        simp [World.setCell];omega
      case measure=>simp [intOf];omega
  ·obtain rfl:k=K:=by omega
   have hat3:at_=N:=by omega
   have HFN:Hid (outI (blocksI k M initSt)=sha l):=hid (by rw[←HFIN.out,show N / 64=k from by omega])
   have hge:(N:Int)≤(at_:Int):=by omega
   clear hat hKN2 hat3 HFIN HML HKN;generalize blocksI k M initSt=st at *
   obtain⟨wq,rfl⟩:∃x:World,x=wr:=⟨_,rfl⟩
   have hb5:=HB1.out;have hb1':=HB0.out;have hq5:w.heap.size+1<wq.heap.size:=hb5.lt;go_wp2_with fail
   go_loopw [19] (fun i wr=>∃t:Nat,t≤32∧i=.int .i64 t∧Blk wr wq.heap.size 189 (u8s ((outI st).take t++List.replicate (32-t) 0))∧Blk wr (w.heap.size+1) 192 (u32s st.list)∧Blk wr w.heap.size 189 (u8s (List.replicate 32 0))∧Below w.heap.size w wr)
    (fun i _=>32-(intOf i).toNat)
   case atStart=>exact⟨0,by omega,rfl,Blk.fresh' _ _ _ _ _ rfl rfl,hb5.alloc _,hb1'.alloc _,hB.alloc (by omega) _⟩
   case round =>
    clear hb5 hb1' hB;obtain⟨t,ht,rfl,hbo,hb5,hb1,hB⟩:=hrel;by_cases hlt4:t<32
    ·have c0:=(hb5.cell (t / 4)).trans (u32s_get _ (t / 4) (by simp [St.list];omega))
     have fz:=hbo.frozen t;have co:=hbo.cell t;have hol:(outI st).length=32:=by simp [outI]
     rw[show (u8s ((outI st).take t++List.replicate (32-t) 0))[t]?=some (.int .u8 0) from by
      rw[u8s_get _ _ (by simp [hol];omega),List.getD_eq_getElem?_getD,List.getElem?_append_right (by simp [hol];omega)]
      simp [hol,List.getElem?_replicate]
      split<;>rfl] at co
     have HO:=hid (out_succ st t hlt4);have HBO:=hid hbo;have HB5:=hid hb5;have HBB1:=hid hb1;clear hbo hb5 hb1 hol;generalize st.list.getD (t / 4) 0=x at *
     obtain⟨q,hq⟩:∃q,q=t % 4:=⟨_,rfl⟩
     rw[←hq] at HO;have hm4:((t:Int) % 4)=(q:Int):=by omega
     have hm4b:q<4:=by omega
     have HQ:=hid hq;clear hq;go_wp2_with fail
     go_roundw
     case rel =>
      refine⟨t+1,by omega,by go_num,?_,HB5.out.far (by simp;omega) _,HBB1.out.far (by simp;omega) _,hB.setCell (by simp;omega) _⟩
      rw[←HO.out _ rfl];exact HBO.out.set t _
     case measure=>simp [intOf];omega
    ·obtain rfl:t=32:=by omega
     have hol:(outI st).length=32:=by simp [outI]
     have he:(outI st).take 32++List.replicate (32-32) 0=sha l:=by
      rw[List.take_of_length_le (by omega),HFN.out];simp
     rw[he] at hbo;have hs32:(u8s (sha l)).toArray.size=32:=by simp [u8s,sha_length]
     have ho32:(u8s (sha l)).toArray.all (·.oneCell')=true:=by simp [u8s,Value.oneCell']
     have HS32:=hid hs32;have HO32:=hid ho32;clear hs32 ho32 he hol HFN;generalize hout:u8s (sha l)=out at *
     have HOUT:=hid hout;clear hout
     go_wp2_with (first
      | refine wpList_load_row rfl 189 (.tmp 18) rfl wq.heap.size rfl 189 _ (0,0) _ hbo Tryz.underlying189 rfl (info_32u8.trans (congrArg some HS32.out.symm)) ?_
      | refine wpList_store_row rfl 189 (.tmp 2) (.tmp 163) rfl w.heap.size _ rfl rfl 189 _ hb1 (info_32u8.trans (congrArg some HS32.out.symm)) (zero32_len.trans HS32.out.symm) HO32.out ?_)
     exact bodyPost_ret (results_cell_row Tryz.results135 _ _ w.heap.size 189 _ (0,0) _ rfl (hb1.setRow out) Tryz.underlying189 rfl (info_32u8.trans (congrArg some HS32.out.symm))) rfl ⟨by rw[HOUT.out],below_row hB (Nat.le_refl _) _⟩
end
section
theorem take_u8s (l:List Int)(t:Nat)(h:t<l.length):u8s (l.take t)++[.int .u8 (l.getD t 0)]=u8s (l.take (t+1)):=by
 have:l[t]?=some (l.getD t 0):=by simp [List.getD_eq_getElem?_getD,List.getElem?_eq_getElem h]
 rw[List.take_add_one,this];simp only[u8s,List.map_append,Option.toList_some,List.map_cons,List.map_nil]
theorem rtext_any (l:List Int)(w:World)(hl:l.length=16) :
  Calls Tryz.prog 51 #[.agg (u8s l).toArray] w fun e w'=>e=.returned (.string (strOf l))∧Below w.heap.size w w':=by
 obtain⟨i0,hi,hz0,hz1,hz2⟩:=info_parts info_u8;have HL:=hid hl;have H1:Hid ((u8s l).toArray.size=16):=hid (by simp [u8s,hl])
 clear hl;go_enter Tryz.func51,Tryz.ntmps51
 go_wp2_with fail
 go_loopw [4,3] (fun i s3 wr=>∃(t:Nat) (A:Option Addr) (c:Nat),t≤16∧i=.int .i64 t∧s3=.slice A t c∧wr.ownsRow (w.heap.size+1) 5 1 (.slice A t c) t (u8s (l.take t))∧Blk wr w.heap.size 26 (u8s l)∧Below w.heap.size w wr)
  (fun i _ _=>16-(intOf i).toNat)
 case atStart=>exact⟨0,none,0,by omega,rfl,rfl,by simpa [u8s] using World.ownsRow_nil _ _ _ _,Blk.fresh _ _ _,(Below.refl _ _).alloc (Nat.le_refl _) _⟩
 case round =>
  obtain⟨t,A,c,ht,rfl,rfl,hown,hb,hB⟩:=hrel;have hs:=hb.lt;by_cases hlt:t<16
  ·have c0:=(hb.cell t).trans (u8s_get l t (by rw[HL.out];exact hlt))
   have HT:=hid (take_u8s l t (by rw[HL.out];exact hlt))
   have HB:=hid hb;clear hb;generalize l.getD t 0=x at *
   go_wp2_with (at_builtin;refine wpList_app rfl (.tmp 9) (.tmp 13) 23 rfl (w.heap.size+1) 5 i0 (.int .u8 0) 1 1 Tryz.underlying23 hi hz0 hz1 hz2 rfl (by omega) A t c _ rfl (hown.alloc _) (wr.heap.size+1) _ 1 1 [.int .u8 x] rfl (RdN.fresh [.int .u8 x] _ _ 1 1 rfl rfl rfl) (one_u8 _) (by simp only[maxLen];omega) (by omega) (by simp;omega) ?_;intro A4 c4 w4 hown4 hg4;have hb4:=below_app (hB.alloc (by omega) _) hg4 (hown.alloc _) (Nat.le_succ _) (by simp;omega))
   go_roundw
   case rel=>exact⟨t+1,A4,c4,by omega,by go_num,rfl,by rw[←HT.out];exact hown4,(HB.out.alloc _).grown hg4 (fun h=>by have:=(hown.lt _ h.symm).1;omega),hb4⟩
   case measure=>simp [intOf];omega
  ·obtain rfl:t=16:=by omega
   have ht2:l.take 16=l:=List.take_of_length_le (by rw[HL.out];omega)
   rw[ht2] at hown;have hcv:=run_toStr (P:=Tryz.prog) Tryz.underlying23 Tryz.underlying5 Tryz.underlying9 (Rd.of_own hown) c (opt_cases A 16);clear ht2;go_wp2_with fail
   go_ret
   exact⟨rfl,hB⟩
def strs (l:List ByteArray):List Value:=l.map Value.string
theorem strs_get (l:List ByteArray)(j:Nat)(h:j<l.length):(strs l)[j]?=some (.string (l.getD j ByteArray.empty)):=by
 simp [strs,List.getElem?_map,List.getD_eq_getElem?_getD,List.getElem?_eq_getElem h]
end
section
def encs:List ByteArray→List Int
 | []=>[]
 | s::r=>encB s++encs r
theorem encs_append (a b:List ByteArray):encs (a++b)=encs a++encs b:=by
 induction a with
 | nil=>rfl
 | cons s r ih=>simp [encs,ih]
theorem encs_take (l:List ByteArray)(t:Nat)(h:t<l.length):encs (l.take (t+1))=encs (l.take t)++encB (l.getD t ByteArray.empty):=by
 have:l[t]?=some (l.getD t ByteArray.empty):=by simp [List.getD_eq_getElem?_getD,List.getElem?_eq_getElem h]
 rw[List.take_add_one,this,encs_append];simp [encs]
theorem encs_take_le (l:List ByteArray)(t:Nat):(encs (l.take t)).length≤(encs l).length:=by
 conv=>rhs;rw[←List.take_append_drop t l,encs_append,List.length_append]
 omega
theorem encs_byt (l:List ByteArray)(h:(encs l).length≤1000000000000):Byt (encs l):=by
 induction l with
 | nil=>exact Byt.nil
 | cons s r ih =>
  have h3:=encB_length s;simp only[encs,List.length_append] at h⊢
  exact (encB_byt s (by omega)).app (ih (by omega))
def inputB (tag:Int)(l:List ByteArray):List Int:=tag % 256::encs l
theorem inputB_byt (tag:Int)(l:List ByteArray)(h:(encs l).length≤1000000000000):Byt (inputB tag l):=by
 intro x hx;rcases List.mem_cons.1 hx with rfl|hx
 ·omega
 ·exact encs_byt l h x hx
theorem input_any (tag:Int)(l:List ByteArray)(A:Option Addr)(n c:Nat)(w:World)(hl:Rd w w.heap.size A n (strs l))(hn:n≤9223372036854775807)(hcat:(encs l).length≤100000000000) :
  Calls Tryz.prog 105 #[.int .i64 tag,.slice A n c] w fun e w'=>(∃A' c',e=.returned (.slice A' (inputB tag l).length c')∧w'.ownsRow w.heap.size 5 1 (.slice A' (inputB tag l).length c') (inputB tag l).length (u8s (inputB tag l)))∧Below w.heap.size w w':=by
 obtain⟨i0,hi,hz0,hz1,hz2⟩:=info_parts winfo_u8;have hlen:l.length=n:=by simpa [strs] using hl.1
 have HCAT:Hid (∀t,(encs (l.take t)).length≤100000000000):=hid (fun t=>Nat.le_trans (encs_take_le l t) hcat)
 have HL:=hid hl;have HN:=hid hlen;have HIN:Hid (∀m,inputB tag m=tag % 256::encs m):=hid fun _=>rfl
 clear hl hlen hcat;go_enter Tryz.func105,Tryz.ntmps105
 go_wp2_with fail
 go_loopw [6,5] (fun i s5 wr=>∃(t:Nat) (A:Option Addr) (c m:Nat),t≤n∧i=.int .i64 t∧s5=.slice A m c∧m=(inputB tag (l.take t)).length∧wr.ownsRow w.heap.size 5 1 (.slice A m c) m (u8s (inputB tag (l.take t)))∧Below w.heap.size w wr)
  (fun i _ _=>n-(intOf i).toNat)
 case atStart=>exact⟨0,_,_,1,Nat.zero_le _,rfl,rfl,rfl,own_lit w _ _ _ (u8s [tag % 256]) _ 1 rfl rfl (Nat.le_refl _) rfl (by decide),(Below.refl _ _).alloc (Nat.le_refl _) _⟩
 case round =>
  obtain⟨t,A2,c2,m,ht,rfl,rfl,hm,hown,hB⟩:=hrel;have hs:=hB.size;by_cases hlt:t<n
  ·obtain⟨b,o,rfl,hb,hc⟩:=HL.out.2 (by omega)
   have c0:=(hB.cell (p:=⟨b,o+t,none⟩) hb).trans (hc t _ (strs_get l t (by rw[HN.out];exact hlt)))
   have hT:=encs_take l t (by rw[HN.out];exact hlt)
   have hsz:=HCAT.out (t+1);rw[hT,List.length_append] at hsz
   have hss:(l.getD t ByteArray.empty).size≤1000000000000:=by
    have:=encB_length (l.getD t ByteArray.empty)
    omega
   have hm2:m+(encB (l.getD t ByteArray.empty)).length≤100000000001:=by
    rw[hm];simp only[inputB,List.length_cons];omega
   have HT:Hid (inputB tag (l.take (t+1))=inputB tag (l.take t)++encB (l.getD t ByteArray.empty)):=hid (by simp [inputB,hT])
   have HM:=hid hm;clear hc hT hsz hm;generalize l.getD t ByteArray.empty=s at *
   go_wp2_with (first
    | (go_at_call 76;refine (rbytes_any s _ hss).mono ?_;rintro e w1 ⟨⟨A3,c3,rfl,hown3⟩,hB3⟩;have hs3:=hB3.size;have HR3:=hid (RdN.of_Rd (Rd.of_own hown3));have hownk:=own_below hown hB3;clear hown hown3)
    | (at_builtin;refine wpList_app rfl (.tmp 16) (.tmp 21) 23 rfl w.heap.size 5 i0 (.int .u8 0) 1 1 Tryz.underlying23 hi hz0 hz1 hz2 rfl (by omega) A2 m c2 _ rfl hownk w1.heap.size _ _ c3 _ rfl HR3.out (u8s_one _) (by simp only[maxLen];omega) (by omega) (by omega) ?_;intro A4 c4 w4 hown4 hg4;have hb4:=below_app (hB.trans (hB3.mono hs)) hg4 hownk (Nat.le_refl _) (by omega)))
   all_goals go_roundw
   case rel=>exact⟨t+1,A4,c4,_,by omega,by go_num,rfl,by rw[HT.out,List.length_append,HM.out],by rw[HT.out,u8s_append];exact hown4,hb4⟩
   case measure=>simp [intOf];omega
  ·obtain rfl:t=n:=by omega
   have HTN:Hid (l.take t=l):=hid (List.take_of_length_le (by rw[HN.out];omega))
   have HM:=hid hm;clear hm;go_wp2_with fail
   go_ret
   rw[HM.out,HTN.out] at hown;exact⟨⟨A2,c2,by rw[HM.out,HTN.out];rfl,hown⟩,hB⟩
end
end Go.Proofs.YtjeecfjeooehhaaGreatDoor