/- What is read of a review (plain), and review.read at inputs that it refuses. Conditions: at most 10^12 bytes. -/
import Derived.Test.YtjeecfjeooehhaaGreatDoorM10
set_option linter.unusedSimpArgs false
set_option linter.unusedVariables false
set_option maxHeartbeats 16000000
set_option maxRecDepth 100000
namespace Go.Proofs.YtjeecfjeooehhaaGreatDoor
open Go.RowKit
open Lib (hid)
section
attribute [local go_sem ↓] wp_at_zero wp_at_succ
def ridAt (l:List Int)(k:Nat):Rid:=⟨l.getD (3*k) 0,l.getD (3*k+1) 0,l.getD (3*k+2) 0⟩
def ridsOf (l:List Int):List Rid:=(List.range (l.length / 3)).map (ridAt l)
def cut1 (l:List Int):=decList getI l
def rest1 (l:List Int):=l.drop (cut1 l).2.1.toNat
def cut2 (l:List Int):=getI (rest1 l)
def rest2 (l:List Int):=(rest1 l).drop (cut2 l).2.1.toNat
def cut3 (l:List Int):=decList getI (rest2 l)
def rest3 (l:List Int):=(rest2 l).drop (cut3 l).2.1.toNat
def cut4 (l:List Int):=decD (rest3 l)
def rest4 (l:List Int):=(rest3 l).drop (cut4 l).2.1.toNat
def cut5 (l:List Int):=decS (rest4 l)
def rev0:Rev:=⟨0,0,0,false,[],List.replicate 16 0,⟨#[]⟩⟩
def revAt (l:List Int):Rev:=⟨(cut1 l).1.getD 0 0,(cut1 l).1.getD 1 0,(cut1 l).1.getD 2 0,decide ((cut2 l).1=1),ridsOf (cut3 l).1,(cut4 l).1.getD 0 [],(cut5 l).1⟩
def bad1 (l:List Int):Prop:=(cut1 l).2.2≠0∨(cut1 l).1.length≠3
def bad2 (l:List Int):Prop:=(cut2 l).2.2≠0
def bad3 (l:List Int):Prop:=(cut3 l).2.2≠0∨(cut3 l).1.length % 3≠0
def bad4 (l:List Int):Prop:=(cut4 l).2.2≠0∨(cut4 l).1.length≠1
def bad5 (l:List Int):Prop:=(cut5 l).2.2≠0
instance (l:List Int):Decidable (bad1 l∨bad2 l∨bad3 l∨bad4 l∨bad5 l):=by unfold bad1 bad2 bad3 bad4 bad5;infer_instance
def readP (l:List Int):Option Rev:=if bad1 l∨bad2 l∨bad3 l∨bad4 l∨bad5 l then none else some (revAt l)
theorem elem_u8:Tryz.prog.underlying 23=some (.slice (Tryz.prog.elem 23)):=by kernel_rfl
theorem elem_sz:∀w,(sizeOf (Tryz.prog.elem 23)).run Tryz.prog w=.ok 1 w:=fun w=>by kernel_rfl
def Z0:List Value:=([.int .i64 0,.int .i64 0,.int .i64 0,.bool false,.slice none 0 0]:List Value)++u8s (List.replicate 16 0)++[Value.string ⟨#[]⟩]
theorem rev0_V (w:World):RevV w rev0 none 0 0:=⟨⟨rfl,fun h=>absurd h (Nat.lt_irrefl _)⟩,Nat.le_refl _,by decide,by decide,rfl,fun x hx=>by rw[List.eq_of_mem_replicate hx];decide⟩
theorem cut1_cases (l:List Int)(hb:Byt l):(cut1 l).2.2≠0∧(cut1 l).1=[]∧(cut1 l).2.1=0∨∃(xs:List Int) (u:Nat),cut1 l=(xs,(u:Int),0)∧u≤l.length∧encL encInt xs=l.take u∧∀x∈xs,-9223372036854775808≤x∧x≤9223372036854775807:=by
 unfold cut1;rcases decList_canon getI encInt (fun x=>-9223372036854775808≤x∧x≤9223372036854775807) l hb (fun r hr _=>oneI_canon r hr) with ⟨er,hg,her⟩|⟨xs,u,hg,hu,henc,hq⟩
 ·rw[hg];exact Or.inl ⟨her,rfl,rfl⟩
 ·exact Or.inr ⟨xs,u,hg,hu,henc,hq⟩
theorem getI_cases' (l:List Int)(hb:Byt l):(getI l).2.2≠0∧(getI l).1=0∧(getI l).2.1=0∨∃(x:Int) (u:Nat),getI l=(x,(u:Int),0)∧u≤l.length∧encInt x=l.take u∧-9223372036854775808≤x∧x≤9223372036854775807:=by
 rcases oneI_canon l hb with h|h
 ·rcases getI_cases l hb with ⟨er,hg,her⟩|h2
  ·rw[hg];exact Or.inl ⟨by rcases her with rfl|rfl<;>decide,rfl,rfl⟩
  ·exfalso
   obtain⟨x,u,hg,_⟩:=h2;rw[hg] at h;exact h rfl
 ·exact Or.inr h
theorem decD_cases' (l:List Int)(hb:Byt l):(decD l).2.2≠0∧(decD l).1=[]∧(decD l).2.1=0∨∃(ds:List (List Int)) (u:Nat),decD l=(ds,(u:Int),0)∧u≤l.length∧encL idD ds=l.take u∧Dig16 ds:=by
 rcases decD_canon l hb with ⟨er,hg,her⟩|⟨ds,u,hg,hu,henc⟩
 ·rw[hg];exact Or.inl ⟨her,rfl,rfl⟩
 ·refine Or.inr ⟨ds,u,hg,hu,henc,?_⟩
  unfold decD at hg;rcases cntI_cases l hb 16 (by decide) with ⟨er,hg2,her⟩|⟨n,k,hg2,_,_,hk,hn,_⟩
  ·rw[hg2,if_pos (by rcases her with rfl|rfl<;>decide)] at hg
   have:=congrArg (fun x=>x.2.2) hg
   dsimp only at this;rcases her with rfl|rfl<;>cases this
  ·rw[hg2] at hg
   simp only[ne_eq,not_true_eq_false,if_false,Int.toNat_natCast] at hg
   have h1:=congrArg (fun x=>x.1) hg
   dsimp only at h1;intro d hd;rw[←h1] at hd;unfold cutD at hd;obtain⟨i,hi,rfl⟩:=List.mem_map.1 hd;have hi':=List.mem_range.1 hi;refine⟨?_,((hb.drop _).drop _).take _⟩
   rw[List.length_take,List.length_drop,List.length_drop];omega
theorem decS_cases' (l:List Int)(hb:Byt l):(decS l).2.2≠0∧(decS l).1=ByteArray.empty∧(decS l).2.1=0∨∃(s:ByteArray) (u:Nat),decS l=(s,(u:Int),0)∧u≤l.length∧encB s=l.take u:=by
 rcases decS_cases l hb with ⟨er,hg,her⟩|⟨s,k,u,hg,_,_,_,_,_,_,hu,henc⟩
 ·rw[hg];exact Or.inl ⟨by rcases her with rfl|rfl<;>decide,rfl,rfl⟩
 ·exact Or.inr ⟨s,u,hg,hu,henc⟩
theorem encL_ge (xs l:List Int)(u:Nat)(h:encL encInt xs=l.take u):xs.length≤u:=by
 have h1:=congrArg List.length h;have h2:=flat_len encInt xs (fun x _=>by rw[encInt_length];omega)
 unfold encL at h1;rw[List.length_append,List.length_take] at h1;omega
theorem read_bad (l:List Int)(A:Option Addr)(n c:Nat)(w:World)(hl:Rd w w.heap.size A n (u8s l))(hby:Byt l)(hnc:n≤c)(hc:c≤9223372036854775807)(hn:n≤1000000000000)(hbad:bad1 l∨bad2 l∨bad3 l∨bad4 l∨bad5 l) :
  Calls Tryz.prog 32 #[.slice A n c] w fun e w'=>e=.returned (.tuple #[.agg Z0.toArray,.bool false])∧Ext w w':=by
 have hlen:l.length=n:=by have:=hl.1;simpa [u8s] using this
 obtain⟨u1,k1,e1,hu1,hk1,he1,hu1n,hk1n⟩:∃(u k:Nat) (e:Int),(u:Int)=(cut1 l).2.1∧k=(cut1 l).1.length∧e=(cut1 l).2.2∧u≤n∧k≤n:=by
  rcases cut1_cases l hby with ⟨_,h1,h2⟩|⟨xs,u,hg,hu,henc,_⟩
  ·exact⟨0,0,_,by rw[h2];rfl,by rw[h1];rfl,rfl,Nat.zero_le _,Nat.zero_le _⟩
  ·exact⟨u,xs.length,_,by rw[hg],by rw[hg],rfl,by omega,by have:=encL_ge xs l u henc;omega⟩
 obtain⟨A1,hA1⟩:∃a,a=restA A c u1:=⟨_,rfl⟩
 obtain⟨m1,hm1⟩:∃m,m=n-u1:=⟨_,rfl⟩
 obtain⟨c1,hc1⟩:∃m,m=c-u1:=⟨_,rfl⟩
 have hr1:rest1 l=l.drop u1:=by unfold rest1;rw[←hu1];rfl
 have hb1:Byt (rest1 l):=by rw[hr1];exact hby.drop _
 have hl1:Rd w w.heap.size A1 m1 (u8s (rest1 l)):=by rw[hr1];exact rd_restA hl hA1 hm1 hu1n hnc
 have hlen1:(rest1 l).length=m1:=by have:=hl1.1;simpa [u8s] using this
 obtain⟨x2,u2,e2,hx2,hu2,he2,hu2n⟩:∃(x:Int) (u:Nat) (e:Int),x=(cut2 l).1∧(u:Int)=(cut2 l).2.1∧e=(cut2 l).2.2∧u≤m1:=by
  rcases getI_cases' (rest1 l) hb1 with ⟨_,h1,h2⟩|⟨x,u,hg,hu,_⟩
  ·exact⟨_,0,_,rfl,by unfold cut2;rw[h2];rfl,rfl,Nat.zero_le _⟩
  ·exact⟨_,u,_,rfl,by unfold cut2;rw[hg],rfl,by omega⟩
 obtain⟨A2,hA2⟩:∃a,a=restA A1 c1 u2:=⟨_,rfl⟩
 obtain⟨m2,hm2⟩:∃m,m=m1-u2:=⟨_,rfl⟩
 obtain⟨c2,hc2⟩:∃m,m=c1-u2:=⟨_,rfl⟩
 have hr2:rest2 l=(rest1 l).drop u2:=by unfold rest2;rw[←hu2];rfl
 have hb2:Byt (rest2 l):=by rw[hr2];exact hb1.drop _
 have hl2:Rd w w.heap.size A2 m2 (u8s (rest2 l)):=by rw[hr2];exact rd_restA hl1 hA2 hm2 hu2n (by omega)
 have hlen2:(rest2 l).length=m2:=by have:=hl2.1;simpa [u8s] using this
 obtain⟨u3,k3,e3,hu3,hk3,he3,hu3n,hk3n⟩:∃(u k:Nat) (e:Int),(u:Int)=(cut3 l).2.1∧k=(cut3 l).1.length∧e=(cut3 l).2.2∧u≤m2∧k≤m2:=by
  rcases cut1_cases (rest2 l) hb2 with ⟨_,h1,h2⟩|⟨xs,u,hg,hu,henc,_⟩
  ·exact⟨0,0,_,by unfold cut3;unfold cut1 at h2;rw[h2];rfl,by unfold cut3;unfold cut1 at h1;rw[h1];rfl,rfl,Nat.zero_le _,Nat.zero_le _⟩
  ·exact⟨u,xs.length,_,by unfold cut3;unfold cut1 at hg;rw[hg],by unfold cut3;unfold cut1 at hg;rw[hg],rfl,by omega,by have:=encL_ge xs _ u henc;omega⟩
 obtain⟨A3,hA3⟩:∃a,a=restA A2 c2 u3:=⟨_,rfl⟩
 obtain⟨m3,hm3⟩:∃m,m=m2-u3:=⟨_,rfl⟩
 obtain⟨c3,hc3⟩:∃m,m=c2-u3:=⟨_,rfl⟩
 have hr3:rest3 l=(rest2 l).drop u3:=by unfold rest3;rw[←hu3];rfl
 have hb3:Byt (rest3 l):=by rw[hr3];exact hb2.drop _
 have hl3:Rd w w.heap.size A3 m3 (u8s (rest3 l)):=by rw[hr3];exact rd_restA hl2 hA3 hm3 hu3n (by omega)
 have hlen3:(rest3 l).length=m3:=by have:=hl3.1;simpa [u8s] using this
 obtain⟨u4,k4,e4,hu4,hk4,he4,hu4n⟩:∃(u k:Nat) (e:Int),(u:Int)=(cut4 l).2.1∧k=(cut4 l).1.length∧e=(cut4 l).2.2∧u≤m3:=by
  rcases decD_cases' (rest3 l) hb3 with ⟨_,h1,h2⟩|⟨ds,u,hg,hu,_⟩
  ·exact⟨0,0,_,by unfold cut4;rw[h2];rfl,by unfold cut4;rw[h1];rfl,rfl,Nat.zero_le _⟩
  ·exact⟨u,ds.length,_,by unfold cut4;rw[hg],by unfold cut4;rw[hg],rfl,by omega⟩
 obtain⟨A4,hA4⟩:∃a,a=restA A3 c3 u4:=⟨_,rfl⟩
 obtain⟨m4,hm4⟩:∃m,m=m3-u4:=⟨_,rfl⟩
 obtain⟨c4,hc4⟩:∃m,m=c3-u4:=⟨_,rfl⟩
 have hr4:rest4 l=(rest3 l).drop u4:=by unfold rest4;rw[←hu4];rfl
 have hb4:Byt (rest4 l):=by rw[hr4];exact hb3.drop _
 have hl4:Rd w w.heap.size A4 m4 (u8s (rest4 l)):=by rw[hr4];exact rd_restA hl3 hA4 hm4 hu4n (by omega)
 have hlen4:(rest4 l).length=m4:=by have:=hl4.1;simpa [u8s] using this
 obtain⟨s5,u5,e5,hs5,hu5,he5⟩:∃(s:ByteArray) (u:Int) (e:Int),s=(cut5 l).1∧u=(cut5 l).2.1∧e=(cut5 l).2.2:=⟨_,_,_,rfl,rfl,rfl⟩
 have HS1:Hid (u1≤n∧A1=restA A c u1∧m1=n-u1∧c1=c-u1):=hid ⟨hu1n,hA1,hm1,hc1⟩;have HS2:Hid (u2≤m1∧A2=restA A1 c1 u2∧m2=m1-u2∧c2=c1-u2):=hid ⟨hu2n,hA2,hm2,hc2⟩;have HS3:Hid (u3≤m2∧A3=restA A2 c2 u3∧m3=m2-u3∧c3=c2-u3):=hid ⟨hu3n,hA3,hm3,hc3⟩;have HS4:Hid (u4≤m3∧A4=restA A3 c3 u4∧m4=m3-u4∧c4=c3-u4):=hid ⟨hu4n,hA4,hm4,hc4⟩
 have HG1:Hid (∀W,Ext w W→Calls Tryz.prog 69 #[.slice A n c] W fun e w'=>(∃A' c',e=.returned (.tuple #[.slice A' k1 c',.int .i64 (u1:Int),.int .i64 e1])∧w'.ownsRow W.heap.size 3 1 (.slice A' k1 c') k1 ((cut1 l).1.map (Value.int .i64)))∧Ext W w'):=hid (fun W hW=>by
  have h:=gints_any l A n c W (hl.ext' hW) hby hnc hc hn;unfold cut1 at hu1 hk1 he1⊢;rw[←hu1,←hk1,←he1] at h;exact h)
 have HG2:Hid (∀W,Ext w W→Calls Tryz.prog 54 #[.slice A1 m1 c1] W fun e w'=>e=.returned (.tuple #[.int .i64 x2,.int .i64 (u2:Int),.int .i64 e2])∧W=w'):=hid (fun W hW=>by
  have h:=gint_any (rest1 l) A1 m1 c1 W (hl1.ext' hW) hb1 (by omega) (by omega)
  unfold tup3 at h;unfold cut2 at hx2 hu2 he2;rw[←hx2,←hu2,←he2] at h;exact h)
 have HG3:Hid (∀W,Ext w W→Calls Tryz.prog 69 #[.slice A2 m2 c2] W fun e w'=>(∃A' c',e=.returned (.tuple #[.slice A' k3 c',.int .i64 (u3:Int),.int .i64 e3])∧w'.ownsRow W.heap.size 3 1 (.slice A' k3 c') k3 ((cut3 l).1.map (Value.int .i64)))∧Ext W w'):=hid (fun W hW=>by
  have h:=gints_any (rest2 l) A2 m2 c2 W (hl2.ext' hW) hb2 (by omega) (by omega) (by omega)
  unfold cut3 at hu3 hk3 he3⊢;rw[←hu3,←hk3,←he3] at h;exact h)
 have HG4:Hid (∀W,Ext w W→Calls Tryz.prog 70 #[.slice A3 m3 c3] W fun e w'=>(∃A' c',e=.returned (.tuple #[.slice A' k4 c',.int .i64 (u4:Int),.int .i64 e4])∧w'.ownsRow W.heap.size 26 16 (.slice A' k4 c') k4 (celD (cut4 l).1))∧Ext W w'):=hid (fun W hW=>by
  have h:=gdigests_any (rest3 l) A3 m3 c3 W (hl3.ext' hW) hb3 (by omega) (by omega) (by omega)
  unfold cut4 at hu4 hk4 he4⊢;rw[←hu4,←hk4,←he4] at h;exact h)
 have HG5:Hid (∀W,Ext w W→Calls Tryz.prog 71 #[.slice A4 m4 c4] W fun e w'=>e=.returned (.tuple #[.string s5,.int .i64 u5,.int .i64 e5])∧W=w'):=hid (fun W hW=>by
  have h:=gbytes_any (rest4 l) A4 m4 c4 W (hl4.ext' hW) hb4 (by omega) (by omega) (by omega)
  unfold tupS at h;unfold cut5 at hs5 hu5 he5;rw[←hs5,←hu5,←he5] at h;exact h)
 have zz:∀W,(zeroValue 28).run Tryz.prog W=.ok (.agg Z0.toArray) W:=fun W=>by kernel_rfl
 unfold bad1 bad2 bad3 bad4 bad5 at hbad;rw[←he1,←hk1,←he2,←he3,←hk3,←he4,←hk4,←he5] at hbad;clear hl hl1 hl2 hl3 hl4 hA1 hA2 hA3 hA4 hm1 hm2 hm3 hm4 hc1 hc2 hc3 hc4 hr1 hr2 hr3 hr4 hb1 hb2 hb3 hb4 hlen hlen1 hlen2 hlen3 hlen4 hu1n hu2n hu3n hu4n hk1n hk3n hu1 hu2 hu3 hu4 hu5 hs5 hx2 hn hnc hc;clear hk1 hk3 he1 he2 he3 he4 he5 hk4;by_cases he1:e1=0
 ·subst he1
  by_cases hk1:k1=3
  ·subst hk1
   by_cases he2:e2=0
   ·subst he2
    by_cases he3:e3=0
    ·subst he3
     obtain⟨r3,hr3⟩:∃r,r=k3 % 3:=⟨_,rfl⟩
     have hrem:(k3:Int).tmod 3=(r3:Int):=by rw[Int.tmod_eq_emod_of_nonneg (by omega)];omega
     have hrem2:(k3:Int) % 3=(r3:Int):=by omega
     rw[←hr3] at hbad;clear hr3;by_cases hr3:r3=0
     ·subst hr3
      by_cases he4:e4=0
      ·subst he4
       by_cases hk4:k4=1
       ·subst hk4
        have he5:e5≠0:=by simpa using hbad
        have hne:(e5==0)=false:=by simpa using he5
        clear hbad he5;go_enter Tryz.func32,Tryz.ntmps32
        go_upto_region 2 with fail
        obtain⟨w1,hw1⟩:∃x,x=(w.alloc (.cells Z0.toArray 28)).alloc (.cells Z0.toArray 28):=⟨_,rfl⟩
        change Code.wp _ _ _ _ ((w.alloc (.cells Z0.toArray 28)).alloc (.cells Z0.toArray 28))
        rw[←hw1];have EX:Hid (Ext w w1):=hid (by rw[hw1];exact ((Ext.refl w).alloc _).alloc _)
        have BZ:Hid (Blk w1 w.heap.size 28 Z0):=hid (by rw[hw1];exact (Blk.fresh' _ _ _ _ _ rfl rfl).alloc _)
        have BR:Hid (Blk w1 (w.heap.size+1) 28 Z0):=hid (by rw[hw1];exact Blk.fresh' _ _ _ _ _ rfl (by simp))
        clear hw1
        go_wp2_with (first
           | (go_at_call 69;(with_reducible refine (HG1.out _ EX.out).mono ?_);rintro e w2 ⟨⟨B1,d1,rfl,ho1⟩,hE2⟩;have O1:=hid ho1;have BZ:=hid (BZ.out.ext hE2);have BR:=hid (BR.out.ext hE2);have EX:=hid (EX.out.next hE2);clear hE2;clear ho1)
           | (go_at_call 69;(with_reducible refine (HG3.out _ EX.out).mono ?_);rintro e w3 ⟨⟨B3,d3,rfl,ho3⟩,hE3⟩;have O3:=hid ho3;have EX3:=hid hE3;have HLT3:=hid BR.out.lt;have BZ:=hid (BZ.out.ext hE3);have BR:=hid (BR.out.ext hE3);have EX:=hid (EX.out.next hE3);clear hE3;clear ho3)
           | (go_at_call 54;(with_reducible refine (HG2.out _ EX.out).mono ?_);rintro e w7 ⟨rfl,rfl⟩)
           | (go_at_call 70;(with_reducible refine (HG4.out _ EX.out).mono ?_);rintro e w4 ⟨⟨B4,d4,rfl,ho4⟩,hE4⟩;have O4:=hid ho4;have EX4:=hid hE4;have BZ:=hid (BZ.out.ext hE4);have BR:=hid (BR.out.ext hE4);have EX:=hid (EX.out.next hE4);clear hE4;clear ho4)
           | (go_at_call 71;(with_reducible refine (HG5.out _ EX.out).mono ?_);rintro e w7 ⟨rfl,rfl⟩)
           | ((with_reducible refine wpList_slice_rest rfl 23 (.tmp 28) (.tmp 29) rfl elem_u8 elem_sz ?_ ?_ HS1.out.1 HS1.out.2.1 HS1.out.2.2.1 HS1.out.2.2.2 ?_);kernel_rfl;kernel_rfl)
           | ((with_reducible refine wpList_slice_rest rfl 23 (.tmp 40) (.tmp 41) rfl elem_u8 elem_sz ?_ ?_ HS2.out.1 HS2.out.2.1 HS2.out.2.2.1 HS2.out.2.2.2 ?_);kernel_rfl;kernel_rfl)
           | ((with_reducible refine wpList_slice_rest rfl 23 (.tmp 58) (.tmp 59) rfl elem_u8 elem_sz ?_ ?_ HS3.out.1 HS3.out.2.1 HS3.out.2.2.1 HS3.out.2.2.2 ?_);kernel_rfl;kernel_rfl)
           | ((with_reducible refine wpList_slice_rest rfl 23 (.tmp 76) (.tmp 77) rfl elem_u8 elem_sz ?_ ?_ HS4.out.1 HS4.out.2.1 HS4.out.2.2.1 HS4.out.2.2.2 ?_);kernel_rfl;kernel_rfl)
           | (refine wpList_load_blk rfl 28 (.tmp 4) rfl (w.heap.size+1) (by kernel_rfl) BR.out Tryz.underlying28 rfl info_rev ?_)
           | (refine wpList_store_blk rfl 28 (.tmp 2) (.tmp 85) rfl w.heap.size Z0 (by kernel_rfl) (by kernel_rfl) BZ.out info_rev rfl (revC_one rev0 none 0 0) ?_;intro w9 hw9 hb9;have E9:Hid (Ext w w9):=hid (by rw[hw9.out];exact EX.out.setRow (Nat.le_refl _) _)))
        refine bodyPost_ret (results_blk_bit Tryz.results32 _ _ w.heap.size 28 Z0 _ rfl hb9 Tryz.underlying28 rfl info_rev) rfl ?_
        exact⟨rfl,E9.out⟩
       ·have hne:((k4:Int)==1)=false:=by simpa using fun h:(k4:Int)=1=>hk4 (by omega)
        clear hbad hk4;go_enter Tryz.func32,Tryz.ntmps32
        go_upto_region 2 with fail
        obtain⟨w1,hw1⟩:∃x,x=(w.alloc (.cells Z0.toArray 28)).alloc (.cells Z0.toArray 28):=⟨_,rfl⟩
        change Code.wp _ _ _ _ ((w.alloc (.cells Z0.toArray 28)).alloc (.cells Z0.toArray 28))
        rw[←hw1];have EX:Hid (Ext w w1):=hid (by rw[hw1];exact ((Ext.refl w).alloc _).alloc _)
        have BZ:Hid (Blk w1 w.heap.size 28 Z0):=hid (by rw[hw1];exact (Blk.fresh' _ _ _ _ _ rfl rfl).alloc _)
        have BR:Hid (Blk w1 (w.heap.size+1) 28 Z0):=hid (by rw[hw1];exact Blk.fresh' _ _ _ _ _ rfl (by simp))
        clear hw1
        go_wp2_with (first
           | (go_at_call 69;(with_reducible refine (HG1.out _ EX.out).mono ?_);rintro e w2 ⟨⟨B1,d1,rfl,ho1⟩,hE2⟩;have O1:=hid ho1;have BZ:=hid (BZ.out.ext hE2);have BR:=hid (BR.out.ext hE2);have EX:=hid (EX.out.next hE2);clear hE2;clear ho1)
           | (go_at_call 69;(with_reducible refine (HG3.out _ EX.out).mono ?_);rintro e w3 ⟨⟨B3,d3,rfl,ho3⟩,hE3⟩;have O3:=hid ho3;have EX3:=hid hE3;have HLT3:=hid BR.out.lt;have BZ:=hid (BZ.out.ext hE3);have BR:=hid (BR.out.ext hE3);have EX:=hid (EX.out.next hE3);clear hE3;clear ho3)
           | (go_at_call 54;(with_reducible refine (HG2.out _ EX.out).mono ?_);rintro e w7 ⟨rfl,rfl⟩)
           | (go_at_call 70;(with_reducible refine (HG4.out _ EX.out).mono ?_);rintro e w4 ⟨⟨B4,d4,rfl,ho4⟩,hE4⟩;have O4:=hid ho4;have EX4:=hid hE4;have BZ:=hid (BZ.out.ext hE4);have BR:=hid (BR.out.ext hE4);have EX:=hid (EX.out.next hE4);clear hE4;clear ho4)
           | (go_at_call 71;(with_reducible refine (HG5.out _ EX.out).mono ?_);rintro e w7 ⟨rfl,rfl⟩)
           | ((with_reducible refine wpList_slice_rest rfl 23 (.tmp 28) (.tmp 29) rfl elem_u8 elem_sz ?_ ?_ HS1.out.1 HS1.out.2.1 HS1.out.2.2.1 HS1.out.2.2.2 ?_);kernel_rfl;kernel_rfl)
           | ((with_reducible refine wpList_slice_rest rfl 23 (.tmp 40) (.tmp 41) rfl elem_u8 elem_sz ?_ ?_ HS2.out.1 HS2.out.2.1 HS2.out.2.2.1 HS2.out.2.2.2 ?_);kernel_rfl;kernel_rfl)
           | ((with_reducible refine wpList_slice_rest rfl 23 (.tmp 58) (.tmp 59) rfl elem_u8 elem_sz ?_ ?_ HS3.out.1 HS3.out.2.1 HS3.out.2.2.1 HS3.out.2.2.2 ?_);kernel_rfl;kernel_rfl)
           | ((with_reducible refine wpList_slice_rest rfl 23 (.tmp 76) (.tmp 77) rfl elem_u8 elem_sz ?_ ?_ HS4.out.1 HS4.out.2.1 HS4.out.2.2.1 HS4.out.2.2.2 ?_);kernel_rfl;kernel_rfl)
           | (refine wpList_load_blk rfl 28 (.tmp 4) rfl (w.heap.size+1) (by kernel_rfl) BR.out Tryz.underlying28 rfl info_rev ?_)
           | (refine wpList_store_blk rfl 28 (.tmp 2) (.tmp 74) rfl w.heap.size Z0 (by kernel_rfl) (by kernel_rfl) BZ.out info_rev rfl (revC_one rev0 none 0 0) ?_;intro w9 hw9 hb9;have E9:Hid (Ext w w9):=hid (by rw[hw9.out];exact EX.out.setRow (Nat.le_refl _) _)))
        refine bodyPost_ret (results_blk_bit Tryz.results32 _ _ w.heap.size 28 Z0 _ rfl hb9 Tryz.underlying28 rfl info_rev) rfl ?_
        exact⟨rfl,E9.out⟩
      ·have hne:(e4==0)=false:=by simpa using he4
       clear hbad he4;go_enter Tryz.func32,Tryz.ntmps32
       go_upto_region 2 with fail
       obtain⟨w1,hw1⟩:∃x,x=(w.alloc (.cells Z0.toArray 28)).alloc (.cells Z0.toArray 28):=⟨_,rfl⟩
       change Code.wp _ _ _ _ ((w.alloc (.cells Z0.toArray 28)).alloc (.cells Z0.toArray 28))
       rw[←hw1];have EX:Hid (Ext w w1):=hid (by rw[hw1];exact ((Ext.refl w).alloc _).alloc _)
       have BZ:Hid (Blk w1 w.heap.size 28 Z0):=hid (by rw[hw1];exact (Blk.fresh' _ _ _ _ _ rfl rfl).alloc _)
       have BR:Hid (Blk w1 (w.heap.size+1) 28 Z0):=hid (by rw[hw1];exact Blk.fresh' _ _ _ _ _ rfl (by simp))
       clear hw1
       go_wp2_with (first
          | (go_at_call 69;(with_reducible refine (HG1.out _ EX.out).mono ?_);rintro e w2 ⟨⟨B1,d1,rfl,ho1⟩,hE2⟩;have O1:=hid ho1;have BZ:=hid (BZ.out.ext hE2);have BR:=hid (BR.out.ext hE2);have EX:=hid (EX.out.next hE2);clear hE2;clear ho1)
          | (go_at_call 69;(with_reducible refine (HG3.out _ EX.out).mono ?_);rintro e w3 ⟨⟨B3,d3,rfl,ho3⟩,hE3⟩;have O3:=hid ho3;have EX3:=hid hE3;have HLT3:=hid BR.out.lt;have BZ:=hid (BZ.out.ext hE3);have BR:=hid (BR.out.ext hE3);have EX:=hid (EX.out.next hE3);clear hE3;clear ho3)
          | (go_at_call 54;(with_reducible refine (HG2.out _ EX.out).mono ?_);rintro e w7 ⟨rfl,rfl⟩)
          | (go_at_call 70;(with_reducible refine (HG4.out _ EX.out).mono ?_);rintro e w4 ⟨⟨B4,d4,rfl,ho4⟩,hE4⟩;have O4:=hid ho4;have EX4:=hid hE4;have BZ:=hid (BZ.out.ext hE4);have BR:=hid (BR.out.ext hE4);have EX:=hid (EX.out.next hE4);clear hE4;clear ho4)
          | (go_at_call 71;(with_reducible refine (HG5.out _ EX.out).mono ?_);rintro e w7 ⟨rfl,rfl⟩)
          | ((with_reducible refine wpList_slice_rest rfl 23 (.tmp 28) (.tmp 29) rfl elem_u8 elem_sz ?_ ?_ HS1.out.1 HS1.out.2.1 HS1.out.2.2.1 HS1.out.2.2.2 ?_);kernel_rfl;kernel_rfl)
          | ((with_reducible refine wpList_slice_rest rfl 23 (.tmp 40) (.tmp 41) rfl elem_u8 elem_sz ?_ ?_ HS2.out.1 HS2.out.2.1 HS2.out.2.2.1 HS2.out.2.2.2 ?_);kernel_rfl;kernel_rfl)
          | ((with_reducible refine wpList_slice_rest rfl 23 (.tmp 58) (.tmp 59) rfl elem_u8 elem_sz ?_ ?_ HS3.out.1 HS3.out.2.1 HS3.out.2.2.1 HS3.out.2.2.2 ?_);kernel_rfl;kernel_rfl)
          | ((with_reducible refine wpList_slice_rest rfl 23 (.tmp 76) (.tmp 77) rfl elem_u8 elem_sz ?_ ?_ HS4.out.1 HS4.out.2.1 HS4.out.2.2.1 HS4.out.2.2.2 ?_);kernel_rfl;kernel_rfl)
          | (refine wpList_load_blk rfl 28 (.tmp 4) rfl (w.heap.size+1) (by kernel_rfl) BR.out Tryz.underlying28 rfl info_rev ?_)
          | (refine wpList_store_blk rfl 28 (.tmp 2) (.tmp 74) rfl w.heap.size Z0 (by kernel_rfl) (by kernel_rfl) BZ.out info_rev rfl (revC_one rev0 none 0 0) ?_;intro w9 hw9 hb9;have E9:Hid (Ext w w9):=hid (by rw[hw9.out];exact EX.out.setRow (Nat.le_refl _) _)))
       refine bodyPost_ret (results_blk_bit Tryz.results32 _ _ w.heap.size 28 Z0 _ rfl hb9 Tryz.underlying28 rfl info_rev) rfl ?_
       exact⟨rfl,E9.out⟩
     ·have hne:((r3:Int)==0)=false:=by simpa using hr3
      clear hbad hr3;go_enter Tryz.func32,Tryz.ntmps32
      go_upto_region 2 with fail
      obtain⟨w1,hw1⟩:∃x,x=(w.alloc (.cells Z0.toArray 28)).alloc (.cells Z0.toArray 28):=⟨_,rfl⟩
      change Code.wp _ _ _ _ ((w.alloc (.cells Z0.toArray 28)).alloc (.cells Z0.toArray 28))
      rw[←hw1];have EX:Hid (Ext w w1):=hid (by rw[hw1];exact ((Ext.refl w).alloc _).alloc _)
      have BZ:Hid (Blk w1 w.heap.size 28 Z0):=hid (by rw[hw1];exact (Blk.fresh' _ _ _ _ _ rfl rfl).alloc _)
      have BR:Hid (Blk w1 (w.heap.size+1) 28 Z0):=hid (by rw[hw1];exact Blk.fresh' _ _ _ _ _ rfl (by simp))
      clear hw1
      go_wp2_with (first
         | (go_at_call 69;(with_reducible refine (HG1.out _ EX.out).mono ?_);rintro e w2 ⟨⟨B1,d1,rfl,ho1⟩,hE2⟩;have O1:=hid ho1;have BZ:=hid (BZ.out.ext hE2);have BR:=hid (BR.out.ext hE2);have EX:=hid (EX.out.next hE2);clear hE2;clear ho1)
         | (go_at_call 69;(with_reducible refine (HG3.out _ EX.out).mono ?_);rintro e w3 ⟨⟨B3,d3,rfl,ho3⟩,hE3⟩;have O3:=hid ho3;have EX3:=hid hE3;have HLT3:=hid BR.out.lt;have BZ:=hid (BZ.out.ext hE3);have BR:=hid (BR.out.ext hE3);have EX:=hid (EX.out.next hE3);clear hE3;clear ho3)
         | (go_at_call 54;(with_reducible refine (HG2.out _ EX.out).mono ?_);rintro e w7 ⟨rfl,rfl⟩)
         | (go_at_call 70;(with_reducible refine (HG4.out _ EX.out).mono ?_);rintro e w4 ⟨⟨B4,d4,rfl,ho4⟩,hE4⟩;have O4:=hid ho4;have EX4:=hid hE4;have BZ:=hid (BZ.out.ext hE4);have BR:=hid (BR.out.ext hE4);have EX:=hid (EX.out.next hE4);clear hE4;clear ho4)
         | (go_at_call 71;(with_reducible refine (HG5.out _ EX.out).mono ?_);rintro e w7 ⟨rfl,rfl⟩)
         | ((with_reducible refine wpList_slice_rest rfl 23 (.tmp 28) (.tmp 29) rfl elem_u8 elem_sz ?_ ?_ HS1.out.1 HS1.out.2.1 HS1.out.2.2.1 HS1.out.2.2.2 ?_);kernel_rfl;kernel_rfl)
         | ((with_reducible refine wpList_slice_rest rfl 23 (.tmp 40) (.tmp 41) rfl elem_u8 elem_sz ?_ ?_ HS2.out.1 HS2.out.2.1 HS2.out.2.2.1 HS2.out.2.2.2 ?_);kernel_rfl;kernel_rfl)
         | ((with_reducible refine wpList_slice_rest rfl 23 (.tmp 58) (.tmp 59) rfl elem_u8 elem_sz ?_ ?_ HS3.out.1 HS3.out.2.1 HS3.out.2.2.1 HS3.out.2.2.2 ?_);kernel_rfl;kernel_rfl)
         | ((with_reducible refine wpList_slice_rest rfl 23 (.tmp 76) (.tmp 77) rfl elem_u8 elem_sz ?_ ?_ HS4.out.1 HS4.out.2.1 HS4.out.2.2.1 HS4.out.2.2.2 ?_);kernel_rfl;kernel_rfl)
         | (refine wpList_load_blk rfl 28 (.tmp 4) rfl (w.heap.size+1) (by kernel_rfl) BR.out Tryz.underlying28 rfl info_rev ?_)
         | (refine wpList_store_blk rfl 28 (.tmp 2) (.tmp 57) rfl w.heap.size Z0 (by kernel_rfl) (by kernel_rfl) BZ.out info_rev rfl (revC_one rev0 none 0 0) ?_;intro w9 hw9 hb9;have E9:Hid (Ext w w9):=hid (by rw[hw9.out];exact EX.out.setRow (Nat.le_refl _) _)))
      refine bodyPost_ret (results_blk_bit Tryz.results32 _ _ w.heap.size 28 Z0 _ rfl hb9 Tryz.underlying28 rfl info_rev) rfl ?_
      exact⟨rfl,E9.out⟩
    ·have hne:(e3==0)=false:=by simpa using he3
     clear hbad he3;go_enter Tryz.func32,Tryz.ntmps32
     go_upto_region 2 with fail
     obtain⟨w1,hw1⟩:∃x,x=(w.alloc (.cells Z0.toArray 28)).alloc (.cells Z0.toArray 28):=⟨_,rfl⟩
     change Code.wp _ _ _ _ ((w.alloc (.cells Z0.toArray 28)).alloc (.cells Z0.toArray 28))
     rw[←hw1];have EX:Hid (Ext w w1):=hid (by rw[hw1];exact ((Ext.refl w).alloc _).alloc _)
     have BZ:Hid (Blk w1 w.heap.size 28 Z0):=hid (by rw[hw1];exact (Blk.fresh' _ _ _ _ _ rfl rfl).alloc _)
     have BR:Hid (Blk w1 (w.heap.size+1) 28 Z0):=hid (by rw[hw1];exact Blk.fresh' _ _ _ _ _ rfl (by simp))
     clear hw1
     go_wp2_with (first
        | (go_at_call 69;(with_reducible refine (HG1.out _ EX.out).mono ?_);rintro e w2 ⟨⟨B1,d1,rfl,ho1⟩,hE2⟩;have O1:=hid ho1;have BZ:=hid (BZ.out.ext hE2);have BR:=hid (BR.out.ext hE2);have EX:=hid (EX.out.next hE2);clear hE2;clear ho1)
        | (go_at_call 69;(with_reducible refine (HG3.out _ EX.out).mono ?_);rintro e w3 ⟨⟨B3,d3,rfl,ho3⟩,hE3⟩;have O3:=hid ho3;have EX3:=hid hE3;have HLT3:=hid BR.out.lt;have BZ:=hid (BZ.out.ext hE3);have BR:=hid (BR.out.ext hE3);have EX:=hid (EX.out.next hE3);clear hE3;clear ho3)
        | (go_at_call 54;(with_reducible refine (HG2.out _ EX.out).mono ?_);rintro e w7 ⟨rfl,rfl⟩)
        | (go_at_call 70;(with_reducible refine (HG4.out _ EX.out).mono ?_);rintro e w4 ⟨⟨B4,d4,rfl,ho4⟩,hE4⟩;have O4:=hid ho4;have EX4:=hid hE4;have BZ:=hid (BZ.out.ext hE4);have BR:=hid (BR.out.ext hE4);have EX:=hid (EX.out.next hE4);clear hE4;clear ho4)
        | (go_at_call 71;(with_reducible refine (HG5.out _ EX.out).mono ?_);rintro e w7 ⟨rfl,rfl⟩)
        | ((with_reducible refine wpList_slice_rest rfl 23 (.tmp 28) (.tmp 29) rfl elem_u8 elem_sz ?_ ?_ HS1.out.1 HS1.out.2.1 HS1.out.2.2.1 HS1.out.2.2.2 ?_);kernel_rfl;kernel_rfl)
        | ((with_reducible refine wpList_slice_rest rfl 23 (.tmp 40) (.tmp 41) rfl elem_u8 elem_sz ?_ ?_ HS2.out.1 HS2.out.2.1 HS2.out.2.2.1 HS2.out.2.2.2 ?_);kernel_rfl;kernel_rfl)
        | ((with_reducible refine wpList_slice_rest rfl 23 (.tmp 58) (.tmp 59) rfl elem_u8 elem_sz ?_ ?_ HS3.out.1 HS3.out.2.1 HS3.out.2.2.1 HS3.out.2.2.2 ?_);kernel_rfl;kernel_rfl)
        | ((with_reducible refine wpList_slice_rest rfl 23 (.tmp 76) (.tmp 77) rfl elem_u8 elem_sz ?_ ?_ HS4.out.1 HS4.out.2.1 HS4.out.2.2.1 HS4.out.2.2.2 ?_);kernel_rfl;kernel_rfl)
        | (refine wpList_load_blk rfl 28 (.tmp 4) rfl (w.heap.size+1) (by kernel_rfl) BR.out Tryz.underlying28 rfl info_rev ?_)
        | (refine wpList_store_blk rfl 28 (.tmp 2) (.tmp 57) rfl w.heap.size Z0 (by kernel_rfl) (by kernel_rfl) BZ.out info_rev rfl (revC_one rev0 none 0 0) ?_;intro w9 hw9 hb9;have E9:Hid (Ext w w9):=hid (by rw[hw9.out];exact EX.out.setRow (Nat.le_refl _) _)))
     refine bodyPost_ret (results_blk_bit Tryz.results32 _ _ w.heap.size 28 Z0 _ rfl hb9 Tryz.underlying28 rfl info_rev) rfl ?_
     exact⟨rfl,E9.out⟩
   ·have hne:(e2==0)=false:=by simpa using he2
    clear hbad he2;go_enter Tryz.func32,Tryz.ntmps32
    go_upto_region 2 with fail
    obtain⟨w1,hw1⟩:∃x,x=(w.alloc (.cells Z0.toArray 28)).alloc (.cells Z0.toArray 28):=⟨_,rfl⟩
    change Code.wp _ _ _ _ ((w.alloc (.cells Z0.toArray 28)).alloc (.cells Z0.toArray 28))
    rw[←hw1];have EX:Hid (Ext w w1):=hid (by rw[hw1];exact ((Ext.refl w).alloc _).alloc _)
    have BZ:Hid (Blk w1 w.heap.size 28 Z0):=hid (by rw[hw1];exact (Blk.fresh' _ _ _ _ _ rfl rfl).alloc _)
    have BR:Hid (Blk w1 (w.heap.size+1) 28 Z0):=hid (by rw[hw1];exact Blk.fresh' _ _ _ _ _ rfl (by simp))
    clear hw1
    go_wp2_with (first
       | (go_at_call 69;(with_reducible refine (HG1.out _ EX.out).mono ?_);rintro e w2 ⟨⟨B1,d1,rfl,ho1⟩,hE2⟩;have O1:=hid ho1;have BZ:=hid (BZ.out.ext hE2);have BR:=hid (BR.out.ext hE2);have EX:=hid (EX.out.next hE2);clear hE2;clear ho1)
       | (go_at_call 69;(with_reducible refine (HG3.out _ EX.out).mono ?_);rintro e w3 ⟨⟨B3,d3,rfl,ho3⟩,hE3⟩;have O3:=hid ho3;have EX3:=hid hE3;have HLT3:=hid BR.out.lt;have BZ:=hid (BZ.out.ext hE3);have BR:=hid (BR.out.ext hE3);have EX:=hid (EX.out.next hE3);clear hE3;clear ho3)
       | (go_at_call 54;(with_reducible refine (HG2.out _ EX.out).mono ?_);rintro e w7 ⟨rfl,rfl⟩)
       | (go_at_call 70;(with_reducible refine (HG4.out _ EX.out).mono ?_);rintro e w4 ⟨⟨B4,d4,rfl,ho4⟩,hE4⟩;have O4:=hid ho4;have EX4:=hid hE4;have BZ:=hid (BZ.out.ext hE4);have BR:=hid (BR.out.ext hE4);have EX:=hid (EX.out.next hE4);clear hE4;clear ho4)
       | (go_at_call 71;(with_reducible refine (HG5.out _ EX.out).mono ?_);rintro e w7 ⟨rfl,rfl⟩)
       | ((with_reducible refine wpList_slice_rest rfl 23 (.tmp 28) (.tmp 29) rfl elem_u8 elem_sz ?_ ?_ HS1.out.1 HS1.out.2.1 HS1.out.2.2.1 HS1.out.2.2.2 ?_);kernel_rfl;kernel_rfl)
       | ((with_reducible refine wpList_slice_rest rfl 23 (.tmp 40) (.tmp 41) rfl elem_u8 elem_sz ?_ ?_ HS2.out.1 HS2.out.2.1 HS2.out.2.2.1 HS2.out.2.2.2 ?_);kernel_rfl;kernel_rfl)
       | ((with_reducible refine wpList_slice_rest rfl 23 (.tmp 58) (.tmp 59) rfl elem_u8 elem_sz ?_ ?_ HS3.out.1 HS3.out.2.1 HS3.out.2.2.1 HS3.out.2.2.2 ?_);kernel_rfl;kernel_rfl)
       | ((with_reducible refine wpList_slice_rest rfl 23 (.tmp 76) (.tmp 77) rfl elem_u8 elem_sz ?_ ?_ HS4.out.1 HS4.out.2.1 HS4.out.2.2.1 HS4.out.2.2.2 ?_);kernel_rfl;kernel_rfl)
       | (refine wpList_load_blk rfl 28 (.tmp 4) rfl (w.heap.size+1) (by kernel_rfl) BR.out Tryz.underlying28 rfl info_rev ?_)
       | (refine wpList_store_blk rfl 28 (.tmp 2) (.tmp 39) rfl w.heap.size Z0 (by kernel_rfl) (by kernel_rfl) BZ.out info_rev rfl (revC_one rev0 none 0 0) ?_;intro w9 hw9 hb9;have E9:Hid (Ext w w9):=hid (by rw[hw9.out];exact EX.out.setRow (Nat.le_refl _) _)))
    refine bodyPost_ret (results_blk_bit Tryz.results32 _ _ w.heap.size 28 Z0 _ rfl hb9 Tryz.underlying28 rfl info_rev) rfl ?_
    exact⟨rfl,E9.out⟩
  ·have hne:((k1:Int)==3)=false:=by simpa using fun h:(k1:Int)=3=>hk1 (by omega)
   clear hbad hk1;go_enter Tryz.func32,Tryz.ntmps32
   go_upto_region 2 with fail
   obtain⟨w1,hw1⟩:∃x,x=(w.alloc (.cells Z0.toArray 28)).alloc (.cells Z0.toArray 28):=⟨_,rfl⟩
   change Code.wp _ _ _ _ ((w.alloc (.cells Z0.toArray 28)).alloc (.cells Z0.toArray 28))
   rw[←hw1];have EX:Hid (Ext w w1):=hid (by rw[hw1];exact ((Ext.refl w).alloc _).alloc _)
   have BZ:Hid (Blk w1 w.heap.size 28 Z0):=hid (by rw[hw1];exact (Blk.fresh' _ _ _ _ _ rfl rfl).alloc _)
   have BR:Hid (Blk w1 (w.heap.size+1) 28 Z0):=hid (by rw[hw1];exact Blk.fresh' _ _ _ _ _ rfl (by simp))
   clear hw1
   go_wp2_with (first
      | (go_at_call 69;(with_reducible refine (HG1.out _ EX.out).mono ?_);rintro e w2 ⟨⟨B1,d1,rfl,ho1⟩,hE2⟩;have O1:=hid ho1;have BZ:=hid (BZ.out.ext hE2);have BR:=hid (BR.out.ext hE2);have EX:=hid (EX.out.next hE2);clear hE2;clear ho1)
      | (go_at_call 69;(with_reducible refine (HG3.out _ EX.out).mono ?_);rintro e w3 ⟨⟨B3,d3,rfl,ho3⟩,hE3⟩;have O3:=hid ho3;have EX3:=hid hE3;have HLT3:=hid BR.out.lt;have BZ:=hid (BZ.out.ext hE3);have BR:=hid (BR.out.ext hE3);have EX:=hid (EX.out.next hE3);clear hE3;clear ho3)
      | (go_at_call 54;(with_reducible refine (HG2.out _ EX.out).mono ?_);rintro e w7 ⟨rfl,rfl⟩)
      | (go_at_call 70;(with_reducible refine (HG4.out _ EX.out).mono ?_);rintro e w4 ⟨⟨B4,d4,rfl,ho4⟩,hE4⟩;have O4:=hid ho4;have EX4:=hid hE4;have BZ:=hid (BZ.out.ext hE4);have BR:=hid (BR.out.ext hE4);have EX:=hid (EX.out.next hE4);clear hE4;clear ho4)
      | (go_at_call 71;(with_reducible refine (HG5.out _ EX.out).mono ?_);rintro e w7 ⟨rfl,rfl⟩)
      | ((with_reducible refine wpList_slice_rest rfl 23 (.tmp 28) (.tmp 29) rfl elem_u8 elem_sz ?_ ?_ HS1.out.1 HS1.out.2.1 HS1.out.2.2.1 HS1.out.2.2.2 ?_);kernel_rfl;kernel_rfl)
      | ((with_reducible refine wpList_slice_rest rfl 23 (.tmp 40) (.tmp 41) rfl elem_u8 elem_sz ?_ ?_ HS2.out.1 HS2.out.2.1 HS2.out.2.2.1 HS2.out.2.2.2 ?_);kernel_rfl;kernel_rfl)
      | ((with_reducible refine wpList_slice_rest rfl 23 (.tmp 58) (.tmp 59) rfl elem_u8 elem_sz ?_ ?_ HS3.out.1 HS3.out.2.1 HS3.out.2.2.1 HS3.out.2.2.2 ?_);kernel_rfl;kernel_rfl)
      | ((with_reducible refine wpList_slice_rest rfl 23 (.tmp 76) (.tmp 77) rfl elem_u8 elem_sz ?_ ?_ HS4.out.1 HS4.out.2.1 HS4.out.2.2.1 HS4.out.2.2.2 ?_);kernel_rfl;kernel_rfl)
      | (refine wpList_load_blk rfl 28 (.tmp 4) rfl (w.heap.size+1) (by kernel_rfl) BR.out Tryz.underlying28 rfl info_rev ?_)
      | (refine wpList_store_blk rfl 28 (.tmp 2) (.tmp 27) rfl w.heap.size Z0 (by kernel_rfl) (by kernel_rfl) BZ.out info_rev rfl (revC_one rev0 none 0 0) ?_;intro w9 hw9 hb9;have E9:Hid (Ext w w9):=hid (by rw[hw9.out];exact EX.out.setRow (Nat.le_refl _) _)))
   refine bodyPost_ret (results_blk_bit Tryz.results32 _ _ w.heap.size 28 Z0 _ rfl hb9 Tryz.underlying28 rfl info_rev) rfl ?_
   exact⟨rfl,E9.out⟩
 ·have hne:(e1==0)=false:=by simpa using he1
  clear hbad he1;go_enter Tryz.func32,Tryz.ntmps32
  go_upto_region 2 with fail
  obtain⟨w1,hw1⟩:∃x,x=(w.alloc (.cells Z0.toArray 28)).alloc (.cells Z0.toArray 28):=⟨_,rfl⟩
  change Code.wp _ _ _ _ ((w.alloc (.cells Z0.toArray 28)).alloc (.cells Z0.toArray 28))
  rw[←hw1];have EX:Hid (Ext w w1):=hid (by rw[hw1];exact ((Ext.refl w).alloc _).alloc _)
  have BZ:Hid (Blk w1 w.heap.size 28 Z0):=hid (by rw[hw1];exact (Blk.fresh' _ _ _ _ _ rfl rfl).alloc _)
  have BR:Hid (Blk w1 (w.heap.size+1) 28 Z0):=hid (by rw[hw1];exact Blk.fresh' _ _ _ _ _ rfl (by simp))
  clear hw1
  go_wp2_with (first
     | (go_at_call 69;(with_reducible refine (HG1.out _ EX.out).mono ?_);rintro e w2 ⟨⟨B1,d1,rfl,ho1⟩,hE2⟩;have O1:=hid ho1;have BZ:=hid (BZ.out.ext hE2);have BR:=hid (BR.out.ext hE2);have EX:=hid (EX.out.next hE2);clear hE2;clear ho1)
     | (go_at_call 69;(with_reducible refine (HG3.out _ EX.out).mono ?_);rintro e w3 ⟨⟨B3,d3,rfl,ho3⟩,hE3⟩;have O3:=hid ho3;have EX3:=hid hE3;have HLT3:=hid BR.out.lt;have BZ:=hid (BZ.out.ext hE3);have BR:=hid (BR.out.ext hE3);have EX:=hid (EX.out.next hE3);clear hE3;clear ho3)
     | (go_at_call 54;(with_reducible refine (HG2.out _ EX.out).mono ?_);rintro e w7 ⟨rfl,rfl⟩)
     | (go_at_call 70;(with_reducible refine (HG4.out _ EX.out).mono ?_);rintro e w4 ⟨⟨B4,d4,rfl,ho4⟩,hE4⟩;have O4:=hid ho4;have EX4:=hid hE4;have BZ:=hid (BZ.out.ext hE4);have BR:=hid (BR.out.ext hE4);have EX:=hid (EX.out.next hE4);clear hE4;clear ho4)
     | (go_at_call 71;(with_reducible refine (HG5.out _ EX.out).mono ?_);rintro e w7 ⟨rfl,rfl⟩)
     | ((with_reducible refine wpList_slice_rest rfl 23 (.tmp 28) (.tmp 29) rfl elem_u8 elem_sz ?_ ?_ HS1.out.1 HS1.out.2.1 HS1.out.2.2.1 HS1.out.2.2.2 ?_);kernel_rfl;kernel_rfl)
     | ((with_reducible refine wpList_slice_rest rfl 23 (.tmp 40) (.tmp 41) rfl elem_u8 elem_sz ?_ ?_ HS2.out.1 HS2.out.2.1 HS2.out.2.2.1 HS2.out.2.2.2 ?_);kernel_rfl;kernel_rfl)
     | ((with_reducible refine wpList_slice_rest rfl 23 (.tmp 58) (.tmp 59) rfl elem_u8 elem_sz ?_ ?_ HS3.out.1 HS3.out.2.1 HS3.out.2.2.1 HS3.out.2.2.2 ?_);kernel_rfl;kernel_rfl)
     | ((with_reducible refine wpList_slice_rest rfl 23 (.tmp 76) (.tmp 77) rfl elem_u8 elem_sz ?_ ?_ HS4.out.1 HS4.out.2.1 HS4.out.2.2.1 HS4.out.2.2.2 ?_);kernel_rfl;kernel_rfl)
     | (refine wpList_load_blk rfl 28 (.tmp 4) rfl (w.heap.size+1) (by kernel_rfl) BR.out Tryz.underlying28 rfl info_rev ?_)
     | (refine wpList_store_blk rfl 28 (.tmp 2) (.tmp 27) rfl w.heap.size Z0 (by kernel_rfl) (by kernel_rfl) BZ.out info_rev rfl (revC_one rev0 none 0 0) ?_;intro w9 hw9 hb9;have E9:Hid (Ext w w9):=hid (by rw[hw9.out];exact EX.out.setRow (Nat.le_refl _) _)))
  refine bodyPost_ret (results_blk_bit Tryz.results32 _ _ w.heap.size 28 Z0 _ rfl hb9 Tryz.underlying28 rfl info_rev) rfl ?_
  exact⟨rfl,E9.out⟩
end
end Go.Proofs.YtjeecfjeooehhaaGreatDoor