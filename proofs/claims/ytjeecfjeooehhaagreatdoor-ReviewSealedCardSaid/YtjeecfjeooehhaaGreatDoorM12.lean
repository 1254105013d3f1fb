/- review.read at inputs that it takes. Conditions: at most 10^12 bytes. -/
import Derived.Test.YtjeecfjeooehhaaGreatDoorM11
import Derived.Shelf.Abstract
import Derived.Test.YtjeecfjeooehhaaGreatDoorM1
set_option linter.unusedSimpArgs false
set_option linter.unusedVariables false
set_option maxHeartbeats 16000000
set_option maxRecDepth 100000
namespace Go.Proofs.YtjeecfjeooehhaaGreatDoor
open Go.RowKit
open Lib (hid)
section
attribute [local go_sem ↓] wp_at_zero wp_at_succ
attribute [local go_sem] Oper.semAt_some
theorem list16 (d:List Int)(h:d.length=16):∃x0 x1 x2 x3 x4 x5 x6 x7 x8 x9 xa xb xc xd xe xf,d=[x0,x1,x2,x3,x4,x5,x6,x7,x8,x9,xa,xb,xc,xd,xe,xf]:=by
 match d,h with
 | [x0,x1,x2,x3,x4,x5,x6,x7,x8,x9,xa,xb,xc,xd,xe,xf],_=>exact⟨_,_,_,_,_,_,_,_,_,_,_,_,_,_,_,_,rfl⟩
theorem build_rev (a0 a1 a2:Int)(x:Bool)(d:List Int)(s:ByteArray)(h:d.length=16):Tryz.prog.built 28 [(0,.int .i64 a0),(1,.int .i64 a1),(2,.int .i64 a2),(3,.bool x),(5,.agg (u8s d).toArray),(6,.string s)]=some (revC ⟨a0,a1,a2,x,[],d,s⟩ none 0 0).toArray:=by
 obtain⟨x0,x1,x2,x3,x4,x5,x6,x7,x8,x9,xa,xb,xc,xd,xe,xf,rfl⟩:=list16 d h
 kernel_rfl
theorem build_id (a b c:Int):Tryz.prog.built 68 [(0,.int .i64 a),(1,.int .i64 b),(2,.int .i64 c)]=some (idC ⟨a,b,c⟩).toArray:=by kernel_rfl
theorem info_dig:(Tryz.prog.info? 26).map (·.size)=some 16:=by kernel_rfl
theorem own_geq {w:World}{base:Nat}{e:TypeId}{size:Nat}{v:Value}{n:Nat}{xs:List Value}(ho:w.ownsRow base e size v n xs){b:Nat}(hb:v.ownBlock=some b):base≤b:=by
 rcases ho.2 with ⟨hv,_⟩|⟨g,cap,cur,hv,hg,_⟩
 ·rw[hv] at hb;cases hb
 ·rw[hv] at hb
  simp only[Value.ownBlock,Option.some.injEq] at hb
  omega
theorem Kept.putObj {F:Nat→Prop}(w:World){l:Nat}(hl:F l)(o:Obj):Kept F w (w.putObj l o):=⟨rfl,rfl,rfl,by simp [World.putObj],fun k _ hf=>World.putObj_heap_other (fun h=>hf (by rw[h];exact hl))⟩
theorem ridsOf_up (L:List Int)(m:Nat)(h:L.length=3*m):(upB m m).map (fun x=>ridAt L x.1)=ridsOf L:=by
 unfold ridsOf;rw[h,Nat.mul_div_cancel_left _ (by decide),←upB_val m m (Nat.le_refl _),List.map_map]
 rfl
theorem Below.next' {a b c d:World}(h2:Ext b c)(h1:Ext a b)(h3:Ext c d):Ext a d:=(h1.next h2).next h3
theorem own_at {w:World}{base:Nat}{e:TypeId}{size n c:Nat}{A:Option Addr}{xs:List Value}(h:w.ownsRow base e size (.slice A n c) n xs)(hn:0<n):∃g,A=some ⟨g,0,none⟩∧base≤g∧g<w.heap.size∧∀j u,xs[j]?=some u→w.cell? ⟨g,j,none⟩=some u:=by
 obtain⟨b,o,hA,hb,hc⟩:=(rdn_own h).2 hn;have hf:=own_far h hA;rcases h.2 with ⟨hv,h0⟩|⟨g,cap,cur,hv,hg,_⟩
 ·omega
 ·injection hv with hv
  rw[hA] at hv;injection hv with hv
  injection hv with h1 h2
  subst h1 h2;exact⟨b,hA,hf,hb,fun j u hu=>by have:=hc j u hu;rwa [Nat.zero_add] at this⟩
theorem read_good (l:List Int)(A:Option Addr)(n c:Nat)(w:World)(hl:Rd w w.heap.size A n (u8s l))(hby:Byt l)(hnc:n≤c)(hc:c≤9223372036854775807)(hn:n≤1000000000000)(hgood:¬(bad1 l∨bad2 l∨bad3 l∨bad4 l∨bad5 l)) :
  Calls Tryz.prog 32 #[.slice A n c] w fun e w'=>(∃A' n' c',e=.returned (.tuple #[.agg (revC (revAt l) A' n' c').toArray,.bool true])∧RevV w' (revAt l) A' n' c'∧∀a,A'=some a→w.heap.size≤a.block)∧Ext w w':=by
 have hlen:l.length=n:=by have:=hl.1;simpa [u8s] using this
 obtain⟨u1,k1,e1,hu1,hk1,he1,hu1n,hk1n⟩:∃(u k:Nat) (e:Int),(u:Int)=(cut1 l).2.1∧k=(cut1 l).1.length∧e=(cut1 l).2.2∧u≤n∧k≤n:=by
  rcases cut1_cases l hby with ⟨_,h1,h2⟩|⟨xs,u,hg,hu,henc,_⟩
  ·exact⟨0,0,_,by rw[h2];rfl,by rw[h1];rfl,rfl,Nat.zero_le _,Nat.zero_le _⟩
  ·exact⟨u,xs.length,_,by rw[hg],by rw[hg],rfl,by omega,by have:=encL_ge xs l u henc;omega⟩
 obtain⟨A1,hA1⟩:∃a,a=restA A c u1:=⟨_,rfl⟩
 obtain⟨m1,hm1⟩:∃m,m=n-u1:=⟨_,rfl⟩
 obtain⟨c1,hc1⟩:∃m,m=c-u1:=⟨_,rfl⟩
 have hr1:rest1 l=l.drop u1:=by unfold rest1;rw[←hu1];rfl
 have hb1:Byt (rest1 l):=by rw[hr1];exact hby.drop _
 have hl1:Rd w w.heap.size A1 m1 (u8s (rest1 l)):=by rw[hr1];exact rd_restA hl hA1 hm1 hu1n hnc
 have hlen1:(rest1 l).length=m1:=by have:=hl1.1;simpa [u8s] using this
 obtain⟨x2,u2,e2,hx2,hu2,he2,hu2n⟩:∃(x:Int) (u:Nat) (e:Int),x=(cut2 l).1∧(u:Int)=(cut2 l).2.1∧e=(cut2 l).2.2∧u≤m1:=by
  rcases getI_cases' (rest1 l) hb1 with ⟨_,h1,h2⟩|⟨x,u,hg,hu,_⟩
  ·exact⟨_,0,_,rfl,by unfold cut2;rw[h2];rfl,rfl,Nat.zero_le _⟩
  ·exact⟨_,u,_,rfl,by unfold cut2;rw[hg],rfl,by omega⟩
 obtain⟨A2,hA2⟩:∃a,a=restA A1 c1 u2:=⟨_,rfl⟩
 obtain⟨m2,hm2⟩:∃m,m=m1-u2:=⟨_,rfl⟩
 obtain⟨c2,hc2⟩:∃m,m=c1-u2:=⟨_,rfl⟩
 have hr2:rest2 l=(rest1 l).drop u2:=by unfold rest2;rw[←hu2];rfl
 have hb2:Byt (rest2 l):=by rw[hr2];exact hb1.drop _
 have hl2:Rd w w.heap.size A2 m2 (u8s (rest2 l)):=by rw[hr2];exact rd_restA hl1 hA2 hm2 hu2n (by omega)
 have hlen2:(rest2 l).length=m2:=by have:=hl2.1;simpa [u8s] using this
 obtain⟨u3,k3,e3,hu3,hk3,he3,hu3n,hk3n⟩:∃(u k:Nat) (e:Int),(u:Int)=(cut3 l).2.1∧k=(cut3 l).1.length∧e=(cut3 l).2.2∧u≤m2∧k≤m2:=by
  rcases cut1_cases (rest2 l) hb2 with ⟨_,h1,h2⟩|⟨xs,u,hg,hu,henc,_⟩
  ·exact⟨0,0,_,by unfold cut3;unfold cut1 at h2;rw[h2];rfl,by unfold cut3;unfold cut1 at h1;rw[h1];rfl,rfl,Nat.zero_le _,Nat.zero_le _⟩
  ·exact⟨u,xs.length,_,by unfold cut3;unfold cut1 at hg;rw[hg],by unfold cut3;unfold cut1 at hg;rw[hg],rfl,by omega,by have:=encL_ge xs _ u henc;omega⟩
 obtain⟨A3,hA3⟩:∃a,a=restA A2 c2 u3:=⟨_,rfl⟩
 obtain⟨m3,hm3⟩:∃m,m=m2-u3:=⟨_,rfl⟩
 obtain⟨c3,hc3⟩:∃m,m=c2-u3:=⟨_,rfl⟩
 have hr3:rest3 l=(rest2 l).drop u3:=by unfold rest3;rw[←hu3];rfl
 have hb3:Byt (rest3 l):=by rw[hr3];exact hb2.drop _
 have hl3:Rd w w.heap.size A3 m3 (u8s (rest3 l)):=by rw[hr3];exact rd_restA hl2 hA3 hm3 hu3n (by omega)
 have hlen3:(rest3 l).length=m3:=by have:=hl3.1;simpa [u8s] using this
 obtain⟨u4,k4,e4,hu4,hk4,he4,hu4n⟩:∃(u k:Nat) (e:Int),(u:Int)=(cut4 l).2.1∧k=(cut4 l).1.length∧e=(cut4 l).2.2∧u≤m3:=by
  rcases decD_cases' (rest3 l) hb3 with ⟨_,h1,h2⟩|⟨ds,u,hg,hu,_⟩
  ·exact⟨0,0,_,by unfold cut4;rw[h2];rfl,by unfold cut4;rw[h1];rfl,rfl,Nat.zero_le _⟩
  ·exact⟨u,ds.length,_,by unfold cut4;rw[hg],by unfold cut4;rw[hg],rfl,by omega⟩
 obtain⟨A4,hA4⟩:∃a,a=restA A3 c3 u4:=⟨_,rfl⟩
 obtain⟨m4,hm4⟩:∃m,m=m3-u4:=⟨_,rfl⟩
 obtain⟨c4,hc4⟩:∃m,m=c3-u4:=⟨_,rfl⟩
 have hr4:rest4 l=(rest3 l).drop u4:=by unfold rest4;rw[←hu4];rfl
 have hb4:Byt (rest4 l):=by rw[hr4];exact hb3.drop _
 have hl4:Rd w w.heap.size A4 m4 (u8s (rest4 l)):=by rw[hr4];exact rd_restA hl3 hA4 hm4 hu4n (by omega)
 have hlen4:(rest4 l).length=m4:=by have:=hl4.1;simpa [u8s] using this
 obtain⟨s5,u5,e5,hs5,hu5,he5⟩:∃(s:ByteArray) (u:Int) (e:Int),s=(cut5 l).1∧u=(cut5 l).2.1∧e=(cut5 l).2.2:=⟨_,_,_,rfl,rfl,rfl⟩
 have HS1:Hid (u1≤n∧A1=restA A c u1∧m1=n-u1∧c1=c-u1):=hid ⟨hu1n,hA1,hm1,hc1⟩;have HS2:Hid (u2≤m1∧A2=restA A1 c1 u2∧m2=m1-u2∧c2=c1-u2):=hid ⟨hu2n,hA2,hm2,hc2⟩;have HS3:Hid (u3≤m2∧A3=restA A2 c2 u3∧m3=m2-u3∧c3=c2-u3):=hid ⟨hu3n,hA3,hm3,hc3⟩;have HS4:Hid (u4≤m3∧A4=restA A3 c3 u4∧m4=m3-u4∧c4=c3-u4):=hid ⟨hu4n,hA4,hm4,hc4⟩
 have HG1:Hid (∀W,Ext w W→Calls Tryz.prog 69 #[.slice A n c] W fun e w'=>(∃A' c',e=.returned (.tuple #[.slice A' k1 c',.int .i64 (u1:Int),.int .i64 e1])∧w'.ownsRow W.heap.size 3 1 (.slice A' k1 c') k1 ((cut1 l).1.map (Value.int .i64)))∧Ext W w'):=hid (fun W hW=>by
  have h:=gints_any l A n c W (hl.ext' hW) hby hnc hc hn;unfold cut1 at hu1 hk1 he1⊢;rw[←hu1,←hk1,←he1] at h;exact h)
 have HG2:Hid (∀W,Ext w W→Calls Tryz.prog 54 #[.slice A1 m1 c1] W fun e w'=>e=.returned (.tuple #[.int .i64 x2,.int .i64 (u2:Int),.int .i64 e2])∧W=w'):=hid (fun W hW=>by
  have h:=gint_any (rest1 l) A1 m1 c1 W (hl1.ext' hW) hb1 (by omega) (by omega)
  unfold tup3 at h;unfold cut2 at hx2 hu2 he2;rw[←hx2,←hu2,←he2] at h;exact h)
 have HG3:Hid (∀W,Ext w W→Calls Tryz.prog 69 #[.slice A2 m2 c2] W fun e w'=>(∃A' c',e=.returned (.tuple #[.slice A' k3 c',.int .i64 (u3:Int),.int .i64 e3])∧w'.ownsRow W.heap.size 3 1 (.slice A' k3 c') k3 ((cut3 l).1.map (Value.int .i64)))∧Ext W w'):=hid (fun W hW=>by
  have h:=gints_any (rest2 l) A2 m2 c2 W (hl2.ext' hW) hb2 (by omega) (by omega) (by omega)
  unfold cut3 at hu3 hk3 he3⊢;rw[←hu3,←hk3,←he3] at h;exact h)
 have HG4:Hid (∀W,Ext w W→Calls Tryz.prog 70 #[.slice A3 m3 c3] W fun e w'=>(∃A' c',e=.returned (.tuple #[.slice A' k4 c',.int .i64 (u4:Int),.int .i64 e4])∧w'.ownsRow W.heap.size 26 16 (.slice A' k4 c') k4 (celD (cut4 l).1))∧Ext W w'):=hid (fun W hW=>by
  have h:=gdigests_any (rest3 l) A3 m3 c3 W (hl3.ext' hW) hb3 (by omega) (by omega) (by omega)
  unfold cut4 at hu4 hk4 he4⊢;rw[←hu4,←hk4,←he4] at h;exact h)
 have HG5:Hid (∀W,Ext w W→Calls Tryz.prog 71 #[.slice A4 m4 c4] W fun e w'=>e=.returned (.tuple #[.string s5,.int .i64 u5,.int .i64 e5])∧W=w'):=hid (fun W hW=>by
  have h:=gbytes_any (rest4 l) A4 m4 c4 W (hl4.ext' hW) hb4 (by omega) (by omega) (by omega)
  unfold tupS at h;unfold cut5 at hs5 hu5 he5;rw[←hs5,←hu5,←he5] at h;exact h)
 have zz:∀W,(zeroValue 28).run Tryz.prog W=.ok (.agg Z0.toArray) W:=fun W=>by kernel_rfl
 unfold bad1 bad2 bad3 bad4 bad5 at hgood;rw[←he1,←hk1,←he2,←he3,←hk3,←he4,←hk4,←he5] at hgood
 have hG:e1=0∧k1=3∧e2=0∧e3=0∧k3 % 3=0∧e4=0∧k4=1∧e5=0:=by
  refine⟨?_,?_,?_,?_,?_,?_,?_,?_⟩<;>apply Classical.byContradiction<;>intro h<;>apply hgood<;>simp [h]
 obtain⟨rfl,rfl,rfl,rfl,hk33,rfl,rfl,rfl⟩:=hG;clear hgood;obtain⟨m,hm⟩:∃m,k3=3*m:=⟨k3 / 3,by omega⟩
 have hkn:k3≤1000000000000:=by omega
 obtain⟨a0,a1,a2,hx1⟩:∃a0 a1 a2,(cut1 l).1=[a0,a1,a2]:=by
  generalize (cut1 l).1=xs at hk1
  match xs,hk1 with
  | [a,b,c],_=>exact⟨_,_,_,rfl⟩
 obtain⟨d,hd4,hdl,hdb⟩:∃d,(cut4 l).1=[d]∧d.length=16∧Byt d:=by
  rcases decD_cases' (rest3 l) hb3 with ⟨h0,_⟩|⟨ds,u,hg,hu,_,h16⟩
  ·unfold cut4 at he4;exact absurd he4.symm h0
  ·have hds:(cut4 l).1=ds:=by unfold cut4;rw[hg]
   rw[hds] at hk4⊢
   match ds,hk4,h16 with
   | [d],_,h16=>exact⟨d,rfl,(h16 d (List.mem_cons_self ..)).1,(h16 d (List.mem_cons_self ..)).2⟩
 obtain⟨L3,hL3⟩:∃L,L=(cut3 l).1:=⟨_,rfl⟩
 have HREV:Hid (revAt l=⟨a0,a1,a2,x2==1,ridsOf L3,d,s5⟩):=hid (by
  unfold revAt;rw[hx1,hd4,←hL3,←hx2,←hs5];rfl)
 rw[hx1] at HG1;rw[hd4] at HG4;rw[←hL3] at HG3 hk3;have HL3:Hid (L3.length=k3):=hid hk3.symm;have HM:=hid hm;have HDL:=hid hdl;have HDB:=hid hdb;have hrem:(k3:Int).tmod 3=0:=by rw[Int.tmod_eq_emod_of_nonneg (by omega)];omega
 have hrem2:(k3:Int) % 3=0:=by omega
 have HCH:Hid (∀(B:Option Addr) (dd:Nat) (W:World),Calls Tryz.prog 72 #[.slice B k3 dd,.int .i64 3] W fun e w'=>e=.returned (.func (.func 118) #[] #[.pointer (some ⟨W.heap.size,0,none⟩),.pointer (some ⟨W.heap.size+1,0,none⟩)])∧w'=(W.alloc (.cells #[.slice B k3 dd] 22)).alloc (.cells #[.int .i64 3] 3)):=hid (fun B dd W=>chunk_any B k3 dd 3 (by decide) W)
 clear hl hl1 hl2 hl3 hl4 hA1 hA2 hA3 hA4 hm1 hm2 hm3 hm4 hc1 hc2 hc3 hc4 hr1 hr2 hr3 hr4 hb1 hb2 hb3 hb4 hlen hlen1 hlen2 hlen3 hlen4 hu1n hu2n hu3n hu4n hk1n hk3n hu1 hu2 hu3 hu4 hu5 hs5 hx2 hn hnc hc;clear hk1 hk3 he1 he2 he3 he4 he5 hk4 hx1 hd4 hL3 hk33 hdl hdb hm;refine callsIn_wide.1 (callsIn_of_wp_marks (n:=8) Tryz.func32 rfl trivial (wpIn_wide.2 ?_) rfl)
 simp only[Tryz.ntmps32,List.size_toArray,List.length_cons,List.length_nil,Nat.reduceAdd,Nat.reduceSub,Array.replicate_succ,Array.replicate_zero,List.push_toArray,List.append_toArray,List.nil_append,List.cons_append]
 go_upto_region 2 with fail
 obtain⟨w1,hw1⟩:∃x,x=(w.alloc (.cells Z0.toArray 28)).alloc (.cells Z0.toArray 28):=⟨_,rfl⟩
 change Code.wp _ _ _ _ ((w.alloc (.cells Z0.toArray 28)).alloc (.cells Z0.toArray 28))
 rw[←hw1];have EX:Hid (Ext w w1):=hid (by rw[hw1];exact ((Ext.refl w).alloc _).alloc _)
 have BZ:Hid (Blk w1 w.heap.size 28 Z0):=hid (by rw[hw1];exact (Blk.fresh' _ _ _ _ _ rfl rfl).alloc _)
 have BR:Hid (Blk w1 (w.heap.size+1) 28 Z0):=hid (by rw[hw1];exact Blk.fresh' _ _ _ _ _ rfl (by simp))
 clear hw1
 go_upto_region 20 with (first
   | (go_at_call 69;(with_reducible refine (HG1.out _ EX.out).mono ?_);rintro e w2 ⟨⟨B1,d1,rfl,ho1⟩,hE2⟩;have O1:=hid ho1;have BZ:=hid (BZ.out.ext hE2);have BR:=hid (BR.out.ext hE2);have EX:=hid (EX.out.next hE2);clear hE2;clear ho1)
   | (go_at_call 69;(with_reducible refine (HG3.out _ EX.out).mono ?_);rintro e w3 ⟨⟨B3,d3,rfl,ho3⟩,hE3⟩;have O3:=hid ho3;have EX3:=hid hE3;have HLT3:=hid BR.out.lt;have BZ:=hid (BZ.out.ext hE3);have BR:=hid (BR.out.ext hE3);have EX:=hid (EX.out.next hE3);clear hE3;clear ho3)
   | (go_at_call 54;(with_reducible refine (HG2.out _ EX.out).mono ?_);rintro e w7 ⟨rfl,rfl⟩)
   | (go_at_call 70;(with_reducible refine (HG4.out _ EX.out).mono ?_);rintro e w4 ⟨⟨B4,d4,rfl,ho4⟩,hE4⟩;have O4:=hid ho4;have EX4:=hid hE4;have BZ:=hid (BZ.out.ext hE4);have BR:=hid (BR.out.ext hE4);have EX:=hid (EX.out.next hE4);clear hE4;clear ho4)
   | (go_at_call 71;(with_reducible refine (HG5.out _ EX.out).mono ?_);rintro e w7 ⟨rfl,rfl⟩)
   | ((with_reducible refine wpList_slice_rest rfl 23 (.tmp 28) (.tmp 29) rfl elem_u8 elem_sz ?_ ?_ HS1.out.1 HS1.out.2.1 HS1.out.2.2.1 HS1.out.2.2.2 ?_);kernel_rfl;kernel_rfl)
   | ((with_reducible refine wpList_slice_rest rfl 23 (.tmp 40) (.tmp 41) rfl elem_u8 elem_sz ?_ ?_ HS2.out.1 HS2.out.2.1 HS2.out.2.2.1 HS2.out.2.2.2 ?_);kernel_rfl;kernel_rfl)
   | ((with_reducible refine wpList_slice_rest rfl 23 (.tmp 58) (.tmp 59) rfl elem_u8 elem_sz ?_ ?_ HS3.out.1 HS3.out.2.1 HS3.out.2.2.1 HS3.out.2.2.2 ?_);kernel_rfl;kernel_rfl)
   | ((with_reducible refine wpList_slice_rest rfl 23 (.tmp 76) (.tmp 77) rfl elem_u8 elem_sz ?_ ?_ HS4.out.1 HS4.out.2.1 HS4.out.2.2.1 HS4.out.2.2.2 ?_);kernel_rfl;kernel_rfl))
 obtain⟨g1,rfl,hg1a,hg1,hg1c⟩:=own_at O1.out (by decide)
 obtain⟨g4,rfl,hg4a,hg4,hg4c⟩:=own_at O4.out (by decide)
 have C10:Hid (∀W,Ext w4 W→W.cell? ⟨g1,0,none⟩=some (.int .i64 a0)):=hid (fun W hW=>((Below.next' EX4.out EX3.out hW).cell (p:=⟨g1,0,none⟩) hg1).trans (hg1c 0 _ rfl))
 have C11:Hid (∀W,Ext w4 W→W.cell? ⟨g1,1,none⟩=some (.int .i64 a1)):=hid (fun W hW=>((Below.next' EX4.out EX3.out hW).cell (p:=⟨g1,1,none⟩) hg1).trans (hg1c 1 _ rfl))
 have C12:Hid (∀W,Ext w4 W→W.cell? ⟨g1,2,none⟩=some (.int .i64 a2)):=hid (fun W hW=>((Below.next' EX4.out EX3.out hW).cell (p:=⟨g1,2,none⟩) hg1).trans (hg1c 2 _ rfl))
 have C4:Hid (∀W,Ext w4 W→W.rangeAt g4 0 (u8s d)):=hid (fun W hW j u hu=>by
  rw[Nat.zero_add];refine (hW.cell (p:=⟨g4,j,none⟩) hg4).trans (hg4c j u ?_)
  rw[←hu];simp [celD])
 clear hg1c hg4c hg1 hg4 hg1a hg4a
 refine wp_region_flowG 16 ?FW1 (fun us=>?_) (by kernel_rfl) (by kernel_rfl) (fun a b=>Ext a b) Ext.refl (fun h1 h2=>h1.next h2) (fun i v W=>match i with
  | 0=>v=.slice (some ⟨g1,0,none⟩) 3 d1
  | 1=>v=.pointer (some ⟨g1,0,none⟩)
  | 2=>v=.int .i64 a0
  | 3=>v=.slice (some ⟨g1,0,none⟩) 3 d1
  | 4=>v=.pointer (some ⟨g1,1,none⟩)
  | 5=>v=.int .i64 a1
  | 6=>v=.slice (some ⟨g1,0,none⟩) 3 d1
  | 7=>v=.pointer (some ⟨g1,2,none⟩)
  | 8=>v=.int .i64 a2
  | 9=>v=.int .i64 x2
  | 10=>v=.bool (x2==1)
  | 11=>v=.slice (some ⟨g4,0,none⟩) 1 d4
  | 12=>v=.pointer (some ⟨g4,0,none⟩)
  | 13=>v=.agg (u8s d).toArray
  | 14=>v=.string s5
  | 15=>v=.agg (revC ⟨a0,a1,a2,x2==1,[],d,s5⟩ none 0 0).toArray
  | _=>True) ?_ ?_
 case refine_1 =>
  simp only[List.take_succ_cons,List.take_zero,flowAct,Nat.zero_add,Nat.reduceAdd,Act.put,List.setIfInBounds_toArray,List.set_cons_succ,List.set_cons_zero]
  rfl
 ·simp only[List.take_succ_cons,List.take_zero,flowStepsG]
  refine⟨?_,?_,?_,?_,?_,?_,?_,?_,?_,?_,?_,?_,?_,?_,?_,?_,trivial⟩
  ·intro us W K HE hd HK
   dsimp only at HK⊢;clear hd;go_wp2_with fail
   exact K_at (Kz HK) (by kernel_rfl)
  ·intro us W K HE hd HK
   have d0:=hd 0 (by kernel_rfl)
   dsimp only at HK⊢;rw[d0] at HK⊢;clear hd d0;go_wp2_with fail
   exact K_at (Kz HK) (by kernel_rfl)
  ·intro us W K HE hd HK
   have d1:=hd 1 (by kernel_rfl)
   have xk:W.cell? ⟨g1,0,none⟩=some (.int .i64 a0):=C10.out W (sg_undrew HE.out)
   dsimp only at HK⊢;rw[d1] at HK⊢;clear hd d1;go_wp2_with fail
   exact K_at (Kz HK) (by kernel_rfl)
  ·intro us W K HE hd HK
   dsimp only at HK⊢;clear hd;go_wp2_with fail
   exact K_at (Kz HK) (by kernel_rfl)
  ·intro us W K HE hd HK
   have d3:=hd 3 (by kernel_rfl)
   dsimp only at HK⊢;rw[d3] at HK⊢;clear hd d3;go_wp2_with fail
   exact K_at (Kz HK) (by kernel_rfl)
  ·intro us W K HE hd HK
   have d4:=hd 4 (by kernel_rfl)
   have xk:W.cell? ⟨g1,1,none⟩=some (.int .i64 a1):=C11.out W (sg_undrew HE.out)
   dsimp only at HK⊢;rw[d4] at HK⊢;clear hd d4;go_wp2_with fail
   exact K_at (Kz HK) (by kernel_rfl)
  ·intro us W K HE hd HK
   dsimp only at HK⊢;clear hd;go_wp2_with fail
   exact K_at (Kz HK) (by kernel_rfl)
  ·intro us W K HE hd HK
   have d6:=hd 6 (by kernel_rfl)
   dsimp only at HK⊢;rw[d6] at HK⊢;clear hd d6;go_wp2_with fail
   exact K_at (Kz HK) (by kernel_rfl)
  ·intro us W K HE hd HK
   have d7:=hd 7 (by kernel_rfl)
   have xk:W.cell? ⟨g1,2,none⟩=some (.int .i64 a2):=C12.out W (sg_undrew HE.out)
   dsimp only at HK⊢;rw[d7] at HK⊢;clear hd d7;go_wp2_with fail
   exact K_at (Kz HK) (by kernel_rfl)
  ·intro us W K HE hd HK
   dsimp only at HK⊢;clear hd;go_wp2_with fail
   exact K_at (Kz HK) (by kernel_rfl)
  ·intro us W K HE hd HK
   have d9:=hd 9 (by kernel_rfl)
   dsimp only at HK⊢;rw[d9] at HK⊢;clear hd d9;go_wp2_with fail
   exact K_at (Kz HK) (by kernel_rfl)
  ·intro us W K HE hd HK
   dsimp only at HK⊢;clear hd;go_wp2_with fail
   exact K_at (Kz HK) (by kernel_rfl)
  ·intro us W K HE hd HK
   have d11:=hd 11 (by kernel_rfl)
   dsimp only at HK⊢;rw[d11] at HK⊢;clear hd d11;go_wp2_with fail
   exact K_at (Kz HK) (by kernel_rfl)
  ·intro us W K HE hd HK
   have d12:=hd 12 (by kernel_rfl)
   have HPW:=hid (C4.out W (sg_undrew HE.out));dsimp only at HK⊢;rw[d12] at HK⊢;clear hd d12;go_wp2_with ((refine wpList_midw (by rfl) 26 (.tmp 98) rfl g4 0 rfl (u8s d) HPW.out Tryz.underlying26 rfl (info_dig.trans (congrArg some (by simp only[u8s,List.length_map,HDL.out]))) ?_))
   exact K_at (Kz HK) (by kernel_rfl)
  ·intro us W K HE hd HK
   dsimp only at HK⊢;clear hd;go_wp2_with fail
   exact K_at (Kz HK) (by kernel_rfl)
  ·intro us W K HE hd HK
   have d2:=hd 2 (by kernel_rfl)
   have d5:=hd 5 (by kernel_rfl)
   have d8:=hd 8 (by kernel_rfl)
   have d10:=hd 10 (by kernel_rfl)
   have d13:=hd 13 (by kernel_rfl)
   have d14:=hd 14 (by kernel_rfl)
   dsimp only at HK⊢;rw[d2,d5,d8,d10,d13,d14] at HK⊢;clear hd d2 d5 d8 d10 d13 d14;go_wp2_with ((refine wpList_build_eq (by rfl) 28 _ rfl _ (by kernel_rfl) _ (build_rev a0 a1 a2 (x2==1) d s5 HDL.out) ?_))
   exact K_at (Kz HK) (by kernel_rfl)
 ·intro us W hE hd
  try dsimp only
  have d15:=hd 15 (by decide)
  simp only[List.drop_succ_cons,List.drop_zero]
  rw[d15];have EW:=hid (sg_undrew hE);have BR2:=hid (BR.out.ext EW.out);have HRL:Hid ((revC ⟨a0,a1,a2,x2==1,[],d,s5⟩ none 0 0).length=22):=hid (revC_len ⟨a0,a1,a2,x2==1,[],d,s5⟩ none 0 0 HDL.out);clear hd hE d15;go_wp2_with (first|((refine wpList_store_blk rfl 28 (.tmp 4) (.tmp 101) rfl (w.heap.size+1) (revC ⟨a0,a1,a2,x2==1,[],d,s5⟩ none 0 0) (by kernel_rfl) (by kernel_rfl) BR2.out (info_rev.trans (congrArg some HRL.out.symm)) (Eq.trans (b:=22) rfl HRL.out.symm) (revC_one ⟨a0,a1,a2,x2==1,[],d,s5⟩ none 0 0) ?_;intro w5 hw5 hb5;have B5:=hid hb5;have E5:Hid (Kept (fun b=>b=w.heap.size+1) w4 w5):=hid ((Kept.of_ext EW.out).trans (by rw[hw5.out];exact Kept.setRow (F:=fun b=>b=w.heap.size+1) _ rfl _));clear hb5 hw5))|(go_at_call 72;(with_reducible refine (HCH.out _ _ _).mono ?_);rintro e w7 ⟨rfl,rfl⟩))
  obtain⟨w6,hw6⟩:∃x,x=((w5.alloc (.cells #[.slice B3 k3 d3] 22)).alloc (.cells #[.int .i64 3] 3)):=⟨_,rfl⟩
  change Code.wp _ _ _ _ ((w5.alloc (.cells #[.slice B3 k3 d3] 22)).alloc (.cells #[.int .i64 3] 3))
  rw[←hw6];have HB6:Hid (Blk w6 (w.heap.size+1) 28 (revC ⟨a0,a1,a2,x2==1,[],d,s5⟩ none 0 0)):=hid (by rw[hw6];exact (B5.out.alloc _).alloc _)
  have HSZ:w6.heap.size=w5.heap.size+2:=by rw[hw6];simp
  have HBs:w6.cell? ⟨w5.heap.size,0,none⟩=some (.slice B3 k3 d3):=by rw[hw6];exact ((Blk.fresh' w5 22 [.slice B3 k3 d3] _ _ rfl rfl).alloc _).cell 0
  have HBn:w6.cell? ⟨w5.heap.size+1,0,none⟩=some (.int .i64 3):=by rw[hw6];exact (Blk.fresh' _ 3 [.int .i64 3] _ _ rfl (by simp)).cell 0
  have E6:Hid (Kept (fun b=>b=w.heap.size+1) w4 w6):=hid (by rw[hw6];exact E5.out.trans (Kept.of_ext (((Ext.refl w5).alloc _).alloc _)))
  have HW4:Hid (w.heap.size+1<w4.heap.size):=hid BR.out.lt;clear hw6
  obtain⟨b3,o3,hB3,hc3⟩:∃b o,(0<k3→B3=some ⟨b,o,none⟩∧w.heap.size+1<b∧b<w6.heap.size)∧∀j x,L3[j]?=some x→w6.cell? ⟨b,o+j,none⟩=some (.int .i64 x):=by
   rcases Nat.eq_zero_or_pos k3 with h0|h0
   ·exact⟨0,0,fun h=>by omega,fun j x hx=>by rw[List.eq_nil_of_length_eq_zero (HL3.out.trans h0)] at hx;cases hx⟩
   ·obtain⟨b,o,hA,hb,hcc⟩:=(rdn_own O3.out).2 h0
    have hfar:=own_far O3.out hA;have h3:=HLT3.out;have hne:¬b=w.heap.size+1:=by dsimp only at hfar;omega
    have hb4:b<w4.heap.size:=Nat.lt_of_lt_of_le hb EX4.out.size;refine⟨b,o,fun _=>⟨hA,by dsimp only at hfar;omega,Nat.lt_of_lt_of_le hb4 E6.out.size⟩,fun j x hx=>?_⟩
    refine (E6.out.cell (p:=⟨b,o+j,none⟩) hb4 hne).trans ((EX4.out.cell (p:=⟨b,o+j,none⟩) hb).trans (hcc j _ ?_))
    rw[List.getElem?_map,hx];rfl
  have hcap3:=slice_cap O3.out;have hcap3b:d3≤9223372036854775807:=by have h:=hcap3.2;unfold maxLen at h;omega
  have HGS:Hid (w.heap.size+1<w5.heap.size):=hid B5.out.lt;have HC3:=hid hc3;have HB3:=hid hB3;refine (wpIn_wide (n:=6)).1 ?_
  refine wpIn_rangeFunc_ownF (α:=Bel m) rfl (by decide) (gf:=118) (lb:=#[.pointer (some ⟨w5.heap.size,0,none⟩),.pointer (some ⟨w5.heap.size+1,0,none⟩)]) rfl trivial (enters_of Tryz.func118 (by kernel_rfl) rfl)
   (chunk1_stops w5.heap.size (w5.heap.size+1) k3 d3 3 m B3 (by decide) HM.out hcap3.1 hcap3b w6 (by omega) (by omega) HBs HBn b3 o3 (fun h=>(hB3 h).1)) (fun h k=>KpB.trans h k) (fun W l ob ob' hl _ _ _=>⟨World.cell?_of_block (World.putObj_heap_other (by show w5.heap.size≠l;omega)),World.cell?_of_block (World.putObj_heap_other (by show w5.heap.size+1≠l;omega))⟩) (Below.refl _ _) (fun _=>rfl)
   (fun pre W=>∃A' c',W.ownsRow w6.heap.size 68 3 (.slice A' pre.length c') pre.length (idsC (pre.map fun x=>ridAt L3 x.1))∧Blk W (w.heap.size+1) 28 (revC ⟨a0,a1,a2,x2==1,pre.map fun x=>ridAt L3 x.1,d,s5⟩ A' pre.length c')∧Kept (fun b=>b=w.heap.size+1) w6 W)
   (fun _ _ _=>False) ?hI (fun _ _ _ _ _ hs _ _=>hs) ⟨none,0,World.ownsRow_nil _ _ _ _,HB6.out,Kept.refl _ _⟩
   (fun x=>{ tmps:=#[.slice A3 m3 c3,undef,.pointer (some ⟨w.heap.size,0,none⟩),.bool false,.pointer (some ⟨w.heap.size+1,0,none⟩),.slice (some ⟨g1,0,none⟩) 3 d1,.int IntKind.i64 (u4:Int),.int IntKind.i64 0,.int IntKind.i64 x2,.slice B3 k3 d3,.slice (some ⟨g4,0,none⟩) 1 d4,.string s5,.int IntKind.i64 u5,.slice (some ⟨b3,o3+3*x.1,none⟩) 3 3,.tuple #[.slice (some ⟨g1,0,none⟩) 3 d1,.int IntKind.i64 (u1:Int),.int IntKind.i64 0],.slice A n c,.tuple #[.slice (some ⟨g1,0,none⟩) 3 d1,.int IntKind.i64 (u1:Int),.int IntKind.i64 0],.slice (some ⟨g1,0,none⟩) 3 d1,.int IntKind.i64 (u1:Int),.int IntKind.i64 0,.int IntKind.i64 0,.bool false,.bool false,.slice (some ⟨g1,0,none⟩) 3 d1,.int IntKind.i64 3,.bool false,.bool false,undef,.slice A n c,.int IntKind.i64 (u1:Int),.slice A1 m1 c1,.tuple #[.int IntKind.i64 x2,.int IntKind.i64 (u2:Int),.int IntKind.i64 0],.slice A1 m1 c1,.tuple #[.int IntKind.i64 x2,.int IntKind.i64 (u2:Int),.int IntKind.i64 0],.int IntKind.i64 x2,.int IntKind.i64 (u2:Int),.int IntKind.i64 0,.int IntKind.i64 0,.bool false,undef,.slice A1 m1 c1,.int IntKind.i64 (u2:Int),.slice A2 m2 c2,.tuple #[.slice B3 k3 d3,.int IntKind.i64 (u3:Int),.int IntKind.i64 0],.slice A2 m2 c2,.tuple #[.slice B3 k3 d3,.int IntKind.i64 (u3:Int),.int IntKind.i64 0],.slice B3 k3 d3,.int IntKind.i64 (u3:Int),.int IntKind.i64 0,.int IntKind.i64 0,.bool false,.bool false,.slice B3 k3 d3,.int IntKind.i64 (k3:Int),.int IntKind.i64 0,.bool false,.bool false,undef,.slice A2 m2 c2,.int IntKind.i64 (u3:Int),.slice A3 m3 c3,.tuple #[.slice (some ⟨g4,0,none⟩) 1 d4,.int IntKind.i64 (u4:Int),.int IntKind.i64 0],.slice A3 m3 c3,.tuple #[.slice (some ⟨g4,0,none⟩) 1 d4,.int IntKind.i64 (u4:Int),.int IntKind.i64 0],.slice (some ⟨g4,0,none⟩) 1 d4,.int IntKind.i64 (u4:Int),.int IntKind.i64 0,.int IntKind.i64 0,.bool false,.bool false,.slice (some ⟨g4,0,none⟩) 1 d4,.int IntKind.i64 1,.bool false,.bool false,undef,.tuple #[.string s5,.int IntKind.i64 u5,.int IntKind.i64 0],.slice A3 m3 c3,.int IntKind.i64 (u4:Int),.slice A4 m4 c4,.tuple #[.string s5,.int IntKind.i64 u5,.int IntKind.i64 0],.string s5,.int IntKind.i64 u5,.int IntKind.i64 0,.int IntKind.i64 0,.bool false,undef,(us 0),(us 1),(us 2),(us 3),(us 4),(us 5),(us 6),(us 7),(us 8),(us 9),(us 10),(us 11),(us 12),(us 13),(us 14),.agg (revC ⟨a0,a1,a2,x2==1,[],d,s5⟩ none 0 0).toArray,.slice B3 k3 d3,.func (.func 118) #[] #[.pointer (some ⟨w5.heap.size,0,none⟩),.pointer (some ⟨w5.heap.size+1,0,none⟩)],.slice (some ⟨b3,o3+3*x.1,none⟩) 3 3,undef,undef,undef,undef,undef,undef,undef,undef,undef,undef,undef,undef,undef,undef,undef,undef],defers:=[] }) ?assign ?body ?done ?stop
  case hI =>
   rintro pre W W' row ⟨A',c',h1,h2,h3⟩ hg hr
   have hk:Kept (fun b=>row=some b) W W':=Kept.of_grown hg (fun b hb _=>hb)
   refine⟨A',c',hk.own h1 (fun b hb hrow=>?_),hk.blk h2 (fun hrow=>?_),h3.next hk (fun b hb he=>?_)⟩
   ·obtain⟨_,o,ho,hoc⟩:=hr b hrow
    rcases h1.2 with ⟨hv,_⟩|⟨g,cap,cur,hv,_,hh,_⟩
    ·rw[hv] at hb;cases hb
    ·rw[hv] at hb
     have:g=b:=by simpa [Value.ownBlock] using hb
     subst this;rw[hh] at ho;cases ho;cases hoc
   ·obtain⟨_,o,ho,hoc⟩:=hr _ hrow
    have h2':=h2;unfold Blk at h2';rw[h2'] at ho;cases ho;cases hoc
   ·have:=(hr b he).1;omega
  case assign =>
   intro l x W K hK
   gi_wp2
   exact K_at hK (by kernel_rfl)
  case body =>
   rintro l0 pre x W0 ⟨A',c',h1,h2,h3⟩ hlt
   obtain⟨i0,hi,hz0,hz1,hz2⟩:=info_parts id_info;obtain⟨k,hk⟩:∃k,k=pre.length:=⟨_,rfl⟩
   obtain⟨P,hP⟩:∃P,P=pre.map fun x=>ridAt L3 x.1:=⟨_,rfl⟩
   rw[←hk,←hP] at h1 h2;obtain⟨t,htm⟩:=x;obtain⟨y0,hy0⟩:∃y,y=L3.getD (3*t) 0:=⟨_,rfl⟩
   obtain⟨y1,hy1⟩:∃y,y=L3.getD (3*t+1) 0:=⟨_,rfl⟩
   obtain⟨y2,hy2⟩:∃y,y=L3.getD (3*t+2) 0:=⟨_,rfl⟩
   have hk30:0<k3:=by have:=HM.out;omega
   have hkm:k≤1000000000000:=by have:=HM.out;omega
   have HBL:Hid (w5.heap.size<w6.heap.size∧w5.heap.size+1<w6.heap.size):=hid ⟨by omega,by omega⟩
   have HGL:Hid (w.heap.size+1<w6.heap.size):=hid (by have:=HGS.out;omega)
   have HGL5:=HGS;have HO0:=hid h1;have HB0:=hid h2;have HK0:=hid h3
   have HY:Hid (∀W,Ext W0 W→∀j y,[y0,y1,y2][j]?=some y→W.cell? ⟨b3,o3+3*t+j,none⟩=some (.int .i64 y)):=hid (fun W hW j y hy=>by
    have hB:=HB3.out hk30;have hne:¬b3=w.heap.size+1:=by omega
    refine (hW.cell (p:=⟨b3,o3+3*t+j,none⟩) (Nat.lt_of_lt_of_le hB.2.2 h3.size)).trans ((h3.cell (p:=⟨b3,o3+3*t+j,none⟩) hB.2.2 hne).trans ?_)
    rw[Nat.add_assoc];refine HC3.out (3*t+j) y ?_
    have hlen:=HL3.out;have hj:j<3:=by have:=(List.getElem?_eq_some_iff.1 hy).1;simpa using this
    have hjl:3*t+j<L3.length:=by have:=HM.out;omega
    rw[List.getElem?_eq_getElem hjl]
    rcases (show j=0∨j=1∨j=2 by omega) with rfl|rfl|rfl
    ·simp only[List.getElem?_cons_zero,Option.some.injEq] at hy;rw[←hy,hy0,List.getD_eq_getElem?_getD,List.getElem?_eq_getElem (by omega)];rfl
    ·simp only[List.getElem?_cons_succ,List.getElem?_cons_zero,Option.some.injEq] at hy;rw[←hy,hy1,List.getD_eq_getElem?_getD,List.getElem?_eq_getElem (by omega)];rfl
    ·simp only[List.getElem?_cons_succ,List.getElem?_cons_zero,Option.some.injEq] at hy;rw[←hy,hy2,List.getD_eq_getElem?_getD,List.getElem?_eq_getElem (by omega)];rfl)
   have HKL:Hid (pre.length=k):=hid hk.symm;have HP:Hid (((pre.map fun x=>ridAt L3 x.1)++([⟨t,htm⟩]:List (Bel m)).map fun x=>ridAt L3 x.1)=P++[⟨y0,y1,y2⟩]):=hid (by rw[←hP,hy0,hy1,hy2];rfl)
   clear h1 h2 h3 hk hP hy0 hy1 hy2 HBs HBn hc3 hB3 hrem hrem2 zz hcap3 hcap3b HSZ hk30;refine wpIn_block ?_
   refine wpIn_region_flowF l0 _ (by kernel_rfl) (by rintro ⟨_,_,h⟩;exact h) 13 ?FW2 (fun us=>?_) (by kernel_rfl) (by kernel_rfl) (fun a b=>Ext a b) Ext.refl (fun h1 h2=>h1.next h2) (fun i v W=>match i with
    | 0=>v=.pointer (some ⟨w.heap.size+1,4,none⟩)
    | 1=>v=.slice A' k c'
    | 2=>v=.slice (some ⟨b3,o3+3*t,none⟩) 3 3
    | 3=>v=.pointer (some ⟨b3,o3+3*t,none⟩)
    | 4=>v=.int .i64 y0
    | 5=>v=.slice (some ⟨b3,o3+3*t,none⟩) 3 3
    | 6=>v=.pointer (some ⟨b3,o3+3*t+1,none⟩)
    | 7=>v=.int .i64 y1
    | 8=>v=.slice (some ⟨b3,o3+3*t,none⟩) 3 3
    | 9=>v=.pointer (some ⟨b3,o3+3*t+2,none⟩)
    | 10=>v=.int .i64 y2
    | 11=>v=.agg #[.int .i64 y0,.int .i64 y1,.int .i64 y2]
    | 12=>∃g7,v=.slice (some ⟨g7,0,none⟩) 1 1∧Blk W g7 68 [.int .i64 y0,.int .i64 y1,.int .i64 y2]
    | _=>True) ?_ ?_
   case refine_1 =>
    simp only[List.take_succ_cons,List.take_zero,flowAct,Nat.zero_add,Nat.reduceAdd,Act.put,List.setIfInBounds_toArray,List.set_cons_succ,List.set_cons_zero]
    rfl
   ·simp only[List.take_succ_cons,List.take_zero,flowStepsF]
    refine⟨?_,?_,?_,?_,?_,?_,?_,?_,?_,?_,?_,?_,?_,trivial⟩
    ·intro us W K hE hd hK
     dsimp only at hK⊢;have HK:=hid hK;have HE:=hid hE;clear hK hd hE;go_wp2_with fail
     exact K_at (HK.out (.pointer (some ⟨w.heap.size+1,4,none⟩)) W (fun _ _=>rfl) (Ext.refl W)) (by kernel_rfl)
    ·intro us W K hE hd hK
     have d0:=hd 0 (by kernel_rfl)
     have xk:W.cell? ⟨w.heap.size+1,4,none⟩=some (.slice A' k c'):=(HB0.out.ext (sg_undrew hE)).cell 4
     dsimp only at hK⊢;rw[d0] at hK⊢;have HK:=hid hK;have HE:=hid hE;clear hK hd hE d0;go_wp2_with fail
     exact K_at (HK.out (.slice A' k c') W (fun _ _=>rfl) (Ext.refl W)) (by kernel_rfl)
    ·intro us W K hE hd hK
     dsimp only at hK⊢;have HK:=hid hK;have HE:=hid hE;clear hK hd hE;go_wp2_with fail
     exact K_at (HK.out (.slice (some ⟨b3,o3+3*t,none⟩) 3 3) W (fun _ _=>rfl) (Ext.refl W)) (by kernel_rfl)
    ·intro us W K hE hd hK
     have d2:=hd 2 (by kernel_rfl)
     dsimp only at hK⊢;rw[d2] at hK⊢;have HK:=hid hK;have HE:=hid hE;clear hK hd hE d2;go_wp2_with fail
     exact K_at (HK.out (.pointer (some ⟨b3,o3+3*t,none⟩)) W (fun _ _=>rfl) (Ext.refl W)) (by kernel_rfl)
    ·intro us W K hE hd hK
     have d3:=hd 3 (by kernel_rfl)
     have xk:W.cell? ⟨b3,o3+3*t,none⟩=some (.int .i64 y0):=HY.out W (sg_undrew hE) 0 y0 rfl
     dsimp only at hK⊢;rw[d3] at hK⊢;have HK:=hid hK;have HE:=hid hE;clear hK hd hE d3;go_wp2_with fail
     exact K_at (HK.out (.int .i64 y0) W (fun _ _=>rfl) (Ext.refl W)) (by kernel_rfl)
    ·intro us W K hE hd hK
     dsimp only at hK⊢;have HK:=hid hK;have HE:=hid hE;clear hK hd hE;go_wp2_with fail
     exact K_at (HK.out (.slice (some ⟨b3,o3+3*t,none⟩) 3 3) W (fun _ _=>rfl) (Ext.refl W)) (by kernel_rfl)
    ·intro us W K hE hd hK
     have d5:=hd 5 (by kernel_rfl)
     dsimp only at hK⊢;rw[d5] at hK⊢;have HK:=hid hK;have HE:=hid hE;clear hK hd hE d5;go_wp2_with fail
     exact K_at (HK.out (.pointer (some ⟨b3,o3+3*t+1,none⟩)) W (fun _ _=>rfl) (Ext.refl W)) (by kernel_rfl)
    ·intro us W K hE hd hK
     have d6:=hd 6 (by kernel_rfl)
     have xk:W.cell? ⟨b3,o3+3*t+1,none⟩=some (.int .i64 y1):=HY.out W (sg_undrew hE) 1 y1 rfl
     dsimp only at hK⊢;rw[d6] at hK⊢;have HK:=hid hK;have HE:=hid hE;clear hK hd hE d6;go_wp2_with fail
     exact K_at (HK.out (.int .i64 y1) W (fun _ _=>rfl) (Ext.refl W)) (by kernel_rfl)
    ·intro us W K hE hd hK
     dsimp only at hK⊢;have HK:=hid hK;have HE:=hid hE;clear hK hd hE;go_wp2_with fail
     exact K_at (HK.out (.slice (some ⟨b3,o3+3*t,none⟩) 3 3) W (fun _ _=>rfl) (Ext.refl W)) (by kernel_rfl)
    ·intro us W K hE hd hK
     have d8:=hd 8 (by kernel_rfl)
     dsimp only at hK⊢;rw[d8] at hK⊢;have HK:=hid hK;have HE:=hid hE;clear hK hd hE d8;go_wp2_with fail
     exact K_at (HK.out (.pointer (some ⟨b3,o3+3*t+2,none⟩)) W (fun _ _=>rfl) (Ext.refl W)) (by kernel_rfl)
    ·intro us W K hE hd hK
     have d9:=hd 9 (by kernel_rfl)
     have xk:W.cell? ⟨b3,o3+3*t+2,none⟩=some (.int .i64 y2):=HY.out W (sg_undrew hE) 2 y2 rfl
     dsimp only at hK⊢;rw[d9] at hK⊢;have HK:=hid hK;have HE:=hid hE;clear hK hd hE d9;go_wp2_with fail
     exact K_at (HK.out (.int .i64 y2) W (fun _ _=>rfl) (Ext.refl W)) (by kernel_rfl)
    ·intro us W K hE hd hK
     have d4:=hd 4 (by kernel_rfl)
     have d7:=hd 7 (by kernel_rfl)
     have d10:=hd 10 (by kernel_rfl)
     dsimp only at hK⊢;rw[d4,d7,d10] at hK⊢;have HK:=hid hK;have HE:=hid hE;clear hK hd hE d4 d7 d10;go_wp2_with ((refine wpList_build_eq (by rfl) 68 _ rfl _ (by kernel_rfl) _ (build_id y0 y1 y2) ?_))
     exact K_at (HK.out (.agg #[.int .i64 y0,.int .i64 y1,.int .i64 y2]) W (fun _ _=>rfl) (Ext.refl W)) (by kernel_rfl)
    ·intro us W K hE hd hK
     have d11:=hd 11 (by kernel_rfl)
     dsimp only at hK⊢;rw[d11] at hK⊢;have HK:=hid hK;have HE:=hid hE;clear hK hd hE d11;go_wp2_with fail
     exact K_at (HK.out (.slice (some ⟨W.heap.size,0,none⟩) 1 1) (W.alloc (.cells #[.int .i64 y0,.int .i64 y1,.int .i64 y2] 68)) (fun W2 h2=>⟨_,rfl,(Blk.fresh W 68 [.int .i64 y0,.int .i64 y1,.int .i64 y2]).ext h2⟩) ((Ext.refl W).alloc _)) (by kernel_rfl)
   ·intro us W hE hd
    try dsimp only
    obtain⟨g7,d12,hb7⟩:=hd 12 (by decide)
    have d1:=hd 1 (by decide)
    simp only[List.drop_succ_cons,List.drop_zero]
    rw[d12,d1];have EW:Hid (Ext W0 W):=hid (sg_undrew hE);have HOW:Hid (W.ownsRow w6.heap.size 68 3 (.slice A' k c') k (idsC P)):=hid ((Kept.of_ext EW.out (F:=fun _=>False)).own HO0.out (fun _ _ h=>h))
    have HR7:Hid (RdN W W.heap.size 3 (some ⟨g7,0,none⟩) 1 [.int .i64 y0,.int .i64 y1,.int .i64 y2]):=hid ⟨rfl,fun _=>⟨g7,0,rfl,hb7.lt,fun j u hu=>by rw[Nat.zero_add];exact (hb7.cell j).trans hu⟩⟩
    have BRW:=hid (HB0.out.ext EW.out);have HSW:Hid (w6.heap.size≤W.heap.size):=hid (Nat.le_trans HK0.out.size EW.out.size);clear hd hE d12 d1 hb7;go_wp2_with (at_builtin;refine wpList_app rfl (.tmp 106) (.tmp 117) 24 rfl w6.heap.size 68 i0 (.agg #[.int .i64 0,.int .i64 0,.int .i64 0]) 3 24 Tryz.underlying24 hi hz0 hz1 hz2 rfl (by omega) A' k c' _ (by kernel_rfl) HOW.out W.heap.size (some ⟨g7,0,none⟩) 1 1 [.int .i64 y0,.int .i64 y1,.int .i64 y2] (by kernel_rfl) HR7.out (idC_one ⟨y0,y1,y2⟩) (by simp only[maxLen];omega) (by omega) HSW.out ?_;intro A5 c5 w8 ho5 hg5;have HO5:=hid ho5;have HG5:=hid hg5;have BP5:Hid (Blk w8 (w.heap.size+1) 28 (revC ⟨a0,a1,a2,x2==1,P,d,s5⟩ A' k c')):=hid (BRW.out.grown hg5 (fun e=>by have h1:=own_geq HOW.out e.symm;have h2:=HGL.out;omega));have f5:=BP5.out.frozen 4;have c5c:w8.cell? ⟨w.heap.size+1,4,none⟩=some (.slice A' k c'):=BP5.out.cell 4;clear ho5 hg5)
    have hc5:=slice_cap HO5.out;unfold maxLen at hc5;have HF5:Hid (Kept (fun b=>b=w.heap.size+1∨(Value.slice A' k c').ownBlock=some b) W0 (w8.setCell ⟨w.heap.size+1,4,none⟩ (.slice A5 (k+1) c5))):=hid (((Kept.of_ext EW.out).trans (Kept.of_grown HG5.out (fun b hb _=>Or.inr hb))).trans (Kept.setCell _ (Or.inl rfl) _))
    refine⟨⟨HF5.out.size,fun j ob hj hob=>(HF5.out.block j (Array.getElem?_eq_some_iff.1 hj).1 ?_).trans hj⟩,⟨HF5.out.cell (p:=⟨w5.heap.size,0,none⟩) (Nat.lt_of_lt_of_le HBL.out.1 HK0.out.size) ?_,HF5.out.cell (p:=⟨w5.heap.size+1,0,none⟩) (Nat.lt_of_lt_of_le HBL.out.2 HK0.out.size) ?_⟩,⟨A5,c5,?_,?_,?_⟩⟩
    ·rintro (rfl|hb)
     ·have h:=HB0.out;unfold Blk at h;rw[h] at hj;cases hj;cases hob
     ·rcases HO0.out.2 with ⟨hv,_⟩|⟨g,cap,cur,hv,_,hh,_⟩
      ·rw[hv] at hb;cases hb
      ·rw[hv] at hb
       have:g=j:=by simpa [Value.ownBlock] using hb
       subst this;rw[hh] at hj;cases hj;cases hob
    ·rintro (h|h)
     ·have h2:=HGL5.out;dsimp only at h;omega
     ·have h1:=own_geq HO0.out h;have h2:=HBL.out.1;dsimp only at h1;omega
    ·rintro (h|h)
     ·have h2:=HGL5.out;dsimp only at h;omega
     ·have h1:=own_geq HO0.out h;have h2:=HBL.out.2;dsimp only at h1;omega
    ·rw[List.length_append,List.length_singleton,List.map_append,HP.out,HKL.out,idsC_app]
     exact (Kept.setCell (F:=fun b=>b=w.heap.size+1) (p:=⟨w.heap.size+1,4,none⟩) w8 rfl _).own HO5.out (fun b hb h=>by have h1:=own_geq HO5.out hb;have h2:=HGL.out;omega)
    ·rw[List.length_append,List.length_singleton,List.map_append,HP.out,HKL.out]
     exact BP5.out.set 4 _
    ·refine HK0.out.next HF5.out (fun b hb h=>?_)
     rcases h with h|h
     ·exact h
     ·have h1:=own_geq HO0.out h;omega
  case done =>
   rintro D ys W hD rfl ⟨A',c',h1,h2,h3⟩ hK
   have hlm:=upB_len m m (Nat.le_refl _);rw[hlm,ridsOf_up L3 m (HL3.out.trans HM.out)] at h1 h2;have hBZ:Blk W w.heap.size 28 Z0:=h3.blk (E6.out.blk BZ.out (by omega)) (by omega)
   have HRLN:Hid ((revC ⟨a0,a1,a2,x2==1,ridsOf L3,d,s5⟩ A' m c').length=22):=hid (revC_len ⟨a0,a1,a2,x2==1,ridsOf L3,d,s5⟩ _ _ _ HDL.out);have HO:=hid h1;have HB:=hid h2;have HKW:=hid h3;have HBZ:=hid hBZ;have HKD:=hid hK;have HD:=hid hD;have HSZ5:=hid HSZ;have hmm:m≤1000000000000:=by have:=HM.out;omega
   have HMM:=hid hmm;clear h1 h2 h3 hBZ hK hD HBs HBn hc3 hB3 hrem hrem2 zz hcap3 hcap3b HSZ hlm hmm;go_wp2_with (first|(refine wpList_load_blk rfl 28 (.tmp 4) rfl (w.heap.size+1) (by kernel_rfl) HB.out Tryz.underlying28 rfl (info_rev.trans (congrArg some HRLN.out.symm)) ?_)|(refine wpList_store_blk rfl 28 (.tmp 2) (.tmp 120) rfl w.heap.size (revC ⟨a0,a1,a2,x2==1,ridsOf L3,d,s5⟩ A' m c') (by kernel_rfl) (by kernel_rfl) HBZ.out (info_rev.trans (congrArg some HRLN.out.symm)) (Eq.trans (b:=22) rfl HRLN.out.symm) (revC_one ⟨a0,a1,a2,x2==1,ridsOf L3,d,s5⟩ A' m c') ?_;intro w9 hw9 hb9;have HB9:=hid hb9;clear hb9))
   have hDg:w.heap.size≠D:=by have h1:=HD.out;have h2:=HGS.out;have h3:=HSZ5.out;omega
   have hK9:w9.heap[D]?=some (.deferred (some [])):=by rw[hw9.out];exact (setRow_other W w.heap.size D _ (fun h=>hDg h.symm)).trans HKD.out
   have hKF:Kept (fun b=>b=w.heap.size∨b=D) W (w9.putObj D (.deferred none)):=(show Kept _ W w9 by rw[hw9.out];exact Kept.setRow (F:=fun b=>b=w.heap.size∨b=D) W (Or.inl rfl) _).trans (Kept.putObj w9 (Or.inr rfl) _)
   have hbF:Blk (w9.putObj D (.deferred none)) w.heap.size 28 (revC ⟨a0,a1,a2,x2==1,ridsOf L3,d,s5⟩ A' m c'):=(Kept.putObj (F:=fun b=>b=D) w9 rfl (.deferred none)).blk HB9.out hDg
   have hoF:(w9.putObj D (.deferred none)).ownsRow w6.heap.size 68 3 (.slice A' m c') m (idsC (ridsOf L3)):=hKF.own HO.out (fun b hb h=>by
    have h1:=own_geq HO.out hb;have h2:=HGS.out;have h3:=HSZ5.out;have h4:=HD.out;rcases h with h|h
    ·omega
    ·subst h
     rcases HO.out.2 with ⟨hv,_⟩|⟨g,cap,cur,hv,_,hh,_⟩
     ·rw[hv] at hb;cases hb
     ·rw[hv] at hb
      have:g=b:=by simpa [Value.ownBlock] using hb
      subst this;rw[hh] at HKD;have:=HKD.out;cases this)
   have hcF:=slice_cap hoF;unfold maxLen at hcF;refine⟨by simp,.inl ⟨_,_,rfl,run_takeDeferred hK9,?_⟩⟩
   refine⟨_,results_blk_bit Tryz.results32 _ _ w.heap.size 28 (revC ⟨a0,a1,a2,x2==1,ridsOf L3,d,s5⟩ A' m c') _ (by rfl) hbF Tryz.underlying28 rfl (info_rev.trans (congrArg some HRLN.out.symm)),?_⟩
   refine⟨⟨A',m,c',by rw[HREV.out];rfl,by rw[HREV.out];exact⟨rdn_own hoF,hcF.1,hcF.2,HMM.out,HDL.out,HDB.out⟩,fun a ha=>by have h1:=own_far hoF ha;have h2:=HGS.out;have h3:=HSZ5.out;omega⟩,?_⟩
   have hx:Kept (fun b=>w.heap.size≤b) w4 (w9.putObj D (.deferred none)):=((E6.out.mono (fun b _ h=>by omega)).trans (HKW.out.mono (fun b _ h=>by omega))).trans (hKF.mono (fun b _ h=>by have h1:=HD.out;have h2:=HGS.out;have h3:=HSZ5.out;omega))
   exact ((Kept.of_ext EX.out).trans hx).ext (fun b h=>h)
  case stop =>
   rintro D cd pre W _ _ h _
   exact h.elim
end
section
theorem eqs_str (x y:List Int)(hx:Byt x)(hy:Byt y):((strOf x).toList==(strOf y).toList)=decide (x=y):=by
 rw[ByteArray.toList_eq,ByteArray.toList_eq,Bool.eq_iff_iff];simp only[beq_iff_eq,decide_eq_true_eq]
 constructor
 ·intro h
  have a:=bys_strOf x hx;have b:=bys_strOf y hy;unfold bys at a b;rw[←a,←b,h]
 ·rintro rfl;rfl
end
end Go.Proofs.YtjeecfjeooehhaaGreatDoor