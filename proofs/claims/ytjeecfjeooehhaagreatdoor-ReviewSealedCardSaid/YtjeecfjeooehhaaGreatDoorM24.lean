/- sign's nodes: the closure with its memo, by induction on the level. Conditions: levels up to 6, numbers inside the tree. -/
import Derived.Test.YtjeecfjeooehhaaGreatDoorM23
import Derived.Deep.DeepCutAuto
import Derived.Deep.CutBlock
import Derived.Laws.EntriesVeiled
import Derived.Test.YtjeecfjeooehhaaGreatDoorM22
import Derived.Test.YtjeecfjeooehhaaGreatDoorM3
set_option linter.unusedSimpArgs false
set_option linter.unusedVariables false
set_option maxHeartbeats 16000000
set_option maxRecDepth 100000
namespace Go.Proofs.YtjeecfjeooehhaaGreatDoor
open Go.RowKit
open Lib (hid)
section
attribute [local go_sem ↓] wp_at_zero wp_at_succ
theorem KTab.kept {F:Nat→Prop}{w w':World}(h:KTab w)(hk:Kept F w w')(hf:¬F 3):KTab w':=by
 have hl:=Tab.lt h;obtain⟨t,fr,h⟩:=h;exact⟨t,fr,(hk.block _ hl hf).trans h⟩
def NR (seed:ByteArray)(hm:Nat)(a b:World):Prop:=Kept (fun x=>x=hm) a b∧(Memo a seed hm→Memo b seed hm)
theorem NR.refl (seed:ByteArray)(hm:Nat)(a:World):NR seed hm a a:=⟨Kept.refl _ _,fun h=>h⟩
theorem NR.trans {seed:ByteArray}{hm:Nat}{a b c:World}(h:NR seed hm a b)(h2:NR seed hm b c):NR seed hm a c:=⟨h.1.trans h2.1,fun m=>h2.2 (h.2 m)⟩
theorem NR.of_ext {seed:ByteArray}{hm:Nat}{a b:World}(h:Ext a b):NR seed hm a b:=⟨Kept.of_ext h,fun m=>m.ext h⟩
theorem nr_undrew {seed:ByteArray}{hm:Nat}{a b:World}(h:NR seed hm a.drew b):NR seed hm a b:=(NR.of_ext (Ext.refl a).drew).trans h
theorem NR.set {seed:ByteArray}{hm g:Nat}{a b:World}(h:NR seed hm a b)(hg:a.heap.size≤g)(hne:g≠hm)(cs:Array Value):NR seed hm a (b.setRow g cs) :=
 ⟨h.1.next (Kept.setRow (F:=fun x=>x=g) b rfl cs) (fun x hx e=>by omega),fun m=>(h.2 m).kept (Kept.setRow (F:=fun x=>x=g) b rfl cs) (fun e=>hne e.symm)⟩
structure NEnv (w:World) (seed:ByteArray) (mb sb ab hm:Nat):Prop where
 cM:w.cell? ⟨mb,0,none⟩=some (.map (some hm))
 cS:w.cell? ⟨sb,0,none⟩=some (.string seed)
 cA:w.cell? ⟨ab,0,none⟩=some (.func (.func 128) #[] #[.pointer (some ⟨mb,0,none⟩),.pointer (some ⟨sb,0,none⟩),.pointer (some ⟨ab,0,none⟩)])
 lM:mb<w.heap.size
 lS:sb<w.heap.size
 lA:ab<w.heap.size
 memo:Memo w seed hm
 tab:KTab w
 small:seed.size≤1000000
theorem NEnv.next {w w':World}{seed:ByteArray}{mb sb ab hm:Nat}(h:NEnv w seed mb sb ab hm)(hr:NR seed hm w w'):NEnv w' seed mb sb ab hm:=by
 obtain⟨h1,h2,h3,l1,l2,l3,hm1,ht,hs⟩:=h;have n1:=hm1.ne_cell h1;have n2:=hm1.ne_cell h2;have n3:=hm1.ne_cell h3
 have n4:3≠hm:=by
  rintro rfl
  obtain⟨t,fr,h⟩:=ht;obtain⟨L,⟨es,clock,hb,_⟩,_⟩:=hm1;rw[h] at hb
  cases hb
 have hz:=hr.1.size;exact⟨(hr.1.cell (p:=⟨mb,0,none⟩) l1 n1).trans h1,(hr.1.cell (p:=⟨sb,0,none⟩) l2 n2).trans h2,(hr.1.cell (p:=⟨ab,0,none⟩) l3 n3).trans h3,by omega,by omega,by omega,hr.2 hm1,ht.kept hr.1 n4,hs⟩
theorem NEnv.ext {w w':World}{seed:ByteArray}{mb sb ab hm:Nat}(h:NEnv w seed mb sb ab hm)(hE:Ext w w'):NEnv w' seed mb sb ab hm:=h.next (NR.of_ext hE)
theorem at_leaf (seed:ByteArray)(mb sb ab hm k:Nat)(w:World)(hN:NEnv w seed mb sb ab hm)(hk:k<64) :
  Calls Tryz.prog 128 #[.int .i64 0,.int .i64 (k:Int),.pointer (some ⟨mb,0,none⟩),.pointer (some ⟨sb,0,none⟩),.pointer (some ⟨ab,0,none⟩)] w fun e w'=>e=.returned (.agg (u8s (nodeV seed 0 k)).toArray)∧NR seed hm w w':=by
 have hl:0≤6:=by decide
 have HN:=hid hN;have HHM:Hid (hm<w.heap.size):=hid hN.memo.lt;have zz:∀W,(zeroValue 26).run Tryz.prog W=.ok (.agg (u8s (List.replicate 16 0)).toArray) W:=fun W=>by kernel_rfl
 obtain⟨Z,hZ⟩:∃Z,Z=u8s (List.replicate 16 0):=⟨_,rfl⟩
 have HZL:Hid (Z.length=16):=hid (by rw[hZ];rfl)
 rw[←hZ] at zz;have hmf:∀(fn:Fn) (first cap:Array Value) (w:World),(Instr.makeFunc fn first cap).run Tryz.prog w=.ok (.func fn first cap) w:=fun _ _ _ _=>rfl
 obtain⟨V,hV⟩:∃V,V=nodeV seed 0 k:=⟨_,rfl⟩
 have HV:=hid hV;have HVL:Hid ((u8s V).length=16):=hid (by rw[hV,u8s_len];exact (nodeV_dig seed _ _).l)
 rw[←hV];clear hZ hV hN;go_enter Tryz.func128,Tryz.ntmps128
 go_upto_region 1 with fail
 obtain⟨w2,hw2⟩:∃x,x=(w.alloc (.cells #[.int .i64 (k:Int)] 3)).alloc (.cells Z.toArray 26):=⟨_,rfl⟩
 change Code.wp _ _ _ _ ((w.alloc (.cells #[.int .i64 (k:Int)] 3)).alloc (.cells Z.toArray 26))
 rw[←hw2];have E2:Hid (Ext w w2):=hid (by rw[hw2];exact ((Ext.refl w).alloc _).alloc _)
 have BZ:Hid (Blk w2 (w.heap.size+1) 26 Z):=hid (by rw[hw2];exact Blk.fresh' _ _ _ _ _ rfl (by simp))
 have BK:Hid (Blk w2 w.heap.size 3 [.int .i64 (k:Int)]):=hid (by rw[hw2];exact (Blk.fresh' _ _ _ _ _ rfl rfl).alloc _)
 have N2:=hid (HN.out.ext E2.out);have ck:=BK.out.one;have cm:=N2.out.cM;clear hw2;rcases memo_look N2.out.memo hl hk with hlk|⟨U0,hU0,hlk⟩
 ·rw[←HV.out] at hlk
  have hlk2:(Instr.lookup 182 (.map (some hm)) (.agg #[.int .i64 0,.int .i64 (k:Int)]) true).run Tryz.prog w2=.ok (.tuple #[.agg (u8s V).toArray,.bool true]) w2:=hlk;clear hlk
  go_upto_region 2 with ((first
   | (refine wpList_store_fresh rfl 26 (.tmp 8) (.tmp 17) rfl _ w2.heap.size rfl Z (u8s V) 26 (by rfl) (by rfl) rfl (dg_info.trans (congrArg some HVL.out.symm)) (HZL.out.trans HVL.out.symm) (u8s_one V) ?_;intro w3 hw3 hE3 hz3;have B8:=hid hw3;have E3:Hid (Ext w2 w3):=hid hE3;clear hw3 hE3 hz3)))
  have BZ3:=hid (BZ.out.ext E3.out);clear hlk2 ck cm
  go_wp2_with ((first
   | (refine wpList_load_blk rfl 26 (.tmp 8) rfl w2.heap.size (by kernel_rfl) B8.out Tryz.underlying26 rfl (dg_info.trans (congrArg some HVL.out.symm)) ?_)
   | (refine wpList_store_blk rfl 26 (.tmp 7) (.tmp 20) (by rfl) (w.heap.size+1) (u8s V) rfl rfl BZ3.out (dg_info.trans (congrArg some HVL.out.symm)) (HZL.out.trans HVL.out.symm) (u8s_one _) ?_;intro w9 hw9 hb9)))
  exact bodyPost_ret (results_blk Tryz.results128 _ _ (w.heap.size+1) 26 (u8s V) _ rfl hb9 Tryz.underlying26 rfl (dg_info.trans (congrArg some HVL.out.symm))) rfl ⟨rfl,by rw[hw9.out];exact (NR.of_ext (E2.out.next E3.out)).set (Nat.le_succ _) (by have:=HHM.out;omega) _⟩
 ·have hlk2:(Instr.lookup 182 (.map (some hm)) (.agg #[.int .i64 0,.int .i64 (k:Int)]) true).run Tryz.prog w2=.ok (.tuple #[.agg (u8s U0).toArray,.bool false]) w2:=hlk
  have HUL:Hid ((u8s U0).length=16):=hid (by rw[u8s_len];exact hU0)
  clear hlk hU0
  go_upto_region 4 with ((first
   | (refine wpList_store_fresh rfl 26 (.tmp 8) (.tmp 17) rfl _ w2.heap.size rfl Z (u8s U0) 26 (by rfl) (by rfl) rfl (dg_info.trans (congrArg some HUL.out.symm)) (HZL.out.trans HUL.out.symm) (u8s_one U0) ?_;intro w3 hw3 hE3 hz3;have B8:=hid hw3;have E3:Hid (Ext w2 w3):=hid hE3;clear hw3 hE3 hz3)))
  clear hlk2 ck cm;go_upto_region 5 with fail
  obtain⟨w4,hw4⟩:∃x,x=w3.alloc (.cells Z.toArray 26):=⟨_,rfl⟩
  change Code.wp _ _ _ _ (w3.alloc (.cells Z.toArray 26))
  rw[←hw4];have E4:Hid (Ext w2 w4):=hid (by rw[hw4];exact E3.out.alloc _)
  have B10:Hid (Blk w4 w3.heap.size 26 Z):=hid (by rw[hw4];exact Blk.fresh' _ _ _ _ _ rfl rfl)
  obtain⟨tb,htb⟩:∃x,x=w3.heap.size:=⟨_,rfl⟩
  rw[←htb] at B10⊢
  have HTB:Hid (w.heap.size+1<tb):=hid (by
   have h1:=BZ.out.lt;have h2:=E3.out.size;omega)
  have BZ4:=hid (BZ.out.ext E4.out);have BK4:=hid (BK.out.ext E4.out);have N4:=hid (N2.out.ext E4.out);have EW4:=hid (E2.out.next E4.out);clear hw4 htb
  have HLF:Hid (Calls Tryz.prog 58 #[.func (.func 129) #[] #[.pointer (some ⟨w.heap.size,0,none⟩),.pointer (some ⟨sb,0,none⟩)]] w4 fun e w'=>e=.returned (.agg (u8s V).toArray)∧Ext w4 w'):=hid (by
   rw[HV.out];exact leaf28_any (fun c=>topD seed (k:Int) (c:Int)) w.heap.size sb w4 (fun t _=>topD_dig _ _ _) (fun t ht W hW=>chain_any seed (k:Int) (t:Int) w.heap.size sb W N4.out.small ⟨by omega,by omega⟩ ⟨by omega,by omega⟩ (N4.out.ext hW).tab (BK4.out.ext hW).one (N4.out.ext hW).cS (BK4.out.ext hW).lt (N4.out.ext hW).lS) N4.out.tab)
  go_upto_region 8 with ((first
   | (go_at_call 58;(with_reducible refine HLF.out.mono ?_);rintro e w5 ⟨rfl,hE5⟩;have E5:=hid hE5;have B105:=hid (B10.out.ext hE5);clear hE5)
   | (refine wpList_store_blk rfl 26 (.tmp 10) (.tmp 24) (by rfl) tb (u8s V) rfl rfl B105.out (dg_info.trans (congrArg some HVL.out.symm)) (HZL.out.trans HVL.out.symm) (u8s_one _) ?_;intro w6 hw6 hb6)))
  have B8:=hid hb6;have NRW:Hid (NR seed hm w w6):=hid (by rw[hw6.out];exact (NR.of_ext (EW4.out.next E5.out)).set (by have:=HTB.out;omega) (by have h1:=HHM.out;have h2:=HTB.out;omega) _)
  have NZ:Hid (Blk w6 (w.heap.size+1) 26 Z):=hid (by rw[hw6.out];exact (Kept.setRow (F:=fun b=>b=tb) w5 rfl _).blk (BZ4.out.ext E5.out) (by have:=HTB.out;omega))
  have NK:Hid (Blk w6 w.heap.size 3 [.int .i64 (k:Int)]):=hid (by rw[hw6.out];exact (Kept.setRow (F:=fun b=>b=tb) w5 rfl _).blk (BK4.out.ext E5.out) (by have:=HTB.out;omega))
  have hz10:=hb6;clear hz10;have N8:=hid (HN.out.next NRW.out);have BZ8:Hid (Blk w6 (w.heap.size+1) 26 Z):=hid (NZ.out);have cm:=N8.out.cM;have ck:=NK.out.one
  go_upto_region 9 with ((first
   | (refine wpList_load_blk rfl 26 (.tmp 10) rfl tb (by kernel_rfl) B8.out Tryz.underlying26 rfl (dg_info.trans (congrArg some HVL.out.symm)) ?_)
   | (refine wpList_memo_put rfl (.tmp 39) (.tmp 42) (.tmp 43) rfl rfl N8.out.memo 0 k rfl (by rw[←HV.out];rfl) hl hk ?_;intro w7 hm7 hk7)))
  have B97:=hid (hk7.blk B8.out (by have h1:=HHM.out;have h2:=HTB.out;omega))
  have BZ7:=hid (hk7.blk BZ8.out (by have h1:=HHM.out;omega))
  have R7:Hid (NR seed hm w w7):=hid ⟨NRW.out.1.trans hk7,fun _=>hm7⟩
  clear cm ck hm7 hk7
  go_wp2_with ((first
   | (refine wpList_load_blk rfl 26 (.tmp 10) rfl tb (by kernel_rfl) B97.out Tryz.underlying26 rfl (dg_info.trans (congrArg some HVL.out.symm)) ?_)
   | (refine wpList_store_blk rfl 26 (.tmp 7) (.tmp 44) (by rfl) (w.heap.size+1) (u8s V) rfl rfl BZ7.out (dg_info.trans (congrArg some HVL.out.symm)) (HZL.out.trans HVL.out.symm) (u8s_one _) ?_;intro w9 hw9 hb9)))
  exact bodyPost_ret (results_blk Tryz.results128 _ _ (w.heap.size+1) 26 (u8s V) _ rfl hb9 Tryz.underlying26 rfl (dg_info.trans (congrArg some HVL.out.symm))) rfl ⟨rfl,by rw[hw9.out];exact R7.out.set (Nat.le_succ _) (by have:=HHM.out;omega) _⟩
theorem at_step (seed:ByteArray)(mb sb ab hm l lv k:Nat)(hlv:lv=l+1)(w:World)(hN:NEnv w seed mb sb ab hm)(hl:lv≤6)(hk:k<64)
  (I1:∀W,NEnv W seed mb sb ab hm→Calls Tryz.prog 128 #[.int .i64 (l:Int),.int .i64 ((2*k:Nat):Int),.pointer (some ⟨mb,0,none⟩),.pointer (some ⟨sb,0,none⟩),.pointer (some ⟨ab,0,none⟩)] W fun e w'=>e=.returned (.agg (u8s (nodeV seed l (2*k))).toArray)∧NR seed hm W w')
  (I2:∀W,NEnv W seed mb sb ab hm→Calls Tryz.prog 128 #[.int .i64 (l:Int),.int .i64 ((2*k+1:Nat):Int),.pointer (some ⟨mb,0,none⟩),.pointer (some ⟨sb,0,none⟩),.pointer (some ⟨ab,0,none⟩)] W fun e w'=>e=.returned (.agg (u8s (nodeV seed l (2*k+1))).toArray)∧NR seed hm W w') :
  Calls Tryz.prog 128 #[.int .i64 (lv:Int),.int .i64 (k:Int),.pointer (some ⟨mb,0,none⟩),.pointer (some ⟨sb,0,none⟩),.pointer (some ⟨ab,0,none⟩)] w fun e w'=>e=.returned (.agg (u8s (nodeV seed lv k)).toArray)∧NR seed hm w w':=by
 obtain⟨D1,hD1⟩:∃D1,D1=nodeV seed l (2*k):=⟨_,rfl⟩
 obtain⟨D2,hD2⟩:∃D2,D2=nodeV seed l (2*k+1):=⟨_,rfl⟩
 have HI1:Hid (∀W,NEnv W seed mb sb ab hm→Calls Tryz.prog 128 #[.int .i64 ((lv:Int)-1),.int .i64 (2*(k:Int)),.pointer (some ⟨mb,0,none⟩),.pointer (some ⟨sb,0,none⟩),.pointer (some ⟨ab,0,none⟩)] W fun e w'=>e=.returned (.agg (u8s D1).toArray)∧NR seed hm W w'):=hid (by
  intro W hW;have h:=I1 W hW;rw[show ((lv:Int)-1)=(l:Int) by omega,show (2*(k:Int))=((2*k:Nat):Int) by omega,hD1]
  exact h)
 have HI2:Hid (∀W,NEnv W seed mb sb ab hm→Calls Tryz.prog 128 #[.int .i64 ((lv:Int)-1),.int .i64 (2*(k:Int)+1),.pointer (some ⟨mb,0,none⟩),.pointer (some ⟨sb,0,none⟩),.pointer (some ⟨ab,0,none⟩)] W fun e w'=>e=.returned (.agg (u8s D2).toArray)∧NR seed hm W w'):=hid (by
  intro W hW;have h:=I2 W hW;rw[show ((lv:Int)-1)=(l:Int) by omega,show (2*(k:Int)+1)=((2*k+1:Nat):Int) by omega,hD2]
  exact h)
 have HND:Hid (nodeD D1 D2=nodeV seed lv k):=hid (by rw[hD1,hD2,hlv];rfl)
 have HG1:Hid (Dig D1):=hid (by rw[hD1];exact nodeV_dig _ _ _)
 have HG2:Hid (Dig D2):=hid (by rw[hD2];exact nodeV_dig _ _ _)
 have hl1:1≤lv:=by omega
 clear I1 I2 hD1 hD2 hlv;have HN:=hid hN;have HHM:Hid (hm<w.heap.size):=hid hN.memo.lt;have zz:∀W,(zeroValue 26).run Tryz.prog W=.ok (.agg (u8s (List.replicate 16 0)).toArray) W:=fun W=>by kernel_rfl
 obtain⟨Z,hZ⟩:∃Z,Z=u8s (List.replicate 16 0):=⟨_,rfl⟩
 have HZL:Hid (Z.length=16):=hid (by rw[hZ];rfl)
 rw[←hZ] at zz;have hmf:∀(fn:Fn) (first cap:Array Value) (w:World),(Instr.makeFunc fn first cap).run Tryz.prog w=.ok (.func fn first cap) w:=fun _ _ _ _=>rfl
 obtain⟨V,hV⟩:∃V,V=nodeV seed lv k:=⟨_,rfl⟩
 have HV:=hid hV;have HVL:Hid ((u8s V).length=16):=hid (by rw[hV,u8s_len];exact (nodeV_dig seed _ _).l)
 rw[←hV];clear hZ hV hN;go_enter Tryz.func128,Tryz.ntmps128
 go_upto_region 1 with fail
 obtain⟨w2,hw2⟩:∃x,x=(w.alloc (.cells #[.int .i64 (k:Int)] 3)).alloc (.cells Z.toArray 26):=⟨_,rfl⟩
 change Code.wp _ _ _ _ ((w.alloc (.cells #[.int .i64 (k:Int)] 3)).alloc (.cells Z.toArray 26))
 rw[←hw2];have E2:Hid (Ext w w2):=hid (by rw[hw2];exact ((Ext.refl w).alloc _).alloc _)
 have BZ:Hid (Blk w2 (w.heap.size+1) 26 Z):=hid (by rw[hw2];exact Blk.fresh' _ _ _ _ _ rfl (by simp))
 have BK:Hid (Blk w2 w.heap.size 3 [.int .i64 (k:Int)]):=hid (by rw[hw2];exact (Blk.fresh' _ _ _ _ _ rfl rfl).alloc _)
 have N2:=hid (HN.out.ext E2.out);have ck:=BK.out.one;have cm:=N2.out.cM;clear hw2;rcases memo_look N2.out.memo hl hk with hlk|⟨U0,hU0,hlk⟩
 ·rw[←HV.out] at hlk
  have hlk2:(Instr.lookup 182 (.map (some hm)) (.agg #[.int .i64 (lv:Int),.int .i64 (k:Int)]) true).run Tryz.prog w2=.ok (.tuple #[.agg (u8s V).toArray,.bool true]) w2:=hlk;clear hlk
  go_upto_region 2 with ((first
   | (refine wpList_store_fresh rfl 26 (.tmp 8) (.tmp 17) rfl _ w2.heap.size rfl Z (u8s V) 26 (by rfl) (by rfl) rfl (dg_info.trans (congrArg some HVL.out.symm)) (HZL.out.trans HVL.out.symm) (u8s_one V) ?_;intro w3 hw3 hE3 hz3;have B8:=hid hw3;have E3:Hid (Ext w2 w3):=hid hE3;clear hw3 hE3 hz3)))
  have BZ3:=hid (BZ.out.ext E3.out);clear hlk2 ck cm
  go_wp2_with ((first
   | (refine wpList_load_blk rfl 26 (.tmp 8) rfl w2.heap.size (by kernel_rfl) B8.out Tryz.underlying26 rfl (dg_info.trans (congrArg some HVL.out.symm)) ?_)
   | (refine wpList_store_blk rfl 26 (.tmp 7) (.tmp 20) (by rfl) (w.heap.size+1) (u8s V) rfl rfl BZ3.out (dg_info.trans (congrArg some HVL.out.symm)) (HZL.out.trans HVL.out.symm) (u8s_one _) ?_;intro w9 hw9 hb9)))
  exact bodyPost_ret (results_blk Tryz.results128 _ _ (w.heap.size+1) 26 (u8s V) _ rfl hb9 Tryz.underlying26 rfl (dg_info.trans (congrArg some HVL.out.symm))) rfl ⟨rfl,by rw[hw9.out];exact (NR.of_ext (E2.out.next E3.out)).set (Nat.le_succ _) (by have:=HHM.out;omega) _⟩
 ·have hlk2:(Instr.lookup 182 (.map (some hm)) (.agg #[.int .i64 (lv:Int),.int .i64 (k:Int)]) true).run Tryz.prog w2=.ok (.tuple #[.agg (u8s U0).toArray,.bool false]) w2:=hlk
  have HUL:Hid ((u8s U0).length=16):=hid (by rw[u8s_len];exact hU0)
  clear hlk hU0
  go_upto_region 4 with ((first
   | (refine wpList_store_fresh rfl 26 (.tmp 8) (.tmp 17) rfl _ w2.heap.size rfl Z (u8s U0) 26 (by rfl) (by rfl) rfl (dg_info.trans (congrArg some HUL.out.symm)) (HZL.out.trans HUL.out.symm) (u8s_one U0) ?_;intro w3 hw3 hE3 hz3;have B8:=hid hw3;have E3:Hid (Ext w2 w3):=hid hE3;clear hw3 hE3 hz3)))
  clear hlk2 ck cm;go_upto_region 5 with fail
  obtain⟨w4,hw4⟩:∃x,x=w3.alloc (.cells Z.toArray 26):=⟨_,rfl⟩
  change Code.wp _ _ _ _ (w3.alloc (.cells Z.toArray 26))
  rw[←hw4];have E4:Hid (Ext w2 w4):=hid (by rw[hw4];exact E3.out.alloc _)
  have B10:Hid (Blk w4 w3.heap.size 26 Z):=hid (by rw[hw4];exact Blk.fresh' _ _ _ _ _ rfl rfl)
  obtain⟨tb,htb⟩:∃x,x=w3.heap.size:=⟨_,rfl⟩
  rw[←htb] at B10⊢
  have HTB:Hid (w.heap.size+1<tb):=hid (by
   have h1:=BZ.out.lt;have h2:=E3.out.size;omega)
  have BZ4:=hid (BZ.out.ext E4.out);have BK4:=hid (BK.out.ext E4.out);have N4:=hid (N2.out.ext E4.out);have EW4:=hid (E2.out.next E4.out);clear hw4 htb
  have HNO:Hid (∀W,KTab W→Calls Tryz.prog 61 #[.agg (u8s D1).toArray,.agg (u8s D2).toArray] W fun e w'=>e=.returned (.agg (u8s V).toArray)∧NR seed hm W w'):=hid (by
   intro W hW;rw[HV.out,←HND.out];refine (node_any D1 D2 W HG1.out HG2.out hW).mono ?_
   rintro e w' ⟨rfl,hE⟩
   exact⟨rfl,NR.of_ext hE⟩)
  have hb0:((lv:Int)==0)=false:=by
   rw[beq_eq_false_iff_ne];omega
  clear hl1;go_upto_region 7 with fail
  clear hb0
  refine wp_region_flowG 14 ?FW1 (fun us=>?_) (by kernel_rfl) (by kernel_rfl) (fun a b=>NR seed hm a b) (NR.refl seed hm) (fun h1 h2=>NR.trans h1 h2) (fun i v W=>match i with
   | 0=>v=.func (.func 128) #[] #[.pointer (some ⟨mb,0,none⟩),.pointer (some ⟨sb,0,none⟩),.pointer (some ⟨ab,0,none⟩)]
   | 1=>v=.int .i64 (lv:Int)
   | 2=>v=.int .i64 ((lv:Int)-1)
   | 3=>v=.int .i64 (k:Int)
   | 4=>v=.int .i64 (2*(k:Int))
   | 5=>v=.agg (u8s D1).toArray
   | 6=>v=.func (.func 128) #[] #[.pointer (some ⟨mb,0,none⟩),.pointer (some ⟨sb,0,none⟩),.pointer (some ⟨ab,0,none⟩)]
   | 7=>v=.int .i64 (lv:Int)
   | 8=>v=.int .i64 ((lv:Int)-1)
   | 9=>v=.int .i64 (k:Int)
   | 10=>v=.int .i64 (2*(k:Int))
   | 11=>v=.int .i64 (2*(k:Int)+1)
   | 12=>v=.agg (u8s D2).toArray
   | 13=>v=.agg (u8s V).toArray
   | _=>True) ?_ ?_
  case refine_1 =>
   simp only[List.take_succ_cons,List.take_zero,flowAct,Nat.zero_add,Nat.reduceAdd,Act.put,List.setIfInBounds_toArray,List.set_cons_succ,List.set_cons_zero]
   rfl
  ·simp only[List.take_succ_cons,List.take_zero,flowStepsG]
   refine⟨?_,?_,?_,?_,?_,?_,?_,?_,?_,?_,?_,?_,?_,?_,trivial⟩
   ·intro us W K HE hd HK
    have NW:=hid (N4.out.next (nr_undrew HE.out));have xk:=NW.out.cA;dsimp only at HK⊢;clear hd;go_wp2_with fail
    exact K_at (HK.out (.func (.func 128) #[] #[.pointer (some ⟨mb,0,none⟩),.pointer (some ⟨sb,0,none⟩),.pointer (some ⟨ab,0,none⟩)]) W (fun _ _=>rfl) (NR.refl _ _ W)) (by kernel_rfl)
   ·intro us W K HE hd HK
    dsimp only at HK⊢;clear hd;go_wp2_with fail
    exact K_at (HK.out (.int .i64 (lv:Int)) W (fun _ _=>rfl) (NR.refl _ _ W)) (by kernel_rfl)
   ·intro us W K HE hd HK
    have d1:=hd 1 (by kernel_rfl)
    dsimp only at HK⊢;rw[d1] at HK⊢;clear hd d1;go_wp2_with fail
    exact K_at (HK.out (.int .i64 ((lv:Int)-1)) W (fun _ _=>rfl) (NR.refl _ _ W)) (by kernel_rfl)
   ·intro us W K HE hd HK
    have xk:=((nr_undrew HE.out).1.blk BK4.out (by have h1:=HHM.out;omega)).one
    dsimp only at HK⊢;clear hd;go_wp2_with fail
    exact K_at (HK.out (.int .i64 (k:Int)) W (fun _ _=>rfl) (NR.refl _ _ W)) (by kernel_rfl)
   ·intro us W K HE hd HK
    have d3:=hd 3 (by kernel_rfl)
    dsimp only at HK⊢;rw[d3] at HK⊢;clear hd d3;go_wp2_with fail
    exact K_at (HK.out (.int .i64 (2*(k:Int))) W (fun _ _=>rfl) (NR.refl _ _ W)) (by kernel_rfl)
   ·intro us W K HE hd HK
    have d0:=hd 0 (by kernel_rfl)
    have d2:=hd 2 (by kernel_rfl)
    have d4:=hd 4 (by kernel_rfl)
    have NW:=hid (N4.out.next (nr_undrew HE.out));dsimp only at HK⊢;rw[d0,d2,d4] at HK⊢;clear hd d0 d2 d4;go_wp2_with ((go_at_call 128;(with_reducible refine (HI1.out W NW.out).mono ?_);rintro e w6 ⟨rfl,hB6⟩))
    exact K_at (HK.out (.agg (u8s D1).toArray) w6 (fun _ _=>rfl) hB6) (by kernel_rfl)
   ·intro us W K HE hd HK
    have NW:=hid (N4.out.next (nr_undrew HE.out));have xk:=NW.out.cA;dsimp only at HK⊢;clear hd;go_wp2_with fail
    exact K_at (HK.out (.func (.func 128) #[] #[.pointer (some ⟨mb,0,none⟩),.pointer (some ⟨sb,0,none⟩),.pointer (some ⟨ab,0,none⟩)]) W (fun _ _=>rfl) (NR.refl _ _ W)) (by kernel_rfl)
   ·intro us W K HE hd HK
    dsimp only at HK⊢;clear hd;go_wp2_with fail
    exact K_at (HK.out (.int .i64 (lv:Int)) W (fun _ _=>rfl) (NR.refl _ _ W)) (by kernel_rfl)
   ·intro us W K HE hd HK
    have d7:=hd 7 (by kernel_rfl)
    dsimp only at HK⊢;rw[d7] at HK⊢;clear hd d7;go_wp2_with fail
    exact K_at (HK.out (.int .i64 ((lv:Int)-1)) W (fun _ _=>rfl) (NR.refl _ _ W)) (by kernel_rfl)
   ·intro us W K HE hd HK
    have xk:=((nr_undrew HE.out).1.blk BK4.out (by have h1:=HHM.out;omega)).one
    dsimp only at HK⊢;clear hd;go_wp2_with fail
    exact K_at (HK.out (.int .i64 (k:Int)) W (fun _ _=>rfl) (NR.refl _ _ W)) (by kernel_rfl)
   ·intro us W K HE hd HK
    have d9:=hd 9 (by kernel_rfl)
    dsimp only at HK⊢;rw[d9] at HK⊢;clear hd d9;go_wp2_with fail
    exact K_at (HK.out (.int .i64 (2*(k:Int))) W (fun _ _=>rfl) (NR.refl _ _ W)) (by kernel_rfl)
   ·intro us W K HE hd HK
    have d10:=hd 10 (by kernel_rfl)
    dsimp only at HK⊢;rw[d10] at HK⊢;clear hd d10;go_wp2_with fail
    exact K_at (HK.out (.int .i64 (2*(k:Int)+1)) W (fun _ _=>rfl) (NR.refl _ _ W)) (by kernel_rfl)
   ·intro us W K HE hd HK
    have d6:=hd 6 (by kernel_rfl)
    have d8:=hd 8 (by kernel_rfl)
    have d11:=hd 11 (by kernel_rfl)
    have NW:=hid (N4.out.next (nr_undrew HE.out));dsimp only at HK⊢;rw[d6,d8,d11] at HK⊢;clear hd d6 d8 d11;go_wp2_with ((go_at_call 128;(with_reducible refine (HI2.out W NW.out).mono ?_);rintro e w6 ⟨rfl,hB6⟩))
    exact K_at (HK.out (.agg (u8s D2).toArray) w6 (fun _ _=>rfl) hB6) (by kernel_rfl)
   ·intro us W K HE hd HK
    have d5:=hd 5 (by kernel_rfl)
    have d12:=hd 12 (by kernel_rfl)
    have NW:=hid (N4.out.next (nr_undrew HE.out));dsimp only at HK⊢;rw[d5,d12] at HK⊢;clear hd d5 d12;go_wp2_with ((go_at_call 61;(with_reducible refine (HNO.out W NW.out.tab).mono ?_);rintro e w6 ⟨rfl,hB6⟩))
    exact K_at (HK.out (.agg (u8s V).toArray) w6 (fun _ _=>rfl) hB6) (by kernel_rfl)
  ·intro us W hE hd
   try dsimp only
   have d13:=hd 13 (by decide)
   simp only[List.drop_succ_cons,List.drop_zero]
   rw[d13];have NE:=hid (nr_undrew hE);have B105:=hid (NE.out.1.blk B10.out (by have h1:=HHM.out;have h2:=HTB.out;omega))
   clear hd hE d13;go_upto_region 8 with (refine wpList_store_blk rfl 26 (.tmp 10) (.tmp 38) (by rfl) tb (u8s V) rfl rfl B105.out (dg_info.trans (congrArg some HVL.out.symm)) (HZL.out.trans HVL.out.symm) (u8s_one _) ?_;intro w6 hw6 hb6)
   have B8:=hid hb6;have NRW:Hid (NR seed hm w w6):=hid (by rw[hw6.out];exact ((NR.of_ext EW4.out).trans NE.out).set (by have:=HTB.out;omega) (by have h1:=HHM.out;have h2:=HTB.out;omega) _)
   have NZ:Hid (Blk w6 (w.heap.size+1) 26 Z):=hid (by rw[hw6.out];exact (Kept.setRow (F:=fun b=>b=tb) W rfl _).blk (NE.out.1.blk BZ4.out (by have h1:=HHM.out;omega)) (by have:=HTB.out;omega))
   have NK:Hid (Blk w6 w.heap.size 3 [.int .i64 (k:Int)]):=hid (by rw[hw6.out];exact (Kept.setRow (F:=fun b=>b=tb) W rfl _).blk (NE.out.1.blk BK4.out (by have h1:=HHM.out;omega)) (by have:=HTB.out;omega))
   have hz10:=hb6;clear hz10;have N8:=hid (HN.out.next NRW.out);have BZ8:Hid (Blk w6 (w.heap.size+1) 26 Z):=hid (NZ.out);have cm:=N8.out.cM;have ck:=NK.out.one
   go_upto_region 9 with ((first
    | (refine wpList_load_blk rfl 26 (.tmp 10) rfl tb (by kernel_rfl) B8.out Tryz.underlying26 rfl (dg_info.trans (congrArg some HVL.out.symm)) ?_)
    | (refine wpList_memo_put rfl (.tmp 39) (.tmp 42) (.tmp 43) rfl rfl N8.out.memo lv k rfl (by rw[←HV.out];rfl) hl hk ?_;intro w7 hm7 hk7)))
   have B97:=hid (hk7.blk B8.out (by have h1:=HHM.out;have h2:=HTB.out;omega))
   have BZ7:=hid (hk7.blk BZ8.out (by have h1:=HHM.out;omega))
   have R7:Hid (NR seed hm w w7):=hid ⟨NRW.out.1.trans hk7,fun _=>hm7⟩
   clear cm ck hm7 hk7
   go_wp2_with ((first
    | (refine wpList_load_blk rfl 26 (.tmp 10) rfl tb (by kernel_rfl) B97.out Tryz.underlying26 rfl (dg_info.trans (congrArg some HVL.out.symm)) ?_)
    | (refine wpList_store_blk rfl 26 (.tmp 7) (.tmp 44) (by rfl) (w.heap.size+1) (u8s V) rfl rfl BZ7.out (dg_info.trans (congrArg some HVL.out.symm)) (HZL.out.trans HVL.out.symm) (u8s_one _) ?_;intro w9 hw9 hb9)))
   exact bodyPost_ret (results_blk Tryz.results128 _ _ (w.heap.size+1) 26 (u8s V) _ rfl hb9 Tryz.underlying26 rfl (dg_info.trans (congrArg some HVL.out.symm))) rfl ⟨rfl,by rw[hw9.out];exact R7.out.set (Nat.le_succ _) (by have:=HHM.out;omega) _⟩
theorem two_pow (l k:Nat)(h:(k+1)*2^(l+1)≤64):(2*k+1)*2^l≤64∧(2*k+1+1)*2^l≤64:=by
 have e:(k+1)*2^(l+1)=(2*k+1+1)*2^l:=by
  rw[Nat.pow_succ,show (2*k+1+1)=(k+1)*2 by omega,Nat.mul_assoc,Nat.mul_comm 2]
 rw[e] at h;exact⟨Nat.le_trans (Nat.mul_le_mul_right _ (by omega)) h,h⟩
theorem lt_pow (l k:Nat)(h:(k+1)*2^l≤64):k<64:=by
 have h1:1≤2^l:=Nat.one_le_two_pow;have h2:=Nat.le_mul_of_pos_right (k+1) h1;omega
theorem nd_at_any (seed:ByteArray)(mb sb ab hm:Nat):∀(l k:Nat) (w:World),NEnv w seed mb sb ab hm→l≤6→(k+1)*2^l≤64 →
  Calls Tryz.prog 128 #[.int .i64 (l:Int),.int .i64 (k:Int),.pointer (some ⟨mb,0,none⟩),.pointer (some ⟨sb,0,none⟩),.pointer (some ⟨ab,0,none⟩)] w fun e w'=>e=.returned (.agg (u8s (nodeV seed l k)).toArray)∧NR seed hm w w'
 | 0,k,w,hN,_,hk=>at_leaf seed mb sb ab hm k w hN (lt_pow 0 k hk)
 | l+1,k,w,hN,hl,hk=>at_step seed mb sb ab hm l (l+1) k rfl w hN hl (lt_pow (l+1) k hk)
   (fun W hW=>nd_at_any seed mb sb ab hm l (2*k) W hW (by omega) (two_pow l k hk).1)
   (fun W hW=>nd_at_any seed mb sb ab hm l (2*k+1) W hW (by omega) (two_pow l k hk).2)
end
section
theorem nodes_any (seed:ByteArray)(w:World)(hs:seed.size≤1000000)(hK:KTab w) :
  Calls Tryz.prog 91 #[.string seed] w fun e w'=>∃mb sb ab hm,e=.returned (.func (.func 128) #[] #[.pointer (some ⟨mb,0,none⟩),.pointer (some ⟨sb,0,none⟩),.pointer (some ⟨ab,0,none⟩)])∧NEnv w' seed mb sb ab hm∧w.heap.size≤hm∧Ext w w':=by
 have hmm:=@run_makeMap Tryz.prog;have hmf:∀(fn:Fn) (first cap:Array Value) (w:World),(Instr.makeFunc fn first cap).run Tryz.prog w=.ok (.func fn first cap) w:=fun _ _ _ _=>rfl
 have HK:=hid hK;clear hK;go_enter Tryz.func91,Tryz.ntmps91
 go_wp2_with fail
 go_ret
 refine⟨w.heap.size+1+1,w.heap.size,w.heap.size+1+1+1,w.heap.size+1,rfl,?_,Nat.le_succ _,((((Ext.refl w).alloc _).alloc _).alloc _).alloc _⟩
 refine⟨?_,?_,?_,by simp,by simp;omega,by simp,?_,(((HK.out.alloc _).alloc _).alloc _).alloc _,hs⟩
 ·exact ((Blk.fresh' ((w.alloc (.cells #[.string seed] 9)).alloc (.map #[] 0)) 182 [.map (some (w.heap.size+1))] _ _ rfl (by simp)).alloc _).one
 ·exact ((((Blk.fresh' w 9 [.string seed] _ _ rfl rfl).alloc _).alloc _).alloc _).one
 ·exact (Blk.fresh' (((w.alloc (.cells #[.string seed] 9)).alloc (.map #[] 0)).alloc (.cells #[.map (some (w.heap.size+1))] 182)) 143 [_] _ _ rfl (by simp)).one
 ·have h:=Memo.made (w.alloc (.cells #[.string seed] 9)) seed
  rw[World.size_alloc] at h;exact h.ext (((Ext.refl _).alloc _).alloc _)
end
section
theorem valid_ok (h:Nat)(w:World)(h6:h≤6) :
  Calls Tryz.prog 53 #[.int .i64 (h:Int)] w fun e w'=>e=.returned (.bool true)∧w=w':=by
 go_enter Tryz.func53,Tryz.ntmps53
 go_wp2_with fail
 go_ret
 have q:decide ((h:Int)≤6)=true:=decide_eq_true (by omega)
 exact⟨by show Ending.returned (.bool (decide ((h:Int)≤6)))=_;rw[q],rfl⟩
end
section
attribute [local go_sem ↓] wp_at_zero wp_at_succ
theorem results_blk_tmp {P:Program}{fn:Func}{p u:Tmp}{ty:TypeId}(h:fn.results=#[ResultVar.cell p ty,.tmp u])(tmps:Array Value)(w:World)(g:Nat)(t:TypeId)(cs:List Value)(d:TypeDesc)(hp:tmps.getD p undef=.pointer (some ⟨g,0,none⟩))
  (hb:Blk w g t cs) (hu:P.underlying ty=some d) (hd:d.isRow=true) (hi:(P.info? ty).map (·.size)=some cs.length):(results fn tmps).run P w=.ok (.tuple #[.agg cs.toArray,tmps.getD u undef]) w:=by
 have hp':tmps[p]?.getD undef=.pointer (some ⟨g,0,none⟩):=by simpa using hp
 simp [results,h,hp',asAddr,run_loadVar_row w g t ty cs.toArray (0,0) d hb hu (by cases d<;>first|rfl|cases hd) (by rw[hi,List.size_toArray])]
theorem nr_ext {seed:ByteArray}{hm:Nat}{w a b:World}(h:Ext w a)(hr:NR seed hm a b)(hle:w.heap.size≤hm):Ext w b:=sg_ext h hr.1 (fun x hx=>by rw[hx];exact hle)
theorem public_any (seed:ByteArray)(h:Nat)(w:World)(hs:seed.size=32)(h6:h≤6)(hK:KTab w) :
  Calls Tryz.prog 46 #[.string seed,.int .i64 (h:Int)] w fun e w'=>e=.returned (.tuple #[.agg (u8s (nodeV seed h 0)).toArray,.int .i64 0])∧Ext w w':=by
 have HK:=hid hK;have zz:∀W,(zeroValue 26).run Tryz.prog W=.ok (.agg (u8s (List.replicate 16 0)).toArray) W:=fun W=>by kernel_rfl
 obtain⟨Z,hZ⟩:∃Z,Z=u8s (List.replicate 16 0):=⟨_,rfl⟩
 have HZL:Hid (Z.length=16):=hid (by rw[hZ];rfl)
 rw[←hZ] at zz
 have hpw:Hid ((0+1)*2^h≤64):=hid (by
  have:=Nat.pow_le_pow_right (show 0<2 by decide) h6
  omega)
 have HS:Hid (seed.size≤1000000):=hid (by omega)
 obtain⟨V,hV⟩:∃V,V=nodeV seed h 0:=⟨_,rfl⟩
 have HVL:Hid ((u8s V).length=16):=hid (by rw[hV,u8s_len];exact (nodeV_dig seed _ _).l)
 have HAT:Hid (∀(mb sb ab hm:Nat) (W:World),NEnv W seed mb sb ab hm→Calls Tryz.prog 128 #[.int .i64 (h:Int),.int .i64 0,.pointer (some ⟨mb,0,none⟩),.pointer (some ⟨sb,0,none⟩),.pointer (some ⟨ab,0,none⟩)] W fun e w'=>e=.returned (.agg (u8s V).toArray)∧NR seed hm W w'):=hid (fun mb sb ab hm W hW=>by
  rw[hV];exact nd_at_any seed mb sb ab hm h 0 W hW h6 hpw.out)
 have HZ:Hid (w.heap.size<(w.alloc (.cells Z.toArray 26)).heap.size):=hid (by simp)
 rw[←hV];clear hZ hV hK;go_enter Tryz.func46,Tryz.ntmps46
 go_upto_region 1 with fail
 obtain⟨w2,hw2⟩:∃x,x=w.alloc (.cells Z.toArray 26):=⟨_,rfl⟩
 change Code.wp _ _ _ _ (w.alloc (.cells Z.toArray 26))
 rw[←hw2];have E2:Hid (Ext w w2):=hid (by rw[hw2];exact (Ext.refl w).alloc _)
 have BZ:Hid (Blk w2 w.heap.size 26 Z):=hid (by rw[hw2];exact Blk.fresh' _ _ _ _ _ rfl rfl)
 have K2:=hid (HK.out.below E2.out);clear hw2
 go_wp2_with ((first
  | (go_at_call 53;(with_reducible refine (valid_ok h w2 h6).mono ?_);rintro e w3 ⟨rfl,rfl⟩)
  | (go_at_call 91;(with_reducible refine (nodes_any seed w2 HS.out K2.out).mono ?_);rintro e w4 ⟨mb,sb,ab,hm,rfl,hN,hle,hE4⟩;have N4:=hid hN;have E4:Hid (Ext w2 w4):=hid hE4;have HLE:=hid hle;clear hN hE4 hle)
  | (go_at_call 128;(with_reducible refine (HAT.out mb sb ab hm w4 N4.out).mono ?_);rintro e w5 ⟨rfl,hR5⟩;have E5:Hid (Ext w2 w5):=hid (nr_ext E4.out hR5 HLE.out);have BZ5:=hid (BZ.out.ext E5.out);clear hR5)
  | (refine wpList_store_blk rfl 26 (.tmp 4) (.tmp 18) (by rfl) w.heap.size (u8s V) rfl rfl BZ5.out (dg_info.trans (congrArg some HVL.out.symm)) (HZL.out.trans HVL.out.symm) (u8s_one _) ?_;intro w9 hw9 hb9)))
 exact bodyPost_ret (results_blk_tmp Tryz.results46 _ _ w.heap.size 26 (u8s V) _ rfl hb9 Tryz.underlying26 rfl (dg_info.trans (congrArg some HVL.out.symm))) rfl ⟨rfl,by rw[hw9.out];exact (E2.out.next E5.out).setRow (Nat.le_refl _) _⟩
end
end Go.Proofs.YtjeecfjeooehhaaGreatDoor