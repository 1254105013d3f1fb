/- SHA-256 as a plain function on lists of integers (words and bytes as the machine holds them). No condition. -/
import Derived.Test.YtjeecfjeooehhaaGreatDoorM1
import Derived.Test.YtjeecfjeooehhaaGreatDoorProg
import Derived.Deep.DeepCutAuto
set_option linter.unusedSimpArgs false
set_option linter.unusedVariables false
set_option maxHeartbeats 16000000
set_option maxRecDepth 100000
namespace Go.Proofs.YtjeecfjeooehhaaGreatDoor
open Go.RowKit
open Lib (hid)
section
def add32 (a b:Int):Int:=(a+b) % 4294967296
def xor32 (a b:Int):Int:=bits .xor .u32 a b
def and32 (a b:Int):Int:=bits .and .u32 a b
def not32 (a:Int):Int:=bits .xor .u32 IntKind.u32.max a
def rot (x s:Int):Int:=bits .or .u32 (IntKind.u32.wrap (x*2^s.toNat)) (x / 2^(32-s).toNat)
def mixI (x i j k:Int):Int:=xor32 (xor32 (rot x (32-i)) (rot x (32-j))) (rot x (32-k))
def sig0 (p:Int):Int:=xor32 (xor32 (rot p 25) (rot p 14)) (p / 8)
def sig1 (p:Int):Int:=xor32 (xor32 (rot p 15) (rot p 13)) (p / 1024)
def wordAt (l:List Int)(t:Nat):Int:=16777216*l.getD (4*t) 0+65536*l.getD (4*t+1) 0+256*l.getD (4*t+2) 0+l.getD (4*t+3) 0
def nextW (l ws:List Int)(t:Nat):Int :=
 if t<16 then wordAt l t else (ws.getD (t-16) 0+sig0 (ws.getD (t-15) 0)+ws.getD (t-7) 0+sig1 (ws.getD (t-2) 0)) % 4294967296
def wl (l:List Int):Nat→List Int
 | 0=>[]
 | t+1=>wl l t++[nextW l (wl l t) t]
theorem wl_length (l:List Int)(t:Nat):(wl l t).length=t:=by
 induction t with
 | zero=>rfl
 | succ t ih=>simp [wl,ih]
structure St where
 (a b c d e f g h:Int)
def xOf (e f g h k w:Int):Int:=(h+mixI e 6 11 25+xor32 (and32 e f) (and32 (not32 e) g)+k+w) % 4294967296
def yOf (a b c:Int):Int:=(mixI a 2 13 22+xor32 (xor32 (and32 a b) (and32 a c)) (and32 b c)) % 4294967296
def stepI (s:St)(k w:Int):St :=
 let x:=xOf s.e s.f s.g s.h k w
 ⟨(x+yOf s.a s.b s.c) % 4294967296,s.a,s.b,s.c,(s.d+x) % 4294967296,s.e,s.f,s.g⟩
def kc:List Int:=[1116352408,1899447441,3049323471,3921009573,961987163,1508970993,2453635748,2870763221,3624381080,310598401,607225278,1426881987,1925078388,2162078206,2614888103,3248222580,3835390401,4022224774,264347078,604807628,770255983,1249150122,1555081692,1996064986,2554220882,2821834349,2952996808,3210313671,3336571891,3584528711,113926993,338241895,666307205,773529912,1294757372,1396182291,1695183700,1986661051,2177026350,2456956037,2730485921,2820302411,3259730800,3345764771,3516065817,3600352804,4094571909,275423344,430227734,506948616,659060556,883997877,958139571,1322822218,1537002063,1747873779,1955562222,2024104815,2227730452,2361852424,2428436474,2756734187,3204031479,3329325298]
def rounds_ (l:List Int)(s:St):Nat→St
 | 0=>s
 | t+1=>stepI (rounds_ l s t) (kc.getD t 0) ((wl l 64).getD t 0)
def addSt (s v:St):St:=⟨add32 s.a v.a,add32 s.b v.b,add32 s.c v.c,add32 s.d v.d,add32 s.e v.e,add32 s.f v.f,add32 s.g v.g,add32 s.h v.h⟩
def compI (s:St)(l:List Int):St:=addSt s (rounds_ l s 64)
def St.list (s:St):List Int:=[s.a,s.b,s.c,s.d,s.e,s.f,s.g,s.h]
def u32s (l:List Int):List Value:=l.map (Value.int .u32)
theorem u32s_get (l:List Int)(j:Nat)(h:j<l.length):(u32s l)[j]?=some (.int .u32 (l.getD j 0)):=by
 simp [u32s,List.getElem?_map,List.getD_eq_getElem?_getD,List.getElem?_eq_getElem h]
def shift8 (acc x:Int):Int:=bits .or .u32 (acc*256) x
theorem shift8_eq (acc x:Int)(h0:0≤acc)(h1:acc<16777216)(x0:0≤x)(x1:x≤255):shift8 acc x=256*acc+x:=by
 unfold shift8;obtain⟨a,rfl⟩:=Int.eq_ofNat_of_zero_le h0;obtain⟨b,rfl⟩:=Int.eq_ofNat_of_zero_le x0;have e:((a:Int)*256)=((a*256:Nat):Int):=by omega
 rw[e,u32_or_nat _ _ (by omega) (by omega),nat_join 8 _ _ (by omega) (by omega)]
 omega
def fin2 (s v:List Int)(i:Nat):List Int:=(List.range 8).map fun j=>if j % 4<i then (s.getD j 0+v.getD j 0) % 4294967296 else s.getD j 0
theorem fin2_len (s v:List Int)(i:Nat):(fin2 s v i).length=8:=by simp [fin2]
theorem fin2_get (s v:List Int)(i j:Nat)(h:j<8):(fin2 s v i).getD j 0=if j % 4<i then (s.getD j 0+v.getD j 0) % 4294967296 else s.getD j 0:=by
 simp [fin2,List.getD_eq_getElem?_getD,h]
theorem fin2_succ (s v:List Int)(i:Nat)(h:i<4)(x y:Int)(hx:x=(s.getD i 0+v.getD i 0) % 4294967296)(hy:y=(s.getD (i+4) 0+v.getD (i+4) 0) % 4294967296) :
  ((u32s (fin2 s v i)).set i (.int .u32 x)).set (i+4) (.int .u32 y)=u32s (fin2 s v (i+1)):=by
 subst hx hy
 match i,h with
 | 0,_=>rfl
 | 1,_=>rfl
 | 2,_=>rfl
 | 3,_=>rfl
def accW (l:List Int)(t:Nat):Nat→Int
 | 0=>0
 | j+1=>256*accW l t j+l.getD (4*t+j) 0
theorem accW_bd (l:List Int)(hb:Byt l)(t:Nat):∀j,j≤4→0≤accW l t j∧accW l t j<256^j:=by
 intro j
 induction j with
 | zero=>simp [accW]
 | succ j ih =>
  intro hj;have h:=ih (by omega)
  have hx:=hb.at_ (4*t+j);simp only[accW,Int.pow_succ]
  generalize (256:Int)^j=p at *
  omega
theorem accW_small (l:List Int)(hb:Byt l)(t j:Nat)(hj:j≤3):0≤accW l t j∧accW l t j<16777216:=by
 have h:=accW_bd l hb t j (by omega)
 have:(256:Int)^j≤16777216:=by
  match j,hj with
  | 0,_=>decide
  | 1,_=>decide
  | 2,_=>decide
  | 3,_=>decide
 omega
theorem accW_four (l:List Int)(t:Nat):accW l t 4=wordAt l t:=by
 simp only[accW,wordAt,Nat.add_zero]
 omega
end
section
theorem rotl_any (x:Int)(k s:Int)(w:World)(hs:bits .and .u64 (IntKind.u64.wrap k) 31=s)(h0:1≤s)(h1:s≤31) :
  Calls Tryz.prog 180 #[.int .u32 x,.int .i64 k] w fun e w'=>e=.returned (.int .u32 (rot x s))∧w=w':=by
 go_enter Tryz.func180,Tryz.ntmps180
 go_wp2
 go_ret
 exact⟨rfl,rfl⟩
theorem neg_and:∀i:Fin 32,1≤i.val→bits .and .u64 (IntKind.u64.wrap (-(i.val:Int))) 31=32-(i.val:Int):=by decide
theorem neg_and' (i:Int)(h0:1≤i)(h1:i≤31):bits .and .u64 (IntKind.u64.wrap (-i)) 31=32-i:=by
 obtain⟨n,rfl⟩:=Int.eq_ofNat_of_zero_le (show 0≤i by omega)
 exact neg_and ⟨n,by omega⟩ (by show 1≤n;omega)
theorem rotl_neg (x:Int)(i:Int)(w:World)(h0:1≤i)(h1:i≤31) :
  Calls Tryz.prog 180 #[.int .u32 x,.int .i64 (-i)] w fun e w'=>e=.returned (.int .u32 (rot x (32-i)))∧w=w' :=
 rotl_any x _ (32-i) w (neg_and' i h0 h1) (by omega) (by omega)
theorem mix_any (x i j k:Int)(w:World)(i0:1≤i)(i1:i≤31)(j0:1≤j)(j1:j≤31)(k0:1≤k)(k1:k≤31) :
  Calls Tryz.prog 178 #[.int .u32 x,.int .i64 i,.int .i64 j,.int .i64 k] w fun e w'=>e=.returned (.int .u32 (mixI x i j k))∧w=w':=by
 go_enter Tryz.func178,Tryz.ntmps178
 go_wp2_with fail
 with_reducible refine (rotl_neg x i _ i0 i1).mono ?_
 rintro e w1 ⟨rfl,rfl⟩
 go_wp2_with fail
 with_reducible refine (rotl_neg x j _ j0 j1).mono ?_
 rintro e w1 ⟨rfl,rfl⟩
 go_wp2_with fail
 with_reducible refine (rotl_neg x k _ k0 k1).mono ?_
 rintro e w1 ⟨rfl,rfl⟩
 go_wp2_with fail
 go_ret
 exact⟨rfl,rfl⟩
def schedCells (l:List Int)(t:Nat):List Value:=u32s (wl l t++List.replicate (64-t) 0)
theorem schedCells_get (l:List Int)(t j:Nat)(h:j<t):(schedCells l t)[j]?=some (.int .u32 ((wl l t).getD j 0)):=by
 unfold schedCells;rw[u32s_get _ _ (by simp [wl_length];omega),List.getD_eq_getElem?_getD,List.getElem?_append_left (by rw[wl_length];exact h),←List.getD_eq_getElem?_getD]
theorem schedCells_zero (l:List Int)(t:Nat)(h:t<64):(schedCells l t)[t]?=some (.int .u32 0):=by
 unfold schedCells;rw[u32s_get _ _ (by simp [wl_length];omega),List.getD_eq_getElem?_getD,List.getElem?_append_right (by rw[wl_length];omega)]
 simp [wl_length,List.getElem?_replicate]
 split<;>rfl
theorem schedCells_succ (l:List Int)(t:Nat)(h:t<64)(x:Int)(hx:x=nextW l (wl l t) t):(schedCells l t).set t (.int .u32 x)=schedCells l (t+1):=by
 subst hx;unfold schedCells u32s;rw[List.map_append,List.set_append_right _ _ (by simp [wl_length])]
 obtain⟨n,hn⟩:∃n,64-t=n+1:=⟨63-t,by omega⟩
 rw[hn,show 64-(t+1)=n from by omega]
 simp [wl_length,wl,List.replicate_succ]
theorem nextW_hi (l ws:List Int)(t:Nat)(h:¬t<16):(ws.getD (t-16) 0+xor32 (xor32 (rot (ws.getD (t-15) 0) 25) (rot (ws.getD (t-15) 0) 14)) (ws.getD (t-15) 0 / 8)+ws.getD (t-7) 0+xor32 (xor32 (rot (ws.getD (t-2) 0) 15) (rot (ws.getD (t-2) 0) 13)) (ws.getD (t-2) 0 / 1024)) % 4294967296=nextW l ws t:=by
 unfold nextW;rw[if_neg h];rfl
theorem info_64u32:(Tryz.prog.info? 227).map (·.size)=some 64:=by kernel_rfl
theorem schedule_any (l:List Int)(g o c:Nat)(w:World)(_hl:l.length=64)(hc:∀j,j<64→w.cell? ⟨g,o+j,none⟩=some (.int .u8 (l.getD j 0)))(hb:Byt l)(hcap:64≤c)(hcm:c≤9223372036854775807) :
  Calls Tryz.prog 177 #[.slice (some ⟨g,o,none⟩) 64 c] w fun e w'=>e=.returned (.agg (u32s (wl l 64)).toArray)∧Below w.heap.size w w':=by
 have hg:g<w.heap.size:=World.block_lt_of_cell? w _ (hc 0 (by omega))
 go_enter Tryz.func177,Tryz.ntmps177
 go_wp2_with fail
 go_loopw [11] (fun i wr=>∃t:Nat,t≤64∧i=.int .i64 t∧Blk wr (w.heap.size+1) 227 (schedCells l t)∧Blk wr w.heap.size 227 (schedCells l 0)∧Below w.heap.size w wr)
  (fun i _=>64-(intOf i).toNat)
 case atStart=>exact⟨0,by omega,rfl,Blk.fresh' _ _ _ _ _ rfl (by simp),(Blk.fresh' _ _ _ _ _ rfl rfl).alloc _,((Below.refl _ _).alloc (Nat.le_refl _) _).alloc (by simp) _⟩
 case round =>
  obtain⟨t,ht,rfl,hW,hR,hB⟩:=hrel;have HW:=hid hW;have HR:=hid hR;by_cases hlt:t<64
  ·by_cases h16:t<16
   ·clear hW hR
    obtain⟨wo,rfl⟩:∃wo:World,wo=wr:=⟨_,rfl⟩
    go_wp2_with fail
    go_loopw [24] (fun i wq=>∃j:Nat,j≤4∧i=.int .i64 j∧Blk wq (w.heap.size+1) 227 ((schedCells l t).set t (.int .u32 (accW l t j)))∧Blk wq w.heap.size 227 (schedCells l 0)∧Below w.heap.size w wq)
     (fun i _=>4-(intOf i).toNat)
    case atStart =>
     refine⟨0,by omega,rfl,?_,HR.out,hB⟩
     rw[show (schedCells l t).set t (Value.int .u32 (accW l t 0))=schedCells l t from set_same (schedCells_zero l t hlt)];exact HW.out
    case round =>
     obtain⟨j,hj,rfl,hW,hR2,hB2⟩:=hrel;have HW2:=hid hW;have HR2:=hid hR2;clear hR2;by_cases hj4:j<4
     ·have hx:=(hB2.cell (p:=⟨g,o+(4*t+j),none⟩) hg).trans (hc (4*t+j) (by omega))
      rw[←Nat.add_assoc] at hx
      have c0:wr.cell? ⟨w.heap.size+1,t,none⟩=some (.int .u32 (accW l t j)):=by
       rw[hW.cell t,List.getElem?_set_self (by simp [schedCells,u32s,wl_length];omega)]
      have fz:=hW.frozen t;have hbd:=accW_small l hb t j (by omega)
      have hbx:=hb.at_ (4*t+j);have HS:=hid (shift8_eq (accW l t j) (l.getD (4*t+j) 0) hbd.1 hbd.2 hbx.1 hbx.2);have HA:Hid (accW l t (j+1)=256*accW l t j+l.getD (4*t+j) 0):=hid rfl;clear hW;generalize accW l t j=acc at *
      generalize l.getD (4*t+j) 0=x at *
      obtain⟨b0,b1⟩:=hbx;obtain⟨d0,d1⟩:=hbd;go_wp2_with fail
      go_roundw
      case rel =>
       refine⟨j+1,by omega,by go_num,?_,HR2.out.far (by simp) _,hB2.setCell (by simp) _⟩
       have h2:=HW2.out.set t (.int .u32 (bits .or .u32 (acc*256) x));rw[List.set_set,show bits .or .u32 (acc*256) x=accW l t (j+1) from HS.out.trans HA.out.symm] at h2;rw[show bits .or .u32 (acc*256) x=accW l t (j+1) from HS.out.trans HA.out.symm];exact h2
      case measure=>simp [intOf];omega
     ·obtain rfl:j=4:=by omega
      clear hW;go_wp2_with fail
      go_roundw
      case rel =>
       refine⟨t+1,by omega,by go_num,?_,HR2.out,hB2⟩
       rw[←schedCells_succ l t hlt (wordAt l t) (by unfold nextW;rw[if_pos h16]),←accW_four]
       exact HW2.out
      case measure=>simp [intOf];omega
   ·have c0:=(hW.cell t).trans (schedCells_zero l t hlt)
    have c16:=(hW.cell (t-16)).trans (schedCells_get l t (t-16) (by omega))
    have c15:=(hW.cell (t-15)).trans (schedCells_get l t (t-15) (by omega))
    have c7:=(hW.cell (t-7)).trans (schedCells_get l t (t-7) (by omega))
    have c2:=(hW.cell (t-2)).trans (schedCells_get l t (t-2) (by omega))
    have fz:=hW.frozen t;have hN:=nextW_hi l (wl l t) t h16;clear hW hR;generalize (wl l t).getD (t-16) 0=x16 at *
    generalize (wl l t).getD (t-15) 0=x15 at *
    generalize (wl l t).getD (t-7) 0=x7 at *
    generalize (wl l t).getD (t-2) 0=x2 at *
    have HN:=hid hN;clear hN;go_wp2_with fail
    go_quiet (fail)
    go_wp2_with fail
    with_reducible refine (rotl_neg x15 7 _ (by decide) (by decide)).mono ?_
    rintro e w1 ⟨rfl,rfl⟩
    go_wp2_with fail
    with_reducible refine (rotl_neg x15 18 _ (by decide) (by decide)).mono ?_
    rintro e w1 ⟨rfl,rfl⟩
    go_wp2_with fail
    with_reducible refine (rotl_neg x2 17 _ (by decide) (by decide)).mono ?_
    rintro e w1 ⟨rfl,rfl⟩
    go_wp2_with fail
    with_reducible refine (rotl_neg x2 19 _ (by decide) (by decide)).mono ?_
    rintro e w1 ⟨rfl,rfl⟩
    go_wp2_with fail
    go_region
    go_wp2_with fail
    go_roundw
    case rel=>exact⟨t+1,by omega,by go_num,by rw[←schedCells_succ l t hlt _ (HN.out)];exact (HW.out.drewN _).set t _,(HR.out.drewN _).far (by simp) _,(below_drewN hB _).setCell (by simp) _⟩
    case measure=>simp [intOf];omega
  ·obtain rfl:t=64:=by omega
   have hs:(schedCells l 64).toArray.size=64:=by simp [schedCells,u32s,wl_length]
   have hz:(schedCells l 0).toArray.size=64:=by simp [schedCells,u32s,wl_length]
   have hone:(schedCells l 64).toArray.all (·.oneCell')=true:=by simp [schedCells,u32s,Value.oneCell']
   go_wp2_with (first
    | refine wpList_load_row rfl 227 (.tmp 3) rfl (w.heap.size+1) rfl 227 _ (0,0) _ hW Tryz.underlying227 rfl (info_64u32.trans (congrArg some hs.symm)) ?_
    | refine wpList_store_row rfl 227 (.tmp 2) (.tmp 78) rfl w.heap.size _ rfl rfl 227 _ hR (info_64u32.trans (congrArg some hs.symm)) (hz.trans hs.symm) hone ?_)
   refine bodyPost_ret (results_cell_row Tryz.results177 _ _ w.heap.size 227 _ (0,0) _ rfl (hR.setRow (schedCells l 64)) Tryz.underlying227 rfl (info_64u32.trans (congrArg some hs.symm))) rfl ⟨?_,below_row hB (Nat.le_refl _) _⟩
   simp [schedCells]
end
section
def KTab (w:World):Prop:=Tab w 3 (u32s kc)
theorem info_8u32:(Tryz.prog.info? 192).map (·.size)=some 8:=by kernel_rfl
theorem mix_any' (x i j k:Int)(w:World)(i0:1≤i)(i1:i≤31)(j0:1≤j)(j1:j≤31)(k0:1≤k)(k1:k≤31) :
  Calls Tryz.prog 178 #[.int .u32 x,.int .i64 i,.int .i64 j,.int .i64 k] w fun e w'=>e=.returned (.int .u32 (mixI x i j k))∧w'=w :=
 (mix_any x i j k w i0 i1 j0 j1 k0 k1).mono fun _ _ h=>⟨h.1,h.2.symm⟩
theorem index_kc (t:Nat)(h:t<64)(W:World):(Instr.index 227 (.agg (u32s kc).toArray) (.int .i64 t)).run Tryz.prog W=.ok (.int .u32 (kc.getD t 0)) W:=by
 have h1:(0:Int)≤t∧(t:Int)<64:=by omega
 have h2:(u32s kc)[t]?=some (.int .u32 (kc.getD t 0)):=u32s_get kc t h
 simp [Instr.index,run_underlying Tryz.underlying227,go_sem,h1]
 rw[if_pos h,h2];simp
theorem compress_any (s:St)(l:List Int)(g o c:Nat)(w:World)(hl:l.length=64)(hc:∀j,j<64→w.cell? ⟨g,o+j,none⟩=some (.int .u8 (l.getD j 0)))(hb:Byt l)(hcap:64≤c)(hcm:c≤9223372036854775807)(hK:KTab w) :
  Calls Tryz.prog 168 #[.agg #[.int .u32 s.a,.int .u32 s.b,.int .u32 s.c,.int .u32 s.d,.int .u32 s.e,.int .u32 s.f,.int .u32 s.g,.int .u32 s.h],.slice (some ⟨g,o,none⟩) 64 c] w fun e w'=>e=.returned (.agg (u32s (compI s l).list).toArray)∧Below w.heap.size w w':=by
 have hg:g<w.heap.size:=World.block_lt_of_cell? w _ (hc 0 (by omega))
 obtain⟨sa,sb,sc,sd,se,sf,sg,sh⟩:=s;simp only
 have HC:=hid hc;clear hc;go_enter Tryz.func168,Tryz.ntmps168
 go_upto_region 1 with (fail)
 go_cut [5] (fun s5 wx=>∃p,w.heap.size+2≤p∧s5=.pointer (some ⟨p,0,none⟩)∧Blk wx w.heap.size 192 (u32s [sa,sb,sc,sd,se,sf,sg,sh])∧Blk wx (w.heap.size+1) 192 (u32s [0,0,0,0,0,0,0,0])∧Blk wx p 227 (u32s (wl l 64))∧Below w.heap.size w wx)
 case first =>
  go_wp2_with fail
  with_reducible refine (schedule_any l g o c _ hl (fun j hj=>?_) hb hcap hcm).mono ?_
  ·rw[World.cell?_alloc_lt _ _ _ (by simp;omega),World.cell?_alloc_lt _ _ _ (by simp;omega)];exact HC.out j hj
  rintro e w1 ⟨rfl,hB1⟩
  have hz:=hB1.size;simp at hz
  have hb0:Blk w1 w.heap.size 192 (u32s [sa,sb,sc,sd,se,sf,sg,sh]):=((Blk.fresh' _ _ _ _ _ rfl rfl).alloc _).below hB1 (by simp;omega)
  have hb1:Blk w1 (w.heap.size+1) 192 (u32s [0,0,0,0,0,0,0,0]):=(Blk.fresh' _ _ _ _ _ rfl (by simp)).below hB1 (by simp)
  have hs:(u32s (wl l 64)).toArray.size=64:=by simp [u32s,wl_length]
  have hone:(u32s (wl l 64)).toArray.all (·.oneCell')=true:=by simp [u32s,Value.oneCell']
  have hBB:Below w.heap.size w w1:=(((Below.refl _ _).alloc (Nat.le_refl _) _).alloc (by simp) _).trans (hB1.mono (by simp;omega))
  have HB0:=hid hb0;have HB1:=hid hb1;clear hb0 hb1;go_wp2_with (refine wpList_store_row rfl 227 (.tmp 5) (.tmp 14) rfl w1.heap.size _ rfl rfl 227 _ (heap_alloc_new _ _) (info_64u32.trans (congrArg some hs.symm)) hs.symm hone ?_)
  go_meet
  case rel=>exact⟨_,hz,rfl,(HB0.out.alloc _).setRow_far (by omega) _,(HB1.out.alloc _).setRow_far (by omega) _,Blk.setRow (Blk.fresh' _ _ (u32s (List.replicate 64 0)) _ _ rfl rfl) _,below_row (hBB.alloc (by omega) _) (by omega) _⟩
 case rest =>
  obtain⟨p,hp,rfl,hb0,hb1,hbp,hBB⟩:=hcut;obtain⟨wb,rfl⟩:∃x:World,x=wc:=⟨_,rfl⟩
  have c0:=hb0.cell 0;have c1:=hb0.cell 1;have c2:=hb0.cell 2;have c3:=hb0.cell 3;have c4:=hb0.cell 4;have c5:=hb0.cell 5;have c6:=hb0.cell 6;have c7:=hb0.cell 7;simp only[u32s,List.map_cons,List.map_nil,List.getElem?_cons_zero,List.getElem?_cons_succ] at c0 c1 c2 c3 c4 c5 c6 c7
  have HB0:=hid hb0;have HB1:=hid hb1;have HBP:=hid hbp;clear hb0 hb1 hbp;have hK2:KTab wb:=Tab.below hK hBB (by have:=Tab.lt hK;exact this)
  have HK:=hid hK2;clear hK2 hK;have e0:wb.heap.size≠w.heap.size:=Nat.ne_of_gt (World.block_lt_of_cell? wb _ c0)
  have hlt:=Blk.lt HB0.out;have ha:=fun (W:World) (a:Option Addr) (cap:Nat)=>run_arrayAt (P:=Tryz.prog) W 241 191 4 a 4 cap Tryz.underlying241 (Nat.le_refl _)
  go_upto_region 2 with (fail)
  go_cut [6,7] (fun s6 s7 wx=>∃p6 p7,s6=.pointer (some ⟨p6,0,none⟩)∧s7=.pointer (some ⟨p7,0,none⟩)∧wb.heap.size≤p6∧wb.heap.size≤p7∧p6≠p7∧Blk wx p6 241 (u32s [sa,sb,sc,sd])∧Blk wx p7 241 (u32s [se,sf,sg,sh])∧Below wb.heap.size wb wx)
  case first =>
   go_region
   all_goals
    clear ha e0;go_wp2_with fail
    go_meet
    case rel =>
     first
      | exact⟨_,_,rfl,rfl,Nat.le_refl _,Nat.le_succ _,by simp,((Blk.fresh' _ _ _ _ _ rfl rfl).alloc _).drew,(Blk.fresh' _ _ _ _ _ rfl (by simp)).drew,((((Below.refl _ _).alloc (Nat.le_refl _) _).alloc (by simp) _)).drew⟩
      | exact⟨_,_,rfl,rfl,Nat.le_succ _,Nat.le_refl _,by simp,(Blk.fresh' _ _ _ _ _ rfl (by simp)).drew,((Blk.fresh' _ _ _ _ _ rfl rfl).alloc _).drew,((((Below.refl _ _).alloc (Nat.le_refl _) _).alloc (by simp) _)).drew⟩
  case rest =>
   clear ha e0 c0 c1 c2 c3 c4 c5 c6 c7;obtain⟨p6,p7,rfl,rfl,h6,h7,h67,hv,he,hBc⟩:=hcut;have hK3:KTab wc:=Tab.below HK.out hBc (Tab.lt HK.out);have h0:=HB0.out.below hBc HB0.out.lt;have h1:=HB1.out.below hBc HB1.out.lt;have hp5:=HBP.out.below hBc HBP.out.lt;have hp5':=HBP.out.lt;have hB2:Below w.heap.size w wc:=hBB.trans (hBc.mono (by omega))
   clear HB0 HB1 HBP HK hBB hBc hlt;obtain⟨tk,frk,hK3⟩:=hK3;go_wp2_with (refine wpList_load_row rfl 227 (.global 3) rfl 3 rfl tk (u32s kc).toArray frk _ hK3 Tryz.underlying227 rfl (by kernel_rfl) ?_)
   go_loopw [22] (fun i wr=>∃t:Nat,t≤64∧i=.int .i64 t∧Blk wr p6 241 (u32s [(rounds_ l ⟨sa,sb,sc,sd,se,sf,sg,sh⟩ t).a,(rounds_ l ⟨sa,sb,sc,sd,se,sf,sg,sh⟩ t).b,(rounds_ l ⟨sa,sb,sc,sd,se,sf,sg,sh⟩ t).c,(rounds_ l ⟨sa,sb,sc,sd,se,sf,sg,sh⟩ t).d]) ∧
     Blk wr p7 241 (u32s [(rounds_ l ⟨sa,sb,sc,sd,se,sf,sg,sh⟩ t).e,(rounds_ l ⟨sa,sb,sc,sd,se,sf,sg,sh⟩ t).f,(rounds_ l ⟨sa,sb,sc,sd,se,sf,sg,sh⟩ t).g,(rounds_ l ⟨sa,sb,sc,sd,se,sf,sg,sh⟩ t).h])∧Below wb.heap.size wc wr)
    (fun i _=>64-(intOf i).toNat)
   case atStart=>exact⟨0,by omega,rfl,hv,he,Below.refl _ _⟩
   case round =>
    obtain⟨t,ht,rfl,hv2,he2,hBr⟩:=hrel;by_cases hlt:t<64
    ·have hw:=(hBr.cell (p:=⟨p,t,none⟩) hp5').trans ((hp5.cell t).trans (u32s_get _ t (by rw[wl_length];exact hlt)))
     have HS:Hid (rounds_ l ⟨sa,sb,sc,sd,se,sf,sg,sh⟩ (t+1)=stepI (rounds_ l ⟨sa,sb,sc,sd,se,sf,sg,sh⟩ t) (kc.getD t 0) ((wl l 64).getD t 0)):=hid rfl;have hk:=index_kc t hlt;generalize (wl l 64).getD t 0=wt at *
     generalize kc.getD t 0=kt at *
     generalize rounds_ l ⟨sa,sb,sc,sd,se,sf,sg,sh⟩ t=st at *
     obtain⟨a,b,c',d,e,f,g',hh⟩:=st;simp only at hv2 he2
     have v0:=hv2.cell 0;have v1:=hv2.cell 1;have v2:=hv2.cell 2;have v3:=hv2.cell 3;have e0:=he2.cell 0;have e1:=he2.cell 1;have e2:=he2.cell 2;have e3:=he2.cell 3;simp only[u32s,List.map_cons,List.map_nil,List.getElem?_cons_zero,List.getElem?_cons_succ] at v0 v1 v2 v3 e0 e1 e2 e3
     have HV:=hid hv2;have HE:=hid he2;clear hv2 he2 h0 h1 hp5 hK3;obtain⟨wd,rfl⟩:∃x:World,x=wc:=⟨_,rfl⟩
     go_upto_region 6 with (fail)
     go_cut [10] (fun s10 wx=>s10=.int .u32 (xOf e f g' hh kt wt)∧Drew wr wx)
     case first =>
      go_quiet ((go_at_call 178;exact Calls.quiet_of_same (mix_any' _ _ _ _ _ (by decide) (by decide) (by decide) (by decide) (by decide) (by decide))))
      go_wp2_with fail
      go_meet
      case rel=>exact⟨rfl,Drew.mk _ _⟩
     case rest =>
      obtain⟨rfl,hd1⟩:=hcut;obtain⟨w8,rfl⟩:∃x:World,x=wc:=⟨_,rfl⟩
      rw[←hd1.cell] at v0 v1 v2 v3 e0 e1 e2 e3 hw;generalize hx:xOf e f g' hh kt wt=x at *
      have HX:=hid hx;clear hx;go_upto_region 7 with (fail)
      go_cut [11] (fun s11 wx=>s11=.int .u32 (yOf a b c')∧Drew w8 wx)
      case first =>
       go_quiet ((go_at_call 178;exact Calls.quiet_of_same (mix_any' _ _ _ _ _ (by decide) (by decide) (by decide) (by decide) (by decide) (by decide))))
       go_wp2_with fail
       go_meet
       case rel=>exact⟨rfl,Drew.mk _ _⟩
      case rest =>
       obtain⟨rfl,hd2⟩:=hcut;rw[←hd2.cell] at v0 v1 v2 v3 e0 e1 e2 e3;generalize hy:yOf a b c'=y at *
       have HY:=hid hy;clear hy;have HV2:=hid (hd2.blk (hd1.blk HV.out));have HE2:=hid (hd2.blk (hd1.blk HE.out));have HBr:Hid (Below wb.heap.size wd wc):=hid ((hBr.trans (hd1.below _)).trans (hd2.below _));have f0:=HE2.out.frozen 0;have f1:=HE2.out.frozen 1;have f2:=HE2.out.frozen 2;have f3:=HE2.out.frozen 3;have g0:=HV2.out.frozen 0;have g1:=HV2.out.frozen 1;have g2:=HV2.out.frozen 2;have g3:=HV2.out.frozen 3;have h76:=Ne.symm h67;clear hd1 hd2 hBr HV HE hv he hw;go_wp2_with fail
       go_roundw
       case rel =>
        refine⟨t+1,by omega,by go_num,?_,?_,?_⟩
        ·rw[HS.out]
         simp only[stepI]
         rw[HX.out,HY.out];refine (Blk.set (Blk.set (Blk.set (Blk.set (Blk.far (Blk.far (Blk.far (Blk.far HV2.out ?_ _) ?_ _) ?_ _) ?_ _) 0 _) 1 _) 2 _) 3 _)<;>exact h67
        ·rw[HS.out]
         simp only[stepI]
         rw[HX.out];refine (Blk.far (Blk.far (Blk.far (Blk.far (Blk.set (Blk.set (Blk.set (Blk.set HE2.out 0 _) 1 _) 2 _) 3 _) ?_ _) ?_ _) ?_ _) ?_ _)<;>exact h76
        ·refine (((((((HBr.out.setCell ?_ _).setCell ?_ _).setCell ?_ _).setCell ?_ _).setCell ?_ _).setCell ?_ _).setCell ?_ _).setCell ?_ _<;>assumption
       case measure=>simp [intOf];omega
    ·obtain rfl:t=64:=by omega
     have hr0:=h0.below hBr (by omega)
     have hr1:=h1.below hBr (by omega)
     have hB3:=hB2.trans (hBr.mono (by omega))
     clear h0 h1 hp5 hK3 hBr hB2 hv he;generalize hst:rounds_ l ⟨sa,sb,sc,sd,se,sf,sg,sh⟩ 64=st at *
     have HST:=hid hst;clear hst;obtain⟨a,b,c',d,e,f,g',hh⟩:=st;simp only at hv2 he2
     obtain⟨wd,rfl⟩:∃x:World,x=wc:=⟨_,rfl⟩
     obtain⟨wo,rfl⟩:∃x:World,x=wr:=⟨_,rfl⟩
     have hlt6:w.heap.size<p6:=by omega
     have hlt7:w.heap.size<p7:=by omega
     go_wp2_with fail
     go_loopw [94] (fun i wr=>∃t:Nat,t≤4∧i=.int .i64 t∧Blk wr w.heap.size 192 (u32s (fin2 [sa,sb,sc,sd,se,sf,sg,sh] [a,b,c',d,e,f,g',hh] t))∧Blk wr (w.heap.size+1) 192 (u32s [0,0,0,0,0,0,0,0]) ∧
       Blk wr p6 241 (u32s [a,b,c',d])∧Blk wr p7 241 (u32s [e,f,g',hh])∧Below w.heap.size w wr)
      (fun i _=>4-(intOf i).toNat)
     case atStart=>exact⟨0,by omega,rfl,hr0,hr1,hv2,he2,hB3⟩
     case round =>
      clear hr0 hr1 hv2 he2 hB3;obtain⟨t,ht,rfl,hr0,hr1,hv2,he2,hB3⟩:=hrel;by_cases hlt:t<4
      ·have c0:=(hr0.cell t).trans ((u32s_get _ t (by rw[fin2_len];omega)).trans (by rw[fin2_get _ _ _ _ (by omega),if_neg (by omega)]))
       have c4:=(hr0.cell (t+4)).trans ((u32s_get _ (t+4) (by rw[fin2_len];omega)).trans (by rw[fin2_get _ _ _ _ (by omega),if_neg (by omega)]))
       have v0:=(hv2.cell t).trans (u32s_get _ t hlt);have e0:=(he2.cell t).trans (u32s_get _ t hlt);have f0:=hr0.frozen t;have f4:=hr0.frozen (t+4);have HN:=hid (fin2_succ [sa,sb,sc,sd,se,sf,sg,sh] [a,b,c',d,e,f,g',hh] t hlt)
       have hv:[a,b,c',d,e,f,g',hh].getD t 0=[a,b,c',d].getD t 0:=by
        match t,hlt with
        | 0,_=>rfl
        | 1,_=>rfl
        | 2,_=>rfl
        | 3,_=>rfl
       have he:[a,b,c',d,e,f,g',hh].getD (t+4) 0=[e,f,g',hh].getD t 0:=by
        match t,hlt with
        | 0,_=>rfl
        | 1,_=>rfl
        | 2,_=>rfl
        | 3,_=>rfl
       rw[hv,he] at HN;clear hv he;have HR0:=hid hr0;have HR1:=hid hr1;have HV:=hid hv2;have HE:=hid he2;clear hr0 hr1 hv2 he2;generalize [sa,sb,sc,sd,se,sf,sg,sh].getD t 0=x0 at *
       generalize [sa,sb,sc,sd,se,sf,sg,sh].getD (t+4) 0=x4 at *
       generalize [a,b,c',d].getD t 0=y0 at *
       generalize [e,f,g',hh].getD t 0=y4 at *
       go_upto_region 14 with (fail)
       go_region
       go_upto_region 15 with (fail)
       go_region
       go_wp2_with fail
       go_roundw
       case rel =>
        refine⟨t+1,by omega,by go_num,?_,?_,?_,?_,?_⟩
        ·rw[←HN.out _ _ rfl rfl]
         exact ((HR0.out.set t _).set (t+4) _).drew.drew
        ·exact ((HR1.out.far (by simp) _).far (by simp) _).drew.drew
        ·exact ((HV.out.far (by simp;omega) _).far (by simp;omega) _).drew.drew
        ·exact ((HE.out.far (by simp;omega) _).far (by simp;omega) _).drew.drew
        ·exact ((hB3.setCell (by simp) _).setCell (by simp) _).drew.drew
       case measure=>simp [intOf];omega
      ·obtain rfl:t=4:=by omega
       clear hv2 he2;have hfin:compI ⟨sa,sb,sc,sd,se,sf,sg,sh⟩ l=addSt ⟨sa,sb,sc,sd,se,sf,sg,sh⟩ ⟨a,b,c',d,e,f,g',hh⟩:=by unfold compI;rw[HST.out]
       have hfin2:fin2 [sa,sb,sc,sd,se,sf,sg,sh] [a,b,c',d,e,f,g',hh] 4=(compI ⟨sa,sb,sc,sd,se,sf,sg,sh⟩ l).list:=by rw[hfin];rfl
       rw[hfin2] at hr0;clear hfin hfin2;generalize hres:(compI ⟨sa,sb,sc,sd,se,sf,sg,sh⟩ l)=res at hr0
       have hs:(u32s res.list).toArray.size=8:=rfl;have hone:(u32s res.list).toArray.all (·.oneCell')=true:=by simp [u32s,St.list,Value.oneCell']
       have HL:=hid hres;clear hres;generalize hL:u32s res.list=L at hr0 hs hone
       have HLL:=hid hL;clear hL
       go_wp2_with (first
        | refine wpList_load_row rfl 192 (.tmp 2) rfl w.heap.size rfl 192 _ (0,0) _ hr0 Tryz.underlying192 rfl (info_8u32.trans (congrArg some hs.symm)) ?_
        | refine wpList_store_row rfl 192 (.tmp 4) (.tmp 115) rfl (w.heap.size+1) _ rfl rfl 192 _ hr1 (info_8u32.trans (congrArg some hs.symm)) hs.symm hone ?_)
       exact bodyPost_ret (results_cell_row Tryz.results168 _ _ (w.heap.size+1) 192 _ (0,0) _ rfl (hr1.setRow L) Tryz.underlying192 rfl (info_8u32.trans (congrArg some hs.symm))) rfl ⟨by rw[HL.out,HLL.out],below_row hB3 (by omega) _⟩
end
section
def blocksI:Nat→List Int→St→St
 | 0,_,s=>s
 | k+1,m,s=>blocksI k (m.drop 64) (compI s (m.take 64))
def initSt:St:=⟨1779033703,3144134277,1013904242,2773480762,1359893119,2600822924,528734635,1541459225⟩
def hst (m:List Int):St:=blocksI (m.length / 64) m initSt
theorem blocksI_succ:∀(k:Nat) (m:List Int) (s:St),blocksI (k+1) m s=compI (blocksI k m s) ((m.drop (64*k)).take 64)
 | 0,m,s=>by simp [blocksI]
 | k+1,m,s=>by
  rw[blocksI,blocksI_succ k,blocksI,List.drop_drop];rw[show 64+64*k=64*(k+1) from by omega]
theorem blocksI_app:∀(k:Nat) (m x:List Int) (s:St),64*k≤m.length→blocksI k (m++x) s=blocksI k m s
 | 0,_,_,_,_=>rfl
 | k+1,m,x,s,h=>by
  rw[blocksI,blocksI,List.drop_append_of_le_length (by omega),List.take_append_of_le_length (by omega)]
  exact blocksI_app k _ _ _ (by rw[List.length_drop];omega)
theorem hst_small (m x:List Int)(h:m.length % 64+x.length<64):hst (m++x)=hst m:=by
 unfold hst;have e:(m++x).length / 64=m.length / 64:=by rw[List.length_append];omega
 rw[e];exact blocksI_app _ _ _ _ (by omega)
theorem hst_full (m x:List Int)(h:m.length % 64+x.length=64):hst (m++x)=compI (hst m) (m.drop (m.length / 64*64)++x):=by
 unfold hst;have e:(m++x).length / 64=m.length / 64+1:=by rw[List.length_append];omega
 rw[e,blocksI_succ,blocksI_app _ _ _ _ (by omega),Nat.mul_comm 64,List.drop_append_of_le_length (by omega),List.take_of_length_le]
 rw[List.length_append,List.length_drop];omega
structure IsStream (cs:List Value) (m blk:List Int):Prop where
 cells:cs=u32s (hst m).list++(u8s blk++[.int .u64 m.length])
 len:blk.length=64
 byt:Byt blk
 mbyt:Byt m
 part:blk.take (m.length % 64)=m.drop (m.length / 64*64)
def over (blk:List Int)(n:Nat)(x:List Int):List Int:=blk.take n++x++blk.drop (n+x.length)
theorem over_len (blk:List Int)(n:Nat)(x:List Int)(h:n+x.length≤blk.length):(over blk n x).length=blk.length:=by
 simp [over];omega
theorem over_byt {blk x:List Int}(hb:Byt blk)(hx:Byt x)(n:Nat):Byt (over blk n x):=((hb.take _).app hx).app (hb.drop _)
theorem over_take (blk:List Int)(n:Nat)(x:List Int)(h:n≤blk.length):(over blk n x).take (n+x.length)=blk.take n++x:=by
 unfold over;rw[List.take_append_of_le_length (by simp;omega),List.take_of_length_le (by simp;omega)]
theorem str_part {m x blk:List Int}(hp:blk.take (m.length % 64)=m.drop (m.length / 64*64))(hl:blk.length=64)(h:m.length % 64+x.length<64) :
  (over blk (m.length % 64) x).take ((m++x).length % 64)=(m++x).drop ((m++x).length / 64*64):=by
 have e1:(m++x).length % 64=m.length % 64+x.length:=by rw[List.length_append];omega
 have e2:(m++x).length / 64=m.length / 64:=by rw[List.length_append];omega
 rw[e1,e2,over_take _ _ _ (by omega),hp,List.drop_append_of_le_length (by omega)]
theorem str_full {m x blk:List Int}(hp:blk.take (m.length % 64)=m.drop (m.length / 64*64))(hl:blk.length=64)(h:m.length % 64+x.length=64) :
  over blk (m.length % 64) x=m.drop (m.length / 64*64)++x:=by
 have:=over_take blk (m.length % 64) x (by omega)
 rw[h,List.take_of_length_le (by rw[over_len _ _ _ (by omega)];omega)] at this
 rw[this,hp]
theorem str_full_part (m x blk:List Int)(h:m.length % 64+x.length=64):(over blk (m.length % 64) x).take ((m++x).length % 64)=(m++x).drop ((m++x).length / 64*64):=by
 have e1:(m++x).length % 64=0:=by rw[List.length_append];omega
 have e2:(m++x).length / 64*64=(m++x).length:=by rw[List.length_append];omega
 rw[e1,e2];simp
def be64 (n:Int):List Int:=(List.range 8).map fun i=>(n / 2^(56-8*i)) % 256
def padOf (n:Nat):List Int:=128::List.replicate ((119-n % 64) % 64) 0++be64 (8*n)
def outI (s:St):List Int:=(List.range 32).map fun i=>(s.list.getD (i / 4) 0 / 2^(24-8*(i % 4))) % 256
def sha (m:List Int):List Int:=outI (hst (m++padOf m.length))
theorem sha_length (m:List Int):(sha m).length=32:=by simp [sha,outI]
theorem sha_byt (m:List Int):Byt (sha m):=fun x hx=>by
 obtain⟨i,_,rfl⟩:=List.mem_map.1 hx;omega
theorem be64_byt (n:Int):Byt (be64 n):=fun x hx=>by
 obtain⟨i,_,rfl⟩:=List.mem_map.1 hx;omega
theorem padOf_byt (n:Nat):Byt (padOf n):=by
 unfold padOf;refine Byt.app (fun x hx=>?_) (be64_byt _)
 rcases List.mem_cons.1 hx with rfl|hx
 ·omega
 ·obtain rfl:=(List.mem_replicate.1 hx).2
  omega
theorem padOf_len (n:Nat):(padOf n).length≤72:=by
 simp only[padOf,be64,List.length_append,List.length_cons,List.length_replicate,List.length_map,List.length_range]
 omega
end
end Go.Proofs.YtjeecfjeooehhaaGreatDoor