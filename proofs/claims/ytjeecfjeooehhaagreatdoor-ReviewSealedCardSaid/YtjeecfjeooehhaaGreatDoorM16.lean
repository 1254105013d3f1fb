/- Standing's map of the numbers met, and SortFunc at no review. Conditions: numbers of 64 bits. -/
import Derived.Test.YtjeecfjeooehhaaGreatDoorM15
import Derived.Maps.OwnSet
import Derived.DeepKeys4
set_option linter.unusedSimpArgs false
set_option linter.unusedVariables false
set_option maxHeartbeats 16000000
set_option maxRecDepth 100000
namespace Go.Proofs.YtjeecfjeooehhaaGreatDoor
open Go.RowKit
open Lib (hid)
section
def refV (s q:Int):Value:=.agg #[.int .i64 s,.int .i64 q]
def refK (s q:Int):Lit:=.string (keyBytes [.int .i64 s,.int .i64 q])
theorem keyRef:Maps.Keyed Tryz.prog 130:=Maps.Keyed.of_law (deep_law (m:=2) (by decide) (by kernel_rfl) (by kernel_rfl) (by kernel_rfl))
theorem i64_wf {x:Int}(h:i64 x):(Lit.int .i64 x).wf=true:=by
 unfold i64 at h;simp [Lit.wf,IntKind.min,IntKind.max,IntKind.bits,IntKind.signed]
 omega
theorem keyOf_ref {s q:Int}(hs:i64 s)(hq:i64 q):keyOf Tryz.prog 130 (refV s q)=some (refK s q):=by
 obtain⟨n,hn⟩:∃n,Tryz.prog.types.size=n+1:=⟨Tryz.prog.types.size-1,by have:0<Tryz.prog.types.size:=of_decide_eq_true (by kernel_rfl);omega⟩
 have hf:(refV s q).formed Tryz.prog 130=true:=by unfold refV;kernel_rfl
 have hk:Tryz.prog.keyType 130=true:=by kernel_rfl
 have hc:Tryz.prog.cellsOf 130=2:=by kernel_rfl
 have hce:Tryz.prog.cellsOf 3=1:=by kernel_rfl
 unfold keyOf;simp only[Tryz.underlying130,hk,hf,Bool.and_self,if_true]
 unfold refV refK;rw[hn];simp only[Program.keyLits,Tryz.underlying130,Tryz.underlying3,Value.cells,hc,hce,List.length_cons,List.length_nil]
 simp [Program.keyLits,Tryz.underlying3,hce,i64_wf hs,i64_wf hq]
theorem refK_inj {s q s' q':Int}(hs:i64 s)(hq:i64 q)(hs':i64 s')(hq':i64 q')(h:refK s q=refK s' q'):s=s'∧q=q':=by
 have h1:=keyOf_ref hs hq;rw[h] at h1;have h2:=keyRef.inj h1 (keyOf_ref hs' hq');unfold refV at h2;simpa using h2
def heldV (v:Value):Option (DataW Value×List MemPlace):=some (.held v,[])
def Met (w:World)(K:List (Int×Int))(hm n:Nat):Prop :=
 ∃L:List (Lit×DataW Value),w.ownsMap Tryz.prog 130 heldV hm n (.map L)∧(∀p∈L,∃s q,i64 s∧i64 q∧(s,q)∈K∧p=(refK s q,.held (.bool true)))∧∀s q,(s,q)∈K→i64 s∧i64 q∧∃p∈L,p.1=refK s q
theorem Met.kept {w w':World}{K:List (Int×Int)}{hm n:Nat}{F:Nat→Prop}(hh:Met w K hm n)(hk:Kept F w w')(hf:¬F hm):Met w' K hm n:=by
 obtain⟨L,⟨es,clock,hb,r⟩,h2⟩:=hh;exact⟨L,⟨es,clock,(hk.block hm (Array.getElem?_eq_some_iff.1 hb).1 hf).trans hb,r⟩,h2⟩
theorem Met.ext {w w':World}{K:List (Int×Int)}{hm n:Nat}(hh:Met w K hm n)(hE:Ext w w'):Met w' K hm n:=hh.kept (Kept.of_ext (F:=fun _=>False) hE) (fun h=>h)
theorem Met.made (w:World):Met (w.alloc (.map #[] 0)) [] w.heap.size 0:=⟨[],World.ownsMap_made w _ _ _,(fun p hp=>by cases hp),(fun s q h=>by cases h)⟩
theorem Met.look {w:World}{K:List (Int×Int)}{hm n:Nat}(hh:Met w K hm n){s q:Int}(hs:i64 s)(hq:i64 q) :
  (Instr.lookup 134 (.map (some hm)) (refV s q) false).run Tryz.prog w=.ok (.bool (decide ((s,q)∈K))) w:=by
 obtain⟨L,h1,h3,h4⟩:=hh;have hz:(zeroValue 4).run Tryz.prog w=.ok (.bool false) w:=by kernel_rfl
 obtain⟨v,ps,hrun,hv⟩:=h1.lookup keyRef Tryz.underlying134 hz (zd:=.held (.bool false)) (zp:=[]) rfl (keyOf_ref hs hq);simp only[heldV,Option.some.injEq,Prod.mk.injEq] at hv
 have hv1:=hv.1
 suffices hvv:v=.bool (decide ((s,q)∈K)) by rw[hrun,hvv]
 by_cases hK:(s,q)∈K
 ·rw[decide_eq_true hK]
  obtain⟨_,_,p,hp,hpk⟩:=h4 s q hK
  cases hf:L.find? (fun p=>p.1.sameKey (refK s q)) with
  | none =>
   have:=List.find?_eq_none.1 hf p hp
   rw[hpk] at this;exact absurd (show (refK s q).sameKey (refK s q)=true from beq_self_eq_true _) this
  | some p' =>
   obtain⟨s',q',_,_,_,e⟩:=h3 p' (List.mem_of_find?_eq_some hf)
   have hv2:(DataW.held v:DataW Value)=p'.2:=by
    rw[hv1];simp [DataW.atKey,hf]
   rw[e] at hv2;injection hv2
 ·rw[decide_eq_false hK]
  have hno:Maps.has (.map L:DataW Value) (refK s q)=false:=by
   rw[Maps.has_eq,Bool.eq_false_iff];intro h;obtain⟨p,hp,hsk⟩:=List.any_eq_true.1 h;obtain⟨s',q',hs',hq',hK',e⟩:=h3 p hp;have e1:p.1=refK s q:=WideAt.sameKey_eq hsk;rw[e] at e1;obtain⟨rfl,rfl⟩:=refK_inj hs' hq' hs hq e1;exact hK hK'
  rw[Maps.atKey_of_not_has hno] at hv1;injection hv1
section
variable {ops:Array Oper} {rest:List Oper} {o:Oper} {a:Act} {w:World} {Q:Exit→Act→World→Prop}
theorem wpList_met_put (hg:o.guard=none)(m x y:Operand)(hop:o.op=Op.mapUpdate 134 m x y){hm n:Nat}{K:List (Int×Int)}(hmv:a.eval m=.map (some hm))(hh:Met w K hm n)(hn:n<maxLen)(s q:Int)(hx:a.eval x=refV s q)(hy:a.eval y=.bool true)(hs:i64 s)(hq:i64 q)
  (hK:∀w',Met w' ((s,q)::K) hm (n+1)→Kept (fun b=>b=hm) w w'→wpList Tryz.prog ops Q rest (a.put o.dst undef) w'):wpList Tryz.prog ops Q (o::rest) a w:=by
 obtain⟨L,h1,h2,h3⟩:=hh;refine wpList_mapUpdate_own w hg m x y 134 hop 130 4 keyRef Tryz.underlying134 heldV hm n (.map L) hmv h1 hn (refV s q) _ (refK s q) hx hy (keyOf_ref hs hq) (.held (.bool true)) [] rfl ?_
 intro w' h4 hgr;have e:(DataW.map L:DataW Value).put (refK s q) (.held (.bool true))=.map (DataW.insert (refK s q,(.held (.bool true):DataW Value)) (L.filter fun p=>!p.1.sameKey (refK s q))):=rfl
 rw[e] at h4;refine hK w' ⟨_,h4,fun p hp=>?_,fun s' q' hK'=>?_⟩ (Kept.of_grown hgr (fun b hb _=>by injection hb with hb;exact hb.symm))
 ·rcases ChangeMaps.mem_insert_iff.1 hp with rfl|hp
  ·exact⟨s,q,hs,hq,List.mem_cons_self ..,rfl⟩
  ·obtain⟨s',q',a1,a2,a3,a4⟩:=h2 p (List.mem_filter.1 hp).1
   exact⟨s',q',a1,a2,List.mem_cons_of_mem _ a3,a4⟩
 ·by_cases hsame:(s',q')=(s,q)
  ·injection hsame with e1 e2
   subst e1 e2;exact⟨hs,hq,_,ChangeMaps.mem_insert_iff.2 (Or.inl rfl),rfl⟩
  ·rcases List.mem_cons.1 hK' with h|h
   ·exact absurd h hsame
   ·obtain⟨b1,b2,p,hp,hpk⟩:=h3 s' q' h
    refine⟨b1,b2,p,ChangeMaps.mem_insert_iff.2 (Or.inr (List.mem_filter.2 ⟨hp,?_⟩)),hpk⟩
    cases hsk:p.1.sameKey (refK s q) with
    | false=>rfl
    | true =>
     exfalso
     have e1:=WideAt.sameKey_eq hsk;rw[hpk] at e1;obtain⟨rfl,rfl⟩:=refK_inj b1 b2 hs hq e1;exact hsame rfl
end
theorem isort0_any (A:Option Addr)(c:Nat)(w:World) :
  Calls Tryz.prog 150 #[.slice A 0 c,.int .i64 0,.int .i64 0,.func (.func 88) #[] #[]] w fun e w'=>e=.returned (.tuple #[])∧w=w':=by
 go_enter Tryz.func150,Tryz.ntmps150
 go_wp2_with fail
 go_loopw [8] (fun s8 wr=>s8=.int .i64 1∧wr=w) (fun _ _=>0)
 case atStart=>exact⟨rfl,rfl⟩
 case round =>
  obtain⟨rfl,rfl⟩:=hrel;go_wp2_with fail
  go_end0
  exact⟨rfl,rfl⟩
theorem pdq0_any (A:Option Addr)(c:Nat)(lim:Int)(w:World) :
  Calls Tryz.prog 125 #[.slice A 0 c,.int .i64 0,.int .i64 0,.int .i64 lim,.func (.func 88) #[] #[]] w fun e w'=>e=.returned (.tuple #[])∧w=w':=by
 go_enter Tryz.func125,Tryz.ntmps125
 go_wp2_with fail
 go_loopw [1,2] (fun a b wr=>a=.int .i64 0∧b=.int .i64 0∧wr=w) (fun _ _ _=>0)
 case atStart=>exact⟨rfl,rfl,rfl⟩
 case round =>
  obtain⟨rfl,rfl,rfl⟩:=hrel;go_wp2_with (go_at_call 150;(with_reducible refine (isort0_any A c _).mono ?_);rintro e w2 ⟨rfl,rfl⟩)
  refine bodyPost_ret (results_none rfl _ _ _) rfl ?_
  exact⟨rfl,rfl⟩
theorem sort0_any (A:Option Addr)(c:Nat)(w:World) :
  Calls Tryz.prog 87 #[.slice A 0 c,.func (.func 88) #[] #[]] w fun e w'=>e=.returned (.tuple #[])∧w=w':=by
 have HLN:=hid (len_any 0 w (by omega) (by omega))
 go_enter Tryz.func87,Tryz.ntmps87
 go_wp2_with (first
  | (go_at_call 126;(with_reducible refine HLN.out.mono ?_);rintro e w2 ⟨⟨k,rfl⟩,rfl⟩)
  | (go_at_call 125;(with_reducible refine (pdq0_any A c _ w).mono ?_);rintro e w2 ⟨rfl,rfl⟩))
 go_end0
 exact⟨rfl,rfl⟩
end
section
attribute [local go_sem ↓] wp_at_zero wp_at_succ
theorem rv_info:(Tryz.prog.info? 28).map (fun i=>(i.zero,i.size,i.bytes))=some (some (.agg Z0.toArray),22,88):=by kernel_rfl
theorem info_ref:(Tryz.prog.info? 130).map (·.size)=some 2:=by kernel_rfl
def keyX (x:RX):Int×Int:=(x.r.shop,x.r.seq)
def stepF (a:List RX×List (Int×Int))(x:RX):List RX×List (Int×Int):=(if keyX x∈a.2 then a.1 else a.1++[x],keyX x::a.2)
def frsF (L:List RX):List RX×List (Int×Int):=L.foldl stepF ([],[])
theorem frsF_snoc (L:List RX)(x:RX):frsF (L++[x])=stepF (frsF L) x:=by unfold frsF;rw[List.foldl_append];rfl
theorem frsF_len (L:List RX):(frsF L).1.length≤L.length:=by
 have h:∀(M:List RX) (a:List RX×List (Int×Int)),(M.foldl stepF a).1.length≤a.1.length+M.length:=by
  intro M
  induction M with
  | nil=>intro a;simp
  | cons x M ih =>
   intro a;have:=ih (stepF a x)
   rw[List.foldl_cons];have h2:(stepF a x).1.length≤a.1.length+1:=by unfold stepF;dsimp only;split<;>simp
   simp only[List.length_cons]
   omega
 have:=h L ([],[])
 simpa [frsF] using this
theorem frsF_mem (L:List RX):∀x∈(frsF L).1,x∈L:=by
 have h:∀(M:List RX) (a:List RX×List (Int×Int)),∀x∈(M.foldl stepF a).1,x∈a.1∨x∈M:=by
  intro M
  induction M with
  | nil=>intro a x hx;exact Or.inl hx
  | cons y M ih =>
   intro a x hx;rw[List.foldl_cons] at hx;rcases ih _ x hx with h|h
   ·unfold stepF at h
    dsimp only at h;split at h
    ·exact Or.inl h
    ·rcases List.mem_append.1 h with h|h
     ·exact Or.inl h
     ·exact Or.inr (by rw[List.mem_singleton.1 h];exact List.mem_cons_self ..)
   ·exact Or.inr (List.mem_cons_of_mem _ h)
 intro x hx;rcases h L ([],[]) x hx with h|h
 ·cases h
 ·exact h
theorem frsF_mono (L:List RX)(t:Nat):(frsF (L.take t)).1.length≤(frsF L).1.length:=by
 have h:∀(M:List RX) (a:List RX×List (Int×Int)),a.1.length≤(M.foldl stepF a).1.length:=by
  intro M
  induction M with
  | nil=>intro a;exact Nat.le_refl _
  | cons x M ih =>
   intro a;rw[List.foldl_cons];refine Nat.le_trans ?_ (ih (stepF a x))
   unfold stepF;dsimp only;split<;>simp
 have h2:=h (L.drop t) (frsF (L.take t));unfold frsF at *;rw[←List.foldl_append,List.take_append_drop] at h2;exact h2
theorem take_snoc {α:Type}{L:List α}{t:Nat}{x:α}(h:L[t]?=some x):L.take (t+1)=L.take t++[x]:=by
 rw[List.take_add_one,h];rfl
theorem own_apart {w:World}{b1 b2:Nat}{e1 e2:TypeId}{s1 s2 n1 n2:Nat}{v1 v2:Value}{xs1 xs2:List Value}(h1:w.ownsRow b1 e1 s1 v1 n1 xs1)(h2:w.ownsRow b2 e2 s2 v2 n2 xs2)(hne:e1≠e2){g:Nat}(hg1:v1.ownBlock=some g)(hg2:v2.ownBlock=some g):False:=by
 rcases h1.2 with ⟨hv,_⟩|⟨g1,cap,cur,hv,_,hh,_⟩
 ·rw[hv] at hg1;cases hg1
 rcases h2.2 with ⟨hv2,_⟩|⟨g2,cap2,cur2,hv2,_,hh2,_⟩
 ·rw[hv2] at hg2;cases hg2
 rw[hv] at hg1;rw[hv2] at hg2;simp only[Value.ownBlock,Option.some.injEq] at hg1 hg2
 subst hg1 hg2;rw[hh] at hh2;simp only[Option.some.injEq,Obj.cells.injEq] at hh2
 exact hne hh2.2.1
theorem own_blk {w:World}{base:Nat}{e:TypeId}{size n c:Nat}{A:Option Addr}{xs:List Value}(h:w.ownsRow base e size (.slice A n c) n xs)(hn:0<n):∃g,A=some ⟨g,0,none⟩∧base≤g∧g<w.heap.size∧∃tl,Blk w g e (xs++tl):=by
 rcases h.2 with ⟨_,h0⟩|⟨g,cap,cur,hv,hg,hh,_,_,_,ht⟩
 ·omega
 ·injection hv with hA
  refine⟨g,hA,hg,(Array.getElem?_eq_some_iff.1 hh).1,cur.toList.drop (n*size),?_⟩
  unfold Blk;rw[←ht,List.take_append_drop,Array.toArray_toList];exact hh
def stdB (day:Int)(L:List RX)(x:RX):Bool:=!x.r.wd&&(decide (x.r.day≤day)&&!goneB day L x.r)
theorem standing_big (L:List RX)(day:Int)(A:Option Addr)(n c:Nat)(w:World)(hl:RdN w w.heap.size 22 A n (rxsC L))(hL:∀x∈L,RXV w x∧i64 x.r.shop∧i64 x.r.seq)(hn:n≤1000)(hf:(frsF L).1.length≤12) :
  Calls Tryz.prog 38 #[.slice A n c,.int .i64 day] w fun e w'=>(∃(M:List RX) (A':Option Addr) (c':Nat),e=.returned (.slice A' M.length c')∧RdN w' w'.heap.size 22 A' M.length (rxsC M)∧(∀x∈M,RXV w' x)∧(M.map (·.r)).Perm (((frsF L).1.filter (stdB day (frsF L).1)).map (·.r))∧SortK M)∧Ext w w':=by
 have hl22:∀x∈L,(rxC x).length=22:=fun x hx=>(hL x hx).1.len
 have HLN:=hid (rx_n hl hl22);have HL:=hid hl;have HLL:=hid hL;have HL22:=hid hl22;clear hl hL hl22;obtain⟨i0,hi,hz0,hz1,hz2⟩:=info_parts rv_info;have HFB:Hid (∀t,(frsF (L.take t)).1.length≤12):=hid (fun t=>Nat.le_trans (frsF_mono L t) hf)
 clear hf;obtain⟨FL,hFL⟩:∃F,F=(frsF L).1:=⟨_,rfl⟩
 have HFL:=hid hFL;rw[←hFL];clear hFL;have zz:∀W,(zeroValue 28).run Tryz.prog W=.ok (.agg Z0.toArray) W:=fun W=>by kernel_rfl
 have hmm:=@run_makeMap Tryz.prog;go_enter Tryz.func38,Tryz.ntmps38
 go_upto_region 3 with fail
 obtain⟨hm,hhm⟩:∃h,h=w.heap.size+1:=⟨_,rfl⟩
 rw[←hhm];obtain⟨w1,hw1⟩:∃x,x=w.alloc (.cells #[.int .i64 day] 3):=⟨_,rfl⟩
 change Code.wp _ _ _ _ (((w.alloc (.cells #[.int .i64 day] 3)).alloc (.map #[] 0)).alloc (.cells #[.slice none 0 0] 92))
 rw[←hw1];have hs1:w1.heap.size=hm:=by rw[hw1,hhm];simp
 have E1:Hid (Ext w w1):=hid (by rw[hw1];exact (Ext.refl w).alloc _)
 have BD1:Hid (Blk w1 w.heap.size 3 [.int .i64 day]):=hid (by rw[hw1];exact Blk.fresh' _ _ _ _ _ rfl rfl)
 obtain⟨w2,hw2⟩:∃x,x=w1.alloc (.map #[] 0):=⟨_,rfl⟩
 rw[←hw2];have hs2:w2.heap.size=hm+1:=by rw[hw2,←hs1];simp
 have MT0:Hid (Met w2 [] hm 0):=hid (by rw[hw2,←hs1];exact Met.made w1)
 obtain⟨w3,hw3⟩:∃x,x=w2.alloc (.cells #[.slice none 0 0] 92):=⟨_,rfl⟩
 rw[←hw3];have hs3:w3.heap.size=hm+2:=by rw[hw3];simp;omega
 have MT:Hid (Met w3 [] hm 0):=hid (by rw[hw3];exact MT0.out.ext ((Ext.refl w2).alloc _))
 have BA:Hid (Blk w3 (hm+1) 92 [.slice none 0 0]):=hid (by rw[hw3,←hs2];exact Blk.fresh' _ _ _ _ _ rfl rfl)
 have E13:Hid (Ext w1 w3):=hid (by rw[hw3,hw2];exact ((Ext.refl w1).alloc _).alloc _)
 have E3:Hid (Ext w w3):=hid (E1.out.next E13.out);have BD:Hid (Blk w3 w.heap.size 3 [.int .i64 day]):=hid (BD1.out.ext E13.out);have HSZ:Hid (hm=w.heap.size+1∧w3.heap.size=hm+2):=hid ⟨hhm,hs3⟩;have HCELL:Hid (∀W,Kept (fun b=>b=hm∨b=hm+1) w3 W→∀a:Addr,a.block<w.heap.size→W.cell? a=w.cell? a):=hid (fun W hW a ha=>(hW.cell (p:=a) (Nat.lt_of_lt_of_le ha E3.out.size) (by omega)).trans (E3.out.cell ha))
 have HLX:Hid (∀W,Kept (fun b=>b=hm∨b=hm+1) w3 W→∀x∈L,RXV W x):=hid (fun W hW x hx=>by
  have h:=(HLL.out x hx).1;have hsz:w.heap.size≤W.heap.size:=Nat.le_trans E3.out.size hW.size;refine⟨⟨h.row.1,fun h0=>?_⟩,h.le,h.cap,h.few,h.mean,h.mbyt⟩
  obtain⟨b,o,hA,hb,hc⟩:=h.row.2 h0;exact⟨b,o,hA,Nat.lt_of_lt_of_le hb hsz,fun j u hu=>(HCELL.out W hW ⟨b,o+j,none⟩ hb).trans (hc j u hu)⟩)
 clear hw1 hw2 hw3 hs1 hs2 hs3 hhm MT0 BD1 hmm;go_wp2_with fail
 go_loopw [17] (fun s17 wr=>∃(t k c':Nat) (A':Option Addr),s17=.int .i64 (t:Int)∧t≤n∧k=(frsF (L.take t)).1.length∧Met wr (frsF (L.take t)).2 hm t∧Blk wr (hm+1) 92 [.slice A' k c']∧wr.ownsRow w3.heap.size 28 22 (.slice A' k c') k (rxsC (frsF (L.take t)).1)∧Kept (fun b=>b=hm∨b=hm+1) w3 wr) (fun s17 _=>n-(intOf s17).toNat)
 case atStart=>exact⟨0,0,0,none,rfl,Nat.zero_le _,rfl,MT.out,BA.out,World.ownsRow_nil _ _ _ _,Kept.refl _ _⟩
 case round =>
  obtain⟨t,k,c',A',rfl,ht,hk,h1,h2,h3,h4⟩:=hrel;have HMT:=hid h1;have HBA:=hid h2;have HRW:=hid h3;have HKP:=hid h4;have HKL:=hid hk;clear h1 h2 h3 h4;obtain⟨wo,rfl⟩:∃x:World,x=wr:=⟨_,rfl⟩
  have hkn:k≤12:=by
   rw[hk];exact HFB.out t
  clear hk;by_cases hlt:t<n
  ·obtain⟨b,p,hA,hb,hrg⟩:=rx_at HL.out HL22.out (by omega)
   subst hA;obtain⟨x,hx⟩:∃x,L[t]?=some x:=⟨_,List.getElem?_eq_getElem (by rw[HLN.out];exact hlt)⟩
   have HXM:Hid (x∈L):=hid (List.mem_of_getElem? hx)
   have HR:Hid (wo.rangeAt b (p+t*22) (rxC x)):=hid (hrg wo (HCELL.out wo HKP.out) t x hx);have HX22:=hid (HL22.out x HXM.out);have HXI:=hid (HLL.out x HXM.out).2;have HTK:Hid (frsF (L.take (t+1))=stepF (frsF (L.take t)) x):=hid (by rw[take_snoc hx,frsF_snoc])
   have HTN:Hid (t+1≤n):=hid hlt;obtain⟨G,hG⟩:∃G,G=frsF (L.take t):=⟨_,rfl⟩
   rw[←hG] at HMT HRW HKL HTK;clear hG hrg hb hx;obtain⟨s,hs⟩:∃s,s=x.r.shop:=⟨_,rfl⟩
   obtain⟨q,hq⟩:∃q,q=x.r.seq:=⟨_,rfl⟩
   have HX0:Hid ((rxC x)[0]?=some (.int .i64 s)∧(rxC x)[1]?=some (.int .i64 q)):=hid (by rw[hs,hq];exact⟨rfl,rfl⟩)
   have HKX:Hid (keyX x=(s,q)):=hid (by rw[hs,hq];rfl)
   rw[←hs,←hq] at HXI;clear hs hq
   go_upto_region 6 with (first
    | (refine wpList_load_mid rfl 28 (.tmp 19) rfl b (p+t*22) (by kernel_rfl) (rxC x) _ HR.out Tryz.underlying28 rfl (info_rev.trans (congrArg some HX22.out.symm)) ?_)
    | (refine wpList_store_freshw rfl 28 (.tmp 8) (.tmp 20) rfl wo.heap.size rfl Z0 (rxC x) 28 (by kernel_rfl) (by kernel_rfl) (info_rev.trans (congrArg some HX22.out.symm)) (Eq.trans (b:=22) rfl HX22.out.symm) (rxC_one x) ?_;intro w5 hw5 hE5 hz5;have B8:=hid hw5;have E5:=hid hE5;clear hw5 hE5 hz5))
   have c0:=(B8.out.cell 0).trans HX0.out.1;have c1:=(B8.out.cell 1).trans HX0.out.2;go_upto_region 7 with (refine wpList_store_freshw rfl 130 (.tmp 9) (.tmp 25) rfl w5.heap.size rfl [.int .i64 0,.int .i64 0] [.int .i64 s,.int .i64 q] 130 (by kernel_rfl) (by kernel_rfl) (info_ref.trans rfl) rfl (fun v hv=>by simp at hv;rcases hv with rfl|rfl<;>rfl) ?_;intro w6 hw6 hE6 hz6;have B9:=hid hw6;have E6:=hid hE6;clear hw6 hE6 hz6)
   have E56:Hid (Ext wo w6):=hid (E5.out.next E6.out);have B86:=hid (B8.out.ext E6.out);have MT6:=hid (HMT.out.ext E56.out);have BA6:=hid (HBA.out.ext E56.out);have HR6:Hid (w6.ownsRow w3.heap.size 28 22 (.slice A' k c') k (rxsC G.1)):=hid ((Kept.of_ext (F:=fun _=>False) E56.out).own HRW.out (fun _ _ h=>h))
   have KP6:Hid (Kept (fun b=>b=hm∨b=hm+1) w3 w6):=hid (HKP.out.trans (Kept.of_ext E56.out))
   have HS69:Hid (w5.heap.size<w6.heap.size):=hid B9.out.lt;have HG9:Hid (hm+1<w5.heap.size):=hid (by have h1:=HSZ.out.2;have h2:=HKP.out.size;have h3:=E5.out.size;have h4:=B8.out.lt;omega)
   have HG8:Hid (hm+1<wo.heap.size):=hid (by have h1:=HSZ.out.2;have h2:=HKP.out.size;omega)
   have hlk:=MT6.out.look HXI.out.1 HXI.out.2;unfold refV at hlk;clear c0 c1;by_cases hmem:(s,q)∈G.2
   ·rw[decide_eq_true hmem] at hlk
    have HST:Hid (frsF (L.take (t+1))=(G.1,(s,q)::G.2)):=hid (by rw[HTK.out];unfold stepF;rw[HKX.out,if_pos hmem])
    clear hmem
    go_wp2_with (first
     | (refine wpList_load_blk rfl 130 (.tmp 9) rfl w5.heap.size (by kernel_rfl) B9.out Tryz.underlying130 rfl (info_ref.trans rfl) ?_)
     | (refine wpList_met_put rfl (.tmp 34) (.tmp 35) (.const (.bool true)) rfl (by kernel_rfl) MT6.out (Nat.lt_of_le_of_lt ht (Nat.lt_of_le_of_lt hn (by decide))) s q (by kernel_rfl) (by kernel_rfl) HXI.out.1 HXI.out.2 ?_;intro w7 hm7 hk7;have M7:=hid hm7;have K7:=hid hk7;clear hm7 hk7))
    exact⟨⟨t+1,k,c',A',by go_num,HTN.out,by rw[HST.out];exact HKL.out,by rw[HST.out];exact M7.out,K7.out.blk BA6.out (by omega),by rw[HST.out];exact K7.out.own HR6.out (fun bb hbb h=>by have h1:=own_geq HR6.out hbb;have h2:=HSZ.out.2;omega),KP6.out.trans (K7.out.mono (fun bb _ h=>Or.inl h))⟩,by have:=HTN.out;simp [intOf];omega⟩
   ·rw[decide_eq_false hmem] at hlk
    have HST:Hid (frsF (L.take (t+1))=(G.1++[x],(s,q)::G.2)):=hid (by rw[HTK.out];unfold stepF;rw[HKX.out,if_neg hmem])
    clear hmem;have c6:w6.cell? ⟨hm+1,0,none⟩=some (.slice A' k c'):=BA6.out.cell 0
    have HLB:Hid (∀e,(Value.slice A' k c').ownBlock=some e→w3.heap.size≤e∧e<wo.heap.size):=hid (fun e he=>⟨own_geq HRW.out he,by
     rcases HRW.out.2 with ⟨hv,_⟩|⟨g,cap,cur,hv,_,hh,_⟩
     ·rw[hv] at he;cases he
     ·rw[hv] at he
      simp only[Value.ownBlock,Option.some.injEq] at he
      subst he;exact (Array.getElem?_eq_some_iff.1 hh).1⟩)
    have HS8:Hid (w3.heap.size≤w6.heap.size):=hid (Nat.le_trans HKP.out.size E56.out.size);have hx22:=HX22.out
    go_upto_region 9 with (first
     | (refine wpList_load_blk rfl 130 (.tmp 9) rfl w5.heap.size (by kernel_rfl) B9.out Tryz.underlying130 rfl (info_ref.trans rfl) ?_)
     | (refine wpList_load_blk rfl 28 (.tmp 8) rfl wo.heap.size (by kernel_rfl) B86.out Tryz.underlying28 rfl (info_rev.trans (congrArg some HX22.out.symm)) ?_)
     | (at_builtin;refine wpList_app rfl (.tmp 30) (.tmp 32) 92 rfl w3.heap.size 28 i0 (.agg Z0.toArray) 22 88 Tryz.underlying92 hi hz0 hz1 hz2 rfl (by omega) A' k c' _ (by kernel_rfl) (HR6.out.alloc _) (w6.heap.size+1) _ 1 1 (rxC x) (by kernel_rfl) (RdN.fresh (rxC x) _ _ 22 1 (by rw[fold_set];exact HX22.out) rfl HX22.out) (rxC_one x) (by simp only[maxLen];omega) (by omega) (by have:=HS8.out;simp;omega) ?_;intro A7 c7 w7 ho7 hg7;have HO7:=hid ho7;have HG7:=hid hg7;have f7:=((BA6.out.alloc _).grown hg7 (fun e=>by have h1:=(HLB.out _ e.symm).1;have h2:=HSZ.out.2;omega)).frozen 0;have c7c:w7.cell? ⟨hm+1,0,none⟩=some (.slice A' k c'):=((BA6.out.alloc _).grown hg7 (fun e=>by have h1:=(HLB.out _ e.symm).1;have h2:=HSZ.out.2;omega)).cell 0;clear ho7 hg7))
    obtain⟨w8,hw8⟩:∃x,x=w7.setCell ⟨hm+1,0,none⟩ (.slice A7 (k+1) c7):=⟨_,rfl⟩
    rw[←hw8];have K7:Hid (Kept (fun bb=>(Value.slice A' k c').ownBlock=some bb) w6 w7):=hid ((Kept.of_ext ((Ext.refl w6).alloc _)).trans (Kept.of_grown HG7.out (fun bb hb _=>hb)))
    have K78:Hid (Kept (fun bb=>bb=hm+1) w7 w8):=hid (by rw[hw8];exact Kept.setCell (F:=fun bb=>bb=hm+1) w7 rfl _)
    have BA7:=K7.out.blk BA6.out (fun h=>by have h1:=(HLB.out _ h).1;have h2:=HSZ.out.2;omega)
    have BA8:Hid (Blk w8 (hm+1) 92 [.slice A7 (k+1) c7]):=hid (by rw[hw8];exact BA7.set 0 _)
    have HO8:Hid (w8.ownsRow w3.heap.size 28 22 (.slice A7 (k+1) c7) (k+1) (rxsC (G.1++[x]))):=hid (by
     have e:rxsC (G.1++[x])=rxsC G.1++rxC x:=by unfold rxsC;simp
     rw[e];exact K78.out.own HO7.out (fun bb hbb h=>by have h1:=own_geq HO7.out hbb;have h2:=HSZ.out.2;omega))
    have MT8:Hid (Met w8 G.2 hm t):=hid ((MT6.out.kept K7.out (fun h=>by have h1:=(HLB.out _ h).1;have h2:=HSZ.out.2;omega)).kept K78.out (by omega))
    have B98:Hid (Blk w8 w5.heap.size 130 [.int .i64 s,.int .i64 q]):=hid (K78.out.blk (K7.out.blk B9.out (fun h=>by have h1:=(HLB.out _ h).2;have h2:=E5.out.size;omega)) (by have:=HG9.out;omega))
    have KP8:Hid (Kept (fun b=>b=hm∨b=hm+1) w3 w8):=hid ((KP6.out.next K7.out (fun bb hb h=>by have h1:=(HLB.out _ h).1;omega)).trans (K78.out.mono (fun bb _ h=>Or.inr h)))
    clear hw8 BA7 c6 f7 c7c hlk
    go_wp2_with (first
     | (refine wpList_load_blk rfl 130 (.tmp 9) rfl w5.heap.size (by kernel_rfl) B98.out Tryz.underlying130 rfl (info_ref.trans rfl) ?_)
     | (refine wpList_met_put rfl (.tmp 34) (.tmp 35) (.const (.bool true)) rfl (by kernel_rfl) MT8.out (Nat.lt_of_le_of_lt ht (Nat.lt_of_le_of_lt hn (by decide))) s q (by kernel_rfl) (by kernel_rfl) HXI.out.1 HXI.out.2 ?_;intro w9 hm9 hk9;have M9:=hid hm9;have K9:=hid hk9;clear hm9 hk9))
    exact⟨⟨t+1,k+1,c7,A7,by go_num,HTN.out,by rw[HST.out,HKL.out];simp,by rw[HST.out];exact M9.out,K9.out.blk BA8.out (by omega),by rw[HST.out];exact K9.out.own HO8.out (fun bb hbb h=>by have h1:=own_geq HO8.out hbb;have h2:=HSZ.out.2;omega),KP8.out.trans (K9.out.mono (fun bb _ h=>Or.inl h))⟩,by have:=HTN.out;simp [intOf];omega⟩
  ·obtain rfl:t=n:=by omega
   have HFULL:Hid (frsF (L.take t)=frsF L):=hid (by rw[List.take_of_length_le (by rw[HLN.out];exact Nat.le_refl _)])
   rw[HFULL.out,←HFL.out] at HRW HKL;have HFM:Hid (∀x∈FL,x∈L):=hid (fun x hx=>frsF_mem L x (by rw[←HFL.out];exact hx))
   have HFR:Hid (RdN wo wo.heap.size 22 A' k (rxsC FL)):=hid (rdn_own HRW.out);have HF22:Hid (∀x∈FL,(rxC x).length=22):=hid (fun x hx=>HL22.out x (HFM.out x hx))
   have HFX:Hid (∀W,Ext wo W→∀x∈FL,RXV W x):=hid (fun W hW x hx=>(HLX.out wo HKP.out x (HFM.out x hx)).ext hW)
   have BDO:Hid (Blk wo w.heap.size 3 [.int .i64 day]):=hid (HKP.out.blk BD.out (by have:=HSZ.out.1;omega))
   have HCL:Hid (∀(x:RX) (W:World),Ext wo W→x∈FL→Calls Tryz.prog 81 #[.agg (rxC x).toArray,.pointer (some ⟨hm+1,0,none⟩),.pointer (some ⟨w.heap.size,0,none⟩)] W fun e w'=>e=.returned (.bool (goneB day FL x.r))∧Ext W w'):=hid (fun x W hW hx=>clos1_any FL x day A' k c' (hm+1) w.heap.size W (HFX.out W hW) (HFX.out W hW x hx) ((HFR.out.below hW (Nat.le_refl _)).more hW.size) (by omega) (HBA.out.ext hW) (BDO.out.ext hW))
   have c6:wo.cell? ⟨hm+1,0,none⟩=some (.slice A' k c'):=HBA.out.cell 0
   have EWO:Hid (Ext w wo):=hid ((Kept.of_ext (F:=fun b=>w.heap.size≤b) E3.out).trans (HKP.out.mono (fun b _ h=>by have:=HSZ.out.1;omega)) |>.ext (fun b h=>h))
   clear HMT MT BA HRW;go_wp2_with fail
   clear c6;go_loopw [11,40] (fun s11 s40 wr=>∃(u m c2:Nat) (A2:Option Addr) (M:List RX),s40=.int .i64 (u:Int)∧u≤k∧s11=.slice A2 m c2∧M.length=m∧m≤u∧wr.ownsRow wo.heap.size 28 22 (.slice A2 m c2) m (rxsC M)∧(∀x∈M,wr.ownsRow wo.heap.size 68 3 (.slice x.A x.n x.c) x.n (idsC x.r.ops)∧x.n≤1000000000000∧x.r.mean.length=16∧Byt x.r.mean)∧M.map (·.r)=((FL.take u).filter (stdB day FL)).map (·.r)∧Ext wo wr) (fun _ s40 _=>k-(intOf s40).toNat)
   case atStart=>exact⟨0,0,0,none,[],rfl,Nat.zero_le _,rfl,rfl,Nat.le_refl _,World.ownsRow_nil _ _ _ _,(fun x hx=>by cases hx),rfl,Ext.refl _⟩
   case round =>
    obtain⟨u,m,c2,A2,M,rfl,hu,rfl,hml,hmu,h1,h2,h3,h4⟩:=hrel;have HO2:=hid h1;have HMX:=hid h2;have HMF:=hid h3;have EW:=hid h4;have HML:=hid hml;clear h1 h2 h3 h4 hml;obtain⟨wi,rfl⟩:∃x:World,x=wr:=⟨_,rfl⟩
    by_cases hlt2:u<k
    ·obtain⟨ga,pa,hA2,hga,hrg2⟩:=rx_at HFR.out HF22.out (by omega)
     subst hA2;obtain⟨x,hx⟩:∃x,FL[u]?=some x:=⟨_,List.getElem?_eq_getElem (by rw[←HKL.out];exact hlt2)⟩
     have HXM:Hid (x∈FL):=hid (List.mem_of_getElem? hx)
     have HR:Hid (wi.rangeAt ga (pa+u*22) (rxC x)):=hid (hrg2 wi (fun a ha=>EW.out.cell ha) u x hx)
     have HX22:=hid (HF22.out x HXM.out);have HXV:=hid (HFX.out wi EW.out x HXM.out)
     have HTK:Hid ((FL.take (u+1)).filter (stdB day FL)=(FL.take u).filter (stdB day FL)++(if stdB day FL x=true then [x] else [])):=hid (by
      rw[take_snoc hx,List.filter_append,List.filter_cons,List.filter_nil])
     have HUN:Hid (u+1≤k):=hid hlt2;have HCX:=hid (fun W hW=>HCL.out x W hW HXM.out)
     obtain⟨wd,hwd⟩:∃b,b=x.r.wd:=⟨_,rfl⟩
     obtain⟨dx,hdx⟩:∃b,b=x.r.day:=⟨_,rfl⟩
     obtain⟨gb,hgb⟩:∃b,b=goneB day FL x.r:=⟨_,rfl⟩
     have HSTD:Hid (stdB day FL x=(!wd&&(decide (dx≤day)&&!gb))):=hid (by unfold stdB;rw[hwd,hdx,hgb])
     rw[←hgb] at HCX;obtain⟨xr,xA,xn,xc⟩:=x;have HX23:Hid ((rxC ⟨xr,xA,xn,xc⟩)[2]?=some (.int .i64 dx)∧(rxC ⟨xr,xA,xn,xc⟩)[3]?=some (.bool wd)∧(rxC ⟨xr,xA,xn,xc⟩)[4]?=some (.slice xA xn xc)):=hid (by rw[hwd,hdx];exact⟨rfl,rfl,rfl⟩)
     clear hrg2 hga hx hwd hdx hgb
     go_upto_region 16 with (first
      | (refine wpList_load_mid rfl 28 (.tmp 42) rfl ga (pa+u*22) (by kernel_rfl) (rxC ⟨xr,xA,xn,xc⟩) _ HR.out Tryz.underlying28 rfl (info_rev.trans (congrArg some HX22.out.symm)) ?_)
      | (refine wpList_store_freshw rfl 28 (.tmp 13) (.tmp 43) rfl wi.heap.size rfl Z0 (rxC ⟨xr,xA,xn,xc⟩) 28 (by kernel_rfl) (by kernel_rfl) (info_rev.trans (congrArg some HX22.out.symm)) (Eq.trans (b:=22) rfl HX22.out.symm) (rxC_one _) ?_;intro w5 hw5 hE5 hz5;have B13:=hid hw5;have E5:=hid hE5;clear hw5 hE5 hz5))
     have c2':=(B13.out.cell 2).trans HX23.out.1;have c3':=(B13.out.cell 3).trans HX23.out.2.1;have cd:=(BDO.out.ext (EW.out.next E5.out)).cell 0;have EW5:Hid (Ext wo w5):=hid (EW.out.next E5.out);have EIX:Hid (Ext wi w5):=E5;have HO5:Hid (w5.ownsRow wo.heap.size 28 22 (.slice A2 m c2) m (rxsC M)):=hid ((Kept.of_ext (F:=fun _=>False) E5.out).own HO2.out (fun _ _ h=>h))
     have HMX5:Hid (∀W,Ext wi W→∀x∈M,W.ownsRow wo.heap.size 68 3 (.slice x.A x.n x.c) x.n (idsC x.r.ops)∧x.n≤1000000000000∧x.r.mean.length=16∧Byt x.r.mean):=hid (fun W hW x hx=>⟨(Kept.of_ext (F:=fun _=>False) hW).own (HMX.out x hx).1 (fun _ _ h=>h),(HMX.out x hx).2⟩)
     have NOADD:Hid (∀W,Ext wi W→stdB day FL ⟨xr,xA,xn,xc⟩=false→∃(u' m' c2':Nat) (A2':Option Addr) (M':List RX),Value.int .i64 ((u:Int)+1)=.int .i64 (u':Int)∧u'≤k∧Value.slice A2 m c2=.slice A2' m' c2'∧M'.length=m'∧m'≤u'∧W.ownsRow wo.heap.size 28 22 (.slice A2' m' c2') m' (rxsC M')∧(∀x∈M',W.ownsRow wo.heap.size 68 3 (.slice x.A x.n x.c) x.n (idsC x.r.ops)∧x.n≤1000000000000∧x.r.mean.length=16∧Byt x.r.mean)∧M'.map (·.r)=((FL.take u').filter (stdB day FL)).map (·.r)∧Ext wo W):=hid (fun W hW hst=>⟨u+1,m,c2,A2,M,by go_num,HUN.out,rfl,HML.out,by omega,(Kept.of_ext (F:=fun _=>False) hW).own HO2.out (fun _ _ h=>h),HMX5.out W hW,by rw[HTK.out,hst];simpa using HMF.out,EW.out.next hW⟩)
     cases wd
     ·by_cases hd:dx≤day
      ·have hd':decide (dx≤day)=true:=decide_eq_true hd
       have HSTD2:Hid (stdB day FL ⟨xr,xA,xn,xc⟩=!gb):=hid (by rw[HSTD.out,hd'];rfl)
       clear hd
       go_upto_region 17 with (first
        | (refine wpList_load_want (by rfl) 28 (.tmp 13) rfl wi.heap.size (by kernel_rfl) B13.out Tryz.underlying28 rfl (info_rev.trans (congrArg some HX22.out.symm)) ?_)
        | (go_at_call 81;(with_reducible refine (HCX.out _ EW5.out).mono ?_);rintro e w6 ⟨rfl,hE6⟩;have E6:=hid hE6;clear hE6;cases gb))
       ·have E56:Hid (Ext wi w6):=hid (E5.out.next E6.out)
        have B136:=hid (B13.out.ext E6.out);have hst:stdB day FL ⟨xr,xA,xn,xc⟩=true:=by rw[HSTD2.out];rfl
        have HST:=hid hst;have HCLN:Hid (Calls Tryz.prog 41 #[.slice xA xn xc] w6 fun e w'=>(∃A' c',e=.returned (.slice A' xn c')∧w'.ownsRow w6.heap.size 68 3 (.slice A' xn c') xn (idsC xr.ops))∧Ext w6 w'):=hid (clone_id xr.ops xA xn xc w6 (HXV.out.ext E56.out).row HXV.out.few)
        have c4:w6.cell? ⟨wi.heap.size,4,none⟩=some (.slice xA xn xc):=(B136.out.cell 4).trans HX23.out.2.2
        clear c2' c3' cd hst;go_upto_region 18 with (go_at_call 41;(with_reducible refine HCLN.out.mono ?_);rintro e w7 ⟨⟨A7,c7,rfl,ho7⟩,hE7⟩;have HO7:=hid ho7;have E7:=hid hE7;have B137:=hid (B136.out.ext hE7);have c47:w7.cell? ⟨wi.heap.size,4,none⟩=some (.slice xA xn xc):=(B137.out.cell 4).trans HX23.out.2.2;have f47:=B137.out.frozen 4;clear ho7 hE7)
        obtain⟨w8,hw8⟩:∃x,x=w7.setCell ⟨wi.heap.size,4,none⟩ (.slice A7 xn c7):=⟨_,rfl⟩
        rw[←hw8];have K78:Hid (Kept (fun bb=>bb=wi.heap.size) w7 w8):=hid (by rw[hw8];exact Kept.setCell (F:=fun bb=>bb=wi.heap.size) w7 rfl _)
        have B138:Hid (Blk w8 wi.heap.size 28 (rxC ⟨xr,A7,xn,c7⟩)):=hid (by rw[hw8];exact B137.out.set 4 _)
        have E67:Hid (Ext wi w7):=hid (E56.out.next E7.out);have E8:Hid (Ext wi w8):=hid ((Kept.of_ext (F:=fun bb=>wi.heap.size≤bb) E67.out).trans (K78.out.mono (fun bb _ h=>by omega)) |>.ext (fun b h=>h))
        have HO8:Hid (w8.ownsRow wo.heap.size 28 22 (.slice A2 m c2) m (rxsC M)):=hid ((Kept.of_ext (F:=fun _=>False) E8.out).own HO2.out (fun _ _ h=>h))
        have HMX8:=hid (HMX5.out w8 E8.out);have HI6:Hid (wi.heap.size<w6.heap.size):=hid B136.out.lt;have HN8:Hid (w8.ownsRow wo.heap.size 68 3 (.slice A7 xn c7) xn (idsC xr.ops)):=hid (own_lo (K78.out.own HO7.out (fun bb hbb h=>by have h1:=own_geq HO7.out hbb;have h2:=HI6.out;omega)) (EW.out.next E56.out).size)
        have HX822:Hid ((rxC ⟨xr,A7,xn,c7⟩).length=22):=hid (revC_len _ _ _ _ HXV.out.mean);have hx22:=HX822.out;have HS8:Hid (wo.heap.size≤w8.heap.size):=hid (EW.out.next E8.out).size;have hm11:m≤11:=by omega
        clear hw8 c4 c47 f47
        go_wp2_with (first
         | (refine wpList_load_blk rfl 28 (.tmp 13) rfl wi.heap.size (by kernel_rfl) B138.out Tryz.underlying28 rfl (info_rev.trans (congrArg some HX822.out.symm)) ?_)
         | (at_builtin;refine wpList_app rfl (.tmp 63) (.tmp 65) 92 rfl wo.heap.size 28 i0 (.agg Z0.toArray) 22 88 Tryz.underlying92 hi hz0 hz1 hz2 rfl (by omega) A2 m c2 _ (by kernel_rfl) (HO8.out.alloc _) (w8.heap.size+1) _ 1 1 (rxC ⟨xr,A7,xn,c7⟩) (by kernel_rfl) (RdN.fresh (rxC ⟨xr,A7,xn,c7⟩) _ _ 22 1 (by rw[fold_set];exact HX822.out) rfl HX822.out) (rxC_one _) (by simp only[maxLen];omega) (by omega) (by have:=HS8.out;simp;omega) ?_;intro A9 c9 w9 ho9 hg9;have HO9:=hid ho9;have HG9:=hid hg9;clear ho9 hg9))
        have K89:Hid (Kept (fun bb=>(Value.slice A2 m c2).ownBlock=some bb) w8 w9):=hid ((Kept.of_ext ((Ext.refl w8).alloc _)).trans (Kept.of_grown HG9.out (fun bb hb _=>hb)))
        have HAP:∀(v:Value) (nn:Nat) (xs:List Value),w8.ownsRow wo.heap.size 68 3 v nn xs→w9.ownsRow wo.heap.size 68 3 v nn xs:=fun v nn xs h=>K89.out.own h (fun bb hbb hb2=>own_apart h HO8.out (by decide) hbb hb2)
        have hE9:Ext wo w9:=(Kept.of_ext (F:=fun bb=>wo.heap.size≤bb) (EW.out.next E8.out)).trans (K89.out.mono (fun bb _ h=>own_geq HO8.out h)) |>.ext (fun b h=>h)
        refine⟨⟨u+1,m+1,c9,A9,M++[⟨xr,A7,xn,c7⟩],by go_num,HUN.out,rfl,by rw[List.length_append,HML.out];rfl,by omega,?_,fun y hy=>?_,?_,hE9⟩,by have:=HUN.out;simp [intOf];omega⟩
        ·have e:rxsC (M++[⟨xr,A7,xn,c7⟩])=rxsC M++rxC ⟨xr,A7,xn,c7⟩:=by unfold rxsC;simp
         rw[e];exact HO9.out
        ·rcases List.mem_append.1 hy with hy|hy
         ·exact⟨HAP _ _ _ (HMX8.out y hy).1,(HMX8.out y hy).2⟩
         ·rw[List.mem_singleton.1 hy]
          exact⟨HAP _ _ _ HN8.out,HXV.out.few,HXV.out.mean,HXV.out.mbyt⟩
        ·rw[HTK.out,if_pos HST.out,List.map_append,List.map_append,HMF.out]
         rfl
       ·have HSTD3:=hid (NOADD.out w6 (E5.out.next E6.out) (by rw[HSTD2.out];rfl))
        exact⟨HSTD3.out,by have:=HUN.out;simp [intOf];omega⟩
      ·have hd':decide (dx≤day)=false:=decide_eq_false hd
       have HSTD2:=hid (NOADD.out w5 E5.out (by rw[HSTD.out,hd'];rfl))
       clear hd;go_wp2_with fail
       exact⟨HSTD2.out,by have:=HUN.out;simp [intOf];omega⟩
     ·have HSTD2:=hid (NOADD.out w5 E5.out (by rw[HSTD.out];rfl))
      go_wp2_with fail
      exact⟨HSTD2.out,by have:=HUN.out;simp [intOf];omega⟩
    ·obtain rfl:u=k:=by omega
     have HALL:Hid (FL.take u=FL):=hid (List.take_of_length_le (by rw[←HKL.out];exact Nat.le_refl _))
     rw[HALL.out] at HMF;have HM22:∀x∈M,(rxC x).length=22:=fun x hx=>revC_len _ _ _ _ (HMX.out x hx).2.2.1
     have hm12:m≤12:=by omega
     rcases Nat.eq_zero_or_pos m with h0|h0
     ·subst h0
      have hM0:M=[]:=List.eq_nil_of_length_eq_zero HML.out;subst hM0;go_wp2_with (go_at_call 87;(with_reducible refine (sort0_any A2 c2 wi).mono ?_);rintro e w9 ⟨rfl,rfl⟩)
      go_ret
      exact⟨⟨[],A2,c2,rfl,⟨rfl,fun h=>absurd h (Nat.lt_irrefl _)⟩,(fun x hx=>by cases hx),by rw[←HMF.out],List.Pairwise.nil⟩,EWO.out.next EW.out⟩
     ·obtain⟨g,hA2,hgb,hgl,tl,hblk⟩:=own_blk HO2.out h0
      subst hA2;have HSR:=hid (sortR_any M tl g m c2 wi hblk HM22 HML.out hm12);clear hblk;go_wp2_with (go_at_call 87;(with_reducible refine HSR.out.mono ?_);rintro e w9 ⟨rfl,M',hp,hso,hb9,hk9⟩)
      go_ret
      have hl9:M'.length=m:=hp.length_eq.trans HML.out;have h922:∀x∈M',(rxC x).length=22:=fun x hx=>HM22 x (hp.mem_iff.1 hx)
      refine⟨⟨M',some ⟨g,0,none⟩,c2,by rw[hl9];rfl,⟨rxsC_len M' h922,fun _=>⟨g,0,rfl,hb9.lt,fun j v hv=>?_⟩⟩,fun x hx=>?_,(hp.map _).trans (by rw[HMF.out]),hso⟩,?_⟩
      ·rw[Nat.zero_add]
       refine (hb9.cell j).trans ?_
       rw[List.getElem?_append_left (List.getElem?_eq_some_iff.1 hv).1]
       exact hv
      ·have hx':=HMX.out x (hp.mem_iff.1 hx)
       have ho:w9.ownsRow wo.heap.size 68 3 (.slice x.A x.n x.c) x.n (idsC x.r.ops):=hk9.own hx'.1 (fun bb hbb h=>own_apart hx'.1 HO2.out (by decide) hbb (by rw[h];rfl))
       have hcc:=slice_cap ho;unfold maxLen at hcc;exact⟨rdn_own ho,hcc.1,hcc.2,hx'.2.1,hx'.2.2.1,hx'.2.2.2⟩
      ·have hx:Kept (fun b=>w.heap.size≤b) w w9:=(Kept.of_ext (F:=fun b=>w.heap.size≤b) (EWO.out.next EW.out)).trans (hk9.mono (fun b _ h=>by have:=EWO.out.size;omega))
       exact hx.ext (fun b h=>h)
theorem standing_any (L:List RX)(day:Int)(A:Option Addr)(n c:Nat)(w:World)(hl:RdN w w.heap.size 22 A n (rxsC L))(hL:∀x∈L,RXV w x∧i64 x.r.shop∧i64 x.r.seq)(hn:n≤12) :
  Calls Tryz.prog 38 #[.slice A n c,.int .i64 day] w fun e w'=>(∃(M:List RX) (A':Option Addr) (c':Nat),e=.returned (.slice A' M.length c')∧RdN w' w'.heap.size 22 A' M.length (rxsC M)∧(∀x∈M,RXV w' x)∧(M.map (·.r)).Perm (((frsF L).1.filter (stdB day (frsF L).1)).map (·.r))∧SortK M)∧Ext w w' :=
 standing_big L day A n c w hl hL (Nat.le_trans hn (by decide)) (Nat.le_trans (frsF_len L) (by rw[rx_n hl (fun x hx=>(hL x hx).1.len)];exact hn))
end
end Go.Proofs.YtjeecfjeooehhaaGreatDoor