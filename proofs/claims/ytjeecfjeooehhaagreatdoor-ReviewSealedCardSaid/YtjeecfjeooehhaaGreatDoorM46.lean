/- Plain law: chains go on from where they were left. No program. -/
import Derived.Test.YtjeecfjeooehhaaGreatDoorM26
import Derived.Test.YtjeecfjeooehhaaGreatDoorM31
set_option linter.unusedSimpArgs false
set_option linter.unusedVariables false
set_option maxHeartbeats 16000000
set_option maxRecDepth 100000
namespace Go.Proofs.YtjeecfjeooehhaaGreatDoor
open Go.RowKit
open Lib (hid)
section
theorem advD_comp (i c:Int)(f n:Nat)(v:List Int):∀m,advD i c f (n+m) v=advD i c (f+n) m (advD i c f n v)
 | 0=>rfl
 | m+1=>by
  show advD i c f ((n+m)+1) v=_
  unfold advD;rw[←advD_comp i c f n v m,Nat.add_assoc]
theorem end_top (seed:ByteArray)(k:Int)(X:List Int)(f:Nat→Nat)(c:Nat)(hf:f c≤3)(h:valD X c=advD k (c:Int) 0 (f c) (startD seed k (c:Int))):endD k X f c=topD seed k (c:Int):=by
 unfold endD topD;rw[h];have e:=advD_comp k (c:Int) 0 (f c) (startD seed k (c:Int)) (3-f c);rw[show f c+(3-f c)=3 by omega,Nat.zero_add] at e
 exact e.symm
theorem valD_flat (val:Nat→List Int)(n c:Nat)(rest:List Int)(hv:∀j,j<n→Dig (val j))(hc:c<n):valD (flatD val n++rest) c=val c:=by
 induction n with
 | zero=>omega
 | succ n ih =>
  have hl:=flatD_len val (t:=n) (fun j hj=>hv j (by omega))
  rw[flatD_succ,List.append_assoc];by_cases h:c<n
  ·have h2:=ih (fun j hj=>hv j (by omega)) h
   unfold valD at h2⊢;rw[List.drop_append_of_le_length (by omega),List.take_append_of_le_length (by rw[List.length_drop];omega)] at h2⊢
   exact h2
  ·obtain rfl:c=n:=by omega
   have hd:=(hv c (by omega)).l
   unfold valD;rw[←hl,List.drop_left,List.take_append_of_le_length (by omega),List.take_of_length_le (by omega)]
end
section
theorem flatD_congr {f g:Nat→List Int}{n:Nat}(h:∀c,c<n→f c=g c):flatD f n=flatD g n:=by
 induction n with
 | zero=>rfl
 | succ n ih=>rw[flatD_succ,flatD_succ,ih (fun c hc=>h c (by omega)),h n (by omega)]
def sigX (seed:ByteArray)(h i:Nat)(d:List Int):List Int:=flatD (sgV seed i d) 68++flatD (sgP seed i) h
theorem sgP_dig (seed:ByteArray)(i l:Nat):Dig (sgP seed i l):=nodeV_dig _ _ _
theorem sigX_len (seed:ByteArray)(h i:Nat)(d:List Int):(sigX seed h i d).length=(68+h)*16:=by
 unfold sigX;rw[List.length_append,flatD_len _ (fun j _=>sgV_dig seed i d j),flatD_len _ (fun j _=>sgP_dig seed i j)]
 omega
theorem sigX_byt (seed:ByteArray)(h i:Nat)(d:List Int):Byt (sigX seed h i d):=sg_byt_app (flatD_byt _ (fun j _=>sgV_dig seed i d j)) (flatD_byt _ (fun j _=>sgP_dig seed i j))
theorem valX_lo (seed:ByteArray)(h i:Nat)(d:List Int){c:Nat}(hc:c<68):valD (sigX seed h i d) c=sgV seed i d c:=valD_flat _ 68 c _ (fun j _=>sgV_dig seed i d j) hc
theorem valX_hi (seed:ByteArray)(h i:Nat)(d:List Int){l:Nat}(hl:l<h):valD (sigX seed h i d) (68+l)=sgP seed i l:=by
 have e:=valD_flat (sgP seed i) h l [] (fun j _=>sgP_dig seed i j) hl
 rw[List.append_nil] at e;rw[←e];unfold valD sigX;have hl2:=flatD_len (sgV seed i d) (t:=68) (fun j _=>sgV_dig seed i d j)
 rw[show 16*(68+l)=(flatD (sgV seed i d) 68).length+16*l by rw[hl2];omega,←List.drop_drop,List.drop_left]
theorem xor_one (q:Nat):q ^^^ 1=if q % 2=1 then q-1 else q+1:=by
 have h0:(q ^^^ 1) / 2=q / 2:=by
  rw[Nat.xor_div_two];simp
 have h1:decide ((q ^^^ 1) % 2=1)=(decide (q % 2=1) ^^ true):=by
  rw[←Nat.testBit_zero,Nat.testBit_xor,Nat.testBit_zero];rfl
 by_cases h:q % 2=1
 ·rw[if_pos h]
  rw[decide_eq_true h] at h1;have h2:=of_decide_eq_false h1;omega
 ·rw[if_neg h]
  rw[decide_eq_false h] at h1;have h2:=of_decide_eq_true h1;omega
theorem climb_tree (seed:ByteArray)(h i:Nat)(d:List Int):∀l,l≤h→climbD (sigX seed h i d) i (nodeV seed 0 i) l=nodeV seed l (i / 2^l)
 | 0,_=>by simp [climbD]
 | l+1,hl=>by
  unfold climbD;rw[climb_tree seed h i d l (by omega),valX_hi seed h i d (by omega)]
  unfold sgP sib;have e:i / 2^(l+1)=i / 2^l / 2:=by rw[Nat.pow_succ,Nat.div_div_eq_div_mul]
  obtain⟨q,hq⟩:∃q,q=i / 2^l:=⟨_,rfl⟩
  rw[e,←hq];obtain⟨u,hu⟩:∃u,u=q / 2:=⟨_,rfl⟩
  rw[←hu];by_cases hodd:q % 2=1
  ·rw[if_pos hodd]
   have e1:q ^^^ 1=2*u:=by
    rw[xor_one,if_pos hodd];omega
   rw[e1,show q=2*u+1 by omega]
   rfl
  ·rw[if_neg hodd]
   have e1:q ^^^ 1=2*u+1:=by
    rw[xor_one,if_neg hodd];omega
   rw[e1,show q=2*u by omega]
   rfl
theorem leafD_congr {f g:Nat→List Int}(h:∀c,c<68→f c=g c):leafD f=leafD g:=by unfold leafD;rw[flatD_congr h]
theorem accept (seed msg:ByteArray)(h i:Nat)(hi:i<2^h):rootD (nodeV seed h 0) h i msg (sigX seed h i (sgM seed h i msg))=nodeV seed h 0:=by
 unfold rootD
 have e:leafD (endD (i:Int) (sigX seed h i (sgM seed h i msg)) (dgN (digestD (nodeV seed h 0) (i:Int) msg)))=nodeV seed 0 i:=by
  show _=leafD (fun c=>topD seed (i:Int) (c:Int))
  exact leafD_congr fun c hc=>end_top seed (i:Int) _ _ c (dgN_le _ _) (valX_lo seed h i _ hc)
 rw[e,climb_tree seed h i _ h (Nat.le_refl _),Nat.div_eq_of_lt hi]
theorem signL_X (seed:ByteArray)(h i:Nat)(msg:ByteArray):signL seed h i msg=encInt (i:Int)++sigX seed h i (sgM seed h i msg):=by
 unfold signL sigX;rw[List.append_assoc]
theorem verV_sign (seed msg:ByteArray)(h i:Nat)(hi:i<2^h)(h6:h≤6):verV (nodeV seed h 0) h msg (strOf (signL seed h i msg))=((i:Int),0):=by
 have hp:2^h≤64:=by
  have:=Nat.pow_le_pow_right (show 0<2 by decide) h6
  omega
 have hX:=sigX_byt seed h i (sgM seed h i msg);have hL:=sigX_len seed h i (sgM seed h i msg);have hA:=accept seed msg h i hi;rw[signL_X];generalize sigX seed h i (sgM seed h i msg)=X at *
 have hb:bys (strOf (encInt (i:Int)++X))=encInt (i:Int)++X:=bys_strOf _ (sg_byt_app (encInt_byt _ (by omega) (by omega)) hX)
 have hg:getI (bys (strOf (encInt (i:Int)++X)))=((i:Int),((encInt (i:Int)).length:Int),0):=by
  rw[hb];exact getI_enc _ _ (by omega) (by omega)
 have hd:(bys (strOf (encInt (i:Int)++X))).drop (((encInt (i:Int)).length:Int)).toNat=X:=by
  rw[hb,Int.toNat_natCast,List.drop_left]
 unfold verV;rw[hg];dsimp only;rw[hd,if_neg (by simp),if_neg (by rw[hL];omega),Int.toNat_natCast,if_pos hA]
end
end Go.Proofs.YtjeecfjeooehhaaGreatDoor