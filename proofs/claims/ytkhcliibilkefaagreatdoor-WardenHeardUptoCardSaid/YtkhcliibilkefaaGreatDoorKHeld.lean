/- PLAIN LAWS of the numbers of a line (layer 12): which texts are whole numbers, as the reference reads them, and as Itoa writes them. -/
import Derived.Lib.ItoaNum
import Derived.Lib.AtoiAll
import Derived.Lib.SplitLaws
import Derived.Test.YtkhcliibilkefaaGreatDoorSLaw
import Derived.OrdersHeld
import Derived.Deep.RegionHeld
import Derived.WalkKit
set_option linter.unusedVariables false
set_option linter.unusedSimpArgs false
set_option maxRecDepth 100000
set_option maxHeartbeats 8000000
namespace Go.Proofs.YtkhcliibilkefaaGreatDoor
open Go.Lib
def isDig (x:UInt8):Bool:=decide (48≤x.toNat) && decide (x.toNat≤57)
def valP (l:List UInt8):Nat:=l.foldl (fun n x=>10 * n+(x.toNat - 48)) 0
def digsP (l:List UInt8):Prop:=l≠[]∧l.all isDig=true∧(l.head?=some 48→l.length=1)
theorem valP_snoc (l:List UInt8)(x:UInt8):valP (l++[x])=10 * valP l+(x.toNat - 48):=by simp[valP,List.foldl_append]
theorem dec_small {u:Nat}(h:u<10):decDigits u=[UInt8.ofNat (48+u)]:=by rw[decDigits,dif_pos h]
theorem dec_big {u:Nat}(h:¬ u<10):decDigits u=decDigits (u / 10)++[UInt8.ofNat (48+u % 10)]:=by rw[decDigits,dif_neg h]
theorem dig_of {x:UInt8}(h:isDig x=true):x=UInt8.ofNat (48+(x.toNat - 48))∧x.toNat - 48<10:=by
 unfold isDig at h;simp at h;refine⟨UInt8.toNat_inj.1 ?_,by omega⟩;rw[UInt8.toNat_ofNat'];omega
theorem dig_ofNat {d:Nat}(h:d<10):(UInt8.ofNat (48+d)).toNat=48+d:=by rw[UInt8.toNat_ofNat'];omega
theorem snoc_of {l:List UInt8}(h:l≠[]):∃ k x,l=k++[x]:=⟨l.dropLast,l.getLast h,(List.dropLast_concat_getLast h).symm⟩
theorem dec_val:∀(n:Nat) (l:List UInt8),l.length=n→digsP l→decDigits (valP l)=l∧(l.head?≠some 48→1≤valP l)
 | 0,l,hn,h=>absurd (List.length_eq_zero_iff.1 hn) h.1
 | n+1,l,hn,h=>by
  obtain⟨k,x,rfl⟩:=snoc_of h.1;have hx:isDig x=true:=List.all_eq_true.1 h.2.1 x (by simp);obtain⟨e,hlt⟩:=dig_of hx;rw[valP_snoc]
  by_cases hk:k=[]
  · subst hk
    refine⟨?_,fun hh=>?_⟩
    · rw[show valP []=0 from rfl,Nat.mul_zero,Nat.zero_add,dec_small hlt,← e];rfl
    · have:x≠48:=fun h48=>hh (by simp[h48])
      have h1:x.toNat≠48:=fun h48=>this (UInt8.toNat_inj.1 h48);unfold isDig at hx;simp at hx;omega
  · have hh:k.head?≠some 48:=by
     intro hc;have h2:=h.2.2 (by rw[List.head?_append,hc];rfl);rw[List.length_append] at h2;exact hk (List.length_eq_zero_iff.1 (by simpa using h2))
    have ih:=dec_val n k (by simpa using hn) ⟨hk,List.all_eq_true.2 fun y hy=>List.all_eq_true.1 h.2.1 y (by simp[hy]),fun hc=>absurd hc hh⟩;have h1:=ih.2 hh;refine⟨?_,fun _=>by omega⟩;rw[dec_big (by omega),show(10 * valP k+(x.toNat - 48)) / 10=valP k by omega,show(10 * valP k+(x.toNat - 48)) % 10=x.toNat - 48 by omega,ih.1,← e]
theorem dec_is:∀(n u:Nat),u<10 ^ (n+1)→digsP (decDigits u)∧valP (decDigits u)=u∧(decDigits u).length≤n+1∧((decDigits u).head?=some 48→u=0)
 | n,u,h=>by
  by_cases hu:u<10
  · rw[dec_small hu]
    have e:=dig_ofNat hu;refine⟨⟨by simp,by simp[isDig];omega,fun _=>rfl⟩,by simp[valP];omega,by simp,fun hh=>?_⟩
    have:UInt8.ofNat (48+u)=48:=by simpa using hh
    rw[this] at e;have h48:(48:UInt8).toNat=48:=rfl;omega
  · cases n with
    | zero=>simp at h;omega
    | succ n =>
     have hp:10 ^ (n+1+1)=10 * 10 ^ (n+1):=by rw[Nat.pow_succ];omega
     obtain⟨⟨a1,a2,a3⟩,b,c,d⟩:=dec_is n (u / 10) (by omega);have e:=dig_ofNat (d:=u % 10) (by omega);rw[dec_big hu]
     have hne:(decDigits (u / 10)).head?≠some 48:=fun hc=>by have:=d hc;omega
     have hhd:(decDigits (u / 10)++[UInt8.ofNat (48+u % 10)]).head?=(decDigits (u / 10)).head?:=by
      cases hl:decDigits (u / 10) with
      | nil=>exact absurd hl a1
      | cons y l=>rfl
     refine⟨⟨by simp,?_,fun hc=>absurd (hhd ▸ hc) hne⟩,?_,by rw[List.length_append];simp;omega,fun hc=>absurd (hhd ▸ hc) hne⟩
     · rw[List.all_append,a2]
       simp[isDig];omega
     · rw[valP_snoc,b,e];omega
def wholeP (l:List UInt8):Option Int :=
 let m:=decide (l.head?=some 45)
 let d:=if m then l.drop 1 else l
 if d=[]∨9<d.length∨(d.head?=some 48∧(1<d.length∨m=true)) then none
 else if d.all isDig then some (if m then -(valP d:Int) else (valP d:Int)) else none
theorem val_lt:∀(n:Nat) (l:List UInt8),l.length=n→l.all isDig=true→valP l<10 ^ n
 | 0,l,hn,_=>by rw[List.length_eq_zero_iff.1 hn];simp[valP]
 | n+1,l,hn,h=>by
  obtain⟨k,x,rfl⟩:=snoc_of (l:=l) (by intro hc;rw[hc] at hn;simp at hn);obtain⟨_,hlt⟩:=dig_of (List.all_eq_true.1 h x (by simp));have ih:=val_lt n k (by simpa using hn) (List.all_eq_true.2 fun y hy=>List.all_eq_true.1 h y (by simp[hy]));rw[valP_snoc,Nat.pow_succ];omega
theorem whole_itoa {l:List UInt8}{v:Int}(h:wholeP l=some v):itoa v=l∧-999999999≤v∧v≤999999999:=by
 unfold wholeP at h
 by_cases hm:l.head?=some 45
 · simp only[hm,decide_true,if_true] at h
   obtain⟨t,rfl⟩:∃ t,l=45::t:=by
    cases l with
    | nil=>simp at hm
    | cons y t=>exact⟨t,by simp at hm;rw[hm]⟩
   simp only[List.drop_succ_cons,List.drop_zero] at h
   split at h
   · cases h
   · rename_i hno
     split at h
     · rename_i hd
       have hz:t.head?≠some 48:=fun hc=>hno (.inr (.inr ⟨hc,.inr trivial⟩));have h1:=dec_val _ t rfl ⟨fun hc=>hno (.inl hc),hd,fun hc=>absurd hc hz⟩;have h2:=val_lt _ t rfl hd;have h3:valP t<10 ^ 9:=Nat.lt_of_lt_of_le h2 (Nat.pow_le_pow_right (by omega) (by omega));have h4:=h1.2 hz
       obtain rfl:-(valP t:Int)=v:=by simpa using h
       refine⟨?_,by omega,by omega⟩;unfold itoa;rw[if_pos (by omega),Int.natAbs_neg,Int.natAbs_natCast,h1.1]
     · cases h
 · simp only[hm,decide_false,Bool.false_eq_true,if_false] at h
   split at h
   · cases h
   · rename_i hno
     split at h
     · rename_i hd
       have hz:l.head?=some 48→l.length=1:=fun hc=>by
        have h0:l≠[]:=fun he=>hno (.inl he);have:=List.length_pos_iff.2 h0;have h5:¬ 1<l.length:=fun hh=>hno (.inr (.inr ⟨hc,.inl hh⟩));omega
       have h1:=dec_val _ l rfl ⟨fun hc=>hno (.inl hc),hd,hz⟩;have h2:=val_lt _ l rfl hd;have h3:valP l<10 ^ 9:=Nat.lt_of_lt_of_le h2 (Nat.pow_le_pow_right (by omega) (by omega))
       obtain rfl:(valP l:Int)=v:=by simpa using h
       refine⟨?_,by omega,by omega⟩;unfold itoa;rw[if_neg (by omega),Int.toNat_natCast,h1.1]
     · cases h
theorem itoa_whole {v:Int}(h:-999999999≤v∧v≤999999999):wholeP (itoa v)=some v:=by
 unfold itoa
 split
 · rename_i hv
   obtain⟨⟨a1,a2,a3⟩,b,c,d⟩:=dec_is 8 v.natAbs (by omega);unfold wholeP;simp only[List.head?_cons,decide_true,if_true,List.drop_succ_cons,List.drop_zero];rw[if_neg,if_pos a2,b]
   · congr 1;omega
   · rintro(hc | hc | ⟨hc,_⟩)
     · exact a1 hc
     · omega
     · have:=d hc;omega
 · rename_i hv
   obtain⟨⟨a1,a2,a3⟩,b,c,d⟩:=dec_is 8 v.toNat (by omega)
   have hm:(decDigits v.toNat).head?≠some 45:=by
    intro hc
    have hmem:(45:UInt8)∈decDigits v.toNat:=by
     cases hl:decDigits v.toNat with
     | nil=>exact absurd hl a1
     | cons y l=>rw[hl] at hc;simp at hc;simp[hc]
    have:=List.all_eq_true.1 a2 _ hmem;revert this;decide
   unfold wholeP;simp only[hm,decide_false,Bool.false_eq_true,if_false];rw[if_neg,if_pos a2,b]
   · congr 1;omega
   · rintro(hc | hc | ⟨hc,hl | hl⟩)
     · exact a1 hc
     · omega
     · have:=a3 hc;omega
     · cases hl
theorem parse_digs:∀(l:List UInt8) (acc:Nat),l.all isDig=true→(acc+1) * 10 ^ l.length≤10 ^ 18→parseUint10 acc l=.ok (l.foldl (fun n x=>10 * n+(x.toNat - 48)) acc)
 | [],_,_,_=>rfl
 | x::l,acc,h,hb=>by
  rw[List.all_cons,Bool.and_eq_true] at h;have hx:=h.1;unfold isDig at hx;simp at hx;rw[List.length_cons,Nat.pow_succ,Nat.mul_comm _ 10,← Nat.mul_assoc] at hb;have h1:(acc * 10+(x.toNat - 48)+1) * 10 ^ l.length≤(acc+1) * 10 * 10 ^ l.length:=Nat.mul_le_mul_right _ (by omega);have h2:acc * 10+(x.toNat - 48)+1≤(acc * 10+(x.toNat - 48)+1) * 10 ^ l.length:=Nat.le_mul_of_pos_right _ (Nat.pow_pos (by omega));have ih:=parse_digs l (acc * 10+(x.toNat - 48)) h.2 (by omega);rw[parseUint10,if_pos (by omega),if_neg (by omega),if_neg (by omega),ih,List.foldl_cons,Nat.mul_comm acc 10]
theorem mag_digs {l:List UInt8}(hn:l≠[])(h:l.all isDig=true)(hl:l.length≤9):parseMag l=.ok (valP l):=by
 unfold parseMag;rw[if_neg hn,parse_digs l 0 h]
 · rfl
 · rw[Nat.zero_add,Nat.one_mul]
   exact Nat.pow_le_pow_right (by omega) (by omega)
theorem atoi_itoa {v:Int}(h:-999999999≤v∧v≤999999999):atoiAll (itoa v)=.ok v:=by
 unfold itoa
 split
 · rename_i hv
   obtain⟨⟨a1,a2,_⟩,b,c,_⟩:=dec_is 8 v.natAbs (by omega);have h45:(45:UInt8).toNat=45:=rfl;simp only[atoiAll,h45,or_true,if_true,mag_digs a1 a2 c,b,not_true,false_and,if_false,true_and];rw[if_neg (by omega)]
   congr 1;omega
 · rename_i hv
   obtain⟨⟨a1,a2,_⟩,b,c,_⟩:=dec_is 8 v.toNat (by omega);have hm:=mag_digs a1 a2 c
   cases hl:decDigits v.toNat with
   | nil=>exact absurd hl a1
   | cons x l =>
    rw[hl] at a2 hm b;rw[List.all_cons,Bool.and_eq_true] at a2;have hx:=a2.1;unfold isDig at hx;simp at hx
    have n1:¬ x.toNat=43:=by omega
    have n2:¬ x.toNat=45:=by omega
    simp only[atoiAll,n1,n2,or_self,if_false,hm,b,not_false_eq_true,true_and,false_and];rw[if_neg (by omega)]
    congr 1;omega
theorem whole_iff {l:List UInt8}{v:Int}:wholeP l=some v↔atoiAll l=.ok v∧itoa v=l∧-999999999≤v∧v≤999999999:=by
 constructor
 · intro h
   obtain⟨h1,h2⟩:=whole_itoa h;exact⟨by rw[← h1];exact atoi_itoa h2,h1,h2⟩
 · rintro⟨_,rfl,h2⟩
   exact itoa_whole h2
def partsP (c:UInt8):List UInt8→List (List UInt8)
 | []=>[[]]
 | x::l=>if x=c then []::partsP c l else match partsP c l with
  | []=>[[x]]
  | p::ps=>(x::p)::ps
theorem parts_ne (c:UInt8):∀ l,partsP c l≠[]
 | []=>by simp[partsP]
 | x::l=>by
  unfold partsP
  split
  · simp
  · split<;>simp
theorem split_parts (c:UInt8):∀(l:List UInt8) (k:Nat),k=l.count c→splitK [c] 0 k l=partsP c l
 | [],k,h=>by subst h;rfl
 | x::l,k,h=>by
  by_cases hx:x=c
  · subst hx
    rw[List.count_cons_self] at h;subst h
    have hix:index (x::l) [x]=0:=by rw[index];simp[List.isPrefixOf]
    rw[splitK,hix];simp only[partsP,if_true];rw[if_neg (by decide)];have:=split_parts x l _ rfl
    simpa using this
  · rw[List.count_cons_of_ne (by simpa using hx)] at h
    have ih:=split_parts c l k h
    have hp:([c]:List UInt8).isPrefixOf (x::l)=false:=by simp[List.isPrefixOf,Ne.symm hx]
    have hix:index (x::l) [c]=if index l [c] == -1 then -1 else index l [c]+1:=by rw[index,hp];simp
    rw[partsP,if_neg hx,← ih]
    cases k with
    | zero=>rfl
    | succ k =>
     rw[splitK,splitK,hix]
     by_cases hm:index l [c]=-1
     · simp[hm]
     · have hge:=index_ge l [c]
       have hm':(index l [c] == -1)=false:=by simpa using hm
       obtain⟨j,hj⟩:∃ j:Nat,index l [c]=j:=⟨(index l [c]).toNat,by omega⟩
       have hm2:(((j:Int)+1) == -1)=false:=by simp;omega
       have ht:((j:Int)+1).toNat=j+1:=by omega
       have htj:((j:Int)).toNat=j:=by omega
       rw[hm',hj];simp only[Bool.false_eq_true,if_false,hm2,ht,htj];simp[Nat.add_comm,Nat.add_left_comm]
end Go.Proofs.YtkhcliibilkefaaGreatDoor
namespace Go.Proofs.YtkhcliibilkefaaGreatDoor
def hexP (x:UInt8):Option Nat:=if 48≤x.toNat∧x.toNat≤57 then some (x.toNat - 48) else if 97≤x.toNat∧x.toNat≤102 then some (x.toNat - 87) else none
theorem hex_lt {x:UInt8}{d:Nat}(h:hexP x=some d):d<16:=by
 unfold hexP at h
 split at h
 · obtain rfl:=Option.some.inj h;omega
 · split at h
   · obtain rfl:=Option.some.inj h;omega
   · cases h
def wireP:List UInt8→Option (List Nat)
 | []=>some []
 | [_]=>none
 | x::y::l=>match hexP x,hexP y,wireP l with
  | some a,some b,some r=>some ((16 * a+b)::r)
  | _,_,_=>none
def stepH (out:List Nat)(i d:Nat):List Nat:=if i % 2=0 then out++[16 * d] else out.set (i / 2) (out.getD (i / 2) 0+d)
def loopH (t:List UInt8):Nat→Option (List Nat)
 | 0=>some []
 | k+1=>match loopH t k,(t[k]?).bind hexP with
  | some out,some d=>some (stepH out k d)
  | _,_=>none
theorem loopH_len {t:List UInt8}:∀ {k:Nat} {o:List Nat},loopH t k=some o→o.length=(k+1) / 2
 | 0,o,h=>by obtain rfl:=Option.some.inj h;rfl
 | k+1,o,h=>by
  rw[loopH] at h
  split at h
  · rename_i out d h1 _
    have ih:=loopH_len h1;obtain rfl:=Option.some.inj h;unfold stepH
    split
    · simp[ih];omega
    · simp[ih];omega
  · cases h
theorem loopH_some {t:List UInt8}:∀ {k:Nat},(∀ i,i<k→∃ d,(t[i]?).bind hexP=some d)→∃ o,loopH t k=some o
 | 0,_=>⟨[],rfl⟩
 | k+1,h=>by
  obtain⟨o,ho⟩:=loopH_some (k:=k) fun i hi=>h i (by omega);obtain⟨d,hd⟩:=h k (by omega);exact⟨stepH o k d,by rw[loopH,ho,hd]⟩
theorem loopH_get {t:List UInt8}:∀ {k:Nat} {o:List Nat},loopH t (2 * k)=some o→∀ j,j<k→∃ a b,(t[2 * j]?).bind hexP=some a∧(t[2 * j+1]?).bind hexP=some b∧o[j]?=some (16 * a+b)
 | 0,_,_,j,hj=>absurd hj (by omega)
 | k+1,o,h,j,hj=>by
  rw[show 2 * (k+1)=2 * k+1+1 by omega,loopH] at h
  split at h
  · rename_i o1 b h1 hb
    rw[loopH] at h1
    split at h1
    · rename_i o0 a h0 ha
      have hl:=loopH_len h0;obtain rfl:=Option.some.inj h1;obtain rfl:=Option.some.inj h;have ih:=loopH_get h0
      have e1:stepH o0 (2 * k) a=o0++[16 * a]:=by unfold stepH;rw[if_pos (by omega)]
      have hk:o0.length=k:=by omega
      have e2:stepH (o0++[16 * a]) (2 * k+1) b=o0++[16 * a+b]:=by
       unfold stepH;rw[if_neg (by omega),show(2 * k+1) / 2=k by omega,← hk];simp
      rw[e1,e2]
      by_cases hjk:j=k
      · subst hjk
        exact⟨a,b,ha,hb,by rw[List.getElem?_append_right (by omega),hk];simp⟩
      · obtain⟨c,d,h3,h4,h5⟩:=ih j (by omega)
        exact⟨c,d,h3,h4,by rw[List.getElem?_append_left (by omega)];exact h5⟩
    · cases h1
  · cases h
open Go.RowKit Go.Proofs
def encBed (b:BedS):List Value:=[.int .i64 b.drive,.int .i64 b.normal,.int .i64 b.f0,.int .i64 b.f1,.int .i64 b.c0,.int .i64 b.c1,.int .i64 b.w0,.int .i64 b.w1]
theorem encBed_len (b:BedS):(encBed b).length=8:=rfl
def encCel (c:Cel):List Value:=[.int .i64 c.lo,.int .i64 c.hi,.int .i64 c.cap,.int .i64 c.keep,.int .i64 c.pass,.int .i64 c.to,.int .i64 c.pump]
theorem encCel_len (c:Cel):(encCel c).length=7:=rfl
def encDy (d:Dy):List Value:=[.int .i64 d.lo,.int .i64 d.hi,.int .i64 d.warm]
theorem encDy_len (d:Dy):(encDy d).length=3:=rfl
structure Slc where
 A:Option Addr
 n:Nat
 c:Nat
def Slc.v (x:Slc):Value:=.slice x.A x.n x.c
structure ColR where
 A:Option Addr
 c:Nat
 bed:BedS
def encC (r:ColR):List Value:=[.slice r.A 1 r.c]
theorem encC_len (r:ColR):(encC r).length=1:=rfl
section
variable {w:World} {A:Option Addr} {n:Nat}
theorem Rd.atBed {l:List BedS}(h:Rd encBed 8 w A n l){i:Nat}(hi:i<n) :
 ∃ b o x,A=some ⟨b,o,none⟩∧b<w.heap.size∧l[i]?=some x∧w.cell? ⟨b,o+i * 8,none⟩=some (.int .i64 x.drive)∧w.cell? ⟨b,o+i * 8+1,none⟩=some (.int .i64 x.normal)∧w.cell? ⟨b,o+i * 8+2,none⟩=some (.int .i64 x.f0)∧w.cell? ⟨b,o+i * 8+3,none⟩=some (.int .i64 x.f1)∧w.cell? ⟨b,o+i * 8+4,none⟩=some (.int .i64 x.c0)∧w.cell? ⟨b,o+i * 8+5,none⟩=some (.int .i64 x.c1)∧w.cell? ⟨b,o+i * 8+6,none⟩=some (.int .i64 x.w0)∧w.cell? ⟨b,o+i * 8+7,none⟩=some (.int .i64 x.w1):=by
 obtain⟨b,o,x,e,hb,hx,hc⟩:=h.at_ hi;exact⟨b,o,x,e,hb,hx,hc 0 _ rfl,hc 1 _ rfl,hc 2 _ rfl,hc 3 _ rfl,hc 4 _ rfl,hc 5 _ rfl,hc 6 _ rfl,hc 7 _ rfl⟩
theorem Rd.atCel {l:List Cel}(h:Rd encCel 7 w A n l){i:Nat}(hi:i<n) :
 ∃ b o x,A=some ⟨b,o,none⟩∧b<w.heap.size∧l[i]?=some x∧w.cell? ⟨b,o+i * 7,none⟩=some (.int .i64 x.lo)∧w.cell? ⟨b,o+i * 7+1,none⟩=some (.int .i64 x.hi)∧w.cell? ⟨b,o+i * 7+2,none⟩=some (.int .i64 x.cap)∧w.cell? ⟨b,o+i * 7+3,none⟩=some (.int .i64 x.keep)∧w.cell? ⟨b,o+i * 7+4,none⟩=some (.int .i64 x.pass)∧w.cell? ⟨b,o+i * 7+5,none⟩=some (.int .i64 x.to)∧w.cell? ⟨b,o+i * 7+6,none⟩=some (.int .i64 x.pump):=by
 obtain⟨b,o,x,e,hb,hx,hc⟩:=h.at_ hi;exact⟨b,o,x,e,hb,hx,hc 0 _ rfl,hc 1 _ rfl,hc 2 _ rfl,hc 3 _ rfl,hc 4 _ rfl,hc 5 _ rfl,hc 6 _ rfl⟩
theorem Rd.atDy {l:List Dy}(h:Rd encDy 3 w A n l){i:Nat}(hi:i<n) :
 ∃ b o x,A=some ⟨b,o,none⟩∧b<w.heap.size∧l[i]?=some x∧w.cell? ⟨b,o+i * 3,none⟩=some (.int .i64 x.lo)∧w.cell? ⟨b,o+i * 3+1,none⟩=some (.int .i64 x.hi)∧w.cell? ⟨b,o+i * 3+2,none⟩=some (.int .i64 x.warm):=by
 obtain⟨b,o,x,e,hb,hx,hc⟩:=h.at_ hi;exact⟨b,o,x,e,hb,hx,hc 0 _ rfl,hc 1 _ rfl,hc 2 _ rfl⟩
theorem Rd.atC {l:List ColR}(h:Rd encC 1 w A n l){i:Nat}(hi:i<n) :
 ∃ b o x,A=some ⟨b,o,none⟩∧b<w.heap.size∧l[i]?=some x∧w.cell? ⟨b,o+i,none⟩=some (.slice x.A 1 x.c):=by
 obtain⟨b,o,x,e,hb,hx,hc⟩:=h.at_ hi;exact⟨b,o,x,e,hb,hx,by simpa using hc 0 _ rfl⟩
end
def digW (d:Nat):UInt8:=UInt8.ofNat (97+d)
def letW (tu:Bool):Nat→Nat→List UInt8
 | 0,_=>[]
 | k+1,n=>letW tu k (n / 26)++[digW (if tu then 25 - n % 26 else n % 26)]
def chkStep (c:Nat)(x:UInt8):Nat:=(37 * c+x.toNat+7) % 11881357
def chkW (c:Nat)(l:List UInt8):Nat:=l.foldl chkStep c
def headW (s:List UInt8)(c:Nat):List UInt8:=123::(letW false 3 s.length++(letW true 3 s.length++(letW false 5 (chkW c s)++[125])))
def recW (s:List UInt8)(c:Nat):List UInt8:=headW s c++(s++[10])
def bookW:List (List UInt8)→Nat→List UInt8
 | [],_=>[]
 | s::l,c=>recW s c++bookW l (chkW c s)
theorem dig_nat {d:Nat}(h:d<26):(digW d).toNat=97+d:=by
 unfold digW;rw[UInt8.toNat_ofNat'];omega
theorem let_len (tu:Bool):∀ k n,(letW tu k n).length=k
 | 0,_=>rfl
 | k+1,n=>by simp[letW,let_len tu k]
theorem chk_lt {c:Nat}(hc:c<11881357):∀ l,chkW c l<11881357:=by
 intro l
 induction l generalizing c with
 | nil=>exact hc
 | cons x l ih=>exact ih (Nat.mod_lt _ (by omega))
theorem head_len (s:List UInt8)(c:Nat):(headW s c).length=13:=by simp[headW,let_len]
theorem rec_len (s:List UInt8)(c:Nat):(recW s c).length=14+s.length:=by simp[recW,head_len];omega
open Go.RowKit Go.Proofs
section
variable {P:Program} {ops:Array Oper} {Q:Exit→Act→World→Prop} {md:Region.Mode} {fins:List Nat} {S:World→Prop}
def ended (fins:List Nat)(listed:Array Bool):Bool:=fins.any fun f=>listed.getD f false
def Till (fins:List Nat)(S:World→Prop)(listed:Array Bool)(w:World):Prop:=ended fins listed=false→S w
def wpAnyL (P:Program)(md:Region.Mode)(ops:Array Oper)(Q:Exit→Act→World→Prop)(fins:List Nat)(S:World→Prop):Nat→Array Bool→Act→World→Prop
 | 0,listed,a,w=>Region.ready md ops listed=[]∧Q .normal a w
 | fuel+1,listed,a,w =>
  (Region.ready md ops listed=[]→Q .normal a w) ∧
  ∀ i∈Region.ready md ops listed,wpOp P ops Q i (fun a' w'=>Till fins S (listed.setIfInBounds i true) w'∧wpAnyL P md ops Q fins S fuel (listed.setIfInBounds i true) a' w') a w
theorem wpAny_of_till:∀(fuel:Nat) (listed:Array Bool) (a:Act) (w:World),wpAnyL P md ops Q fins S fuel listed a w→wpAny P md ops Q fuel listed a w
 | 0,_,_,_,h=>h
 | fuel+1,_,_,_,h=>⟨h.1,fun i hi=>wpOp_mono (fun a' w' h'=>wpAny_of_till fuel _ a' w' h'.2) (h.2 i hi)⟩
theorem ended_set {listed:Array Bool}{i:Nat}(h:ended fins (listed.setIfInBounds i true)=false):ended fins listed=false:=by
 unfold ended at *;rw[List.any_eq_false] at *;intro f hf hl;refine h f hf ?_;simp only[Array.getD_eq_getD_getElem?,Array.getElem?_setIfInBounds] at hl ⊢
 split
 · rename_i e
   subst e
   split
   · rfl
   · rename_i h1
     have:listed[i]?=none:=Array.getElem?_eq_none (by omega);rw[this] at hl;exact hl
 · exact hl
theorem ended_set_not {listed:Array Bool}{i:Nat}(h:ended fins listed=false)(hi:i ∉ fins):ended fins (listed.setIfInBounds i true)=false:=by
 unfold ended at *;rw[List.any_eq_false] at *;intro f hf hl;have hne:i≠f:=fun e=>hi (e ▸ hf);refine h f hf ?_
 simpa only[Array.getD_eq_getD_getElem?,Array.getElem?_setIfInBounds,if_neg hne] using hl
def Closed (md:Region.Mode)(ops:Array Oper)(listed:Array Bool):Prop:=∀ k o,ops[k]?=some o→listed.getD k false=true→∀ e∈o.after,Region.binds md e=true→listed.getD e.on false=true
def closedB (md:Region.Mode)(ops:Array Oper)(listed:Array Bool):Bool:=(List.range ops.size).all fun k=>!listed.getD k false || match ops[k]? with | some o=>o.after.all fun e=>!Region.binds md e || listed.getD e.on false | none=>true
theorem Closed.of {listed:Array Bool}(h:closedB md ops listed=true):Closed md ops listed:=fun k o ho hl e he hb=>by
 have:=List.all_eq_true.1 h k (List.mem_range.2 (Array.getElem?_eq_some_iff.1 ho).1);rw[ho,hl] at this;simp only[Bool.not_true,Bool.false_or,Array.all_eq_true_iff_forall_mem] at this;have:=this e he
 rwa [hb,Bool.not_true,Bool.false_or] at this
theorem Closed.add {listed:Array Bool}{j:Nat}(h:Closed md ops listed)(hj:j∈Region.ready md ops listed):Closed md ops (listed.setIfInBounds j true):=fun k o ho hl e he hb=>by
 by_cases hjk:j=k
 · subst hjk
   obtain⟨_,o',ho',hall⟩:=mem_ready.1 hj;rw[ho] at ho';cases ho';exact getD_set_true (hall e he hb)
 · rw[getD_set_ne false hjk] at hl
   exact getD_set_true (h k o ho hl e he hb)
def depB (md:Region.Mode)(ops:Array Oper)(i:Nat):Nat→Nat→Bool
 | 0,f=>match ops[f]? with | some o=>o.after.any fun e=>Region.binds md e && e.on == i | none=>false
 | n+1,f=>match ops[f]? with | some o=>o.after.any fun e=>Region.binds md e && (e.on == i || depB md ops i n e.on) | none=>false
theorem depB_listed {listed:Array Bool}(hc:Closed md ops listed){i:Nat}:∀(n f:Nat),(∀ o,ops[f]?=some o→∀ e∈o.after,Region.binds md e=true→listed.getD e.on false=true)→depB md ops i n f=true→listed.getD i false=true
 | 0,f,hf,h=>by
  unfold depB at h
  cases ho:ops[f]? with
  | none=>rw[ho] at h;cases h
  | some o =>
   rw[ho] at h;simp only[Array.any_eq_true,Bool.and_eq_true,beq_iff_eq] at h;obtain⟨k,hk,h1,h2⟩:=h;exact h2 ▸ hf o ho o.after[k] (Array.getElem_mem _) h1
 | n+1,f,hf,h=>by
  unfold depB at h
  cases ho:ops[f]? with
  | none=>rw[ho] at h;cases h
  | some o =>
   rw[ho] at h;simp only[Array.any_eq_true,Bool.and_eq_true,Bool.or_eq_true,beq_iff_eq] at h;obtain⟨k,hk,h1,h2⟩:=h;have h3:=hf o ho o.after[k] (Array.getElem_mem _) h1
   rcases h2 with h2 | h2
   · exact h2 ▸ h3
   · exact depB_listed hc n _ (fun o' ho' e he hb=>hc _ o' ho' h3 e he hb) h2
theorem wpAnyL_first {n i:Nat}{oi:Oper}{v:Value}(hi:ops[i]?=some oi)(hsel:∀(j:Nat) (o:Oper) cs b,ops[j]?=some o→o.op≠.select cs b)
 (hQ:∀ c a w,Q (.panic c) (a.put oi.dst v) w→Q (.panic c) a w) (hfi:i ∉ fins)
 (hfin:∀ f∈fins,depB md ops i n f=true) :
 ∀(fuel:Nat) (listed:Array Bool) (a:Act) (w:World),
  (∀ j oj,ops[j]?=some oj→j≠i→listed.getD j true=false→(∀ e∈oj.after,Region.binds md e=true→e.on≠i)→oi.apart ops oj=true) →
  i∈Region.ready md ops listed→YieldsIf P ops S oi v a→ended fins listed=false→Closed md ops listed→S w →
  wpAnyL P md ops Q fins S fuel (listed.setIfInBounds i true) (a.put oi.dst v) w→wpAnyL P md ops Q fins S (fuel+1) listed a w:=by
 intro fuel
 induction fuel with
 | zero =>
  intro listed a w _ hr hy he hcl hS H;refine⟨fun h=>(by rw[h] at hr;cases hr),fun j hj=>?_⟩
  by_cases hji:j=i
  · subst hji;exact hy.wpOp hi hS ⟨fun _=>hS,H⟩
  · have:=ready_mono hj hji
    rw[H.1] at this;cases this
 | succ fuel ih =>
  intro listed a w hfree hr hy he hcl hS H;refine⟨fun h=>(by rw[h] at hr;cases hr),fun j hj=>?_⟩
  by_cases hji:j=i
  · subst hji;exact hy.wpOp hi hS ⟨fun _=>hS,H⟩
  · have h1:=H.2 j (ready_mono hj hji)
    obtain⟨hjun,oj,hoj,hall⟩:=mem_ready.1 hj
    have hnot:∀ e∈oj.after,Region.binds md e=true→e.on≠i:=fun e he hb heq=>by
     have h1:=hall e he hb;have h0:=(mem_ready.1 hr).1;rw[heq] at h1
     rcases Nat.lt_or_ge i listed.size with h' | h'
     · simp[h'] at h0 h1;rw[h0] at h1;cases h1
     · simp[Array.getElem?_eq_none h'] at h1
    have hjf:j ∉ fins:=fun hjf=>by
     have h0:=(mem_ready.1 hr).1;have h1:=depB_listed hcl n j (fun o' ho' e he hb=>by rw[hoj] at ho';cases ho';exact hall e he hb) (hfin j hjf)
     rcases Nat.lt_or_ge i listed.size with h' | h'
     · simp[h'] at h0 h1;rw[h0] at h1;cases h1
     · simp[Array.getElem?_eq_none h'] at h1
    have hej:=ended_set_not he hjf;have hej':ended fins ((listed.setIfInBounds i true).setIfInBounds j true)=false:=ended_set_not (ended_set_not he hfi) hjf;have h2:=wpOp_putIf hoj (hfree j oj hoj hji hjun hnot) (fun cs b=>hsel i oi cs b hi) (fun cs b=>hsel j oj cs b hoj) hQ hy h1
    have hfree':∀ k ok,ops[k]?=some ok→k≠i→(listed.setIfInBounds j true).getD k true=false →
     (∀ e∈ok.after,Region.binds md e=true→e.on≠i)→oi.apart ops ok=true:=fun k ok hk hki hun hno=>by
     refine hfree k ok hk hki ?_ hno
     by_cases hjk:j=k
     · subst hjk;exact hjun
     · rw[getD_set_ne true hjk] at hun;exact hun
    refine wpOp_mono (fun a' w' h3=>?_) h2;have hS':=h3.2.1 hej';refine⟨fun _=>hS',ih (listed.setIfInBounds j true) a' w' hfree' (ready_mono hr (Ne.symm hji)) h3.1 hej (hcl.add hj) hS' ?_⟩;rw[Array.setIfInBounds_comm _ _ hji];exact h3.2.2
def waitB (md:Region.Mode)(ops:Array Oper)(fins:List Nat)(n i:Nat):Bool:=!fins.contains i && fins.all fun f=>depB md ops i n f
theorem wpAnyL_take {n i:Nat}{oi:Oper}{v:Value}{fuel:Nat}{listed:Array Bool}{a:Act}{w:World}(hi:ops[i]?=some oi)
 (hs:Region.noSelect ops=true) (hf:Region.free md ops listed i=true) (hr:(Region.ready md ops listed).contains i=true) (hw:waitB md ops fins n i=true) (he:ended fins listed=false) (hc:closedB md ops listed=true)
 (hQ:∀ c a w,Q (.panic c) (a.put oi.dst v) w→Q (.panic c) a w) (hy:YieldsIf P ops S oi v a) (hS:S w)
 (h:wpAnyL P md ops Q fins S fuel (listed.setIfInBounds i true) (a.put oi.dst v) w):wpAnyL P md ops Q fins S (fuel+1) listed a w:=by
 simp only[waitB,Bool.and_eq_true,Bool.not_eq_true',List.all_eq_true] at hw;exact wpAnyL_first hi (Region.noSelect_spec hs) hQ (by simpa using hw.1) hw.2 fuel listed a w (Region.free_spec hi hf) (by simpa using hr) hy he (.of hc) hS h
theorem wpAnyL_pure {i:Nat}{oi:Oper}{v:Value}(hi:ops[i]?=some oi)(hsel:∀(j:Nat) (o:Oper) cs b,ops[j]?=some o→o.op≠.select cs b)
 (hQ:∀ c a w,Q (.panic c) (a.put oi.dst v) w→Q (.panic c) a w) (hfi:i ∉ fins) :
 ∀(fuel:Nat) (listed:Array Bool) (a:Act) (w:World),
  (∀ j oj,ops[j]?=some oj→j≠i→listed.getD j true=false→(∀ e∈oj.after,Region.binds md e=true→e.on≠i)→oi.apart ops oj=true) →
  i∈Region.ready md ops listed→YieldsIf P ops (fun _=>True) oi v a→Till fins S listed w →
  wpAnyL P md ops Q fins S fuel (listed.setIfInBounds i true) (a.put oi.dst v) w→wpAnyL P md ops Q fins S (fuel+1) listed a w:=by
 intro fuel
 induction fuel with
 | zero =>
  intro listed a w _ hr hy hS H;refine⟨fun h=>(by rw[h] at hr;cases hr),fun j hj=>?_⟩
  by_cases hji:j=i
  · subst hji;exact hy.wpOp hi trivial ⟨fun h=>hS (ended_set h),H⟩
  · have:=ready_mono hj hji
    rw[H.1] at this;cases this
 | succ fuel ih =>
  intro listed a w hfree hr hy hS H;refine⟨fun h=>(by rw[h] at hr;cases hr),fun j hj=>?_⟩
  by_cases hji:j=i
  · subst hji;exact hy.wpOp hi trivial ⟨fun h=>hS (ended_set h),H⟩
  · have h1:=H.2 j (ready_mono hj hji)
    obtain⟨hjun,oj,hoj,hall⟩:=mem_ready.1 hj
    have hnot:∀ e∈oj.after,Region.binds md e=true→e.on≠i:=fun e he hb heq=>by
     have h1:=hall e he hb;have h0:=(mem_ready.1 hr).1;rw[heq] at h1
     rcases Nat.lt_or_ge i listed.size with h' | h'
     · simp[h'] at h0 h1;rw[h0] at h1;cases h1
     · simp[Array.getElem?_eq_none h'] at h1
    have h2:=wpOp_putIf hoj (hfree j oj hoj hji hjun hnot) (fun cs b=>hsel i oi cs b hi) (fun cs b=>hsel j oj cs b hoj) hQ hy h1
    have hfree':∀ k ok,ops[k]?=some ok→k≠i→(listed.setIfInBounds j true).getD k true=false →
     (∀ e∈ok.after,Region.binds md e=true→e.on≠i)→oi.apart ops ok=true:=fun k ok hk hki hun hno=>by
     refine hfree k ok hk hki ?_ hno
     by_cases hjk:j=k
     · subst hjk;exact hjun
     · rw[getD_set_ne true hjk] at hun;exact hun
    refine wpOp_mono (fun a' w' h3=>?_) h2;have hS':Till fins S (listed.setIfInBounds j true) w':=fun he=>h3.2.1 (by rw[Array.setIfInBounds_comm _ _ (Ne.symm hji)];exact ended_set_not he hfi);refine⟨hS',ih (listed.setIfInBounds j true) a' w' hfree' (ready_mono hr (Ne.symm hji)) h3.1 hS' ?_⟩;rw[Array.setIfInBounds_comm _ _ hji];exact h3.2.2
theorem wpAnyL_free {i:Nat}{oi:Oper}{v:Value}{fuel:Nat}{listed:Array Bool}{a:Act}{w:World}(hi:ops[i]?=some oi)
 (hs:Region.noSelect ops=true) (hf:Region.free md ops listed i=true) (hr:(Region.ready md ops listed).contains i=true) (hn:fins.contains i=false) (he:ended fins listed=true)
 (hQ:∀ c a w,Q (.panic c) (a.put oi.dst v) w→Q (.panic c) a w) (hy:YieldsIf P ops (fun _=>True) oi v a)
 (h:wpAnyL P md ops Q fins S fuel (listed.setIfInBounds i true) (a.put oi.dst v) w):wpAnyL P md ops Q fins S (fuel+1) listed a w :=
 wpAnyL_pure hi (Region.noSelect_spec hs) hQ (by simpa using hn) fuel listed a w (Region.free_spec hi hf) (by simpa using hr) hy (fun h=>by rw[he] at h;cases h) h
theorem wpAnyL_freeS {i:Nat}{oi:Oper}{v:Value}{fuel:Nat}{listed:Array Bool}{a:Act}{w:World}(hi:ops[i]?=some oi)
 (hs:Region.noSelect ops=true) (hf:Region.free md ops listed i=true) (hr:(Region.ready md ops listed).contains i=true) (hn:fins.contains i=false)
 (hQ:∀ c a w,Q (.panic c) (a.put oi.dst v) w→Q (.panic c) a w) (hy:YieldsIf P ops (fun _=>True) oi v a) (hS:S w)
 (h:wpAnyL P md ops Q fins S fuel (listed.setIfInBounds i true) (a.put oi.dst v) w):wpAnyL P md ops Q fins S (fuel+1) listed a w :=
 wpAnyL_pure hi (Region.noSelect_spec hs) hQ (by simpa using hn) fuel listed a w (Region.free_spec hi hf) (by simpa using hr) hy (fun _=>hS) h
theorem wpAnyL_done {listed:Array Bool}{a:Act}{w:World}(hr:Region.ready md ops listed=[])(h:Q .normal a w) :
 ∀ fuel,wpAnyL P md ops Q fins S fuel listed a w
 | 0=>⟨hr,h⟩
 | _+1=>⟨fun _=>h,by rw[hr];simp⟩
def AllReadyL (P:Program)(md:Region.Mode)(ops:Array Oper)(Q:Exit→Act→World→Prop)(fins:List Nat)(S:World→Prop)(fuel:Nat)(listed:Array Bool)(a:Act)(w:World)(rs:List Nat):Prop :=
 ∀ i∈rs,wpOp P ops Q i (fun a' w'=>Till fins S (listed.setIfInBounds i true) w'∧wpAnyL P md ops Q fins S fuel (listed.setIfInBounds i true) a' w') a w
theorem AllReadyL.nil {fuel:Nat}{listed:Array Bool}{a:Act}{w:World}:AllReadyL P md ops Q fins S fuel listed a w []:=fun _ h=>by cases h
theorem AllReadyL.cons {fuel:Nat}{listed:Array Bool}{a:Act}{w:World}{i:Nat}{o:Oper}{rs:List Nat}(ho:ops[i]?=some o)
 (h:∀ K':Act→World→Prop,Shut (∀ a w,S w→(S w→wpAnyL P md ops Q fins S fuel (listed.setIfInBounds i true) a w)→K' a w)→if Region.wanted o (yielded ops a.tmps)=true then Oper.wp P o a w K' Q else K' (a.put o.dst undef) w)
 (hs:AllReadyL P md ops Q fins S fuel listed a w rs):AllReadyL P md ops Q fins S fuel listed a w (i::rs):=fun j hj=>by
 rcases List.mem_cons.1 hj with rfl | hj
 · exact wpOp_step ho (fun K' hK=>h K' (fun a w hS hW=>hK a w ⟨fun _=>hS,hW hS⟩))
 · exact hs j hj
theorem AllReadyL.last {fuel:Nat}{listed:Array Bool}{a:Act}{w:World}{i:Nat}{o:Oper}{rs:List Nat}(ho:ops[i]?=some o)(he:ended fins (listed.setIfInBounds i true)=true)
 (h:∀ K':Act→World→Prop,Shut (∀ a w,wpAnyL P md ops Q fins S fuel (listed.setIfInBounds i true) a w→K' a w)→if Region.wanted o (yielded ops a.tmps)=true then Oper.wp P o a w K' Q else K' (a.put o.dst undef) w)
 (hs:AllReadyL P md ops Q fins S fuel listed a w rs):AllReadyL P md ops Q fins S fuel listed a w (i::rs):=fun j hj=>by
 rcases List.mem_cons.1 hj with rfl | hj
 · exact wpOp_step ho (fun K' hK=>h K' (fun a w hW=>hK a w ⟨fun h'=>by(rw[he] at h';cases h'),hW⟩))
 · exact hs j hj
theorem wpAnyL_ready {rs:List Nat}{fuel:Nat}{listed:Array Bool}{a:Act}{w:World}(hr:Region.ready md ops listed=rs)(hne:rs≠[])
 (h:AllReadyL P md ops Q fins S fuel listed a w rs):wpAnyL P md ops Q fins S (fuel+1) listed a w :=
 ⟨fun h0=>absurd (hr ▸ h0) hne,hr ▸ h⟩
theorem wp_region_till {id:Nat}{a:Act}{w:World}(fins:List Nat)(S:World→Prop)(hm:P.follows .mixedOrders=true)(hS:S w.drew)
 (h:S w.drew→wpAnyL P .any ops Q fins S ops.size (Array.replicate ops.size false) a w.drew):(Code.region id ops true).wp P Q a w :=
 wp_region_any hm (wpAny_of_till _ _ _ _ (h hS))
/- the same laws with their conditions shown by the way: a walk names the number alone -/
theorem tk (n i:Nat){oi:Oper}{v:Value}{fuel:Nat}{listed:Array Bool}{a a':Act}{w:World}
 (h:wpAnyL P md ops Q fins S fuel (listed.setIfInBounds i true) a' w)
 (hi:ops[i]?=some oi:=by simp only[List.getElem?_toArray,List.getElem?_cons_succ,List.getElem?_cons_zero];exact rfl)
 (hs:Region.noSelect ops=true:=by kernel_rfl) (hf:Region.free md ops listed i=true:=by kernel_rfl) (hr:(Region.ready md ops listed).contains i=true:=by kernel_rfl) (hw:waitB md ops fins n i=true:=by kernel_rfl) (he:ended fins listed=false:=by kernel_rfl) (hc:closedB md ops listed=true:=by kernel_rfl)
 (hS:S w:=by assumption) (hy:YieldsIf P ops S oi v a:=by refine Or.inl ⟨rfl,?_⟩;intro w hSw;(try dsimp only at hSw);go_simp;(try with_reducible rfl))
 (hQ:∀ c a w,Q (.panic c) (a.put oi.dst v) w→Q (.panic c) a w:=by exact fun _ _ _ h=>h)
 (ha:a.put oi.dst v=a':=by(try simp only[Act.put,List.setIfInBounds_toArray,List.set_cons_zero,List.set_cons_succ]);(try rfl)):wpAnyL P md ops Q fins S (fuel+1) listed a w :=
 wpAnyL_take hi hs hf hr hw he hc hQ hy hS (ha ▸ h)
theorem tkx (n i:Nat){oi:Oper}{fuel:Nat}{listed:Array Bool}{a a':Act}{w:World}
 (h:wpAnyL P md ops Q fins S fuel (listed.setIfInBounds i true) a' w)
 (hi:ops[i]?=some oi:=by simp only[List.getElem?_toArray,List.getElem?_cons_succ,List.getElem?_cons_zero];exact rfl)
 (hs:Region.noSelect ops=true:=by kernel_rfl) (hf:Region.free md ops listed i=true:=by kernel_rfl) (hr:(Region.ready md ops listed).contains i=true:=by kernel_rfl) (hw:waitB md ops fins n i=true:=by kernel_rfl) (he:ended fins listed=false:=by kernel_rfl) (hc:closedB md ops listed=true:=by kernel_rfl)
 (hS:S w:=by assumption) (hy:YieldsIf P ops S oi undef a:=by refine Or.inr ⟨?_,rfl⟩;(first | rfl | kernel_rfl | (go_simp;done)))
 (hQ:∀ c a w,Q (.panic c) (a.put oi.dst undef) w→Q (.panic c) a w:=by exact fun _ _ _ h=>h)
 (ha:a.put oi.dst undef=a':=by(try simp only[Act.put,List.setIfInBounds_toArray,List.set_cons_zero,List.set_cons_succ]);(try rfl)):wpAnyL P md ops Q fins S (fuel+1) listed a w :=
 wpAnyL_take hi hs hf hr hw he hc hQ hy hS (ha ▸ h)
theorem tp (i:Nat){oi:Oper}{v:Value}{fuel:Nat}{listed:Array Bool}{a a':Act}{w:World}
 (h:wpAnyL P md ops Q fins S fuel (listed.setIfInBounds i true) a' w)
 (hi:ops[i]?=some oi:=by simp only[List.getElem?_toArray,List.getElem?_cons_succ,List.getElem?_cons_zero];exact rfl)
 (hs:Region.noSelect ops=true:=by kernel_rfl) (hf:Region.free md ops listed i=true:=by kernel_rfl) (hr:(Region.ready md ops listed).contains i=true:=by kernel_rfl) (hn:fins.contains i=false:=by kernel_rfl)
 (hS:S w:=by assumption) (hy:YieldsIf P ops (fun _=>True) oi v a:=by refine Or.inl ⟨rfl,?_⟩;intro w hSw;(try dsimp only at hSw);go_simp;(try with_reducible rfl))
 (hQ:∀ c a w,Q (.panic c) (a.put oi.dst v) w→Q (.panic c) a w:=by exact fun _ _ _ h=>h)
 (ha:a.put oi.dst v=a':=by(try simp only[Act.put,List.setIfInBounds_toArray,List.set_cons_zero,List.set_cons_succ]);(try rfl)):wpAnyL P md ops Q fins S (fuel+1) listed a w :=
 wpAnyL_freeS hi hs hf hr hn hQ hy hS (ha ▸ h)
theorem te (i:Nat){oi:Oper}{v:Value}{fuel:Nat}{listed:Array Bool}{a a':Act}{w:World}
 (h:wpAnyL P md ops Q fins S fuel (listed.setIfInBounds i true) a' w)
 (hi:ops[i]?=some oi:=by simp only[List.getElem?_toArray,List.getElem?_cons_succ,List.getElem?_cons_zero];exact rfl)
 (hs:Region.noSelect ops=true:=by kernel_rfl) (hf:Region.free md ops listed i=true:=by kernel_rfl) (hr:(Region.ready md ops listed).contains i=true:=by kernel_rfl) (hn:fins.contains i=false:=by kernel_rfl) (he:ended fins listed=true:=by kernel_rfl)
 (hy:YieldsIf P ops (fun _=>True) oi v a:=by refine Or.inl ⟨rfl,?_⟩;intro w hSw;(try dsimp only at hSw);go_simp;(try with_reducible rfl))
 (hQ:∀ c a w,Q (.panic c) (a.put oi.dst v) w→Q (.panic c) a w:=by exact fun _ _ _ h=>h)
 (ha:a.put oi.dst v=a':=by(try simp only[Act.put,List.setIfInBounds_toArray,List.set_cons_zero,List.set_cons_succ]);(try rfl)):wpAnyL P md ops Q fins S (fuel+1) listed a w :=
 wpAnyL_free hi hs hf hr hn he hQ hy (ha ▸ h)
theorem ac {fuel:Nat}{listed:Array Bool}{a:Act}{w:World}{i:Nat}{o:Oper}{rs:List Nat}
 (h:∀ K':Act→World→Prop,Shut (∀ a w,S w→(S w→wpAnyL P md ops Q fins S fuel (listed.setIfInBounds i true) a w)→K' a w)→if Region.wanted o (yielded ops a.tmps)=true then Oper.wp P o a w K' Q else K' (a.put o.dst undef) w)
 (hs:AllReadyL P md ops Q fins S fuel listed a w rs)
 (ho:ops[i]?=some o:=by simp only[List.getElem?_toArray,List.getElem?_cons_succ,List.getElem?_cons_zero];exact rfl):AllReadyL P md ops Q fins S fuel listed a w (i::rs):=.cons ho h hs
theorem al {fuel:Nat}{listed:Array Bool}{a:Act}{w:World}{i:Nat}{o:Oper}{rs:List Nat}
 (h:∀ K':Act→World→Prop,Shut (∀ a w,wpAnyL P md ops Q fins S fuel (listed.setIfInBounds i true) a w→K' a w)→if Region.wanted o (yielded ops a.tmps)=true then Oper.wp P o a w K' Q else K' (a.put o.dst undef) w)
 (hs:AllReadyL P md ops Q fins S fuel listed a w rs)
 (ho:ops[i]?=some o:=by simp only[List.getElem?_toArray,List.getElem?_cons_succ,List.getElem?_cons_zero];exact rfl) (he:ended fins (listed.setIfInBounds i true)=true:=by kernel_rfl):AllReadyL P md ops Q fins S fuel listed a w (i::rs):=.last ho he h hs
theorem an {fuel:Nat}{listed:Array Bool}{a:Act}{w:World}:AllReadyL P md ops Q fins S fuel listed a w []:=.nil
theorem ar (rs:List Nat){fuel:Nat}{listed:Array Bool}{a:Act}{w:World}
 (h:AllReadyL P md ops Q fins S fuel listed a w rs) (hr:Region.ready md ops listed=rs:=by kernel_rfl) (hne:rs≠[]:=by simp):wpAnyL P md ops Q fins S (fuel+1) listed a w:=wpAnyL_ready hr hne h
theorem td {listed:Array Bool}{a:Act}{w:World}{fuel:Nat}
 (h:Q .normal a w) (hr:Region.ready md ops listed=[]:=by kernel_rfl):wpAnyL P md ops Q fins S fuel listed a w:=wpAnyL_done hr h fuel
theorem pt {fuel:Nat}{listed:Array Bool}{a a':Act}{w:World}
 (h:wpAnyL P md ops Q fins S fuel listed a' w) (ha:a=a':=by(try simp only[Act.put,List.setIfInBounds_toArray,List.set_cons_zero,List.set_cons_succ]);(try rfl)):wpAnyL P md ops Q fins S fuel listed a w:=ha ▸ h
end
end Go.Proofs.YtkhcliibilkefaaGreatDoor
