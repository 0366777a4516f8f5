/- AN APPEND of a slice that reads as a list, nil or not, onto a row of the call's own. -/
import Derived.Test.YtkhcliibilkefaaGreatDoorZLeaf
import Derived.Maps.AppendAt
import Derived.Laws.AppendOwnNone
import Derived.RangeFuncNested
import Derived.RangeFuncBound
import Derived.RangeFuncCalls
import Derived.RangeFuncLeaves
import Derived.RangeFuncBox
import Derived.Shelf.Abstract
import Derived.Shelf.RegionOpen
import Derived.OwnWalkIn
import Derived.TacticsInMore
import Derived.LoopNIn
import Derived.LoopIn
import Derived.Sort.QuietThIn
import Derived.Sort.BigQuietIn
import Derived.WalkKit
set_option linter.unusedVariables false
set_option linter.unusedSimpArgs false
set_option maxRecDepth 100000
set_option maxHeartbeats 8000000
namespace Go.Proofs.YtkhcliibilkefaaGreatDoor
open Lib (hid)
open Go.RowKit Go.Proofs
theorem flat_get {α:Type}{enc:α→List Value}{k:Nat}(hk:∀ x,(enc x).length=k):∀ {l:List α} {j:Nat} {u:Value},(l.flatMap enc)[j]?=some u→∃(i:Nat) (x:α) (r:Nat),l[i]?=some x∧(enc x)[r]?=some u∧j=i * k+r
 | [],j,u,h=>by simp at h
 | x::l,j,u,h=>by
  rw[List.flatMap_cons] at h
  rcases Nat.lt_or_ge j k with hj | hj
  · rw[List.getElem?_append_left (by rw[hk];exact hj)] at h
    exact⟨0,x,j,rfl,h,by omega⟩
  · rw[List.getElem?_append_right (by rw[hk];exact hj),hk] at h
    obtain⟨i,y,r,h1,h2,h3⟩:=flat_get hk h;exact⟨i+1,y,r,by simpa using h1,h2,by rw[Nat.add_mul,Nat.one_mul];omega⟩
theorem Rd.news {α:Type}{enc:α→List Value}{k:Nat}(hk:∀ x,(enc x).length=k){w:World}{ad:Addr}{n:Nat}{l:List α}(h:Rd enc k w (some ad) n l):∀ j u,(l.flatMap enc)[j]?=some u→w.cell? (ad.add j)=some u:=by
 intro j u hu;obtain⟨i,x,r,h1,h2,rfl⟩:=flat_get hk hu;have hi:=(List.getElem?_eq_some_iff.1 h1).1;obtain⟨b,o,e,_,hc⟩:=h.2 (by have:=h.1;omega);cases e;have:=hc i x h1 r u h2
 by_cases h0:i * k+r=0
 · rw[h0];rw[Nat.add_assoc,h0] at this;exact this
 · simp only[Addr.add,h0,if_false]
   rwa [← Nat.add_assoc]
theorem Rd.none_zero {α:Type}{enc:α→List Value}{k:Nat}{w:World}{n:Nat}{l:List α}(h:Rd enc k w none n l):n=0∧l=[]:=by
 have hn:n=0:=by
  rcases Nat.eq_zero_or_pos n with h0 | h0
  · exact h0
  · obtain⟨b,o,e,_⟩:=h.2 h0;cases e
 exact⟨hn,List.eq_nil_of_length_eq_zero (by rw[h.1,hn])⟩
theorem run_append_nilc {P:Program}{w:World}{base:Nat}{t ty e:TypeId}{i:TypeInfo}{size:Nat}(ht:P.underlying t=some (.slice e))(hi:P.info? e=some i)
 {v:Value} {n:Nat} {xs:List Value} (hown:w.ownsRow base e size v n xs) (c:Nat):(Builtin.append_ #[t,t] ty #[v,.slice none 0 c]).run P w=.ok v w:=by
 rcases hown.2 with ⟨rfl,rfl⟩ | ⟨g,cap,cur,rfl,_,_,hnc,_⟩
 · simp[Builtin.append_,run_underlying ht,sizeOf,typeInfo,hi,Builtin.lenOf,Builtin.firstCells]
 · simp[Builtin.append_,run_underlying ht,sizeOf,typeInfo,hi,Builtin.lenOf,Builtin.firstCells,hnc,storeCells]
theorem wpList_append_rd {P:Program}{w:World}{ops:Array Oper}{rest:List Oper}{o:Oper}{a:Act}{Q:Exit→Act→World→Prop}(hgd:o.guard=none)(s x:Operand)(t:TypeId)
 (ho:o.op=.call { callee:=.builtin .append,args:=#[s,x],argTypes:=#[t,t] })
 (base:Nat) (e:TypeId) (i:TypeInfo) (z:Value) (size bytes:Nat) (ht:P.underlying t=some (.slice e)) (hi:P.info? e=some i) (hz:i.zero=some z)
 (hsize:i.size=size) (hby:i.bytes=bytes) (hzs:z.cells.size=size) (hsz:0<size)
 (v:Value) (n:Nat) (xs:List Value) (hs:a.eval s=v) (hown:w.ownsRow base e size v n xs)
 {α:Type} {enc:α→List Value} (hk:∀ x,(enc x).length=size) (h1:∀ x,∀ u∈enc x,u.oneCell'=true)
 (A:Option Addr) (m c:Nat) (l:List α) (hx:a.eval x=.slice A m c) (hr:Rd enc size w A m l)
 (h63:n+m≤maxLen) (hbytes:(n+m) * bytes≤140737488355328) (hbase:base≤w.heap.size)
 (h:∀ v' w',w'.ownsRow base e size v' (n+m) (xs++l.flatMap enc)→w.grownBy w' v.ownBlock→wpList P ops Q rest (a.put o.dst v') w') :
 wpList P ops Q (o::rest) a w:=by
 rcases A with _ | ad
 · obtain⟨rfl,rfl⟩:=hr.none_zero
   have hrun:=run_append_nilc (P:=P) (w:=w) (ty:=o.type) ht hi hown c;refine wpList_plain hgd fun K hK=>?_;unfold Oper.wp;simp[execOp,ho,resolve,invoke,builtin,hs,hx,hrun,Result.andThen];exact hK _ _ (h v w (by simpa using hown) (World.grownBy.refl w _))
 · have hl:(l.flatMap enc).length=m * size:=by
    have:∀ l:List α,(l.flatMap enc).length=l.length * size:=fun l=>by
     induction l with
     | nil=>simp
     | cons x l ih=>rw[List.flatMap_cons,List.length_append,ih,hk,List.length_cons,Nat.add_mul,Nat.one_mul,Nat.add_comm]
    rw[this,hr.1]
   exact wpList_append_own_at w hgd s x t ho base e i z size bytes ht hi hz hsize hby hzs hsz v n xs hs hown ad m c (l.flatMap enc) hx hl (hr.news hk) (fun u hu=>by
    obtain⟨x,_,hx⟩:=List.mem_flatMap.1 hu
    exact h1 x u hx) h63 hbytes hbase (fun v' w' h2 h3 _ _=>h v' w' h2 h3)
theorem own_empty (w:World)(e:TypeId)(size:Nat):(w.alloc (.cells #[] e)).ownsRow w.heap.size e size (.slice (some ⟨w.heap.size,0,none⟩) 0 0) 0 [] :=
 ⟨by simp,.inr ⟨w.heap.size,0,#[],rfl,Nat.le_refl _,heap_alloc_new w _,Nat.le_refl _,by unfold maxLen;omega,by simp,by simp⟩⟩
end Go.Proofs.YtkhcliibilkefaaGreatDoor
namespace Go.Proofs.YtkhcliibilkefaaGreatDoor
open Lib (hid)
theorem nodup_len:∀(n:Nat) (l:List Int),(∀ p∈l,0≤p∧p<(n:Int))→l.Nodup→l.length≤n
 | 0,l,h,_=>by
  cases l with
  | nil=>simp
  | cons a l=>have:=h a (by simp);omega
 | n+1,l,h,hd=>by
  have ih:=nodup_len n (l.erase (n:Int)) (fun p hp=>by
   have h1:=(hd.mem_erase_iff).1 hp;have h2:=h p h1.2;have h3:=h1.1
   omega) (hd.erase _)
  have:=List.length_erase (a:=(n:Int)) (l:=l)
  split at this<;>omega
theorem wayTo_len {np:Nat}{way:List Int}(h:wayTo np way way.length):way.length≤np:=by
 obtain⟨h1,h2⟩:=h;rw[List.take_of_length_le (Nat.le_refl _)] at h1 h2;exact nodup_len np way h1 h2
def hitsAt (sls:List Sli)(tr:List Int)(k:Nat):List (Nat×Int):=match sls[k]?,tr[k]? with
 | some s,some m=>(s.way.take m.toNat).map fun p=>(k,p)
 | _,_=>[]
theorem hitsAt_of {sls:List Sli}{tr:List Int}{k:Nat}{s:Sli}{m:Int}(hs:sls[k]?=some s)(hm:tr[k]?=some m):hitsAt sls tr k=(s.way.take m.toNat).map fun p=>(k,p):=by simp[hitsAt,hs,hm]
def hitsTo (sls:List Sli)(tr:List Int):Nat→List (Nat×Int)
 | 0=>[]
 | k+1=>hitsTo sls tr k++hitsAt sls tr k
theorem hitsTo_len {v:Vly}(h:VOk v)(tr:List Int):∀ k,(hitsTo v.sls tr k).length≤12 * k
 | 0=>by simp[hitsTo]
 | k+1=>by
  have ih:=hitsTo_len h tr k
  have:(hitsAt v.sls tr k).length≤12:=by
   unfold hitsAt
   split
   · rename_i s m hs hm
     have h1:=wayTo_len (h.slide hs).1;have h2:=h.pn;rw[List.length_map,List.length_take];omega
   · simp
  rw[hitsTo,List.length_append];omega
theorem hitsTo_step {v:Vly}{tr:List Int}{k i:Nat}{s:Sli}{p:Int}(hp:s.way[i]?=some p) :
 hitsTo v.sls tr k++(s.way.take (i+1)).map (fun p=>(k,p))=(hitsTo v.sls tr k++(s.way.take i).map (fun p=>(k,p)))++[(k,p)]:=by
 rw[List.take_add_one,hp,List.map_append,List.append_assoc];rfl
def rateOf (sls:List Sli)(k:Nat):Int:=match sls[k]? with
 | some s=>s.rate
 | none=>0
theorem rateOf_of {sls:List Sli}{k:Nat}{s:Sli}(hs:sls[k]?=some s):rateOf sls k=s.rate:=by simp[rateOf,hs]
def dSum (sls:List Sli)(p:Int):List (Nat×Int)→Int
 | []=>0
 | x::l=>(if x.2=p then rateOf sls x.1 else 0)+dSum sls p l
theorem dSum_append (sls:List Sli)(p:Int):∀ a b:List (Nat×Int),dSum sls p (a++b)=dSum sls p a+dSum sls p b
 | [],b=>by simp[dSum]
 | x::a,b=>by simp only[List.cons_append,dSum,dSum_append sls p a b];omega
theorem dSum_snoc (sls:List Sli)(p:Int)(a:List (Nat×Int))(x:Nat×Int):dSum sls p (a++[x])=dSum sls p a+(if x.2=p then rateOf sls x.1 else 0):=by
 rw[dSum_append];simp[dSum]
theorem dSum_bd {sls:List Sli}(h:∀(k:Nat) (s:Sli),sls[k]?=some s→0≤s.rate∧s.rate≤1000)(p:Int):∀ l:List (Nat×Int),0≤dSum sls p l∧dSum sls p l≤1000 * l.length
 | []=>by simp[dSum]
 | x::l=>by
  have ih:=dSum_bd h p l
  have:0≤rateOf sls x.1∧rateOf sls x.1≤1000:=by
   unfold rateOf
   split
   · rename_i s hs;exact h _ s hs
   · omega
  simp only[dSum,List.length_cons]
  split<;>omega
theorem dSum_way (sls:List Sli)(k:Nat)(p:Int):∀ l:List Int,l.Nodup→dSum sls p (l.map fun q=>(k,q))=if p∈l then rateOf sls k else 0
 | [],_=>by simp[dSum]
 | q::l,h=>by
  have ih:=dSum_way sls k p l (List.nodup_cons.1 h).2;have hn:=(List.nodup_cons.1 h).1;simp only[List.map_cons,dSum,ih,List.mem_cons]
  by_cases hq:q=p
  · subst hq;simp[hn]
  · have:¬ p=q:=fun e=>hq e.symm
    simp[hq,this]
theorem dSum_hits {v:Vly}(h:VOk v)(tr:List Int)(p:Int):∀ k,dSum v.sls p (hitsTo v.sls tr k)=dTo v.sls tr p k
 | 0=>rfl
 | k+1=>by
  rw[hitsTo,dSum_append,dSum_hits h tr p k,dTo]
  congr 1
  unfold hitsAt dAt
  split
  · rename_i s m hs hm
    have hw:=(h.slide hs).1
    have hn:(s.way.take m.toNat).Nodup:=by
     have h2:=hw.2;rw[List.take_of_length_le (Nat.le_refl _)] at h2;exact h2.sublist (List.take_sublist _ _)
    rw[dSum_way _ _ _ _ hn];simp[hs,hm,hitBy,rateOf_of hs]
  · rename_i h1
    split
    · rename_i s m hs hm;exact absurd hm (h1 s m hs)
    · rfl
theorem dSum_all {v:Vly}(h:VOk v){tr:List Int}(hl:tr.length=v.sls.length):(List.range v.pars.length).map (fun p:Nat=>dSum v.sls (p:Int) (hitsTo v.sls tr tr.length))=dangs v tr:=by
 unfold dangs;refine List.map_congr_left fun p _=>?_;rw[dSum_hits h,hl]
open Go.RowKit Go.Proofs Go.Shelf
attribute [local go_sem] Oper.semAt_some
abbrev Hit (K P:Nat):={ x:Nat×Nat // x.1<K∧x.2<P }
abbrev encH {K P:Nat} (x:Hit K P):Array Value:=#[.int .i64 (x.1.1:Int),.int .i64 (x.1.2:Int)]
def hitOf {K P:Nat}(x:Hit K P):Nat×Int:=(x.1.1,(x.1.2:Int))
theorem run_sliceBounds_to {P:Program}{len cap hi:Nat}(W:World)(h:hi≤cap) :
 (Instr.sliceBounds true len cap none (some (.int .i64 (hi:Int))) none).run P W=.ok (0,hi,cap) W:=by
 simp[Instr.sliceBounds,Instr.sliceBound,asIntOf,h]
theorem rd_take {α:Type}{enc:α→List Value}{k:Nat}{w:World}{A:Option Addr}{n b:Nat}{l:List α}(h:Rd enc k w A n l)(hb:b≤n):Rd enc k w A b (l.take b):=by
 refine⟨by rw[List.length_take,h.1];omega,fun h0=>?_⟩;obtain⟨bl,o,e,hlt,hc⟩:=h.2 (by omega);refine⟨bl,o,e,hlt,fun i x hx=>hc i x ?_⟩;rw[List.getElem?_take] at hx
 split at hx
 · exact hx
 · cases hx
theorem cut_to_gen {t e:TypeId}{size:Nat}(ht:Tryz.prog.underlying t=some (.slice e))(hs:∀ W,(sizeOf e).run Tryz.prog W=.ok size W)(A:Option Addr){n c k:Nat}(hk:k≤c)(W:World) :
 (Instr.slice t (.slice A n c) none (some (.int .i64 (k:Int))) none).run Tryz.prog W=.ok (.slice A k c) W:=by
 have hm:A.map (fun a=>a.add 0)=A:=by cases A<;>simp[Addr.add]
 by_cases h0:c=0
 · subst h0
   obtain rfl:k=0:=by omega
   simp[Instr.slice,run_underlying ht,hs,Instr.sliceBounds,Instr.sliceBound,asIntOf]
 · simp[Instr.slice,run_underlying ht,run_sliceBounds_to W hk,hs,h0,hm]
def KpL (n₀ Bs:Nat)(W W':World):Prop:=Below n₀ W W'∧∀ cs,Blk W Bs 264 cs→Blk W' Bs 264 cs
theorem kpL_t {n₀ Bs:Nat}{A B C:World}(h:KpL n₀ Bs A B)(k:KpL n₀ Bs B C):KpL n₀ Bs A C:=⟨h.1.trans k.1,fun v hv=>k.2 v (h.2 v hv)⟩
theorem kpL_b {n₀ Bs:Nat}{w:World}(hn:n₀≤w.heap.size)(W:World)(l:Nat)(o o':Obj)(hl:w.heap.size≤l)(h:W.heap[l]?=some o)(hc:o.isCells=false)(hw:o.isWalk=false):KpL n₀ Bs W (W.putObj l o') :=
 ⟨belowK_b hn W l o o' hl h hc hw,fun v hv=>Blk.grown hv (grownBy_putObj' W l o') (fun e=>by cases e;rw[show W.heap[Bs]?=_ from hv] at h;cases h;cases hc)⟩
abbrev lookA (PA:Option Addr) (pn pc:Nat) (SA:Option Addr) (sn sc:Nat) (v:Vly) (TA:Option Addr) (tn tc:Nat):Array Value:=#[.slice PA pn pc,.slice SA sn sc,.int .i64 v.s0,.int .i64 v.s1,.int .i64 v.s2,.slice TA tn tc]
theorem hits1_in (n:Nat)(hn:2≤n)(l Bs:Nat){v:Vly}{tr:List Int}{PA SA TA:Option Addr}{pn pc sn sc tn tc:Nat}{w0:World}(hok:VOk v)(hfit:Fits v tr)(hV:RdV w0 PA pn SA sn v)(hT:Rd enc1 1 w0 TA tn tr)(J Jx:List (Hit v.sls.length v.pars.length)→World→Prop)(B:Nat)(hJ:AbidesFrom B J)
 (hY:∀ pre x W,J pre W→pre.length<120→YieldAt Fence.wide (n - 1) Tryz.prog l (encH x) W fun e W' =>
  (e=.returned (.bool true)∧J (pre++[x]) W'∧KpL w0.heap.size Bs W W')∨(e=.returned (.bool false)∧Jx (pre++[x]) W'))
 (W:World) (hW:Below w0.heap.size w0 W) (hBs:Blk W Bs 264 (lookA PA pn pc SA sn sc v TA tn tc)) (h0:J [] W) :
 CallsIn Fence.wide n Tryz.prog 242 #[.func (.yield l) #[] #[],.pointer (some ⟨Bs,0,none⟩)] W fun e W'=>(∃ v,e=.returned v) ∧
  ((∃ ys,ys.map hitOf=hitsTo v.sls tr tr.length∧J ys W')∨(∃ pre,Jx pre W')):=by
 have h1:1≤n:=by omega
 refine callsIn_of_wp Tryz.func242 rfl trivial ?_ rfl;simp only[Tryz.ntmps242,List.size_toArray,List.length_cons,List.length_nil,Nat.reduceAdd,Nat.reduceSub,Array.replicate_succ,Array.replicate_zero,List.push_toArray,List.append_toArray,List.nil_append,List.cons_append];have HOK:=hid hok;have HF:=hid hfit;have HV:=hid hV;have HT:=hid hT;have HY:=hid hY;have HBS:=hid hBs;have HW:=hid hW;clear hok hfit hV hT hY;have c5:=hBs.cell 5;simp at c5;clear hBs hW
 gi_wp2
 gi_loopw [10] (fun i wr=>∃(k:Nat) (pre:List (Hit v.sls.length v.pars.length)),i=.int .i64 k∧k≤tn∧pre.map hitOf=hitsTo v.sls tr k∧J pre wr∧Below w0.heap.size w0 wr∧Blk wr Bs 264 (lookA PA pn pc SA sn sc v TA tn tc)) (fun i _=>tn - (intOf i).toNat)
 case atStart=>exact⟨0,[],rfl,Nat.zero_le _,rfl,h0,HW.out,HBS.out⟩
 case round =>
  obtain⟨k,pre,rfl,hk,hpre,hJs,hnx,hbx⟩:=hrel;have HP:=hid hpre;have HBX:=hid hbx;have HNX:=hid hnx;clear hpre hnx;have htl:=HT.out.len;have hsl:=HF.out.1
  by_cases hlt:k<tn
  · have hkl:k<v.sls.length:=by omega
    obtain⟨b,o,x,hA,hb,hx,e0,e1,e2,e3⟩:=((HV.out.below HNX.out).sls).atS (i:=k) (by rw[←(HV.out.below HNX.out).sls.len];exact hkl);obtain⟨b',o',m,hA',hb',hm,e0'⟩:=(HT.out.below HNX.out).at1 hlt;subst hA hA';have hway:=(HV.out.below HNX.out).way k x hx;have hsl:=HOK.out.slide hx;have hfm:=HF.out.2 k x m hx hm;obtain⟨M,rfl⟩:∃ M:Nat,m=(M:Int):=⟨m.toNat,by omega⟩
    have hMn:M≤x.n:=by have:=hway.1.len;omega
    have hM12:M≤12:=by have:=wayTo_len hsl.1;have:=HOK.out.pn;omega
    have htn10:tn≤10:=by have:=HOK.out.sn;omega
    have hcut:=cut_to_gen (t:=28) (e:=3) (size:=1) Tryz.underlying28 Tryz.sizeOf3 x.A (n:=x.n) (c:=x.c) (k:=M) (by omega);have HX:=hid hx;have HM:=hid hm;have HWY:=hid (rd_take hway.1 hMn);have HSL:=hid hsl;have HFM:=hid hfm;have b1:=hbx.cell 1;simp at b1
    have hkt:(k:Int)<(tn:Int):=by omega
    have hk0:(0:Int)≤(k:Int):=by omega
    have hks:(k:Int)<(sn:Int):=by have:=HV.out.sls.len;omega
    clear hbx hx hm hway hsl hfm
    gi_wp2
    obtain⟨w1,hw1⟩:∃ w1:World,w1=wr:=⟨_,rfl⟩
    gi_loopw [25] (fun i w2=>∃(j:Nat) (pre2:List (Hit v.sls.length v.pars.length)),i=.int .i64 j∧j≤M∧pre2.map hitOf=hitsTo v.sls tr k++(x.way.take j).map (fun p=>(k,p))∧J pre2 w2∧Below w0.heap.size w0 w2∧Blk w2 Bs 264 (lookA PA pn pc (some ⟨b,o,none⟩) sn sc v (some ⟨b',o',none⟩) tn tc)) (fun i _=>M - (intOf i).toNat)
    case atStart=>exact⟨0,pre,rfl,Nat.zero_le _,by rw[HP.out];simp,hJs,HNX.out,HBX.out⟩
    case round =>
     obtain⟨j,pre2,rfl,hj,hpre2,hJ2,hn2,hbx2⟩:=hrel;have HP2:=hid hpre2;have HBX2:=hid hbx2;have HN2:=hid hn2;clear hpre2 hbx2 e0 e1 e2 e3 e0' b1
     by_cases hjm:j<M
     · obtain⟨b3,o3,p,hA3,hb3,hp,e3⟩:=(rd_take ((HV.out.below hn2).way k x HX.out).1 hMn).at1 hjm
       clear hn2
       have hpw:x.way[j]?=some p:=by
        rwa [List.getElem?_take,if_pos hjm] at hp
       have hp0:0≤p∧p<v.pars.length:=by
        have:=HSL.out.1.1;rw[List.take_of_length_le (Nat.le_refl _)] at this;exact this p (List.mem_of_getElem? hpw)
       obtain⟨q,rfl⟩:∃ q:Nat,p=(q:Int):=⟨p.toNat,by omega⟩
       have hlen2:pre2.length<120:=by
        have h2:=congrArg List.length HP2.out;rw[List.length_map,List.length_append,List.length_map,List.length_take] at h2;have h3:=hitsTo_len HOK.out tr k;have h4:=wayTo_len HSL.out.1;have h5:=HOK.out.pn;have h6:=HOK.out.sn;have h7:=lt_of_get hpw;omega
       have hnew:(pre2++[(⟨(k,q),hkl,by omega⟩:Hit v.sls.length v.pars.length)]).map hitOf=hitsTo v.sls tr k++(x.way.take (j+1)).map (fun p=>(k,p)):=by
        rw[hitsTo_step hpw,List.map_append,HP2.out];rfl
       have HNEW:=hid hnew
       have hjm':(j:Int)<(M:Int):=by omega
       have hj0:(0:Int)≤(j:Int):=by omega
       obtain⟨fn,tmps,assign,body,hy,hR⟩:=HY.out pre2 ⟨(k,q),hkl,by omega⟩ _ hJ2 hlen2;dsimp only[encH] at hy;rw[hA3];clear hA3;clear hp hpw hnew
       gi_wp2
       refine hR.mono ?_;rintro e W3 (⟨rfl,hJ3,hk3⟩ | ⟨rfl,hJx3⟩)
       · gi_wp2
         go_roundw
         case rel=>exact⟨j+1,_,by go_num,hjm,HNEW.out,hJ3,HN2.out.trans hk3.1,hk3.2 _ HBX2.out⟩
         case measure=>simp[intOf];omega
       · gi_wp2
         refine bodyPost_ret (results_none rfl _ _ _) rfl ?_;exact⟨⟨_,rfl⟩,.inr ⟨_,hJx3⟩⟩
     · obtain rfl:j=M:=by omega
       have hend:pre2.map hitOf=hitsTo v.sls tr (k+1):=by
        rw[HP2.out,hitsTo,hitsAt_of HX.out HM.out];simp
       have HEND:=hid hend;clear hend hn2
       gi_wp2
       go_roundw
       case rel=>exact⟨k+1,pre2,by go_num,hlt,HEND.out,hJ2,HN2.out,HBX2.out⟩
       case measure=>simp[intOf];omega
  · obtain rfl:k=tn:=by omega
    clear hbx
    gi_wp2
    go_end0
    exact⟨⟨_,rfl⟩,.inl ⟨pre,by rw[htl];exact HP.out,hJs⟩⟩
theorem hits_stops (n:Nat)(hn:2≤n)(Bs:Nat){v:Vly}{tr:List Int}{PA SA TA:Option Addr}{pn pc sn sc tn tc:Nat}{w0 w:World}(hok:VOk v)(hfit:Fits v tr)(hV:RdV w0 PA pn SA sn v)(hT:Rd enc1 1 w0 TA tn tr)(hw:Below w0.heap.size w0 w)
 (hc:Blk w Bs 264 (lookA PA pn pc SA sn sc v TA tn tc)) :
 SeqStopsK Fence.wide n Tryz.prog 242 #[.pointer (some ⟨Bs,0,none⟩)] (encH (K:=v.sls.length) (P:=v.pars.length)) (KpL w0.heap.size Bs) (fun ys=>ys.map hitOf=hitsTo v.sls tr tr.length) (fun _=>True) 120 w:=fun l J Jx W hW hJ _ hY h0 =>
 (hits1_in n hn l Bs hok hfit hV hT J Jx _ hJ hY W (hw.trans (hW.mono hw.size)) (hc.below hW hc.lt) h0).mono fun _ _ ⟨he,h⟩=>⟨he,by
  rcases h with h | ⟨pre,h⟩
  · exact .inl h
  · exact .inr ⟨pre,trivial,h⟩⟩
theorem hits_c (n:Nat)(PA SA TA:Option Addr)(pn pc sn sc tn tc:Nat)(s0 s1 s2:Int)(w:World) :
 CallsIn Fence.wide n Tryz.prog 219 #[.agg #[.slice PA pn pc,.slice SA sn sc,.int .i64 s0,.int .i64 s1,.int .i64 s2,.slice TA tn tc]] w fun e w'=>e=.returned (.func (.func 242) #[] #[.pointer (some ⟨w.heap.size,0,none⟩)]) ∧
  w'=w.alloc (.cells #[.slice PA pn pc,.slice SA sn sc,.int .i64 s0,.int .i64 s1,.int .i64 s2,.slice TA tn tc] 264):=by
 refine callsIn_of_wp Tryz.func219 rfl trivial ?_ rfl;simp only[Tryz.ntmps219,List.size_toArray,List.length_cons,List.length_nil,Nat.reduceAdd,Nat.reduceSub,Array.replicate_succ,Array.replicate_zero,List.push_toArray,List.append_toArray,List.nil_append,List.cons_append]
 gi_wp2
 go_ret
 exact⟨rfl,rfl⟩
open Go
section
variable {F:Fence} {n:Nat} {P:Program}
theorem wpIn_inRound {l:Nat}{o:Oper}{a:Act}{w:World}{K:Act→World→Prop}{Q:Exit→Act→World→Prop}(hro:F.round=none)(hd:∀ c,o.op≠.defer c)
 (h:o.wpIn F n P a w K Q):o.wpIn (F.inRound l) n P a w K Q:=by
 unfold Oper.wpIn at h ⊢;rw[hro,Oper.semAt_none] at h;rw[Oper.semAt_eq _ _ _ hd];refine⟨h.1,?_⟩;have h2:=h.2;generalize (execOp a.eval o).run P w=r at *
 cases r with
 | ok x w'=>cases x<;>exact h2
 | halt x w'=>cases x<;>exact h2
def backB (l:List Oper):Bool:=(List.range l.length).all fun i=>((l[i]?).map fun o=>o.after.all fun e=>decide (e.on<i)).getD true
def tailB (l:List Oper)(st:Oper):Bool:=(List.range l.length).all (fun i=>st.after.any fun e=>Region.binds .any e && e.on == i)
def plainB (l:List Oper):Bool:=l.all fun o=>o.guard.isNone && match o.op with | .defer _=>false | _=>true
theorem plainB_guard {l:List Oper}(h:plainB l=true){i:Nat}{o:Oper}(ho:l[i]?=some o):o.guard=none∧∀ c,o.op≠.defer c:=by
 have:=List.all_eq_true.1 h o (List.mem_of_getElem? ho);simp only[Bool.and_eq_true,Option.isNone_iff_eq_none] at this;refine⟨this.1,fun c hc=>?_⟩;have h2:=this.2;rw[hc] at h2;cases h2
theorem ready_none {l:List Oper}{listed:Array Bool}(hb:backB l=true)(hs:listed.size=l.length)(h:Region.ready .any l.toArray listed=[]):∀ i,i<l.length→listed.getD i false=true:=by
 intro i
 induction i using Nat.strongRecOn with
 | ind i ih =>
  intro hi;refine Classical.byContradiction fun hn=>?_
  have hmem:i∈Region.ready .any l.toArray listed:=by
   unfold Region.ready;rw[List.mem_filter];refine⟨by simpa using hi,?_⟩
   have hil:i<listed.size:=by omega
   have h1:listed.getD i true=false:=by
    have:listed.getD i false=listed.getD i true:=by simp[Array.getD,hil]
    rw[← this];simpa using hn
   have hb1:=List.all_eq_true.1 hb i (by simpa using hi);have hl:l[i]?=some l[i]:=List.getElem?_eq_getElem hi;rw[hl] at hb1;simp only[h1,Bool.not_false,Bool.true_and,List.getElem?_toArray,hl,Option.map_some,Option.getD_some] at hb1 ⊢;rw[Array.all_eq_true_iff_forall_mem] at hb1 ⊢;intro e he;have:=hb1 e he;simp only[decide_eq_true_eq] at this;rw[ih e.on this (by omega)];simp
  rw[h] at hmem;cases hmem
theorem push_getD {A:Array Bool}{j:Nat}:(A.push false).getD j false=A.getD j false:=by
 simp only[Array.getD_eq_getD_getElem?,Array.getElem?_push]
 split
 · rename_i h;subst h;simp
 · rfl
theorem push_getD_true {A:Array Bool}{j:Nat}(h:j<A.size):(A.push false).getD j true=A.getD j true:=by
 simp only[Array.getD_eq_getD_getElem?,Array.getElem?_push]
 split
 · omega
 · rfl
theorem ready_push {l:List Oper}{st:Oper}{listed:Array Bool}(hs:listed.size=l.length){i:Nat}(h:i∈Region.ready .any (l++[st]).toArray (listed.push false)) :
 (i<l.length∧i∈Region.ready .any l.toArray listed)∨(i=l.length∧∀ e∈st.after,Region.binds .any e=true→listed.getD e.on false=true):=by
 unfold Region.ready at h;rw[List.mem_filter] at h;obtain⟨h1,h2⟩:=h;simp only[List.size_toArray,List.length_append,List.length_cons,List.length_nil,List.mem_range] at h1;rw[Bool.and_eq_true] at h2;obtain⟨h3,h4⟩:=h2
 rcases Nat.lt_or_ge i l.length with hi | hi
 · refine .inl ⟨hi,?_⟩
   unfold Region.ready;rw[List.mem_filter];refine⟨by simpa using hi,?_⟩;rw[push_getD_true (by omega)] at h3;rw[h3,Bool.true_and];rw[List.getElem?_toArray,List.getElem?_append_left hi] at h4;rw[List.getElem?_toArray]
   simpa only[push_getD] using h4
 · obtain rfl:i=l.length:=by omega
   refine .inr ⟨rfl,fun e he hb=>?_⟩;rw[List.getElem?_toArray,List.getElem?_append_right (Nat.le_refl _)] at h4;simp only[Nat.sub_self,List.getElem?_cons_zero,Option.map_some,Option.getD_some,push_getD] at h4;have:=Array.all_eq_true_iff_forall_mem.1 h4 e he
   simpa[hb] using this
theorem tail_all {l:List Oper}{st:Oper}{listed:Array Bool}(ht:tailB l st=true)(h:∀ e∈st.after,Region.binds .any e=true→listed.getD e.on false=true):∀ i,i<l.length→listed.getD i false=true:=by
 intro i hi;have:=List.all_eq_true.1 ht i (by simpa using hi);simp only[Array.any_eq_true,Bool.and_eq_true,beq_iff_eq] at this;obtain⟨j,hj,hb,he⟩:=this;rw[← he];exact h _ (Array.getElem_mem hj) hb
theorem all_none {l:List Oper}{listed:Array Bool}(hs:listed.size=l.length)(h:∀ i,i<l.length→listed.getD i false=true):Region.ready .any l.toArray listed=[]:=by
 unfold Region.ready;rw[List.filter_eq_nil_iff];intro i hi
 have hi':i<l.length:=by simpa using hi
 have h1:listed.getD i true=true:=by
  have h2:i<listed.size:=by omega
  have:listed.getD i false=listed.getD i true:=by simp[Array.getD,h2]
  rw[← this];exact h i hi'
 simp[h1]
theorem st_ready {l:List Oper}{st:Oper}{listed:Array Bool}(hs:listed.size=l.length)(hst:st.after.all (fun e=>decide (e.on<l.length))=true)(h:∀ i,i<l.length→listed.getD i false=true):l.length∈Region.ready .any (l++[st]).toArray (listed.push false):=by
 unfold Region.ready;rw[List.mem_filter];refine⟨by simp,?_⟩
 have h1:(listed.push false).getD l.length true=false:=by
  rw[← hs];simp[Array.getD]
 rw[h1,List.getElem?_toArray,List.getElem?_append_right (Nat.le_refl _)];simp only[Nat.sub_self,List.getElem?_cons_zero,Option.map_some,Option.getD_some,push_getD,Bool.not_false,Bool.true_and];rw[Array.all_eq_true_iff_forall_mem];intro e he;have:=Array.all_eq_true_iff_forall_mem.1 hst e he;rw[h e.on (by simpa using this)];simp
theorem all_after {l:List Oper}{st:Oper}{listed:Array Bool}(hs:listed.size=l.length)(h:∀ i,i<l.length→listed.getD i false=true):Region.ready .any (l++[st]).toArray ((listed.push false).setIfInBounds l.length true)=[]:=by
 have:(listed.push false).setIfInBounds l.length true=listed.push true:=by
  rw[← hs];apply Array.ext_getElem?;intro i;simp only[Array.getElem?_setIfInBounds,Array.getElem?_push,Array.size_push]
  split<;>split<;>simp_all<;>omega
 rw[this];refine all_none (by simp[hs]) fun i hi=>?_;simp only[List.length_append,List.length_cons,List.length_nil] at hi;simp only[Array.getD_eq_getD_getElem?,Array.getElem?_push]
 split
 · rfl
 · have:=h i (by omega)
   rw[Array.getD_eq_getD_getElem?] at this;exact this
theorem wpOpIn_round {l:Nat}{ops ops':Array Oper}{C:World→Prop}{Q:Exit→Act→World→Prop}{i:Nat}{o:Oper}{a:Act}{w:World}{K:Act→Prop}{K':Act→World→Prop}(hro:F.round=none)(hC:C w)(ho:ops[i]?=some o)(ho':ops'[i]?=some o)
 (hg:o.guard=none) (hd:∀ c,o.op≠.defer c) (h:∀ a w',C w'→K a→K' a w') (hh:qOpIn F n P ops C i K a):wpOpIn (F.inRound l) n P ops' Q i K' a w:=by
 have hw:∀ f,Region.wanted o f=true:=fun f=>by simp[Region.wanted,hg]
 unfold qOpIn at hh;unfold wpOpIn;simp only[ho,hw,if_true] at hh;simp only[ho',hw,if_true];exact wpIn_inRound hro hd (Oper.wpIn_of_quiet hro hC h hh.1 hh.2)
theorem any_store {l:Nat}{ops:List Oper}{st:Oper}{C:World→Prop}{Qm:Act→Prop}{Q:Exit→Act→World→Prop}(hro:F.round=none)(hp:plainB (ops++[st])=true)(hb:backB ops=true)(ht:tailB ops st=true)(hst:st.after.all (fun e=>decide (e.on<ops.length))=true)
 (hs:∀ a w,C w→Qm a→st.wpIn F n P a w (fun a w=>Q .normal a w) Q) :
 ∀(fuel:Nat) (listed:Array Bool) (a:Act) (w:World),listed.size=ops.length→C w→wpAnyQIn F n P .any ops.toArray C Qm fuel listed a→wpAnyIn (F.inRound l) n P .any (ops++[st]).toArray Q (fuel+1) (listed.push false) a w:=by
 have hlast:(ops++[st]).toArray[ops.length]?=some st:=by simp
 have hlp:=plainB_guard hp (i:=ops.length) (o:=st) (by simp)
 have hend:∀(fuel:Nat) (listed:Array Bool) (a:Act) (w:World),listed.size=ops.length→C w→Region.ready .any ops.toArray listed=[]→Qm a→wpAnyIn (F.inRound l) n P .any (ops++[st]).toArray Q (fuel+1) (listed.push false) a w:=by
  intro fuel listed a w hsz hC hr hq;have hall:=ready_none hb hsz hr;refine⟨fun h0=>?_,fun i hi=>?_⟩
  · have:=st_ready (st:=st) hsz hst hall
    rw[h0] at this;cases this
  · rcases ready_push hsz hi with ⟨_,h2⟩ | ⟨rfl,_⟩
    · rw[hr] at h2;cases h2
    · unfold wpOpIn
      have hw:∀ f,Region.wanted st f=true:=fun f=>by simp[Region.wanted,hlp.1]
      simp only[hlast,hw,if_true];refine wpIn_inRound hro hlp.2 (Oper.wpIn_mono (fun a w h=>?_) (hs a w hC hq));have h0:=all_after (st:=st) hsz hall
      cases fuel with
      | zero=>exact⟨h0,h⟩
      | succ fuel=>exact⟨fun _=>h,fun j hj=>by rw[h0] at hj;cases hj⟩
 intro fuel
 induction fuel with
 | zero=>intro listed a w hsz hC h;exact hend 0 listed a w hsz hC h.1 h.2
 | succ fuel ih =>
  intro listed a w hsz hC h
  by_cases hr:Region.ready .any ops.toArray listed=[]
  · exact hend (fuel+1) listed a w hsz hC hr (h.1 hr)
  · refine⟨fun h0=>?_,fun i hi=>?_⟩
    · obtain⟨i,hi⟩:=List.exists_mem_of_ne_nil _ hr
      have hi':=hi;unfold Region.ready at hi;rw[List.mem_filter] at hi
      have hlt:i<ops.length:=by simpa using hi.1
      have:i∈Region.ready .any (ops++[st]).toArray (listed.push false):=by
       unfold Region.ready;rw[List.mem_filter];refine⟨by simp;omega,?_⟩;rw[push_getD_true (by omega),List.getElem?_toArray,List.getElem?_append_left hlt]
       simpa only[push_getD,List.getElem?_toArray] using hi.2
      rw[h0] at this;cases this
    · rcases ready_push hsz hi with ⟨hlt,h2⟩ | ⟨rfl,h2⟩
      · have ho:ops[i]?=some ops[i]:=List.getElem?_eq_getElem hlt
        have hpl:=plainB_guard hp (i:=i) (o:=ops[i]) (by rw[List.getElem?_append_left hlt];exact ho);refine wpOpIn_round hro hC (by rw[List.getElem?_toArray];exact ho) (by rw[List.getElem?_toArray,List.getElem?_append_left hlt];exact ho) hpl.1 hpl.2 (fun a w' hC' h3=>?_) (h.2 i h2);have:=ih (listed.setIfInBounds i true) a w' (by simp[hsz]) hC' h3
        have e:(listed.push false).setIfInBounds i true=(listed.setIfInBounds i true).push false:=by
         apply Array.ext_getElem?;intro j
         have hi1:i<listed.size:=by omega
         by_cases h1:i=j
         · subst h1
           have h4:¬ i=listed.size:=by omega
           simp[Array.getElem?_setIfInBounds,Array.getElem?_push,h4,hi1,Nat.lt_succ_of_lt hi1];rw[Array.getElem_push_lt (by simpa using hi1)];simp
         · simp[Array.getElem?_setIfInBounds,Array.getElem?_push,h1]
        rw[e];exact this
      · exact absurd (all_none hsz (tail_all ht h2)) hr
theorem wpIn_region_round_store {l id:Nat}{ops:List Oper}{st:Oper}{Q:Exit→Act→World→Prop}{a:Act}{w:World}(hro:F.round=none)(hm:P.follows .mixedOrders=true)(hB:Region.lexB .any ops.toArray=true)
 (hp:plainB (ops++[st])=true) (hb:backB ops=true) (ht:tailB ops st=true) (hst:st.after.all (fun e=>decide (e.on<ops.length))=true)
 (h:wpQuietIn F n P ops.toArray (fun w'=>∃ n,w'=w.drewN n) (fun a'=>∀ m K,(∀ a w,Q .normal a w→K a w)→st.wpIn F n P a' (w.drewN m) K Q) ops a):(Code.region id (ops++[st]).toArray true).wpIn (F.inRound l) n P Q a w:=by
 simp only[Region.lexB,Bool.and_eq_true] at hB;refine wpIn_region_any hm ?_;have h1:=wpAnyQIn_lex (F:=F) (n:=n) (C:=fun w'=>∃ n,w'=w.drewN n) (md:=.any) hB.1 ops 0 (Array.replicate ops.length false) a (by simp) (by simpa using hB.2) h;have h2:=any_store (l:=l) (st:=st) (Q:=Q) hro hp hb ht hst (by rintro a' w' ⟨m,rfl⟩ hq;exact hq m _ (fun _ _ h=>h)) ops.length (Array.replicate ops.length false) a { w with drawn:=w.drawn+1 } (by simp) ⟨1,rfl⟩ h1
 have e:Array.replicate (ops++[st]).toArray.size false=(Array.replicate ops.length false).push false:=by
  simp[Array.replicate_succ]
 rw[e]
 simpa using h2
end
end Go.Proofs.YtkhcliibilkefaaGreatDoor
