/- CONTRACT of warden.records: the iterator over the lines that can be read of bytes. -/
import Derived.Test.YtkhcliibilkefaaGreatDoorYRecs
import Derived.Maps.OwnIn
import Derived.Laws.EntriesVeiled
import Derived.Deep.AppendLies
set_option linter.unusedVariables false
set_option linter.unusedSimpArgs false
set_option maxRecDepth 100000
set_option maxHeartbeats 8000000
namespace Go.Proofs.YtkhcliibilkefaaGreatDoor
open Lib (hid)
open Go.RowKit Go.Proofs Go.Shelf
attribute [local go_sem] Oper.semAt_some
abbrev RecE:={ x:Nat×List UInt8 // x.1≤20000 }
abbrev encRe (x:RecE):Array Value:=#[.int .i64 (x.1.1:Int),str x.1.2]
theorem records1_in (n:Nat)(hn:2≤n)(l Bs n₀ b o len cap N:Nat)(bs:List UInt8)(hl:bs.length=len)(hlen:len≤20000)(hcap:len≤cap)(hN:(recsW bs 0 5).length≤N)(hb:b<n₀)(J Jx:List RecE→World→Prop)(B:Nat)(hJ:AbidesFrom B J)
 (hY:∀ pre x W,J pre W→pre.length<N→YieldAt Fence.wide (n - 1) Tryz.prog l (encRe x) W fun e W' =>
  (e=.returned (.bool true)∧J (pre++[x]) W'∧Ga.KpS n₀ Bs W W')∨(e=.returned (.bool false)∧Jx (pre++[x]) W'))
 (W:World) (hn₀:n₀≤W.heap.size) (hBs:Boxed W Bs 54 (.slice (some ⟨b,o,none⟩) len cap)) (hbts:Ga.Bts W b o bs) (h0:J [] W) :
 CallsIn Fence.wide n Tryz.prog 56 #[.func (.yield l) #[] #[],.pointer (some ⟨Bs,0,none⟩)] W fun e W'=>(∃ v,e=.returned v) ∧
  ((∃ ys,ys.map (·.1)=recsW bs 0 5∧J ys W')∨(∃ pre,pre.map (·.1) <+: recsW bs 0 5∧Jx pre W')):=by
 have h1:1≤n:=by omega
 refine callsIn_of_wp Tryz.func56 rfl trivial ?_ rfl;simp only[Tryz.ntmps56,List.size_toArray,List.length_cons,List.length_nil,Nat.reduceAdd,Nat.reduceSub,Array.replicate_succ,Array.replicate_zero,List.push_toArray,List.append_toArray,List.nil_append,List.cons_append];have HL:=hid hl;have HBS:=hid hBs;have HBT:=hid hbts;have HY:=hid hY;have HN:=hid hN;clear hl hBs hbts hY hN
 gi_wp2
 gi_loopw [3,4] (fun kv iv wr=>∃(a k:Nat) (pre:List RecE),iv=.int .i64 a∧kv=.int .i64 k∧k<11881357∧a≤len∧pre.map (·.1)++recsW (bs.drop a) a k=recsW bs 0 5∧J pre wr∧Below n₀ W wr∧Boxed wr Bs 54 (.slice (some ⟨b,o,none⟩) len cap)) (fun _ iv _=>len - (intOf iv).toNat)
 case atStart=>exact⟨0,5,[],rfl,rfl,by decide,Nat.zero_le _,rfl,h0,Below.refl _ _,HBS.out⟩
 case round =>
  obtain⟨a,k,pre,rfl,rfl,hk,ha,hpre,hJs,hnx,hbx⟩:=hrel;have HP:=hid hpre;have HK:=hid hk;clear hpre hk;have hc1:=hbx.cell;have HBX:=hid hbx;clear hbx;obtain⟨T,hT⟩:∃ T,T=bs.drop a:=⟨_,rfl⟩
  have hTl:T.length=len - a:=by rw[hT,List.length_drop,HL.out]
  rw[← hT] at HP;have HTL:=hid hTl;have hbt:=HBT.out.below hnx hb
  have hTc:∀(i:Nat) (x:UInt8),T[i]?=some x→wr.cell? ⟨b,o+(a+i),none⟩=some (.int .u8 (x.toNat:Int)):=fun i x hx=>by
   rw[hT,List.getElem?_drop] at hx;exact hbt _ _ hx
  have HTC:=hid hTc;have HT:=hid hT;clear hTl hbt hTc hT;have hr0:∀ W,recsW T a W=[]→pre.map (·.1)=recsW bs 0 5→True:=fun _ _ _=>trivial;clear hr0
  by_cases hlt:a+14≤len
  · have s1:=run_cutB (b:=b) (o:=o) (len:=len) (cap:=cap) (lo:=a+1) (hi:=a+4) (by omega) (by omega) (by omega) (i:=(a:Int)+1) (j:=(a:Int)+1+3) (by omega) (by omega)
    have s1':=run_cutB (b:=b) (o:=o) (len:=len) (cap:=cap) (lo:=a+1) (hi:=a+4) (by omega) (by omega) (by omega) (i:=(a:Int)+1) (j:=(a:Int)+4) (by omega) (by omega)
    have e3:a+4 - (a+1)=3:=by omega
    rw[e3] at s1 s1'
    have hrd3:Rd encB 1 wr (some ⟨b,o+(a+1),none⟩) 3 ((T.drop 1).take 3):=by
     refine⟨by rw[List.length_take,List.length_drop];have:=HTL.out;omega,fun _=>⟨b,_,rfl,Nat.lt_of_lt_of_le hb (Nat.le_trans hn₀ hnx.size),fun i x hx j v hv=>?_⟩⟩;rw[List.getElem?_take] at hx
     split at hx
     · rw[List.getElem?_drop] at hx
       cases j with
       | zero =>
        simp[encB] at hv;subst hv;have:=HTC.out _ _ hx;rw[← this];congr 2;omega
       | succ j=>simp[encB] at hv
     · cases hx
    have HLE:=hid (fun W (hW:Below wr.heap.size wr W)=>length_c (c:=cap - (a+1)) (hrd3.below hW) (by omega));clear hrd3 e3;obtain⟨n3,hn3⟩:∃ n3,n3=(T.drop 1).take 3:=⟨_,rfl⟩;rw[← hn3] at HLE;have HN3:=hid hn3;clear hn3
    gi_wp2
    refine⟨trivial,?_⟩;refine(callsIn_wide.2 (HLE.out _ (Below.refl _ _))).mono ?_;rintro e w2 ⟨rfl,rfl⟩;clear HLE s1 s1'
    have quit:∀(W':World),Below wr.heap.size wr W'→recsW T a k=[]→pre.map (·.1)=recsW bs 0 5∧J pre W':=fun W' hW he=>by
     refine⟨?_,hJ _ _ _ none hJs (only_of_below hW none) (fun _ h=>by cases h)⟩;have:=HP.out
     rwa [he,List.append_nil] at this
    have QUIT:=hid quit;clear quit
    cases hlw:lenW n3 with
    | none =>
     have hE:lenI n3=-1:=by unfold lenI;rw[hlw]
     have hin:inB (-1) 0 300=false:=by decide
     have hno:=recs_none (b:=T) (a:=a) (c:=k) (by rw[← HN3.out];exact hlw);have HNO:=hid hno;clear hno hlw;rw[hE]
     gi_wp2_with (refine⟨trivial,?_⟩;gi_at_call 37;refine(callsIn_wide.2 (wwithin_c _ _ _ _)).mono ?_;rintro e w3 ⟨rfl,hb3⟩;rw[hin])
     refine bodyPost_ret (results_none rfl _ _ _) rfl ?_;obtain⟨q1,q2⟩:=QUIT.out _ hb3 HNO.out;exact⟨⟨_,rfl⟩,.inl ⟨pre,q1,q2⟩⟩
    | some m =>
     have hE:lenI n3=(m:Int):=by unfold lenI;rw[hlw]
     have HLW:=hid (show lenW ((T.drop 1).take 3)=some m by rw[← HN3.out];exact hlw);clear hlw;rw[hE];clear hE
     by_cases hm:m≤300
     · have hin:inB (m:Int) 0 300=true:=inB_iff.2 (by omega)
       by_cases hfit:a+14+m≤len
       · have hq:¬(len:Int) - (a:Int)<14+(m:Int):=by omega
         obtain⟨line,hline⟩:∃ line,line=(T.drop 13).take m:=⟨_,rfl⟩;obtain⟨D,hD⟩:∃ D,D=T.take (14+m):=⟨_,rfl⟩;obtain⟨R,hR⟩:∃ R,R=recW line k:=⟨_,rfl⟩
         have hll:line.length=m:=by rw[hline,List.length_take,List.length_drop];have:=HTL.out;omega
         have hDl:D.length=14+m:=by rw[hD,List.length_take];have:=HTL.out;omega
         have s2:=run_cutB (b:=b) (o:=o) (len:=len) (cap:=cap) (lo:=a+13) (hi:=a+13+m) (by omega) (by omega) (by omega) (i:=(a:Int)+13) (j:=(a:Int)+14+(m:Int) - 1) (by omega) (by omega)
         have e2:a+13+m - (a+13)=m:=by omega
         rw[e2] at s2;have s3:=run_cutB (b:=b) (o:=o) (len:=len) (cap:=cap) (lo:=a) (hi:=a+14+m) (by omega) (by omega) (by omega) (i:=(a:Int)) (j:=(a:Int)+14+(m:Int)) (by omega) (by omega)
         have e3:a+14+m - a=14+m:=by omega
         rw[e3] at s3
         have hcl:∀(W:World),Below wr.heap.size wr W→∀(i:Nat) (x:UInt8),T[i]?=some x→W.cell? ⟨b,o+(a+i),none⟩=some (.int .u8 (x.toNat:Int)):=fun W hW i x hx =>
          (hW.cell (p:=⟨b,_,none⟩) (Nat.lt_of_lt_of_le hb (Nat.le_trans hn₀ hnx.size))).trans (HTC.out i x hx)
         have t2:∀(W:World),Below wr.heap.size wr W→(convert 54 9 (.slice (some ⟨b,o+(a+13),none⟩) m (cap - (a+13)))).run Tryz.prog W=.ok (str line) W:=fun W hW=>run_textB hll fun i x hx=>by
          rw[hline,List.getElem?_take] at hx
          split at hx
          · rw[List.getElem?_drop] at hx
            rw[← hcl W hW _ _ hx];congr 2;omega
          · cases hx
         have t3:∀(W:World),Below wr.heap.size wr W→(convert 54 9 (.slice (some ⟨b,o+a,none⟩) (14+m) (cap - a))).run Tryz.prog W=.ok (str D) W:=fun W hW=>run_textB hDl fun i x hx=>by
          rw[hD,List.getElem?_take] at hx
          split at hx
          · rw[← hcl W hW _ _ hx];congr 2;omega
          · cases hx
         have hrc:∀ W,Calls Tryz.prog 50 #[str line,.int .i64 k] W fun e w'=>e=.returned (.tuple #[str R,.int .i64 (chkW k line:Nat)])∧Below W.heap.size W w':=fun W=>by
          rw[hR];exact record_c ⟨line.toArray⟩ k W (by show line.toArray.size≤_;simp;omega) HK.out
         have T2:=hid t2;have T3:=hid t3;have HRC:=hid hrc;have HLN:=hid hline;have HD:=hid hD;have HR:=hid hR;clear hll hDl e2 e3 hcl t2 t3 hrc hline hD hR
         gi_wp2_with (refine⟨trivial,?_⟩;gi_at_call 37;refine(callsIn_wide.2 (wwithin_c _ _ _ _)).mono ?_;rintro e w3 ⟨rfl,hb3⟩;rw[hin];have hc3:=(HBX.out.kept (only_of_below hb3 none) (by simp)).cell;have t2:=T2.out w3 hb3)
         refine⟨trivial,?_⟩;refine(callsIn_wide.2 (HRC.out _)).mono ?_;rintro e w4 ⟨rfl,hb4⟩;have hb4:=below_tr hb3 hb4;clear t2 hc3 s2;have hbx4:=HBX.out.kept (only_of_below hb4 none) (by simp);have hc4:=hbx4.cell;have t3:=T3.out w4 hb4;have hne:=str_neq R D;have hgu:=str_guard R D
         by_cases heq:R=D
         · have hyes:=recs_yes (b:=T) (a:=a) (c:=k) HLW.out (by have:=HTL.out;omega) (by rw[← HLN.out,← HR.out,← HD.out];exact heq)
           rw[← HLN.out] at hyes;have HYES:=hid hyes
           have hlenp:pre.length<N:=by
            have h2:=congrArg List.length HP.out;rw[HYES.out] at h2;simp only[List.length_append,List.length_map,List.length_cons] at h2;have:=HN.out;omega
           have hnx':Below n₀ W w4:=hnx.trans (hb4.mono (Nat.le_trans hn₀ hnx.size));obtain⟨fn,tmps,assign,body,hy,hRR⟩:=HY.out pre ⟨(a+14+m,line),by dsimp only;omega⟩ w4 (hJ _ _ _ none hJs (only_of_below hb4 none) (fun _ h=>by cases h)) hlenp;have HNX:=hid hnx';have HBX4:=hid hbx4;clear hnx' hbx4 hyes;dsimp only[encRe] at hy
           have hcast:((a+14+m:Nat):Int)=(a:Int)+14+(m:Int):=by omega
           rw[hcast] at hy;rw[decide_eq_true heq] at hne;clear heq
           gi_wp2
           refine hRR.mono ?_;rintro e W3 (⟨rfl,hJ3,hk3⟩ | ⟨rfl,hJx3⟩)
           · gi_wp2
             go_roundw
             case rel =>
              refine⟨a+14+m,chkW k line,_,by go_num,rfl,chk_lt HK.out line,hfit,?_,hJ3,HNX.out.trans hk3.1,hk3.2 _ HBX4.out⟩;rw[← HP.out,HYES.out,HT.out,List.drop_drop];simp[Nat.add_assoc]
             case measure=>simp[intOf];omega
           · gi_wp2
             refine bodyPost_ret (results_none rfl _ _ _) rfl ?_;refine⟨⟨_,rfl⟩,.inr ⟨_,?_,hJx3⟩⟩;rw[← HP.out,HYES.out];exact⟨recsW (T.drop (14+m)) (a+14+m) (chkW k line),by simp⟩
         · have hno:=recs_other (b:=T) (a:=a) (c:=k) HLW.out (by rw[← HLN.out,← HR.out,← HD.out];exact heq)
           have HNO:=hid hno;rw[decide_eq_false heq] at hne;clear hno heq hbx4
           gi_wp2
           refine⟨fun f hf=>(by cases hf),?_⟩
           gi_wp2
           refine bodyPost_ret (results_none rfl _ _ _) rfl ?_;obtain⟨q1,q2⟩:=QUIT.out _ hb4 HNO.out;exact⟨⟨_,rfl⟩,.inl ⟨pre,q1,q2⟩⟩
       · have hq:(len:Int) - (a:Int)<14+(m:Int):=by omega
         have hno:=recs_long (b:=T) (a:=a) (c:=k) HLW.out (.inr (by have:=HTL.out;omega));have HNO:=hid hno;clear hno
         gi_wp2_with (refine⟨trivial,?_⟩;gi_at_call 37;refine(callsIn_wide.2 (wwithin_c _ _ _ _)).mono ?_;rintro e w3 ⟨rfl,hb3⟩;rw[hin];have hc3:=(HBX.out.kept (only_of_below hb3 none) (by simp)).cell)
         refine bodyPost_ret (results_none rfl _ _ _) rfl ?_;obtain⟨q1,q2⟩:=QUIT.out _ hb3 HNO.out;exact⟨⟨_,rfl⟩,.inl ⟨pre,q1,q2⟩⟩
     · have hin:inB (m:Int) 0 300=false:=by
        cases hb:inB (m:Int) 0 300 with
        | false=>rfl
        | true=>have:=inB_iff.1 hb;omega
       have hno:=recs_long (b:=T) (a:=a) (c:=k) HLW.out (.inl (by omega));have HNO:=hid hno;clear hno
       gi_wp2_with (refine⟨trivial,?_⟩;gi_at_call 37;refine(callsIn_wide.2 (wwithin_c _ _ _ _)).mono ?_;rintro e w3 ⟨rfl,hb3⟩;rw[hin])
       refine bodyPost_ret (results_none rfl _ _ _) rfl ?_;obtain⟨q1,q2⟩:=QUIT.out _ hb3 HNO.out;exact⟨⟨_,rfl⟩,.inl ⟨pre,q1,q2⟩⟩
  · have hsc:=recs_short (b:=T) (a:=a) (c:=k) (by have:=HTL.out;omega)
    have HSC:=hid hsc;clear hsc
    have hq:¬(14:Int)≤(len:Int) - (a:Int):=by omega
    gi_wp2
    go_end0
    refine⟨⟨_,rfl⟩,.inl ⟨pre,?_,hJs⟩⟩;have:=HP.out
    rwa [HSC.out,List.append_nil] at this
theorem records1_short (n:Nat)(l Bs len cap:Nat)(A:Option Addr)(hlen:len<14)(J:List RecE→World→Prop)(W:World)(hBs:W.cell? ⟨Bs,0,none⟩=some (.slice A len cap))(h0:J [] W) :
 CallsIn Fence.wide n Tryz.prog 56 #[.func (.yield l) #[] #[],.pointer (some ⟨Bs,0,none⟩)] W fun e W'=>(∃ v,e=.returned v)∧J [] W':=by
 refine callsIn_of_wp Tryz.func56 rfl trivial ?_ rfl;simp only[Tryz.ntmps56,List.size_toArray,List.length_cons,List.length_nil,Nat.reduceAdd,Nat.reduceSub,Array.replicate_succ,Array.replicate_zero,List.push_toArray,List.append_toArray,List.nil_append,List.cons_append]
 have hlt:¬(14:Int)≤(len:Int):=by omega
 gi_wp2
 gi_loopw [4] (fun i wr=>i=.int .i64 0∧wr=W) (fun _ _=>0)
 case atStart=>exact⟨rfl,rfl⟩
 case round =>
  obtain⟨rfl,rfl⟩:=hrel
  gi_wp2
  go_end0
  exact⟨⟨_,rfl⟩,h0⟩
theorem records_stops (n:Nat)(hn:2≤n)(Bs n₀ len cap N:Nat)(A:Option Addr)(bs:List UInt8)(w:World)(hr:Rd encB 1 w A len bs)(hA:14≤len→∀ b o,A=some ⟨b,o,none⟩→b<n₀)(hlen:len≤20000)(hcap:len≤cap)(hN:(recsW bs 0 5).length≤N)
 (hn₀:n₀≤w.heap.size) (hc:Boxed w Bs 54 (.slice A len cap)) :
 SeqStopsK Fence.wide n Tryz.prog 56 #[.pointer (some ⟨Bs,0,none⟩)] encRe (Ga.KpS n₀ Bs) (fun ys=>ys.map (·.1)=recsW bs 0 5) (fun pre=>pre.map (·.1) <+: recsW bs 0 5) N w:=fun l J Jx W hW hJ _ hY h0=>by
 have hc':=hc.kept (only_of_below hW none) (by simp);have hl:=hr.len
 by_cases h14:len<14
 · refine(records1_short n l Bs len cap A h14 J W hc'.cell h0).mono fun e W' ⟨he,hj⟩=>⟨he,.inl ⟨[],?_,hj⟩⟩
   rw[recs_short (by omega)];rfl
 · obtain⟨b,o,rfl,hlt,hcell⟩:=hr.2 (by omega)
   refine records1_in n hn l Bs n₀ b o len cap N bs hl hlen hcap hN (hA (by omega) b o rfl) J Jx _ hJ hY W (Nat.le_trans hn₀ hW.size) hc' (fun i x hx=>?_) h0;have:=hcell i x hx 0 _ rfl;rw[Nat.mul_one,Nat.add_zero] at this;exact(hW.cell (p:=⟨b,_,none⟩) hlt).trans this
theorem records_c (n:Nat)(A:Option Addr)(len cap:Nat)(w:World) :
 CallsIn Fence.wide n Tryz.prog 36 #[.slice A len cap] w fun e w'=>e=.returned (.func (.func 56) #[] #[.pointer (some ⟨w.heap.size,0,none⟩)])∧w'=w.alloc (.cells #[.slice A len cap] 54):=by
 refine callsIn_of_wp Tryz.func36 rfl trivial ?_ rfl;simp only[Tryz.ntmps36,List.size_toArray,List.length_cons,List.length_nil,Nat.reduceAdd,Nat.reduceSub,Array.replicate_succ,Array.replicate_zero,List.push_toArray,List.append_toArray,List.nil_append,List.cons_append]
 gi_wp2
 go_ret
 exact⟨rfl,rfl⟩
theorem frKeeps {E:Nat→Prop}{B:Nat}{W w1:World}(h:Fr E W w1)(hE:∀ g o,E g→B≤g→W.heap[g]?=some o→o.isCells=true):KeepsFrom B W w1 :=
 ⟨h.size,fun k o hk ho hc=>h.kept ho fun he=>by rw[hE k o he hk ho] at hc;cases hc⟩
def arrB (l:List UInt8):ByteArray:=⟨l.toArray⟩
def linesR (l:List (Nat×List UInt8)):List ByteArray:=l.map fun x=>arrB x.2
theorem linesR_snoc (l:List (Nat×List UInt8))(x:Nat×List UInt8):linesR (l++[x])=linesR l++[arrB x.2]:=by simp[linesR]
theorem linesR_B (l:List (Nat×List UInt8)):linesB (linesR l)=l.map (·.2):=by
 unfold linesB linesR;rw[List.map_map]
 rfl
theorem endW_snoc (l:List (Nat×List UInt8))(x:Nat×List UInt8):endW (l++[x])=x.1:=by simp[endW]
theorem infoStr:(Tryz.prog.info? 9).map (fun i=>(i.zero,i.size,i.bytes))=some (some (.string ⟨#[]⟩),1,16):=by kernel_rfl
def RcI (w:World)(s base:Nat)(l:List (Nat×List UInt8))(W:World):Prop :=
 (∃ v,Boxed W s 22 v∧W.ownsRow base 9 1 v (linesR l).length ((linesR l).flatMap encStr)∧True)∧Boxed W (s+1) 3 (.int .i64 (endW l:Int))∧Below s w W∧base≤W.heap.size
def recL (pre:List RecE):List (Nat×List UInt8):=pre.map (·.1)
theorem RcI_own (w:World)(s base:Nat)(hs:s≤w.heap.size){B:Nat}(hB:s≤B)(g:List RecE→List (Nat×List UInt8))(Pp:List RecE→Prop):OwnFrom B (fun pre W=>RcI w s base (g pre) W∧Pp pre) :=
 OwnFrom.and (OwnFrom.and (Own.from (holdsRow_own base s _ _ 1 (fun pre:List RecE=>(linesR (g pre)).length) (fun pre=>(linesR (g pre)).flatMap encStr) (fun _ _=>True)) _)
  (OwnFrom.and (Own.from (boxed_own _ _ _) _) (OwnFrom.and (ownFrom_below hs hB) (fun _ _ _ _ hs hg _=>Nat.le_trans hs hg.size)))) (fun _ _ _ _ h _ _=>h)
theorem Recover_in (A:Option Addr)(n c:Nat)(bs:List UInt8)(w:World)(h:Rd encB 1 w A n bs)(hc:n≤c)(hlen:n≤20000) :
 CallsIn Fence.wide 8 Tryz.prog 18 #[.slice A n c] w fun e w'=>∃(v:Value) (k:Nat) (LB:List ByteArray),e=.returned (.tuple #[v,.int .i64 (k:Int)]) ∧
  w'.ownsRow w.heap.size 9 1 v LB.length (LB.flatMap encStr)∧(linesB LB=(readW 60 bs 5).1∧k=(readW 60 bs 5).2)∧Below w.heap.size w w':=by
 have HL:=hid h.len;have H0:=hid h;clear h;obtain⟨i0,hi0,hz0,hz1,hz2⟩:=info_parts infoStr;have HI:=hid hi0;have HZ0:=hid hz0;have HZ1:=hid hz1;have HZ2:=hid hz2;clear hi0 hz0 hz1 hz2;have hmf:∀(fn:Fn) (first cap:Array Value) (w:World),(Instr.makeFunc fn first cap).run Tryz.prog w=.ok (.func fn first cap) w:=fun _ _ _ _=>rfl;refine callsIn_of_wp_marks Tryz.func18 rfl trivial ?_ rfl;simp only[Tryz.ntmps18,List.size_toArray,List.length_cons,List.length_nil,Nat.reduceAdd,Nat.reduceSub,Array.replicate_succ,Array.replicate_zero,List.push_toArray,List.append_toArray,List.nil_append,List.cons_append]
 gi_wp2_with (refine⟨trivial,?_⟩;gi_at_call 36;refine(records_c _ _ _ _ _).mono ?_;rintro e w' ⟨rfl,rfl⟩)
 obtain⟨W0,hW0⟩:∃ W0:World,(((w.alloc (.cells #[.slice none 0 0] 22)).alloc (.cells #[.int .i64 0] 3)).alloc (.cells #[.slice A n c] 54))=W0:=⟨_,rfl⟩;have b1:=((Boxed.new w 22 (.slice none 0 0)).alloc (.cells #[.int .i64 0] 3)).alloc (.cells #[.slice A n c] 54);have b2:=(Boxed.new (w.alloc (.cells #[.slice none 0 0] 22)) 3 (.int .i64 0)).alloc (.cells #[.slice A n c] 54);have b3:=Boxed.new ((w.alloc (.cells #[.slice none 0 0] 22)).alloc (.cells #[.int .i64 0] 3)) 54 (.slice A n c);simp only[World.size_alloc] at b2 b3
 have hbel:Below w.heap.size w W0:=by
  rw[← hW0];exact(((Below.refl _ w).alloc (Nat.le_refl _) _).alloc (by simp) _).alloc (by simp;omega) _
 have hsz:W0.heap.size=w.heap.size+1+1+1:=by rw[← hW0];simp
 rw[hW0] at b1 b2 b3 ⊢;clear hW0 hmf
 have hA:14≤n→∀ b o,A=some ⟨b,o,none⟩→b<w.heap.size:=fun h14 b o e=>by
  obtain⟨b',o',e',hlt,_⟩:=H0.out.2 (by omega);rw[e] at e';cases e';exact hlt
 refine wpIn_rangeFunc_ownH rfl (by omega) (gf:=56) (lb:=#[.pointer (some ⟨w.heap.size+1+1,0,none⟩)]) rfl trivial (enters_of Tryz.func56 (by kernel_rfl) rfl)
  (records_stops 7 (by omega) (w.heap.size+1+1) w.heap.size n c n A bs W0 (H0.out.below hbel) hA hlen hc (by have:=(recs_bd bs.length bs 0 5 (Nat.le_refl _)).2;rw[HL.out] at this;exact this) (by omega) b3) Ga.kpS_t (Ga.kpS_b (by omega)) (Below.refl _ _) (fun _=>rfl)
  (fun pre W=>RcI w w.heap.size W0.heap.size (recL pre) W∧pre.length≤60)
  (fun q pre W=>RcI w w.heap.size W0.heap.size ((recL pre).take 60) W∧(q=Code.exit 0∧60≤pre.length))
  (RcI_own w _ _ (Nat.le_refl _) (by omega) _ _)
  (fun q=>RcI_own w _ _ (Nat.le_refl _) (by omega) _ _)
  ⟨⟨⟨_,b1,World.ownsRow_nil _ _ _ _,trivial⟩,b2,hbel,Nat.le_refl _⟩,Nat.zero_le _⟩
  (fun x a' W=>a'={ tmps:=#[.slice A n c,undef,.pointer (some ⟨w.heap.size,0,none⟩),.pointer (some ⟨w.heap.size+1,0,none⟩),.int .i64 (x.1.1:Int),str x.1.2,.slice A n c,.func (.func 56) #[] #[.pointer (some ⟨w.heap.size+1+1,0,none⟩)],.int .i64 (x.1.1:Int),str x.1.2,undef,undef,undef,undef,undef,undef,undef,undef,undef,undef],defers:=[] })
  (fun x a' _ X Y row hs hg hr=>hs)
  ?assign ?body ?done ?stop
 case assign =>
  rintro l pre x W K hI hK;dsimp only[encRe]
  gi_wp2
  exact hK _ _ ((KeepsOthers.refl _).from _) ⟨Below.refl _ W,fun v hv=>hv⟩ hI rfl
 case body =>
  rintro l pre x a' W hl ⟨r,hr⟩ ⟨⟨⟨v1,hb1,hr1,_⟩,hb2,hB,hbs⟩,hp60⟩ rfl hlt;rw[show str x.1.2=Value.string (arrB x.1.2) from rfl]
  have hlr:(linesR (recL pre)).length=pre.length:=by simp[linesR,recL]
  have hrs:recL (pre++[x])=recL pre++[x.1]:=by simp[recL]
  rw[hlr] at hr1;obtain⟨A1,d1,rfl,hd1⟩:=own_form hr1;have c1:=hb1.cell;have f1:=hb1.frozen;have c2:=hb2.cell;have f2:=hb2.frozen;have HB1:=hid hb1;have HB2:=hid hb2;have HR1:=hid hr1;have HB:=hid hB;have HBS:=hid hbs;have HLR:=hid hlr;have HRS:=hid hrs;clear hb1 hb2 hr1 hB hbs hlr hrs
  by_cases h60:pre.length=60
  · have hq:(pre.length:Int)=60:=by omega
    gi_wp2
    have ht:(recL (pre++[x])).take 60=recL pre:=by
     rw[HRS.out,List.take_append_of_le_length (by simp[recL,h60]),List.take_of_length_le (by simp[recL,h60])]
    refine⟨(KeepsOthers.refl _).from _,?_⟩;dsimp only;rw[ht];exact⟨⟨⟨_,HB1.out,by rw[HLR.out];exact HR1.out,trivial⟩,HB2.out,HB.out,HBS.out⟩,rfl,by simp;omega⟩
  · have hq:¬(pre.length:Int)=60:=by omega
    have hq2:((pre.length:Int) == 60)=false:=by simpa using hq
    have hal:=(Below.refl W.heap.size W).alloc (Nat.le_refl _) (.cells #[.string (arrB x.1.2)] 9)
    gi_wp2_with (gi_at_builtin;refine wpListIn_append_own_at _ rfl _ _ 22 rfl W0.heap.size 9 i0 _ 1 16 Tryz.underlying22 HI.out HZ0.out HZ1.out HZ2.out rfl (by decide) _ _ _ rfl (HR1.out.alloc _) ⟨W.heap.size,0,none⟩ 1 1 (encStr (arrB x.1.2)) rfl rfl (fun j u hj=>World.news_of_block (cs:=#[.string (arrB x.1.2)]) (t:=9) (fr:=(0,0)) (heap_alloc_new W _) j u hj) (by simp[Value.oneCell',encStr]) (by unfold maxLen;omega) (by omega) (by have:=HBS.out;simp;omega) ?_;intro v3 W2 hown hgrow _ hwh;obtain⟨g3,cap3,rfl⟩:=ownsRow_succ hown;have HG:=hid hgrow;have HO:=hid hown;clear hown hgrow hwh;have m1:Boxed W2 w.heap.size 22 _:=(HB1.out.alloc _).kept HG.out (own_ge HR1.out (by omega));have m2:Boxed W2 (w.heap.size+1) 3 _:=(HB2.out.alloc _).kept HG.out (own_ge HR1.out (by omega));have k1:=m1.cell;have k1f:=m1.frozen;have k2:=m2.cell;have k2f:=m2.frozen;have M1:=hid m1;have M2:=hid m2;clear m1 m2)
    have F3:Fr (fun g=>g=w.heap.size∨g=w.heap.size+1∨(Value.slice A1 pre.length d1).ownBlock=some g) W W2 :=
     ((Fr.refl _ W).step (World.grownBy_alloc W _ none) (fun _ h=>by cases h)).step HG.out (fun g hg=>.inl (.inr (.inr hg)))
    have F4:=(F3.setCell (g:=w.heap.size) (.inl (.inl rfl)) (.slice (some ⟨g3,0,none⟩) (pre.length+1) cap3)).setCell (g:=w.heap.size+1) (.inl (.inr (.inl rfl))) (.int .i64 (x.1.1:Int));have n1:∀ g,(Value.slice A1 pre.length d1).ownBlock=some g→W0.heap.size≤g:=fun g hg=>Nat.le_of_not_lt fun h=>own_ge HR1.out h hg.symm
    have hbf:Below w.heap.size W _:=F4.below HB.out.size (fun g hg=>by
     rcases hg with h | h | h
     · omega
     · omega
     · have:=n1 g h;omega)
    refine⟨frKeeps F4 (fun g o hE hg ho=>?_),⟨hbf,fun v hv=>F4.boxed hv ?_⟩,⟨⟨_,(M1.out.set _).other (by omega) _,?_,trivial⟩,?_,HB.out.trans hbf,Nat.le_trans HBS.out F4.size⟩,by simp;omega⟩
    · rcases hE with h | h | h
      · omega
      · omega
      · obtain⟨cur,hc2⟩:=own_ty HR1.out h
        rw[hc2] at ho;cases ho;rfl
    · rintro(h | h | h)
      · omega
      · omega
      · have:=n1 _ h;omega
    · rw[HRS.out,linesR_snoc,List.flatMap_append,List.length_append,HLR.out]
      have:=(HO.out.kept (grownBy_setCell' W2 w.heap.size (.slice (some ⟨g3,0,none⟩) (pre.length+1) cap3)) (.inr (own_ge HO.out (by omega)).symm)).kept (grownBy_setCell' _ (w.heap.size+1) (.int .i64 (x.1.1:Int))) (.inr (own_ge HO.out (by omega)).symm)
      simpa using this
    · rw[HRS.out,endW_snoc]
      exact(M2.out.other (B':=w.heap.size) (by omega) _).set _
 case done =>
  rintro D ys W hD hys ⟨⟨⟨v1,hb1,hr1,_⟩,hb2,hB,hbs⟩,hp60⟩ hK;obtain⟨LB,hLB⟩:∃ LB,LB=linesR (recL ys):=⟨_,rfl⟩;obtain⟨eW,heW⟩:∃ eW,eW=endW (recL ys):=⟨_,rfl⟩;rw[← hLB] at hr1;rw[← heW] at hb2
  have hls:linesB LB=(readW 60 bs 5).1∧eW=(readW 60 bs 5).2:=by
   have ht:(recsW bs 0 5).take 60=recL ys:=by rw[← hys];exact List.take_of_length_le (by simpa[recL] using hp60)
   rw[read_recs0,ht,hLB,heW,linesR_B];exact⟨rfl,rfl⟩
  have HLS:=hid hls;clear hLB heW hls;obtain⟨A1,d1,rfl,hd1⟩:=own_form hr1;have c1:=hb1.cell;have f1:=hb1.frozen;have c2:=hb2.cell;have f2:=hb2.frozen;have HB1:=hid hb1;have HB2:=hid hb2;have HR1:=hid hr1;have HB:=hid hB;have HK:=hid hK;have HYS:=hid hys;clear hb1 hb2 hr1 hB hK hys
  gi_wp2
  gi_region
  all_goals
   gi_wp2
   refine⟨by simp,.inl ?_⟩;obtain⟨Wf,hWf⟩:∃ Wf:World,Wf=((W.setCell ⟨w.heap.size,0,none⟩ (.slice A1 LB.length d1)).setCell ⟨w.heap.size+1,0,none⟩ (.int .i64 (eW:Int))).drew:=⟨_,rfl⟩;rw[← hWf]
   have e1:Boxed Wf w.heap.size 22 (.slice A1 LB.length d1):=by rw[hWf];exact(HB1.out.set _).other (by omega) _
   have e2:Boxed Wf (w.heap.size+1) 3 (.int .i64 (eW:Int)):=by
    rw[hWf];exact(HB2.out.other (B':=w.heap.size) (by omega) _).set _
   have eK:Wf.heap[D]?=some (.deferred (some [])):=by
    rw[hWf];exact((KeepsOthers.setCell _ _ _).trans (KeepsOthers.setCell _ _ _)).same D _ HK.out rfl
   have o1:Wf.ownsRow W0.heap.size 9 1 (.slice A1 LB.length d1) LB.length (LB.flatMap encStr):=by
    rw[hWf];have q1:=(HR1.out.kept (grownBy_setCell' W w.heap.size (.slice A1 LB.length d1)) (.inr (own_ge HR1.out (by omega:w.heap.size<W0.heap.size)).symm)).kept (grownBy_setCell' _ (w.heap.size+1) (.int .i64 (eW:Int))) (.inr (own_ge HR1.out (by omega:w.heap.size+1<W0.heap.size)).symm);exact q1
   have hbf:Below w.heap.size W Wf:=by
    rw[hWf];exact(((Below.refl w.heap.size W).setCell (p:=⟨w.heap.size,0,none⟩) (Nat.le_refl _) _).setCell (p:=⟨w.heap.size+1,0,none⟩) (by simp) _).drew
   clear hWf;refine⟨_,_,rfl,run_takeDeferred eK,?_⟩;have gD:=grownBy_putObj' Wf D (.deferred none);have p1:=(e1.kept gD (by simp;omega)).cell;have p2:=(e2.kept gD (by simp;omega)).cell;have q1:=ownsRow_putObj o1 (.deferred none) eK rfl;have hfin:Below w.heap.size w (Wf.putObj D (.deferred none)):=HB.out.trans (hbf.trans (belowK_b (w:=w) (Nat.le_refl _) Wf D _ _ (by omega) eK rfl rfl));refine⟨.tuple #[.slice A1 LB.length d1,.int .i64 (eW:Int)],?_,⟨_,_,LB,rfl,own_lower q1 (by omega),HLS.out,hfin⟩⟩;simp[results,Tryz.f18,go_sem,p1,p2]
 case stop =>
  rintro D q pre W hD hys ⟨⟨⟨v1,hb1,hr1,_⟩,hb2,hB,hbs⟩,rfl,hp60⟩ hK;obtain⟨LB,hLB⟩:∃ LB,LB=linesR ((recL pre).take 60):=⟨_,rfl⟩;obtain⟨eW,heW⟩:∃ eW,eW=endW ((recL pre).take 60):=⟨_,rfl⟩;rw[← hLB] at hr1;rw[← heW] at hb2
  have hls:linesB LB=(readW 60 bs 5).1∧eW=(readW 60 bs 5).2:=by
   have ht:(recsW bs 0 5).take 60=(recL pre).take 60:=by
    obtain⟨t,ht⟩:=hys;rw[← ht,List.take_append_of_le_length (by simpa[recL] using hp60)]
    rfl
   rw[read_recs0,ht,hLB,heW,linesR_B];exact⟨rfl,rfl⟩
  have HLS:=hid hls;clear hLB heW hls;obtain⟨A1,d1,rfl,hd1⟩:=own_form hr1;have c1:=hb1.cell;have f1:=hb1.frozen;have c2:=hb2.cell;have f2:=hb2.frozen;have HB1:=hid hb1;have HB2:=hid hb2;have HR1:=hid hr1;have HB:=hid hB;have HK:=hid hK;have HYS:=hid hys;clear hb1 hb2 hr1 hB hK hys
  gi_wp2
  gi_region
  all_goals
   gi_wp2
   refine⟨by simp,.inl ?_⟩;obtain⟨Wf,hWf⟩:∃ Wf:World,Wf=((W.setCell ⟨w.heap.size,0,none⟩ (.slice A1 LB.length d1)).setCell ⟨w.heap.size+1,0,none⟩ (.int .i64 (eW:Int))).drew:=⟨_,rfl⟩;rw[← hWf]
   have e1:Boxed Wf w.heap.size 22 (.slice A1 LB.length d1):=by rw[hWf];exact(HB1.out.set _).other (by omega) _
   have e2:Boxed Wf (w.heap.size+1) 3 (.int .i64 (eW:Int)):=by
    rw[hWf];exact(HB2.out.other (B':=w.heap.size) (by omega) _).set _
   have eK:Wf.heap[D]?=some (.deferred (some [])):=by
    rw[hWf];exact((KeepsOthers.setCell _ _ _).trans (KeepsOthers.setCell _ _ _)).same D _ HK.out rfl
   have o1:Wf.ownsRow W0.heap.size 9 1 (.slice A1 LB.length d1) LB.length (LB.flatMap encStr):=by
    rw[hWf];have q1:=(HR1.out.kept (grownBy_setCell' W w.heap.size (.slice A1 LB.length d1)) (.inr (own_ge HR1.out (by omega:w.heap.size<W0.heap.size)).symm)).kept (grownBy_setCell' _ (w.heap.size+1) (.int .i64 (eW:Int))) (.inr (own_ge HR1.out (by omega:w.heap.size+1<W0.heap.size)).symm);exact q1
   have hbf:Below w.heap.size W Wf:=by
    rw[hWf];exact(((Below.refl w.heap.size W).setCell (p:=⟨w.heap.size,0,none⟩) (Nat.le_refl _) _).setCell (p:=⟨w.heap.size+1,0,none⟩) (by simp) _).drew
   clear hWf;refine⟨_,_,rfl,run_takeDeferred eK,?_⟩;have gD:=grownBy_putObj' Wf D (.deferred none);have p1:=(e1.kept gD (by simp;omega)).cell;have p2:=(e2.kept gD (by simp;omega)).cell;have q1:=ownsRow_putObj o1 (.deferred none) eK rfl;have hfin:Below w.heap.size w (Wf.putObj D (.deferred none)):=HB.out.trans (hbf.trans (belowK_b (w:=w) (Nat.le_refl _) Wf D _ _ (by omega) eK rfl rfl));refine⟨.tuple #[.slice A1 LB.length d1,.int .i64 (eW:Int)],?_,⟨_,_,LB,rfl,own_lower q1 (by omega),HLS.out,hfin⟩⟩;simp[results,Tryz.f18,go_sem,p1,p2]
theorem Recover_c {A:Option Addr}{n c:Nat}{bs:List UInt8}{w:World}(h:Rd encB 1 w A n bs)(hc:n≤c)(hlen:n≤20000) :
 Calls Tryz.prog 18 #[.slice A n c] w fun e w'=>∃(v:Value) (k:Nat) (LB:List ByteArray),e=.returned (.tuple #[v,.int .i64 (k:Int)]) ∧
  w'.ownsRow w.heap.size 9 1 v LB.length (LB.flatMap encStr)∧(linesB LB=(readW 60 bs 5).1∧k=(readW 60 bs 5).2)∧Below w.heap.size w w':=callsIn_wide.1 (Recover_in A n c bs w h hc hlen)
end Go.Proofs.YtkhcliibilkefaaGreatDoor
