/- CONTRACTS of warden.weathers: the iterator over the weather lines that are accepted. -/
import Derived.Test.YtkhcliibilkefaaGreatDoorYRecover
import Derived.WalkMore
import Derived.Sort.CutIn
set_option linter.unusedVariables false
set_option linter.unusedSimpArgs false
set_option maxRecDepth 100000
set_option maxHeartbeats 8000000
namespace Go.Proofs.YtkhcliibilkefaaGreatDoor
open Lib (hid)
open Go.RowKit Go.Proofs Go.Shelf
attribute [local go_sem] Oper.semAt_some
def KpE (E:Nat→Prop)(n₀:Nat)(W W':World):Prop:=Below n₀ W W'∧∀ g o,¬ E g→W.heap[g]?=some o→o.isCells=true→W'.heap[g]?=some o
section
variable {E:Nat→Prop} {n₀:Nat} {W W' W2:World}
theorem kpE_refl (W:World):KpE E n₀ W W:=⟨Below.refl _ _,fun _ _ _ h _=>h⟩
theorem kpE_t {A B C:World}(h:KpE E n₀ A B)(k:KpE E n₀ B C):KpE E n₀ A C:=⟨h.1.trans k.1,fun g o hE ho hc=>k.2 g o hE (h.2 g o hE ho hc) hc⟩
theorem kpE_b {w:World}(hn:n₀≤w.heap.size)(W:World)(l:Nat)(o o':Obj)(hl:w.heap.size≤l)(h:W.heap[l]?=some o)(hc:o.isCells=false)(hw:o.isWalk=false):KpE E n₀ W (W.putObj l o') :=
 ⟨belowK_b hn W l o o' hl h hc hw,fun g q _ hq hqc=>by
  have hlt:=(Array.getElem?_eq_some_iff.1 hq).1
  have hne:g≠l:=fun e=>by subst e;rw[hq] at h;cases h;rw[hqc] at hc;cases hc
  rw[(grownBy_putObj' W l o').block g hlt (by simpa using hne)]
  exact hq⟩
theorem KpE.of_fr (hf:Fr E W W')(hE:∀ g,E g→n₀≤g)(hn:n₀≤W.heap.size):KpE E n₀ W W' :=
 ⟨hf.below hn hE,fun g o hg ho _=>by rw[hf.block g (Array.getElem?_eq_some_iff.1 ho).1 hg];exact ho⟩
theorem KpE.boxed (h:KpE E n₀ W W'){B:Nat}{t:TypeId}{v:Value}(hb:Boxed W B t v)(hE:¬ E B):Boxed W' B t v:=h.2 B _ hE hb rfl
theorem cell_obj {g i:Nat}{v:Value}(h:W.cell? ⟨g,i,none⟩=some v):∃ o,W.heap[g]?=some o∧o.isCells=true:=by
 unfold World.cell? at h
 cases ho:W.heap[g]? with
 | none=>simp[ho] at h
 | some o =>
  cases o with
  | cells cs e fr=>exact⟨_,rfl,rfl⟩
  | _=>simp[ho] at h
theorem KpE.cell (h:KpE E n₀ W W'){g i:Nat}{v:Value}(hc:W.cell? ⟨g,i,none⟩=some v)(hE:¬ E g):W'.cell? ⟨g,i,none⟩=some v:=by
 obtain⟨o,ho,hoc⟩:=cell_obj hc;rw[World.cell?_of_block (w:=W) (a:=⟨g,i,none⟩) ((h.2 g o hE ho hoc).trans ho.symm)];exact hc
theorem KpE.rd (h:KpE E n₀ W W'){α:Type}{enc:α→List Value}{k:Nat}{A:Option Addr}{n:Nat}{l:List α}(hr:Rd enc k W A n l)(hE:0<n→∀ ad,A=some ad→¬ E ad.block):Rd enc k W' A n l :=
 ⟨hr.1,fun hn=>by
  obtain⟨b,o,e,hlt,hc⟩:=hr.2 hn
  exact⟨b,o,e,Nat.lt_of_lt_of_le hlt h.1.size,fun i x hx j v hv=>h.cell (hc i x hx j v hv) (hE hn _ e)⟩⟩
end
structure WM (W:World) (Lb Eb Sb s n:Nat) (A:Option Addr) (c:Nat) (LL:List ByteArray) (EA:Option Addr) (ec:Nat) (es:List Int) (LA:Option Addr) (ln lc:Nat) (lv:List Int):Prop where
 lb:Boxed W Lb 22 (.slice A n c)
 eb:Boxed W Eb 43 (.slice EA n ec)
 sb:Boxed W Sb 71 (.pointer (some ⟨s,0,none⟩))
 ls:Rd encStr 1 W A n LL
 er:Rd enc1 1 W EA n es
 lvc:W.cell? ⟨s,13,none⟩=some (.slice LA ln lc)
 lr:Rd enc1 1 W LA ln lv
structure WFar (E:Nat→Prop) (Lb Eb Sb s n:Nat) (A EA LA:Option Addr) (ln:Nat):Prop where
 lb:¬ E Lb
 eb:¬ E Eb
 sb:¬ E Sb
 s:¬ E s
 ls:0<n→∀ ad,A=some ad→¬ E ad.block
 er:0<n→∀ ad,EA=some ad→¬ E ad.block
 lr:0<ln→∀ ad,LA=some ad→¬ E ad.block
section
variable {E:Nat→Prop} {n₀ Lb Eb Sb s n c ec ln lc:Nat} {A EA LA:Option Addr} {LL:List ByteArray} {es lv:List Int} {W W':World}
theorem WM.kpE (h:WM W Lb Eb Sb s n A c LL EA ec es LA ln lc lv)(hf:WFar E Lb Eb Sb s n A EA LA ln)(hk:KpE E n₀ W W'):WM W' Lb Eb Sb s n A c LL EA ec es LA ln lc lv :=
 ⟨hk.boxed h.lb hf.lb,hk.boxed h.eb hf.eb,hk.boxed h.sb hf.sb,hk.rd h.ls hf.ls,hk.rd h.er hf.er,hk.cell h.lvc hf.s,hk.rd h.lr hf.lr⟩
end
abbrev WxE:={ x:Nat×Int // x.1≤1000 }
abbrev encWx (x:WxE):Array Value:=#[.int .i64 (x.1.1:Int),.int .i64 x.1.2]
theorem weathers1_in (n:Nat)(hn:2≤n)(E:Nat→Prop)(l n₀ N Lb Eb Sb s nL c ec ln lc:Nat)(A EA LA:Option Addr)(LL:List ByteArray)(es lv:List Int)(hnl:nL≤1000)
 (hp:∀(k:Nat) (p:List UInt8),(linesB LL)[k]?=some p→es[k]?=some 0→preW p=isW p) (hlv:lv.length=(weathI 0 (linesB LL) es).length) (hN:(weathL (linesB LL) es lv).length≤N) (hf:WFar E Lb Eb Sb s nL A EA LA ln)
 (J Jx:List WxE→World→Prop)
 (hY:∀ pre x W,J pre W→pre.length<N→YieldAt Fence.wide (n - 1) Tryz.prog l (encWx x) W fun e W' =>
  (e=.returned (.bool true)∧J (pre++[x]) W'∧KpE E n₀ W W')∨(e=.returned (.bool false)∧Jx (pre++[x]) W'))
 (W:World) (hm:WM W Lb Eb Sb s nL A c LL EA ec es LA ln lc lv) (h0:J [] W) :
 CallsIn Fence.wide n Tryz.prog 59 #[.func (.yield l) #[] #[],.pointer (some ⟨Lb,0,none⟩),.pointer (some ⟨Eb,0,none⟩),.pointer (some ⟨Sb,0,none⟩)] W fun e W'=>(∃ v,e=.returned v) ∧
  ((∃ ys,ys.map (·.1)=weathL (linesB LL) es lv∧J ys W')∨(∃ pre,pre.map (·.1) <+: weathL (linesB LL) es lv∧Jx pre W')):=by
 have h1:1≤n:=by omega
 refine callsIn_of_wp Tryz.func59 rfl trivial ?_ rfl;simp only[Tryz.ntmps59,List.size_toArray,List.length_cons,List.length_nil,Nat.reduceAdd,Nat.reduceSub,Array.replicate_succ,Array.replicate_zero,List.push_toArray,List.append_toArray,List.nil_append,List.cons_append];obtain⟨S,hS⟩:∃ S,S=linesB LL:=⟨_,rfl⟩;rw[← hS] at hp hlv hN ⊢
 have hsl:S.length=nL:=by rw[hS];unfold linesB;rw[List.length_map,hm.ls.len]
 have hel:=hm.er.len;have HM:=hid hm;have HY:=hid hY;have HN:=hid hN;have HP:=hid hp;have HLV:=hid hlv;have HF:=hid hf;have HS:=hid hS;have HSL:=hid hsl;have HEL:=hid hel;have c1:=hm.lb.cell;clear hm hY hN hp hlv hf hS hsl hel
 gi_wp2
 gi_loopw [5,10] (fun dv jv wr=>∃(j d:Nat) (pre:List WxE),jv=.int .i64 j∧dv=.int .i64 d∧j≤nL∧d=(weathI 0 (S.take j) (es.take j)).length∧pre.map (·.1)=(weathL S es lv).take d∧J pre wr∧KpE E n₀ W wr) (fun _ jv _=>nL - (intOf jv).toNat)
 case atStart=>exact⟨0,0,[],rfl,rfl,Nat.zero_le _,rfl,rfl,h0,kpE_refl W⟩
 case round =>
  obtain⟨j,d,pre,rfl,rfl,hj,hd,hpre,hJs,hk⟩:=hrel;have hm:=HM.out.kpE HF.out hk;have HD:=hid hd;have HPRE:=hid hpre;have HK:=hid hk;clear hd hpre hk c1
  by_cases hlt:j<nL
  · obtain⟨b1,o1,p,rfl,hpp,q1⟩:=str_at hm.ls hlt
    obtain⟨b2,o2,e,rfl,_,hee,q2'⟩:=hm.er.at_ hlt;have q2:=q2' 0 _ rfl;simp only[Nat.mul_one,Nat.add_zero] at q2
    have hsj:S[j]?=some p.data.toList:=by rw[HS.out];exact linesB_at hpp
    have b0:=hm.eb.cell
    have hi1:(j:Int)<(nL:Int):=by omega
    have hi0:(0:Int)≤(j:Int):=by omega
    have HSJ:=hid hsj;have HEE:=hid hee
    have hlen:es.length=S.length:=by rw[HSL.out,HEL.out]
    have HLEN:=hid hlen
    have hdb:d≤lv.length:=by
     obtain⟨t,ht⟩:=weathI_pre (l:=S) (es:=es) j hlen;rw[HD.out,HLV.out,ht];simp
    have hvb:lv.length≤nL:=by
     rw[HLV.out]
     have:∀(l:List (List UInt8)) (es:List Int) (i:Nat),(weathI i l es).length≤l.length:=by
      intro l
      induction l with
      | nil=>intro es i;cases es<;>simp[weathI]
      | cons a l ih =>
       intro es i
       cases es with
       | nil=>simp[weathI]
       | cons f es =>
        rw[weathI];have:=ih es (i+1)
        split<;>simp<;>omega
     have:=this S es 0;rw[HSL.out] at this;exact this
    clear q2' hpp hsj hee hlen
    by_cases he0:e=0
    · subst he0
      have hpw:=HP.out j _ HSJ.out HEE.out;have HPF:=hid (fun W=>strings_HasPrefix p ⟨#[119,101,97,116,104,101,114,32]⟩ W);have hpx:Lib.hasPrefix p.data.toList (⟨#[119,101,97,116,104,101,114,32]⟩:ByteArray).data.toList=isW p.data.toList:=hpw;rw[hpx] at HPF;clear hpw hpx
      cases hW:isW p.data.toList with
      | true =>
       obtain⟨v,hv,htk,hsu⟩:=weathL_step HLEN.out HLV.out HSJ.out HEE.out (by rw[hW];rfl);rw[← HD.out] at hv htk hsu;rw[hW] at HPF
       have hdl:d<ln:=by rw[← hm.lr.len];exact(List.getElem?_eq_some_iff.1 hv).1
       obtain⟨b3,o3,v',rfl,_,hv',q3'⟩:=hm.lr.at_ hdl;obtain rfl:=Option.some.inj (hv.symm.trans hv');have q3:=q3' 0 _ rfl;simp only[Nat.mul_one,Nat.add_zero] at q3;have s0:=hm.sb.cell;have s1:=hm.lvc
       have hd1:(d:Int)<(ln:Int):=by omega
       have hd0:(0:Int)≤(d:Int):=by omega
       have hplen:pre.length<N:=by
        have h2:=congrArg List.length HPRE.out;rw[List.length_map,List.length_take] at h2;have h3:=congrArg List.length htk;rw[List.length_append,List.length_take,List.length_take] at h3;simp at h3;have:=HN.out;omega
       obtain⟨fn,tmps,assign,body,hy,hR⟩:=HY.out pre ⟨(j,v),by dsimp only;omega⟩ wr hJs hplen;dsimp only[encWx] at hy;have HTK:=hid htk;have HSU:=hid hsu;have HM2:=hid hm;clear hv hv' htk hsu q3' hm
       gi_wp2_with (refine⟨trivial,?_⟩;gi_at_call 38;refine(callsIn_wide.2 (HPF.out _)).mono ?_;rintro e w2 ⟨rfl,rfl⟩)
       refine hR.mono ?_;rintro e W3 (⟨rfl,hJ3,hk3⟩ | ⟨rfl,hJx3⟩)
       · gi_wp2
         go_roundw
         case rel =>
          refine⟨j+1,d+1,_,by go_num,by go_num,by omega,HSU.out.symm,?_,hJ3,kpE_t HK.out hk3⟩;rw[List.map_append,HPRE.out,HTK.out];rfl
         case measure=>simp[intOf];omega
       · gi_wp2
         refine bodyPost_ret (results_none rfl _ _ _) rfl ?_;refine⟨⟨_,rfl⟩,.inr ⟨_,?_,hJx3⟩⟩
         have e9:(pre++[(⟨(j,v),by dsimp only;omega⟩:WxE)]).map (·.1)=(weathL S es lv).take (d+1):=by rw[List.map_append,HPRE.out,HTK.out];rfl
         rw[e9];exact List.take_prefix _ _
      | false =>
       have hsk:=weathL_skip HLEN.out HSJ.out HEE.out (by rw[hW];rfl);rw[← HD.out] at hsk;have HSK:=hid hsk;rw[hW] at HPF;clear hsk hm
       gi_wp2_with (refine⟨trivial,?_⟩;gi_at_call 38;refine(callsIn_wide.2 (HPF.out _)).mono ?_;rintro e w2 ⟨rfl,rfl⟩)
       go_roundw
       case rel=>exact⟨j+1,d,pre,by go_num,rfl,by omega,HSK.out.symm,HPRE.out,hJs,HK.out⟩
       case measure=>simp[intOf];omega
    · have heb:(e != 0)=true:=by simpa using he0
      have hsk:=weathL_skip HLEN.out HSJ.out HEE.out (by simp[he0]);rw[← HD.out] at hsk;have HSK:=hid hsk;clear hsk hm
      gi_wp2
      refine⟨trivial,?_⟩
      gi_wp2
      go_roundw
      case rel=>exact⟨j+1,d,pre,by go_num,rfl,by omega,HSK.out.symm,HPRE.out,hJs,HK.out⟩
      case measure=>simp[intOf];omega
  · obtain rfl:j=nL:=by omega
    have hall:pre.map (·.1)=weathL S es lv:=by
     have hs1:S.take j=S:=List.take_of_length_le (by rw[HSL.out];exact Nat.le_refl _);have hs2:es.take j=es:=List.take_of_length_le (by rw[HEL.out];exact Nat.le_refl _);rw[HPRE.out,HD.out,hs1,hs2,List.take_of_length_le (by unfold weathL;rw[List.length_zip];omega)]
    have HALL:=hid hall;clear hall hm
    gi_wp2
    go_end0
    exact⟨⟨_,rfl⟩,.inl ⟨pre,HALL.out,hJs⟩⟩
theorem weathers_stops (n:Nat)(hn:2≤n)(E:Nat→Prop)(n₀ N Lb Eb Sb s nL c ec ln lc:Nat)(A EA LA:Option Addr)(LL:List ByteArray)(es lv:List Int)(w:World)(hnl:nL≤1000)
 (hp:∀(k:Nat) (p:List UInt8),(linesB LL)[k]?=some p→es[k]?=some 0→preW p=isW p) (hlv:lv.length=(weathI 0 (linesB LL) es).length) (hN:(weathL (linesB LL) es lv).length≤N) (hf:WFar E Lb Eb Sb s nL A EA LA ln)
 (hm:WM w Lb Eb Sb s nL A c LL EA ec es LA ln lc lv) :
 SeqStopsK Fence.wide n Tryz.prog 59 #[.pointer (some ⟨Lb,0,none⟩),.pointer (some ⟨Eb,0,none⟩),.pointer (some ⟨Sb,0,none⟩)] encWx (KpE E n₀) (fun ys=>ys.map (·.1)=weathL (linesB LL) es lv) (fun pre=>pre.map (·.1) <+: weathL (linesB LL) es lv) N w:=fun l J Jx W hW hJ _ hY h0=>by
 exact weathers1_in n hn E l n₀ N Lb Eb Sb s nL c ec ln lc A EA LA LL es lv hnl hp hlv hN hf J Jx hY W (hm.kpE (n₀:=w.heap.size) hf ⟨hW,fun g o _ ho _=>(hW.block g (Array.getElem?_eq_some_iff.1 ho).1).trans ho⟩) h0
def WeathR (w:World)(A:Option Addr)(n c:Nat)(LL:List ByteArray)(e:Ending)(w':World):Prop:=∃(Lb Eb Sb s:Nat) (x:SAd) (EA:Option Addr) (ec:Nat),
 e=.returned (.func (.func 59) #[] #[.pointer (some ⟨Lb,0,none⟩),.pointer (some ⟨Eb,0,none⟩),.pointer (some ⟨Sb,0,none⟩)]) ∧
 WM w' Lb Eb Sb s n A c LL EA ec (runP Ga.readOf (-1) 0 begS 0 (linesB LL)).2 x.le.A x.le.n x.le.c (runP Ga.readOf (-1) 0 begS 0 (linesB LL)).1.levels ∧
 (∀ E:Nat→Prop,(∀ g,E g→g<w.heap.size)→(0<n→∀ ad,A=some ad→¬ E ad.block)→WFar E Lb Eb Sb s n A EA x.le.A x.le.n)∧Below w.heap.size w w'
theorem weathers_c (m:Nat)(h1:1≤m){A:Option Addr}{n c:Nat}{LL:List ByteArray}{w:World}(h:Rd encStr 1 w A n LL)(hn:n≤60)(hs:∀ p∈LL,p.size≤300)(hl:Lay w) :
 CallsIn Fence.wide m Tryz.prog 39 #[.slice A n c] w fun e w'=>WeathR w A n c LL e w':=by
 have hmf:∀(fn:Fn) (first cap:Array Value) (w:World),(Instr.makeFunc fn first cap).run Tryz.prog w=.ok (.func fn first cap) w:=fun _ _ _ _=>rfl;have hb1:=(Below.refl w.heap.size w).alloc (Nat.le_refl _) (.cells #[.slice A n c] 22);have hbx:=Boxed.new w 22 (.slice A n c);have HR:=hid (wrun_c (c:=c) (line:=-1) (more:=0) (h.below hb1) hn hs (hl.below hb1) (by omega));have H:=hid h;have HB1:=hid hb1;have HBX:=hid hbx;have b0:=hbx.cell;clear h hl hb1 hbx hs hn;refine callsIn_of_wp Tryz.func39 rfl trivial ?_ rfl;simp only[Tryz.ntmps39,List.size_toArray,List.length_cons,List.length_nil,Nat.reduceAdd,Nat.reduceSub,Array.replicate_succ,Array.replicate_zero,List.push_toArray,List.append_toArray,List.nil_append,List.cons_append]
 gi_wp2_with (refine⟨trivial,?_⟩;gi_at_call 25;refine(callsIn_wide.2 HR.out).mono ?_;rintro e w2 ⟨s,x,ve,rfl,hsa,hown,hge,hb2⟩;obtain⟨EA,ec,rfl,hec⟩:=own_form hown)
 go_ret
 have hal:=((Below.refl w2.heap.size w2).alloc (Nat.le_refl _) (.cells #[.pointer (some ⟨s,0,none⟩)] 71)).alloc (by simp) (.cells #[.slice EA n ec] 43);have hb3:=below_tr HB1.out (below_tr hb2 hal)
 have hsz1:(w.alloc (.cells #[.slice A n c] 22)).heap.size=w.heap.size+1:=by simp
 have hsz2:=hb2.size;have hbx2:Boxed w2 w.heap.size 22 (.slice A n c):=(hb2.block _ (by omega)).trans HBX.out;have hbx3:=(hbx2.alloc (.cells #[.pointer (some ⟨s,0,none⟩)] 71)).alloc (.cells #[.slice EA n ec] 43);have hsb:=(Boxed.new w2 71 (.pointer (some ⟨s,0,none⟩))).alloc (.cells #[.slice EA n ec] 43);have heb:=Boxed.new (w2.alloc (.cells #[.pointer (some ⟨s,0,none⟩)] 71)) 43 (.slice EA n ec);simp only[World.size_alloc] at heb;have hc13:=(hsa.below hal).blk.cell 13;simp[sessV] at hc13
 have hel:(runP Ga.readOf (-1) 0 begS 0 (linesB LL)).2.length=n:=by rw[runP_len];unfold linesB;rw[List.length_map,H.out.len]
 refine⟨w.heap.size,w2.heap.size+1,w2.heap.size,s,x,EA,ec,rfl,⟨hbx3,heb,hsb,H.out.below hb3,Rd.of_own enc1_len (own_mono hown hal) hel,hc13,(hsa.below hal).rows.le.rd⟩,fun E hE hA=>?_,hb3⟩;have hge1:=hge.1;refine⟨fun h=>?_,fun h=>?_,fun h=>?_,fun h=>?_,hA,fun hn ad e h=>?_,fun hn ad e h=>?_⟩
 · have:=hE _ h;omega
 · have:=hE _ h;omega
 · have:=hE _ h;omega
 · have:=hE _ h;omega
 · have h1:=hE _ h
   have h2:=(hown.lt ad.block (by rw[e];rfl)).1;omega
 · have h1:=hE _ h
   exact(hge.2 ad.block (by omega)).le ad e hn rfl
def wxL (pre:List WxE):List (Nat×Int):=pre.map (·.1)
end Go.Proofs.YtkhcliibilkefaaGreatDoor
namespace Go.Proofs.YtkhcliibilkefaaGreatDoor
open Lib (hid)
open Go.RowKit Go.Proofs Go.Shelf
attribute [local go_sem ↓] Go.wp_at_zero Go.wp_at_succ
def levS (LL:List ByteArray)(line more:Int):List Int:=(runP Ga.readOf line more begS 0 (linesB LL)).1.levels
def keepsP (LL:List ByteArray)(line more:Int):Bool:=allLe (levS LL line more) (levS LL (-1) 0)
structure KM (w:World) (Bl Bi Bb s0 n:Nat) (A:Option Addr) (c:Nat) (LL:List ByteArray) (line:Int) (LA:Option Addr) (ln lc:Nat):Prop where
 bl:Boxed w Bl 22 (.slice A n c)
 bi:Boxed w Bi 3 (.int .i64 line)
 bb:Boxed w Bb 71 (.pointer (some ⟨s0,0,none⟩))
 ls:Rd encStr 1 w A n LL
 lt:s0<w.heap.size
 lvc:w.cell? ⟨s0,13,none⟩=some (.slice LA ln lc)
 lr:Rd enc1 1 w LA ln (levS LL (-1) 0)
theorem boxed_below {w w':World}{B:Nat}{t:TypeId}{v:Value}(h:Boxed w B t v)(hb:Below w.heap.size w w'):Boxed w' B t v:=(hb.block B h.lt).trans h
theorem KM.below {w w':World}{Bl Bi Bb s0 n:Nat}{A:Option Addr}{c:Nat}{LL:List ByteArray}{line:Int}{LA:Option Addr}{ln lc:Nat}(h:KM w Bl Bi Bb s0 n A c LL line LA ln lc)(hb:Below w.heap.size w w'):KM w' Bl Bi Bb s0 n A c LL line LA ln lc :=
 ⟨boxed_below h.bl hb,boxed_below h.bi hb,boxed_below h.bb hb,h.ls.below hb,Nat.lt_of_lt_of_le h.lt hb.size,(hb.cell (p:=⟨s0,13,none⟩) h.lt).trans h.lvc,h.lr.below hb⟩
theorem keeps_c {w:World}{Bl Bi Bb s0 n:Nat}{A:Option Addr}{c:Nat}{LL:List ByteArray}{line more:Int}{LA:Option Addr}{ln lc:Nat}(h:KM w Bl Bi Bb s0 n A c LL line LA ln lc)(hn:n≤60)(hs:∀ p∈LL,p.size≤300)(hl:Lay w)(hmo:0≤more∧more≤1000)(hlen:(levS LL line more).length=(levS LL (-1) 0).length) :
 Calls Tryz.prog 40 #[.int .i64 more,.pointer (some ⟨Bl,0,none⟩),.pointer (some ⟨Bi,0,none⟩),.pointer (some ⟨Bb,0,none⟩)] w fun e w'=>e=.returned (.bool (keepsP LL line more))∧Below w.heap.size w w':=by
 have c1:=h.bl.cell;have c2:=h.bi.cell;have HR:=hid (wrun_c (c:=c) (line:=line) (more:=more) h.ls hn hs hl hmo);have H:=hid h;have HLEN:=hid hlen;have hlv:(runP Ga.readOf line more begS 0 (linesB LL)).1.levels=levS LL line more:=rfl;have HLV:=hid hlv
 have hfull:(levS LL line more).length≤1000:=by
  have h1:=runP_okM line more (linesB LL) begS 0 begS_ok;have:=h1.levN;have:=h1.dayN;rw[← hlv];omega
 have HFULL:=hid hfull;clear h hs hl hlen hlv hfull
 go_enter Tryz.func40,Tryz.ntmps40
 go_wp2_with fail
 refine HR.out.mono ?_;rintro e w2 ⟨s,x,ve,rfl,hsa,hown,hge,hb⟩;have hle:=hsa.rows.le;rw[HLV.out] at hle;have c13:=hsa.blk.cell 13;simp[sessV] at c13;have HKM:=hid (H.out.below hb);have HLE:=hid hle;have HB:=hid hb;have hm:=hle.rd.len;have HM:=hid hm;obtain⟨A2,n2,d2⟩:∃ A2 n2,∃ d2:Nat,x.le.A=A2∧x.le.n=n2∧x.le.c=d2:=⟨_,_,_,rfl,rfl,rfl⟩;obtain⟨d2,hA2,hn2,hd2⟩:=d2;rw[hA2,hn2,hd2] at c13;rw[hn2] at HM hm;have HRD:=hid (show Rd enc1 1 w2 A2 n2 (levS LL line more) by rw[← hA2,← hn2];exact hle.rd);clear hsa hown hge hb hle hm hA2 hn2 hd2 c1 c2 HR HLE
 go_wp2_with fail
 clear c13
 go_loopw [23] (fun iv wr=>∃ k:Nat,k≤n2∧iv=.int .i64 k∧(∀(j:Nat) (v u:Int),j<k→(levS LL line more)[j]?=some v→(levS LL (-1) 0)[j]?=some u→v≤u)∧wr=w2) (fun iv _=>n2 - (intOf iv).toNat)
 case atStart=>exact⟨0,Nat.zero_le _,rfl,fun j v u hj=>by omega,rfl⟩
 case round =>
  obtain⟨k,hk,rfl,hall,rfl⟩:=hrel;have HALL:=hid hall;clear hall
  have hn1000:n2≤1000:=by have:=HM.out;have:=HFULL.out;omega
  by_cases hlt:k<n2
  · obtain⟨b1,o1,v,rfl,_,hv,hvc⟩:=HRD.out.at_ hlt
    have hln:ln=n2:=by rw[← HKM.out.lr.len,← HLEN.out,HM.out]
    obtain⟨b2,o2,u,rfl,_,hu,huc⟩:=HKM.out.lr.at_ (i:=k) (by omega);have q1:=hvc 0 _ rfl;have q2:=huc 0 _ rfl;simp only[Nat.mul_one,Nat.add_zero] at q1 q2;have c3:=HKM.out.bb.cell;have c4:=HKM.out.lvc;have HV:=hid hv;have HU:=hid hu
    have hi1:(k:Int)<(n2:Int):=by omega
    have hi2:(k:Int)<(ln:Int):=by omega
    have hi0:(0:Int)≤(k:Int):=by omega
    clear hvc huc hv hu hln
    by_cases hgt:u<v
    · have hno:keepsP LL line more=false:=by
       cases hb:keepsP LL line more with
       | false=>rfl
       | true=>have:=(allLe_iff HLEN.out).1 hb k v u HV.out HU.out;omega
      have HNO:=hid hno;clear hno
      go_wp2_with fail
      (try rw[Exit.noGoto_ret])
      go_ret
      exact⟨by rw[HNO.out];rfl,HB.out⟩
    · go_wp2_with fail
      go_roundw
      case rel =>
       refine⟨k+1,by omega,by go_num,fun j v' u' hj hv' hu'=>?_,by trivial⟩
       by_cases hjk:j<k
       · exact HALL.out j v' u' hjk hv' hu'
       · obtain rfl:j=k:=by omega
         rw[HV.out] at hv';rw[HU.out] at hu';cases hv';cases hu';omega
      case measure=>simp[intOf]<;>omega
  · obtain rfl:k=n2:=by omega
    have hyes:keepsP LL line more=true:=(allLe_iff HLEN.out).2 fun j v u hv hu=>HALL.out j v u (by rw[← HM.out];exact(List.getElem?_eq_some_iff.1 hv).1) hv hu;have HY:=hid hyes;clear hyes
    go_wp2_with fail
    go_ret
    exact⟨by rw[HY.out];rfl,HB.out⟩
end Go.Proofs.YtkhcliibilkefaaGreatDoor
namespace Go.Proofs.YtkhcliibilkefaaGreatDoor
open Lib (hid)
open Go.RowKit Go.Proofs Go.Shelf
attribute [local go_sem] Oper.semAt_some
theorem count_zip (k:Nat):∀(ix:List Nat) (lv:List Int),lv.length=ix.length→((ix.zip lv).filter (fun x=>decide (x.1<k))).length=(ix.filter (fun i=>decide (i<k))).length
 | [],[],_=>rfl
 | [],_::_,h=>by simp at h
 | _::_,[],h=>by simp at h
 | i::ix,v::lv,h=>by
  rw[List.zip_cons_cons,List.filter_cons,List.filter_cons];have:=count_zip k ix lv (by simpa using h);dsimp only
  split<;>simp[this]
theorem count_weath {l:List (List UInt8)}{es:List Int}{k:Nat}(hl:es.length=l.length)(hk:k≤l.length):((weathI 0 l es).filter (fun i=>decide (i<k))).length=(weathI 0 (l.take k) (es.take k)).length:=by
 have e:weathI 0 (l.take k++l.drop k) (es.take k++es.drop k)=_:=weathI_app (l.take k) (l.drop k) (es.take k) (es.drop k) 0 (by rw[List.length_take,List.length_take,hl]);rw[List.take_append_drop,List.take_append_drop] at e;rw[e,List.filter_append]
 have h1:(weathI 0 (l.take k) (es.take k)).filter (fun i=>decide (i<k))=weathI 0 (l.take k) (es.take k):=List.filter_eq_self.2 fun i hi=>by
  have:=weathI_ge _ _ _ _ hi;rw[List.length_take] at this;simp;omega
 have h2:(weathI (0+(l.take k).length) (l.drop k) (es.drop k)).filter (fun i=>decide (i<k))=[]:=List.filter_eq_nil_iff.2 fun i hi=>by
  have:=weathI_ge _ _ _ _ hi;rw[List.length_take] at this;simp;omega
 rw[h1,h2,List.append_nil]
def errS (LL:List ByteArray):List Int:=(runP Ga.readOf (-1) 0 begS 0 (linesB LL)).2
def bearsN (LL:List ByteArray)(k:Nat)(p:ByteArray):Int:=bsearchP (keepsP LL k) 1001 0 (1000 - rainP p.data.toList)
theorem errS_len (LL:List ByteArray):(errS LL).length=LL.length:=by unfold errS;rw[runP_len];unfold linesB;rw[List.length_map]
theorem lev_same {LL:List ByteArray}{k:Nat}{p:ByteArray}(hp:LL[k]?=some p)(he:(errS LL)[k]?=some 0){more:Int}(hm:0≤more∧more≤1000 - rainP p.data.toList):(levS LL k more).length=(levS LL (-1) 0).length:=by
 have h:=run_D Ga.readOf (fun m s hb=>stepP_ok hb) (k:Int) more (linesB LL) begS begS 0 (SimD.refl _) begS_ok begS_ok (fun j s hs hj _=>by
  obtain rfl:j=k:=by omega
  rw[linesB_at hp] at hs;cases hs
  exact hm) (fun j hj=>by
  obtain rfl:j=k:=by omega
  exact .inl he)
 exact h.2.levels
theorem rain_bd {LL:List ByteArray}{k:Nat}{p:ByteArray}(hp:LL[k]?=some p)(he:(errS LL)[k]?=some 0)(hW:isW p.data.toList=true):0≤rainP p.data.toList∧rainP p.data.toList≤1000 ∧
 ∃ d:Dy,(runP Ga.readOf (-1) 0 begS 0 (linesB LL)).1.days[(weathI 0 ((linesB LL).take k) ((errS LL).take k)).length]?=some d∧d.hi=rainP p.data.toList:=by
 obtain⟨d,hd,hr⟩:=run_day Ga.readOf (linesB LL) begS 0 0 k _ (linesB_at hp) hW he;have hok:=(runP_okM (-1) 0 (linesB LL) begS 0 begS_ok).day d (List.mem_of_getElem? hd);have h1:=(dayOk_iff.1 hok).1;rw[← hr];exact⟨by omega,by omega,d,by rw[show begS.days.length=0 from rfl,Nat.zero_add] at hd;exact hd,rfl⟩
theorem range_act {F:Fence}{n:Nat}{P:Program}{g:Operand}{ps:Array Tmp}{assign body:Code}{Q:Exit→Act→World→Prop}{a:Act}{w:World}(h:∀ a0:Act,a0=a→(Code.rangeFunc g ps assign body).wpIn F n P Q a0 w):(Code.rangeFunc g ps assign body).wpIn F n P Q a w:=h a rfl
def cntW (k:Nat)(pre:List WxE):Nat:=((wxL pre).filter (fun x=>decide (x.1<k))).length
theorem Bears_in {A:Option Addr}{n c:Nat}{LL:List ByteArray}{k:Nat}{p:ByteArray}{w:World}(h:Rd encStr 1 w A n LL)(hl:Lay w)(hck:checkL LL=0)(hp:LL[k]?=some p)(he:(errS LL)[k]?=some 0)(hW:isW p.data.toList=true) :
 CallsIn Fence.wide 8 Tryz.prog 22 #[.slice A n c,.int .i64 k] w fun e w'=>e=.returned (.tuple #[.int .i64 (bearsN LL k p),.int .i64 0])∧Below w.heap.size w w':=by
 obtain⟨RES,hRES⟩:∃ RES,RES=bearsN LL k p:=⟨_,rfl⟩;rw[← hRES];have HRE:=hid hRES;clear hRES;obtain⟨hn,hs⟩:=checkL_zero hck;rw[h.len] at hn
 have hkn:k<n:=by rw[← h.len];exact(List.getElem?_eq_some_iff.1 hp).1
 obtain⟨hr0,hr1,dd,hdd,hdh⟩:=rain_bd hp he hW;have hpx:Lib.hasPrefix p.data.toList (⟨#[119,101,97,116,104,101,114,32]⟩:ByteArray).data.toList=true:=isW_pre hW;have HPF:=hid (fun W=>strings_HasPrefix p ⟨#[119,101,97,116,104,101,114,32]⟩ W);rw[hpx] at HPF;have hin:inB (k:Int) 0 ((n:Int) - 1)=true:=inB_iff.2 (by omega);have H:=hid h;have HL:=hid hl;have HS:=hid hs;have HCK:=hid hck;have HP:=hid hp;have HEE:=hid he;have HDD:=hid hdd;have HDH:=hid hdh;have HWW:=hid hW;have hmf:∀(fn:Fn) (first cap:Array Value) (w:World),(Instr.makeFunc fn first cap).run Tryz.prog w=.ok (.func fn first cap) w:=fun _ _ _ _=>rfl;have hb0:=((Below.refl w.heap.size w).alloc (Nat.le_refl _) (.cells #[.slice A n c] 22)).alloc (by simp) (.cells #[.int .i64 (k:Int)] 3);have hbl:=(Boxed.new w 22 (.slice A n c)).alloc (.cells #[.int .i64 (k:Int)] 3);have hbi:=Boxed.new (w.alloc (.cells #[.slice A n c] 22)) 3 (.int .i64 (k:Int))
 have hsz1:((w.alloc (.cells #[.slice A n c] 22)).alloc (.cells #[.int .i64 (k:Int)] 3)).heap.size=w.heap.size+1+1:=by simp
 simp only[World.size_alloc] at hbi;have HC:=hid (chkL_c (c:=c) (H.out.below hb0));have a0:=hbl.cell;have a1:=hbi.cell
 have e1:1≤(8:Nat):=by omega
 clear h hl hck hp he hdd hdh hW hpx hs;refine callsIn_of_wp_marks Tryz.func22 rfl trivial ?_ rfl;simp only[Tryz.ntmps22,List.size_toArray,List.length_cons,List.length_nil,Nat.reduceAdd,Nat.reduceSub,Array.replicate_succ,Array.replicate_zero,List.push_toArray,List.append_toArray,List.nil_append,List.cons_append]
 gi_upto_region 6 with (first | (refine⟨trivial,?_⟩;gi_at_call 24;refine(callsIn_wide.2 HC.out).mono ?_;rintro e w1 ⟨rfl,hb1⟩;rw[HCK.out];have hbl1:=boxed_below hbl hb1;have hbi1:=boxed_below hbi hb1;have d0:=hbl1.cell;have d1:=hbi1.cell) | (refine⟨trivial,?_⟩;gi_at_call 37;refine(callsIn_wide.2 (wwithin_c _ _ _ _)).mono ?_;rintro e w2 ⟨rfl,hb2⟩;rw[hin]))
 have hbw2:=below_tr hb0 (below_tr hb1 hb2);have HR:=hid (wrun_c (c:=c) (line:=-1) (more:=0) (H.out.below hbw2) hn HS.out (HL.out.below hbw2) (by omega));have hbl2:=boxed_below hbl1 hb2;have hbi2:=boxed_below hbi1 hb2;clear a0 a1 d0 d1 hbl hbi hbl1 hbi1 hb0 hb1 hb2 HC hsz1 hin;have d0:=hbl2.cell;have d1:=hbi2.cell;have hw2:=hbw2.size
 gi_upto_region 7 with (refine⟨trivial,?_⟩;gi_at_call 25;refine(callsIn_wide.2 HR.out).mono ?_;rintro e w3 ⟨s0,x0,ve,rfl,hsa,hown,hge,hb3⟩;obtain⟨EA,ec,rfl,hec⟩:=own_form hown)
 clear d0 d1 HR hec;have hw3:=hb3.size;have hal:=(Below.refl w3.heap.size w3).alloc (Nat.le_refl _) (.cells #[.pointer (some ⟨s0,0,none⟩)] 71);have hbb:=Boxed.new w3 71 (.pointer (some ⟨s0,0,none⟩));have hbl4:=boxed_below (boxed_below hbl2 hb3) hal;have hbi4:=boxed_below (boxed_below hbi2 hb3) hal;have hsa4:=hsa.below hal;have her:Rd enc1 1 (w3.alloc (.cells #[.pointer (some ⟨s0,0,none⟩)] 71)) EA n (errS LL):=(Rd.of_own enc1_len hown (by rw[← H.out.len];exact errS_len LL)).below hal;have hbw4:=below_tr hbw2 (below_tr hb3 hal)
 have hblk4:w3.heap.size+1=(w3.alloc (.cells #[.pointer (some ⟨s0,0,none⟩)] 71)).heap.size:=by simp
 obtain⟨W4,hW4⟩:∃ W4,W4=w3.alloc (.cells #[.pointer (some ⟨s0,0,none⟩)] 71):=⟨_,rfl⟩;obtain⟨B7,hB7⟩:∃ B7,B7=w3.heap.size:=⟨_,rfl⟩;rw[← hW4] at hbb hbl4 hbi4 hsa4 her hbw4 hblk4 ⊢;rw[← hB7] at hbb hblk4 hw3 ⊢;have hs02:=hge.1;clear hW4 hal hsa hown hb3 hbl2 hbi2 hB7 hge
 have hkm:KM W4 w.heap.size (w.heap.size+1) B7 s0 n A c LL (k:Int) x0.le.A x0.le.n x0.le.c :=
  ⟨hbl4,hbi4,hbb,H.out.below hbw4,hsa4.blk.lt,by have:=hsa4.blk.cell 13;simpa[sessV] using this,hsa4.rows.le.rd⟩
 have HKM:=hid hkm;have HBW4:=hid hbw4;have HSA4:=hid hsa4;obtain⟨b2,o2,e2,rfl,_,hee,q2'⟩:=her.at_ hkn;obtain rfl:=Option.some.inj (HEE.out.symm.trans hee);have q2:=q2' 0 _ rfl;obtain⟨b1,o1,p1,rfl,hpp,q1⟩:=str_at hkm.ls hkn;obtain rfl:=Option.some.inj (HP.out.symm.trans hpp);simp only[Nat.mul_one,Nat.add_zero] at q2;have d0:=hbl4.cell;have d1:=hbi4.cell
 have hi1:(k:Int)<(n:Int):=by omega
 have hi0:(0:Int)≤(k:Int):=by omega
 clear hkm hbl4 hbi4 hbb her hee q2' hpp hbw4 hsa4
 gi_upto_region 10 with (refine⟨trivial,?_⟩;gi_at_call 38;refine(callsIn_wide.2 (HPF.out _)).mono ?_;rintro e w4 ⟨rfl,rfl⟩)
 have hal:=(Below.refl w4.heap.size w4).alloc (Nat.le_refl _) (.cells #[.int .i64 0] 3);have bT:=Boxed.new w4 3 (.int .i64 0)
 have hsz5:(w4.alloc (.cells #[.int .i64 0] 3)).heap.size=w4.heap.size+1:=by simp
 obtain⟨W5,hW5⟩:∃ W5,W5=w4.alloc (.cells #[.int .i64 0] 3):=⟨_,rfl⟩;rw[← hW5] at hal bT hsz5 ⊢;have hkm5:=HKM.out.below hal;have d0:=hkm5.bl.cell;have hbw5:=below_tr HBW4.out hal;have HW:=hid (weathers_c 7 (by omega) (c:=c) hkm5.ls hn HS.out (HL.out.below hbw5));clear q1 q2 hW5 hkm5 hbw5
 gi_wp2_with (refine⟨trivial,?_⟩;gi_at_call 39;refine HW.out.mono ?_;rintro e W0 ⟨Lb,Eb,Sb,s,x,EA,ec',rfl,hm,hfar,hb0⟩)
 have hp:∀(k:Nat) (p:List UInt8),(linesB LL)[k]?=some p→(runP Ga.readOf (-1) 0 begS 0 (linesB LL)).2[k]?=some 0→preW p=isW p:=fun k p h1 h2=>run_pre Ga.readOf (-1) 0 _ _ _ k p h1 h2
 have hlv:(runP Ga.readOf (-1) 0 begS 0 (linesB LL)).1.levels.length=(weathI 0 (linesB LL) (runP Ga.readOf (-1) 0 begS 0 (linesB LL)).2).length:=by
  have:=run_lv Ga.readOf (-1) 0 (linesB LL) begS 0 0
  simpa[begS] using this
 have hwn:(weathI 0 (linesB LL) (errS LL)).length≤1000:=by
  have h1:=runP_okM (-1) 0 (linesB LL) begS 0 begS_ok;have:=h1.levN;have:=h1.dayN;have h2:(runP Ga.readOf (-1) 0 begS 0 (linesB LL)).1.levels.length=(weathI 0 (linesB LL) (errS LL)).length:=hlv;omega
 have hN:(weathL (linesB LL) (runP Ga.readOf (-1) 0 begS 0 (linesB LL)).2 (runP Ga.readOf (-1) 0 begS 0 (linesB LL)).1.levels).length≤1000:=by
  unfold weathL;rw[List.length_zip];have h2:(weathI 0 (linesB LL) (runP Ga.readOf (-1) 0 begS 0 (linesB LL)).2).length≤1000:=hwn;omega
 have hE:∀ g,(g=w4.heap.size)→g<W5.heap.size:=by omega
 have hA:0<n→∀ ad,(some (⟨b1,o1,none⟩:Addr))=some ad→¬(ad.block=w4.heap.size):=fun h0 ad e=>by
  obtain⟨b',o',e',hlt,_⟩:=HKM.out.ls.2 h0;cases e;cases e';dsimp only;omega
 have hst:=weathers_stops 7 (by omega) (fun g=>g=w4.heap.size) w4.heap.size 1000 Lb Eb Sb s n c ec' x.le.n x.le.c (some ⟨b1,o1,none⟩) EA x.le.A LL (runP Ga.readOf (-1) 0 begS 0 (linesB LL)).2 (runP Ga.readOf (-1) 0 begS 0 (linesB LL)).1.levels W0 (by omega) hp hlv hN (hfar (fun g=>g=w4.heap.size) hE hA) hm;have hbW0:=below_tr hal hb0;have bT0:=boxed_below bT hb0;have hw0:=hb0.size;clear hp hN hE hA hm hfar hal bT hb0 HW d0 d1;refine range_act fun a0 ha0=>?_
 refine wpIn_rangeFunc_ownH rfl (by omega) (gf:=59) (lb:=#[.pointer (some ⟨Lb,0,none⟩),.pointer (some ⟨Eb,0,none⟩),.pointer (some ⟨Sb,0,none⟩)]) (by rw[ha0];rfl) trivial (enters_of Tryz.func59 (by kernel_rfl) rfl)
  hst kpE_t (fun W l o o' h1 h2 h3 h4=>kpE_b (w:=W0) (by omega) W l o o' h1 h2 h3 h4) (Below.refl _ _) (fun _=>rfl)
  (fun pre W=>Boxed W w4.heap.size 3 (.int .i64 (cntW k pre:Nat))∧Below w4.heap.size w4 W)
  (fun _ _ _=>False)
  (OwnFrom.and (Own.from (boxed_own _ _ _) _) (ownFrom_below (Nat.le_refl _) (by omega)))
  (fun _ _ _ _ _ hs _ _=>hs)
  ⟨bT0,hbW0⟩
  (fun x a' W=>a'={ tmps:=(a0.tmps.setIfInBounds 46 (.int .i64 (x.1.1:Int))).setIfInBounds 47 (.int .i64 x.1.2) |>.setIfInBounds 10 (.int .i64 (x.1.1:Int)),defers:=[] })
  (fun x a' _ X Y row hs hg hr=>hs)
  ?assign ?body ?done ?stop
 case assign =>
  rintro l pre x W K hI hK;subst ha0;dsimp only[encWx]
  gi_wp2
  exact hK _ _ ((KeepsOthers.refl _).from _) (kpE_refl W) hI rfl
 case body =>
  rintro l pre x a' W hl ⟨r,hr⟩ ⟨hb1,hB⟩ rfl hlt;subst ha0;simp only[List.setIfInBounds_toArray,List.set_cons_succ,List.set_cons_zero];have hkm:=HKM.out.below hB;have c1:=hb1.cell;have f1:=hb1.frozen;have c2:=hkm.bi.cell
  have hrs:wxL (pre++[x])=wxL pre++[x.1]:=by simp[wxL]
  have HB1:=hid hb1;have HB:=hid hB;have HRS:=hid hrs
  have hcn:cntW k pre≤1000:=by
   unfold cntW;refine Nat.le_trans (List.length_filter_le _ _) ?_;simp only[wxL,List.length_map];omega
  clear hb1 hB hkm hrs
  by_cases hlt2:x.1.1<k
  · have hx:((x.1.1:Nat):Int)<(k:Int):=by omega
    have hcs:cntW k (pre++[x])=cntW k pre+1:=by
     unfold cntW;rw[HRS.out,List.filter_append];simp[hlt2]
    have HCS:=hid hcs;clear hcs;obtain⟨m,hm⟩:∃ m,m=cntW k pre:=⟨_,rfl⟩;rw[← hm] at c1 hcn HB1 HCS;clear hm
    gi_wp2
    have hf:Fr (fun g=>g=w4.heap.size) W (W.setCell ⟨w4.heap.size,0,none⟩ (.int .i64 ((m:Int)+1))):=Fr.setAt (E:=fun g=>g=w4.heap.size) (Fr.refl _ W) (p:=⟨w4.heap.size,0,none⟩) (.inl rfl) _;refine⟨frKeeps hf fun g o hE hg ho=>?_,KpE.of_fr hf (fun g hg=>by omega) HB.out.size,?_,HB.out.trans (hf.below HB.out.size fun g hg=>by omega)⟩
    · rw[hE,show W.heap[w4.heap.size]?=_ from HB1.out] at ho;cases ho;rfl
    · rw[HCS.out];exact HB1.out.set _
  · have hx:¬((x.1.1:Nat):Int)<(k:Int):=by omega
    have hcs:cntW k (pre++[x])=cntW k pre:=by
     unfold cntW;rw[HRS.out,List.filter_append];simp[hlt2]
    have HCS:=hid hcs;clear hcs
    gi_wp2
    exact⟨(KeepsOthers.refl _).from _,kpE_refl W,by rw[HCS.out];exact HB1.out,HB.out⟩
 case done =>
  rintro D ys W hD hys ⟨hb1,hB⟩ hK;subst ha0;simp only[List.setIfInBounds_toArray,List.set_cons_succ,List.set_cons_zero];have hkm:=HKM.out.below hB;obtain⟨d,hd⟩:∃ d,d=(weathI 0 ((linesB LL).take k) ((errS LL).take k)).length:=⟨_,rfl⟩
  have hcd:cntW k ys=d:=by
   unfold cntW wxL;rw[hys,hd];unfold weathL;rw[count_zip k _ _ hlv];exact count_weath (by have:=errS_len LL;unfold linesB;rw[List.length_map];exact this) (by unfold linesB;rw[List.length_map,HKM.out.ls.len];omega)
  rw[hcd] at hb1;have hdd:=HDD.out;rw[← hd] at hdd;have hda:=(HSA4.out.below hB).rows.da
  have hdl:d<x0.da.n:=by rw[← hda.len];exact(List.getElem?_eq_some_iff.1 hdd).1
  obtain⟨A9,n9,hA9,hn9⟩:∃ A9 n9,A9=x0.da.A∧n9=x0.da.n:=⟨_,_,rfl,rfl⟩;have hrd9:=hda.rd;rw[← hA9,← hn9] at hrd9;rw[← hn9] at hdl;obtain⟨b9,o9,dy,rfl,_,hdy,z0,z1,z2⟩:=hrd9.atDy hdl;obtain rfl:=Option.some.inj (hdd.symm.trans hdy);rw[HDH.out] at z1;have c9:=(HSA4.out.below hB).blk.cell 9;simp[sessV] at c9;rw[← hA9,← hn9] at c9;have c1:=hb1.cell;have c3:=hkm.bb.cell
  have hi3:(d:Int)<(n9:Int):=by omega
  have hi4:(0:Int)≤(d:Int):=by omega
  have HB:=hid hB;have HK:=hid hK;obtain⟨top,htop⟩:∃ top:Int,top=1000 - rainP p.data.toList:=⟨_,rfl⟩
  have ht0:0≤top∧top≤1000:=by omega
  have hres0:bsearchP (keepsP LL k) 1001 0 top=RES:=by rw[HRE.out,htop];rfl
  have HRES:=hid hres0;clear hkm hcd hd hdd hda hrd9 hdy z0 z2 hA9 hn9 hys hb1 hB hK hres0
  gi_wp2
  gi_region
  all_goals
   gi_wp2
   gi_loopw [12,13] (fun lv hv wr=>∃(lo hi:Int) (f:Nat),lv=.int .i64 lo∧hv=.int .i64 hi∧0≤lo∧lo≤hi∧hi≤top∧hi - lo≤f∧bsearchP (keepsP LL k) f lo hi=RES∧Below w4.heap.size w4 wr∧wr.heap[D]?=some (.deferred (some []))) (fun lv hv _=>(intOf hv - intOf lv).toNat)
   case atStart=>exact⟨0,top,1001,rfl,by rw[htop],by omega,ht0.1,by omega,by omega,HRES.out,HB.out.drew,HK.out⟩
   case round =>
    obtain⟨lo,hi,f,rfl,rfl,hlo,hlh,hht,hf,hbs,hbw,heK⟩:=hrel;have HBS:=hid hbs;have HBW:=hid hbw;have HEK:=hid heK;clear hbs hbw heK c9 c1 c3 z1
    by_cases hlt:lo<hi
    · obtain⟨f,rfl⟩:∃ g,f=g+1:=⟨f - 1,by omega⟩
      obtain⟨m,hm⟩:∃ m,m=(lo+hi+1) / 2:=⟨_,rfl⟩
      have hq:(lo+hi+1).tdiv 2=m:=by rw[hm];exact Int.tdiv_eq_ediv_of_nonneg (by omega)
      have hmb:lo<m∧m≤hi:=by omega
      have hstep:=HBS.out;rw[bsearchP,if_pos hlt,← hm] at hstep;have HST:=hid hstep;have HKC:=hid (keeps_c (more:=m) (HKM.out.below HBW.out) hn HS.out (HL.out.below (below_tr HBW4.out HBW.out)) (by omega) (lev_same HP.out HEE.out (by omega)));clear hstep hm
      gi_wp2
      refine⟨trivial,?_⟩;refine(callsIn_wide.2 HKC.out).mono ?_;rintro e w6 ⟨rfl,hb6⟩;have heK6:=(hb6.block D (Array.getElem?_eq_some_iff.1 HEK.out).1).trans HEK.out;have hbw6:=below_tr HBW.out hb6
      cases hkp:keepsP LL (k:Int) m with
      | true =>
       have hs6:=HST.out;rw[hkp,if_pos rfl] at hs6;have HS6:=hid hs6;have HBW6:=hid hbw6;have HEK6:=hid heK6;clear hs6 hbw6 heK6 hkp
       gi_wp2
       go_roundw
       case rel=>exact⟨m,hi,f,rfl,rfl,by omega,by omega,hht,by omega,HS6.out,HBW6.out,HEK6.out⟩
       case measure=>simp[intOf];omega
      | false =>
       have hs6:=HST.out;rw[hkp,if_neg (by simp)] at hs6;have HS6:=hid hs6;have HBW6:=hid hbw6;have HEK6:=hid heK6;clear hs6 hbw6 heK6 hkp
       gi_wp2
       go_roundw
       case rel=>exact⟨lo,m - 1,f,rfl,by go_num,by omega,by omega,by omega,by omega,HS6.out,HBW6.out,HEK6.out⟩
       case measure=>simp[intOf];omega
    · have hfin:lo=RES:=by
       have h9:=HBS.out
       cases f with
       | zero=>exact h9
       | succ f=>rw[bsearchP,if_neg hlt] at h9;exact h9
      have HFIN:=hid hfin;clear hfin
      gi_wp2
      refine⟨by simp,.inl ?_⟩;refine⟨_,_,rfl,run_takeDeferred HEK.out,?_⟩;have hfin:Below w.heap.size w (wr.putObj D (.deferred none)):=(below_tr HBW4.out HBW.out).trans (belowK_b (w:=w) (Nat.le_refl _) wr D _ _ (by have:=HBW4.out.size;omega) HEK.out rfl rfl);exact⟨_,results_tmp2 rfl _ _ _,by rw[← HFIN.out];rfl,hfin⟩
 case stop =>
  rintro D c pre W _ _ h _;exact h.elim
theorem Bears_ok {A:Option Addr}{n c:Nat}{LL:List ByteArray}{k:Nat}{p:ByteArray}{w:World}(h:Rd encStr 1 w A n LL)(hl:Lay w)(hck:checkL LL=0)(hp:LL[k]?=some p)(he:(errS LL)[k]?=some 0)(hW:isW p.data.toList=true) :
 Calls Tryz.prog 22 #[.slice A n c,.int .i64 k] w fun e w'=>e=.returned (.tuple #[.int .i64 (bearsN LL k p),.int .i64 0])∧Below w.heap.size w w':=callsIn_wide.1 (Bears_in h hl hck hp he hW)
end Go.Proofs.YtkhcliibilkefaaGreatDoor
