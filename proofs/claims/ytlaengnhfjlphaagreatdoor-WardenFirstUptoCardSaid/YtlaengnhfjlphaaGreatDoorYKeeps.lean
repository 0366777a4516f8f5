/- CONTRACTS of warden.weathers: the iterator over the weather lines that are accepted. -/
import Derived.Test.YtlaengnhfjlphaaGreatDoorYRecover
import Derived.WalkMore
set_option linter.unusedVariables false
set_option linter.unusedSimpArgs false
set_option maxRecDepth 100000
set_option maxHeartbeats 8000000
namespace Go.Proofs.YtlaengnhfjlphaaGreatDoor
open Lib (hid)
open Go.RowKit Go.Proofs Go.Shelf
attribute [local go_sem] Oper.semAt_some
def KpE (E:Nat→Prop)(n₀:Nat)(W W':World):Prop:=Below n₀ W W'∧∀ g o,¬ E g→W.heap[g]?=some o→o.isCells=true→W'.heap[g]?=some o
section
variable {E:Nat→Prop} {n₀:Nat} {W W' W2:World}
theorem kpE_refl (W:World):KpE E n₀ W W:=⟨Below.refl _ _,fun _ _ _ h _=>h⟩
theorem kpE_t {A B C:World}(h:KpE E n₀ A B)(k:KpE E n₀ B C):KpE E n₀ A C:=⟨h.1.trans k.1,fun g o hE ho hc=>k.2 g o hE (h.2 g o hE ho hc) hc⟩
theorem kpE_b {w:World}(hn:n₀≤w.heap.size)(W:World)(l:Nat)(o o':Obj)(hl:w.heap.size≤l)(h:W.heap[l]?=some o)(hc:o.isCells=false)(hw:o.isWalk=false):KpE E n₀ W (W.putObj l o') :=
 ⟨belowK_b hn W l o o' hl h hc hw,fun g q _ hq hqc=>by
  have hlt:=(Array.getElem?_eq_some_iff.1 hq).1
  have hne:g≠l:=fun e=>by subst e;rw[hq] at h;cases h;rw[hqc] at hc;cases hc
  rw[(grownBy_putObj' W l o').block g hlt (by simpa using hne)]
  exact hq⟩
theorem KpE.of_fr (hf:Fr E W W')(hE:∀ g,E g→n₀≤g)(hn:n₀≤W.heap.size):KpE E n₀ W W' :=
 ⟨hf.below hn hE,fun g o hg ho _=>by rw[hf.block g (Array.getElem?_eq_some_iff.1 ho).1 hg];exact ho⟩
theorem KpE.boxed (h:KpE E n₀ W W'){B:Nat}{t:TypeId}{v:Value}(hb:Boxed W B t v)(hE:¬ E B):Boxed W' B t v:=h.2 B _ hE hb rfl
theorem cell_obj {g i:Nat}{v:Value}(h:W.cell? ⟨g,i,none⟩=some v):∃ o,W.heap[g]?=some o∧o.isCells=true:=by
 unfold World.cell? at h
 cases ho:W.heap[g]? with
 | none=>simp[ho] at h
 | some o =>
  cases o with
  | cells cs e fr=>exact⟨_,rfl,rfl⟩
  | _=>simp[ho] at h
theorem KpE.cell (h:KpE E n₀ W W'){g i:Nat}{v:Value}(hc:W.cell? ⟨g,i,none⟩=some v)(hE:¬ E g):W'.cell? ⟨g,i,none⟩=some v:=by
 obtain⟨o,ho,hoc⟩:=cell_obj hc;rw[World.cell?_of_block (w:=W) (a:=⟨g,i,none⟩) ((h.2 g o hE ho hoc).trans ho.symm)];exact hc
theorem KpE.rd (h:KpE E n₀ W W'){α:Type}{enc:α→List Value}{k:Nat}{A:Option Addr}{n:Nat}{l:List α}(hr:Rd enc k W A n l)(hE:0 < n→∀ ad,A=some ad→¬ E ad.block):Rd enc k W' A n l :=
 ⟨hr.1,fun hn=>by
  obtain⟨b,o,e,hlt,hc⟩:=hr.2 hn
  exact⟨b,o,e,Nat.lt_of_lt_of_le hlt h.1.size,fun i x hx j v hv=>h.cell (hc i x hx j v hv) (hE hn _ e)⟩⟩
end
structure WM (W:World) (Lb Eb Sb s n:Nat) (A:Option Addr) (c:Nat) (LL:List ByteArray) (EA:Option Addr) (ec:Nat) (es:List Int) (LA:Option Addr) (ln lc:Nat) (lv:List Int):Prop where
 lb:Boxed W Lb 22 (.slice A n c)
 eb:Boxed W Eb 58 (.slice EA n ec)
 sb:Boxed W Sb 72 (.pointer (some ⟨s,0,none⟩))
 ls:Rd encStr 1 W A n LL
 er:Rd enc1 1 W EA n es
 lvc:W.cell? ⟨s,13,none⟩=some (.slice LA ln lc)
 lr:Rd enc1 1 W LA ln lv
structure WFar (E:Nat→Prop) (Lb Eb Sb s n:Nat) (A EA LA:Option Addr) (ln:Nat):Prop where
 lb:¬ E Lb
 eb:¬ E Eb
 sb:¬ E Sb
 s:¬ E s
 ls:0 < n→∀ ad,A=some ad→¬ E ad.block
 er:0 < n→∀ ad,EA=some ad→¬ E ad.block
 lr:0 < ln→∀ ad,LA=some ad→¬ E ad.block
section
variable {E:Nat→Prop} {n₀ Lb Eb Sb s n c ec ln lc:Nat} {A EA LA:Option Addr} {LL:List ByteArray} {es lv:List Int} {W W':World}
theorem WM.kpE (h:WM W Lb Eb Sb s n A c LL EA ec es LA ln lc lv)(hf:WFar E Lb Eb Sb s n A EA LA ln)(hk:KpE E n₀ W W'):WM W' Lb Eb Sb s n A c LL EA ec es LA ln lc lv :=
 ⟨hk.boxed h.lb hf.lb,hk.boxed h.eb hf.eb,hk.boxed h.sb hf.sb,hk.rd h.ls hf.ls,hk.rd h.er hf.er,hk.cell h.lvc hf.s,hk.rd h.lr hf.lr⟩
end
abbrev WxE:={ x:Nat × Int // x.1≤1000 }
abbrev encWx (x:WxE):Array Value:=#[.int .i64 (x.1.1:Int),.int .i64 x.1.2]
theorem weathers1_in (n:Nat)(hn:2≤n)(E:Nat→Prop)(l n₀ N Lb Eb Sb s nL c ec ln lc:Nat)(A EA LA:Option Addr)(LL:List ByteArray)(es lv:List Int)(hnl:nL≤1000)
 (hp:∀(k:Nat) (p:List UInt8),(linesB LL)[k]?=some p→es[k]?=some 0→preW p=isW p) (hlv:lv.length=(weathI 0 (linesB LL) es).length) (hN:(weathL (linesB LL) es lv).length≤N) (hf:WFar E Lb Eb Sb s nL A EA LA ln)
 (J Jx:List WxE→World→Prop)
 (hY:∀ pre x W,J pre W→pre.length < N→YieldAt Fence.wide (n - 1) Tryz.prog l (encWx x) W fun e W' =>
  (e=.returned (.bool true)∧J (pre++[x]) W'∧KpE E n₀ W W')∨(e=.returned (.bool false)∧Jx (pre++[x]) W'))
 (W:World) (hm:WM W Lb Eb Sb s nL A c LL EA ec es LA ln lc lv) (h0:J [] W) :
 CallsIn Fence.wide n Tryz.prog 41 #[.func (.yield l) #[] #[],.pointer (some ⟨Lb,0,none⟩),.pointer (some ⟨Eb,0,none⟩),.pointer (some ⟨Sb,0,none⟩)] W fun e W'=>(∃ v,e=.returned v) ∧
  ((∃ ys,ys.map (·.1)=weathL (linesB LL) es lv∧J ys W')∨(∃ pre,pre.map (·.1) <+: weathL (linesB LL) es lv∧Jx pre W')):=by
 have h1:1≤n:=by omega
 refine callsIn_of_wp Tryz.func41 rfl trivial ?_ rfl;simp only[Tryz.ntmps41,List.size_toArray,List.length_cons,List.length_nil,Nat.reduceAdd,Nat.reduceSub,Array.replicate_succ,Array.replicate_zero,List.push_toArray,List.append_toArray,List.nil_append,List.cons_append];obtain⟨S,hS⟩:∃ S,S=linesB LL:=⟨_,rfl⟩;rw[← hS] at hp hlv hN ⊢
 have hsl:S.length=nL:=by rw[hS];unfold linesB;rw[List.length_map,hm.ls.len]
 have hel:=hm.er.len;have HM:=hid hm;have HY:=hid hY;have HN:=hid hN;have HP:=hid hp;have HLV:=hid hlv;have HF:=hid hf;have HS:=hid hS;have HSL:=hid hsl;have HEL:=hid hel;have c1:=hm.lb.cell;clear hm hY hN hp hlv hf hS hsl hel
 gi_wp2
 gi_loopw [5,10] (fun dv jv wr=>∃(j d:Nat) (pre:List WxE),jv=.int .i64 j∧dv=.int .i64 d∧j≤nL∧d=(weathI 0 (S.take j) (es.take j)).length∧pre.map (·.1)=(weathL S es lv).take d∧J pre wr∧KpE E n₀ W wr) (fun _ jv _=>nL - (intOf jv).toNat)
 case atStart=>exact⟨0,0,[],rfl,rfl,Nat.zero_le _,rfl,rfl,h0,kpE_refl W⟩
 case round =>
  obtain⟨j,d,pre,rfl,rfl,hj,hd,hpre,hJs,hk⟩:=hrel;have hm:=HM.out.kpE HF.out hk;have HD:=hid hd;have HPRE:=hid hpre;have HK:=hid hk;clear hd hpre hk c1
  by_cases hlt:j < nL
  · obtain⟨b1,o1,p,rfl,hpp,q1⟩:=str_at hm.ls hlt
    obtain⟨b2,o2,e,rfl,_,hee,q2'⟩:=hm.er.at_ hlt;have q2:=q2' 0 _ rfl;simp only[Nat.mul_one,Nat.add_zero] at q2
    have hsj:S[j]?=some p.data.toList:=by rw[HS.out];exact linesB_at hpp
    have b0:=hm.eb.cell
    have hi1:(j:Int) < (nL:Int):=by omega
    have hi0:(0:Int)≤(j:Int):=by omega
    have HSJ:=hid hsj;have HEE:=hid hee
    have hlen:es.length=S.length:=by rw[HSL.out,HEL.out]
    have HLEN:=hid hlen
    have hdb:d≤lv.length:=by
     obtain⟨t,ht⟩:=weathI_pre (l:=S) (es:=es) j hlen;rw[HD.out,HLV.out,ht];simp
    have hvb:lv.length≤nL:=by
     rw[HLV.out]
     have:∀(l:List (List UInt8)) (es:List Int) (i:Nat),(weathI i l es).length≤l.length:=by
      intro l
      induction l with
      | nil=>intro es i;cases es <;> simp[weathI]
      | cons a l ih =>
       intro es i
       cases es with
       | nil=>simp[weathI]
       | cons f es =>
        rw[weathI];have:=ih es (i+1)
        split <;> simp <;> omega
     have:=this S es 0;rw[HSL.out] at this;exact this
    clear q2' hpp hsj hee hlen
    by_cases he0:e=0
    · subst he0
      have hpw:=HP.out j _ HSJ.out HEE.out;have HPF:=hid (fun W=>strings_HasPrefix p ⟨#[119,101,97,116,104,101,114,32]⟩ W);have hpx:Lib.hasPrefix p.data.toList (⟨#[119,101,97,116,104,101,114,32]⟩:ByteArray).data.toList=isW p.data.toList:=hpw;rw[hpx] at HPF;clear hpw hpx
      cases hW:isW p.data.toList with
      | true =>
       obtain⟨v,hv,htk,hsu⟩:=weathL_step HLEN.out HLV.out HSJ.out HEE.out (by rw[hW];rfl);rw[← HD.out] at hv htk hsu;rw[hW] at HPF
       have hdl:d < ln:=by rw[← hm.lr.len];exact(List.getElem?_eq_some_iff.1 hv).1
       obtain⟨b3,o3,v',rfl,_,hv',q3'⟩:=hm.lr.at_ hdl;obtain rfl:=Option.some.inj (hv.symm.trans hv');have q3:=q3' 0 _ rfl;simp only[Nat.mul_one,Nat.add_zero] at q3;have s0:=hm.sb.cell;have s1:=hm.lvc
       have hd1:(d:Int) < (ln:Int):=by omega
       have hd0:(0:Int)≤(d:Int):=by omega
       have hplen:pre.length < N:=by
        have h2:=congrArg List.length HPRE.out;rw[List.length_map,List.length_take] at h2;have h3:=congrArg List.length htk;rw[List.length_append,List.length_take,List.length_take] at h3;simp at h3;have:=HN.out;omega
       obtain⟨fn,tmps,assign,body,hy,hR⟩:=HY.out pre ⟨(j,v),by dsimp only;omega⟩ wr hJs hplen;dsimp only[encWx] at hy;have HTK:=hid htk;have HSU:=hid hsu;have HM2:=hid hm;clear hv hv' htk hsu q3' hm
       gi_wp2_with (refine⟨trivial,?_⟩;gi_at_call 33;refine(callsIn_wide.2 (HPF.out _)).mono ?_;rintro e w2 ⟨rfl,rfl⟩)
       refine hR.mono ?_;rintro e W3 (⟨rfl,hJ3,hk3⟩ | ⟨rfl,hJx3⟩)
       · gi_wp2
         go_roundw
         case rel =>
          refine⟨j+1,d+1,_,by go_num,by go_num,by omega,HSU.out.symm,?_,hJ3,kpE_t HK.out hk3⟩;rw[List.map_append,HPRE.out,HTK.out];rfl
         case measure=>simp[intOf];omega
       · gi_wp2
         refine bodyPost_ret (results_none rfl _ _ _) rfl ?_;refine⟨⟨_,rfl⟩,.inr ⟨_,?_,hJx3⟩⟩
         have e9:(pre++[(⟨(j,v),by dsimp only;omega⟩:WxE)]).map (·.1)=(weathL S es lv).take (d+1):=by rw[List.map_append,HPRE.out,HTK.out];rfl
         rw[e9];exact List.take_prefix _ _
      | false =>
       have hsk:=weathL_skip HLEN.out HSJ.out HEE.out (by rw[hW];rfl);rw[← HD.out] at hsk;have HSK:=hid hsk;rw[hW] at HPF;clear hsk hm
       gi_wp2_with (refine⟨trivial,?_⟩;gi_at_call 33;refine(callsIn_wide.2 (HPF.out _)).mono ?_;rintro e w2 ⟨rfl,rfl⟩)
       go_roundw
       case rel=>exact⟨j+1,d,pre,by go_num,rfl,by omega,HSK.out.symm,HPRE.out,hJs,HK.out⟩
       case measure=>simp[intOf];omega
    · have heb:(e != 0)=true:=by simpa using he0
      have hsk:=weathL_skip HLEN.out HSJ.out HEE.out (by simp[he0]);rw[← HD.out] at hsk;have HSK:=hid hsk;clear hsk hm
      gi_wp2
      refine⟨trivial,?_⟩
      gi_wp2
      go_roundw
      case rel=>exact⟨j+1,d,pre,by go_num,rfl,by omega,HSK.out.symm,HPRE.out,hJs,HK.out⟩
      case measure=>simp[intOf];omega
  · obtain rfl:j=nL:=by omega
    have hall:pre.map (·.1)=weathL S es lv:=by
     have hs1:S.take j=S:=List.take_of_length_le (by rw[HSL.out];exact Nat.le_refl _);have hs2:es.take j=es:=List.take_of_length_le (by rw[HEL.out];exact Nat.le_refl _);rw[HPRE.out,HD.out,hs1,hs2,List.take_of_length_le (by unfold weathL;rw[List.length_zip];omega)]
    have HALL:=hid hall;clear hall hm
    gi_wp2
    go_end0
    exact⟨⟨_,rfl⟩,.inl ⟨pre,HALL.out,hJs⟩⟩
theorem weathers_stops (n:Nat)(hn:2≤n)(E:Nat→Prop)(n₀ N Lb Eb Sb s nL c ec ln lc:Nat)(A EA LA:Option Addr)(LL:List ByteArray)(es lv:List Int)(w:World)(hnl:nL≤1000)
 (hp:∀(k:Nat) (p:List UInt8),(linesB LL)[k]?=some p→es[k]?=some 0→preW p=isW p) (hlv:lv.length=(weathI 0 (linesB LL) es).length) (hN:(weathL (linesB LL) es lv).length≤N) (hf:WFar E Lb Eb Sb s nL A EA LA ln)
 (hm:WM w Lb Eb Sb s nL A c LL EA ec es LA ln lc lv) :
 SeqStopsK Fence.wide n Tryz.prog 41 #[.pointer (some ⟨Lb,0,none⟩),.pointer (some ⟨Eb,0,none⟩),.pointer (some ⟨Sb,0,none⟩)] encWx (KpE E n₀) (fun ys=>ys.map (·.1)=weathL (linesB LL) es lv) (fun pre=>pre.map (·.1) <+: weathL (linesB LL) es lv) N w:=fun l J Jx W hW hJ _ hY h0=>by
 exact weathers1_in n hn E l n₀ N Lb Eb Sb s nL c ec ln lc A EA LA LL es lv hnl hp hlv hN hf J Jx hY W (hm.kpE (n₀:=w.heap.size) hf ⟨hW,fun g o _ ho _=>(hW.block g (Array.getElem?_eq_some_iff.1 ho).1).trans ho⟩) h0
def WeathR (w:World)(A:Option Addr)(n c:Nat)(LL:List ByteArray)(e:Ending)(w':World):Prop:=∃(Lb Eb Sb s:Nat) (x:SAd) (EA:Option Addr) (ec:Nat),
 e=.returned (.func (.func 41) #[] #[.pointer (some ⟨Lb,0,none⟩),.pointer (some ⟨Eb,0,none⟩),.pointer (some ⟨Sb,0,none⟩)]) ∧
 WM w' Lb Eb Sb s n A c LL EA ec (runP Ga.readOf (-1) 0 begS 0 (linesB LL)).2 x.le.A x.le.n x.le.c (runP Ga.readOf (-1) 0 begS 0 (linesB LL)).1.levels ∧
 (∀ E:Nat→Prop,(∀ g,E g→g < w.heap.size)→(0 < n→∀ ad,A=some ad→¬ E ad.block)→WFar E Lb Eb Sb s n A EA x.le.A x.le.n)∧Below w.heap.size w w'
theorem weathers_c (m:Nat)(h1:1≤m){A:Option Addr}{n c:Nat}{LL:List ByteArray}{w:World}(h:Rd encStr 1 w A n LL)(hn:n≤60)(hs:∀ p∈LL,p.size≤300)(hl:Lay w) :
 CallsIn Fence.wide m Tryz.prog 31 #[.slice A n c] w fun e w'=>WeathR w A n c LL e w':=by
 have hmf:∀(fn:Fn) (first cap:Array Value) (w:World),(Instr.makeFunc fn first cap).run Tryz.prog w=.ok (.func fn first cap) w:=fun _ _ _ _=>rfl;have hb1:=(Below.refl w.heap.size w).alloc (Nat.le_refl _) (.cells #[.slice A n c] 22);have hbx:=Boxed.new w 22 (.slice A n c);have HR:=hid (wrun_c (c:=c) (line:=-1) (more:=0) (h.below hb1) hn hs (hl.below hb1) (by omega));have H:=hid h;have HB1:=hid hb1;have HBX:=hid hbx;have b0:=hbx.cell;clear h hl hb1 hbx hs hn;refine callsIn_of_wp Tryz.func31 rfl trivial ?_ rfl;simp only[Tryz.ntmps31,List.size_toArray,List.length_cons,List.length_nil,Nat.reduceAdd,Nat.reduceSub,Array.replicate_succ,Array.replicate_zero,List.push_toArray,List.append_toArray,List.nil_append,List.cons_append]
 gi_wp2_with (refine⟨trivial,?_⟩;gi_at_call 29;refine(callsIn_wide.2 HR.out).mono ?_;rintro e w2 ⟨s,x,ve,rfl,hsa,hown,hge,hb2⟩;obtain⟨EA,ec,rfl,hec⟩:=own_form hown)
 go_ret
 have hal:=((Below.refl w2.heap.size w2).alloc (Nat.le_refl _) (.cells #[.pointer (some ⟨s,0,none⟩)] 72)).alloc (by simp) (.cells #[.slice EA n ec] 58);have hb3:=below_tr HB1.out (below_tr hb2 hal)
 have hsz1:(w.alloc (.cells #[.slice A n c] 22)).heap.size=w.heap.size+1:=by simp
 have hsz2:=hb2.size;have hbx2:Boxed w2 w.heap.size 22 (.slice A n c):=(hb2.block _ (by omega)).trans HBX.out;have hbx3:=(hbx2.alloc (.cells #[.pointer (some ⟨s,0,none⟩)] 72)).alloc (.cells #[.slice EA n ec] 58);have hsb:=(Boxed.new w2 72 (.pointer (some ⟨s,0,none⟩))).alloc (.cells #[.slice EA n ec] 58);have heb:=Boxed.new (w2.alloc (.cells #[.pointer (some ⟨s,0,none⟩)] 72)) 58 (.slice EA n ec);simp only[World.size_alloc] at heb;have hc13:=(hsa.below hal).blk.cell 13;simp[sessV] at hc13
 have hel:(runP Ga.readOf (-1) 0 begS 0 (linesB LL)).2.length=n:=by rw[runP_len];unfold linesB;rw[List.length_map,H.out.len]
 refine⟨w.heap.size,w2.heap.size+1,w2.heap.size,s,x,EA,ec,rfl,⟨hbx3,heb,hsb,H.out.below hb3,Rd.of_own enc1_len (own_mono hown hal) hel,hc13,(hsa.below hal).rows.le.rd⟩,fun E hE hA=>?_,hb3⟩;have hge1:=hge.1;refine⟨fun h=>?_,fun h=>?_,fun h=>?_,fun h=>?_,hA,fun hn ad e h=>?_,fun hn ad e h=>?_⟩
 · have:=hE _ h;omega
 · have:=hE _ h;omega
 · have:=hE _ h;omega
 · have:=hE _ h;omega
 · have h1:=hE _ h
   have h2:=(hown.lt ad.block (by rw[e];rfl)).1;omega
 · have h1:=hE _ h
   exact(hge.2 ad.block (by omega)).le ad e hn rfl
theorem wpIn_scope_wide {P:Program}{n:Nat}{c:Code}{Q:Exit→Act→World→Prop}{a:Act}{w:World}(h:c.wpIn Fence.wide n P (Exit.noGoto Q) a w):(Code.scope c).wpIn Fence.wide n P Q a w :=
 wpIn_wide.2 (wp_scope_straight (wpIn_wide.1 h))
def raisedR (LL:List ByteArray)(level:Int):Int × Int :=
 if checkL LL≠0 then (0,checkL LL) else if ¬(1≤level∧level≤3) then (0,2)
 else match raisedP level (weathI 0 (linesB LL) (runP Ga.readOf (-1) 0 begS 0 (linesB LL)).2) (runP Ga.readOf (-1) 0 begS 0 (linesB LL)).1.levels with
  | some i=>((i:Nat),0)
  | none=>(0,7)
def wxL (pre:List WxE):List (Nat × Int):=pre.map (·.1)
def idxW (pre:List WxE):Nat:=((wxL pre).getLast?.map (·.1)).getD 0
def J3 (w:World)(T:Nat)(i e:Int)(W:World):Prop:=Boxed W T 3 (.int .i64 i)∧Boxed W (T+1) 25 (.int .i64 e)∧Below w.heap.size w W
theorem J3_own (w:World)(T:Nat){B:Nat}(hB:w.heap.size≤B)(i e:List WxE→Int)(Pp:List WxE→Prop):OwnFrom B (fun pre W=>J3 w T (i pre) (e pre) W∧Pp pre) :=
 OwnFrom.and (OwnFrom.and (Own.from (boxed_own _ _ _) _) (OwnFrom.and (Own.from (boxed_own _ _ _) _) (ownFrom_below (Nat.le_refl _) hB))) (fun _ _ _ _ h _ _=>h)
theorem Raised_in {A:Option Addr}{n c:Nat}{LL:List ByteArray}{level:Int}{w:World}(h:Rd encStr 1 w A n LL)(hl:Lay w)(hck:checkL LL=0)(hlev:1≤level∧level≤3) :
 CallsIn Fence.wide 8 Tryz.prog 19 #[.slice A n c,.int .i64 level] w fun e w'=>e=.returned (.tuple #[.int .i64 (raisedR LL level).1,.int .i64 (raisedR LL level).2])∧Below w.heap.size w w':=by
 obtain⟨hn,hs⟩:=checkL_zero hck;rw[h.len] at hn;obtain⟨IX,hIX⟩:∃ IX,IX=weathI 0 (linesB LL) (runP Ga.readOf (-1) 0 begS 0 (linesB LL)).2:=⟨_,rfl⟩;obtain⟨LV,hLV⟩:∃ LV,LV=(runP Ga.readOf (-1) 0 begS 0 (linesB LL)).1.levels:=⟨_,rfl⟩
 have hres:raisedR LL level=match raisedP level IX LV with | some i=>(((i:Nat):Int),0) | none=>(0,7):=by
  unfold raisedR;rw[if_neg (fun h=>h hck),if_neg (fun h=>h hlev),hIX,hLV]
 obtain⟨R,hR⟩:∃ R,R=raisedR LL level:=⟨_,rfl⟩;rw[← hR] at hres ⊢;have HRES:=hid hres
 have hlvl:LV.length=IX.length:=by
  have:=run_lv Ga.readOf (-1) 0 (linesB LL) begS 0 0;rw[hLV,hIX]
  simpa[begS] using this
 have H:=hid h;have HL:=hid hl;have HS:=hid hs;have HCK:=hid hck;have HLVL:=hid hlvl;have HIX:=hid hIX;have HLV:=hid hLV;have hin:inB level 1 3=true:=inB_iff.2 hlev;clear h hl hs hck hlvl hIX hLV hR hres;have hmf:∀(fn:Fn) (first cap:Array Value) (w:World),(Instr.makeFunc fn first cap).run Tryz.prog w=.ok (.func fn first cap) w:=fun _ _ _ _=>rfl;have hb0:=(Below.refl w.heap.size w).alloc (Nat.le_refl _) (.cells #[.int .i64 level] 3);have hbx:=Boxed.new w 3 (.int .i64 level);have HC:=hid (chkL_c (c:=c) (H.out.below hb0));have HB0:=hid hb0;have HBX:=hid hbx;clear hb0 hbx;refine callsIn_of_wp_marks Tryz.func19 rfl trivial ?_ rfl;simp only[Tryz.ntmps19,List.size_toArray,List.length_cons,List.length_nil,Nat.reduceAdd,Nat.reduceSub,Array.replicate_succ,Array.replicate_zero,List.push_toArray,List.append_toArray,List.nil_append,List.cons_append]
 gi_wp2
 refine wpIn_scope_wide ?_
 gi_wp2_with (first | (refine⟨trivial,?_⟩;gi_at_call 24;refine(callsIn_wide.2 HC.out).mono ?_;rintro e w1 ⟨rfl,hb1⟩;rw[HCK.out];have hx1:Boxed w1 w.heap.size 3 (.int .i64 level):=(hb1.block _ (by simp)).trans HBX.out;have c3:=hx1.cell) | (refine⟨trivial,?_⟩;gi_at_call 30;refine(callsIn_wide.2 (wwithin_c _ _ _ _)).mono ?_;rintro e w2 ⟨rfl,hb2⟩;rw[hin]))
 refine wpIn_label ?_;obtain⟨T,hT⟩:∃ T,T=w2.heap.size:=⟨_,rfl⟩;obtain⟨W3,hW3⟩:∃ W3,W3=((w2.alloc (.cells #[.int .i64 0] 3)).alloc (.cells #[.int .i64 7] 25)):=⟨_,rfl⟩;have hal:=((Below.refl w2.heap.size w2).alloc (Nat.le_refl _) (.cells #[.int .i64 0] 3)).alloc (by simp) (.cells #[.int .i64 7] 25);have b7:=(Boxed.new w2 3 (.int .i64 0)).alloc (.cells #[.int .i64 7] 25);have b8:=Boxed.new (w2.alloc (.cells #[.int .i64 0] 3)) 25 (.int .i64 7)
 have hsz3:W3.heap.size=w2.heap.size+1+1:=by rw[hW3];simp
 simp only[World.size_alloc] at b8
 have hx3:Boxed W3 w.heap.size 3 (.int .i64 level):=by
  have h2:Boxed w2 w.heap.size 3 (.int .i64 level):=(hb2.block _ hx1.lt).trans hx1;rw[hW3];exact(h2.alloc _).alloc _
 have hb3:=below_tr HB0.out (below_tr hb1 (below_tr hb2 hal));have hwT:w.heap.size < w2.heap.size:=Nat.lt_of_lt_of_le hx1.lt hb2.size;rw[← hW3] at b7 b8 hb3 ⊢;rw[← hT] at b7 b8 hsz3 hwT ⊢;have hws:=weathers_c 7 (by omega) (c:=c) (H.out.below hb3) hn HS.out (HL.out.below hb3);have HW:=hid hws
 have h1:1≤(8:Nat):=by omega
 clear hW3 hT hal hb1 hb2 hx1 c3 hin hmf hws
 gi_wp2_with (refine⟨trivial,?_⟩;gi_at_call 31;refine HW.out.mono ?_;rintro e W0 ⟨Lb,Eb,Sb,s,x,EA,ec,rfl,hm,hfar,hb4⟩)
 have hp:∀(k:Nat) (p:List UInt8),(linesB LL)[k]?=some p→(runP Ga.readOf (-1) 0 begS 0 (linesB LL)).2[k]?=some 0→preW p=isW p:=fun k p h1 h2=>run_pre Ga.readOf (-1) 0 _ _ _ k p h1 h2
 have hlv:(runP Ga.readOf (-1) 0 begS 0 (linesB LL)).1.levels.length=(weathI 0 (linesB LL) (runP Ga.readOf (-1) 0 begS 0 (linesB LL)).2).length:=by rw[← HLV.out,← HIX.out];exact HLVL.out
 have hwl:weathL (linesB LL) (runP Ga.readOf (-1) 0 begS 0 (linesB LL)).2 (runP Ga.readOf (-1) 0 begS 0 (linesB LL)).1.levels=IX.zip LV:=by unfold weathL;rw[← HLV.out,← HIX.out]
 have hN:(weathL (linesB LL) (runP Ga.readOf (-1) 0 begS 0 (linesB LL)).2 (runP Ga.readOf (-1) 0 begS 0 (linesB LL)).1.levels).length≤IX.length:=by rw[hwl,List.length_zip];omega
 have hE:∀ g,(g=T∨g=T+1)→g < W3.heap.size:=by omega
 have hA:0 < n→∀ ad,A=some ad→¬(ad.block=T∨ad.block=T+1):=fun h0 ad e=>by
  obtain⟨b',o',e',hlt,_⟩:=H.out.2 h0;rw[e] at e';cases e';dsimp only;omega
 have hst:=weathers_stops 7 (by omega) (fun g=>g=T∨g=T+1) w.heap.size IX.length Lb Eb Sb s n c ec x.le.n x.le.c A EA x.le.A LL (runP Ga.readOf (-1) 0 begS 0 (linesB LL)).2 (runP Ga.readOf (-1) 0 begS 0 (linesB LL)).1.levels W0 (by omega) hp hlv hN (hfar (fun g=>g=T∨g=T+1) hE hA) hm;rw[hwl] at hst;have hw04:=hb4.size;have hbW0:=below_tr hb3 hb4;have bb7:Boxed W0 T 3 (.int .i64 0):=(hb4.block _ b7.lt).trans b7;have bb8:Boxed W0 (T+1) 25 (.int .i64 7):=(hb4.block _ b8.lt).trans b8;have bbx:Boxed W0 w.heap.size 3 (.int .i64 level):=(hb4.block _ hx3.lt).trans hx3;clear hp hlv hN hE hm hfar hwl hb4 hb3 b7 b8 hx3 HW
 refine wpIn_rangeFunc_ownH rfl (by omega) (gf:=41) (lb:=#[.pointer (some ⟨Lb,0,none⟩),.pointer (some ⟨Eb,0,none⟩),.pointer (some ⟨Sb,0,none⟩)]) rfl trivial (enters_of Tryz.func41 (by kernel_rfl) rfl)
  hst kpE_t (kpE_b (by omega)) (Below.refl _ _) (fun _=>rfl)
  (fun pre W=>(J3 w T 0 7 W∧∀ x∈wxL pre,¬ level≤x.2)∧Boxed W w.heap.size 3 (.int .i64 level))
  (fun q pre W=>J3 w T (idxW pre:Nat) 0 W∧(q=Code.exit 0∧∃ v,(wxL pre).find? (fun x=>decide (level≤x.2))=some (idxW pre,v)))
  (OwnFrom.and (J3_own w T (by omega) _ _ _) (Own.from (boxed_own _ _ _) _))
  (fun q=>J3_own w T (by omega) _ _ _)
  ⟨⟨⟨bb7,bb8,hbW0⟩,by simp[wxL]⟩,bbx⟩
  (fun x a' W=>a'={ tmps:=#[.slice A n c,.int .i64 level,undef,.pointer (some ⟨w.heap.size,0,none⟩),.int .i64 0,.int .i64 0,.int .i64 0,.pointer (some ⟨T,0,none⟩),.pointer (some ⟨T+1,0,none⟩),.int .i64 (x.1.1:Int),.int .i64 x.1.2,.slice A n c,.int .i64 0,.int .i64 0,.bool false,undef,.int .i64 level,.bool true,.bool false,.slice A n c,
   .func (.func 41) #[] #[.pointer (some ⟨Lb,0,none⟩),.pointer (some ⟨Eb,0,none⟩),.pointer (some ⟨Sb,0,none⟩)],.int .i64 (x.1.1:Int),.int .i64 x.1.2,undef,undef,undef,undef,undef,undef],defers:=[] })
  (fun x a' _ X Y row hs hg hr=>hs)
  ?assign ?body ?done ?stop
 case assign =>
  rintro l pre x W K hI hK;dsimp only[encWx]
  gi_wp2
  exact hK _ _ ((KeepsOthers.refl _).from _) (kpE_refl W) hI rfl
 case body =>
  rintro l pre x a' W hl ⟨r,hr⟩ ⟨⟨⟨hb1,hb2,hB⟩,hall⟩,hbl⟩ rfl hlt
  have hrs:wxL (pre++[x])=wxL pre++[x.1]:=by simp[wxL]
  have hix:idxW (pre++[x])=x.1.1:=by unfold idxW;rw[hrs];simp
  have c0:=hbl.cell;have c1:=hb1.cell;have f1:=hb1.frozen;have c2:=hb2.cell;have f2:=hb2.frozen;have HB1:=hid hb1;have HB2:=hid hb2;have HB:=hid hB;have HBL:=hid hbl;have HALL:=hid hall;have HRS:=hid hrs;have HX:=hid hix;clear hb1 hb2 hB hbl hall hrs hix
  by_cases hge:level≤x.1.2
  · gi_wp2
    have hT1:T≠T+1:=by omega
    have hf:Fr (fun g=>g=T∨g=T+1) W ((W.setCell ⟨T,0,none⟩ (.int .i64 (x.1.1:Int))).setCell ⟨T+1,0,none⟩ (.int .i64 0)) :=
     ((Fr.refl _ W).setCell (g:=T) (.inl (.inl rfl)) _).setCell (g:=T+1) (.inl (.inr rfl)) _
    refine⟨frKeeps hf fun g o hE hg ho=>?_,⟨?_,?_,HB.out.trans (hf.below HB.out.size fun g hg=>by omega)⟩,rfl,x.1.2,?_⟩
    · rcases hE with h | h <;> omega
    · rw[HX.out];exact(HB1.out.set _).other (by omega) _
    · exact(HB2.out.other (B':=T) (by omega) _).set _
    · rw[HRS.out,HX.out,List.find?_append,List.find?_eq_none.2 (fun y hy=>by simpa using HALL.out y hy)]
      simp[hge]
  · gi_wp2
    have key:∀ y∈wxL (pre++[x]),¬ level≤y.2:=fun y hy=>by
     rw[HRS.out] at hy
     rcases List.mem_append.1 hy with h | h
     · have:=HALL.out y h;omega
     · obtain rfl:=List.mem_singleton.1 h;omega
    exact⟨(KeepsOthers.refl _).from _,kpE_refl W,⟨⟨HB1.out,HB2.out,HB.out⟩,fun a b hab=>by have:=key _ hab;dsimp only at this;omega⟩,HBL.out⟩
 case done =>
  rintro D ys W hD hys ⟨⟨⟨hb1,hb2,hB⟩,hall⟩,hbl⟩ hK
  have hfin:R=(0,7):=by
   have h9:raisedP level IX LV=none:=by
    rw[raised_zip,← hys];rw[List.find?_eq_none.2 (fun x hx=>by simpa using hall x hx)]
    rfl
   rw[HRES.out,h9]
  have HFIN:=hid hfin;clear hfin;have c1:=hb1.cell;have c2:=hb2.cell;have HB:=hid hB;have HK:=hid hK;have HB1:=hid hb1;have HB2:=hid hb2;clear hB hK hb1 hb2
  gi_wp2
  gi_region
  all_goals
   gi_wp2
   simp only[Exit.noGoto];refine⟨by simp,.inl ?_⟩;have eK:W.drew.heap[D]?=some (.deferred (some [])):=HK.out;refine⟨_,_,rfl,run_takeDeferred eK,?_⟩;have hfin:Below w.heap.size w (W.drew.putObj D (.deferred none)):=HB.out.trans ((Below.refl w.heap.size W).drew.trans (belowK_b (w:=w) (Nat.le_refl _) W.drew D _ _ (by omega) eK rfl rfl));exact⟨_,results_tmp2 rfl _ _ _,by rw[HFIN.out];rfl,hfin⟩
 case stop =>
  rintro D q pre W hD hys ⟨⟨hb1,hb2,hB⟩,rfl,v,hfd⟩ hK
  have hfin:R=(((idxW pre:Nat):Int),0):=by
   have h9:raisedP level IX LV=some (idxW pre):=by
    obtain⟨t,ht⟩:=hys;rw[raised_zip,← ht,List.find?_append];rw[show List.find? (fun x=>decide (level≤x.2)) (pre.map (·.1))=some (idxW pre,v) from hfd]
    rfl
   rw[HRES.out,h9]
  have HFIN:=hid hfin;clear hfin;have c1:=hb1.cell;have c2:=hb2.cell;have HB:=hid hB;have HK:=hid hK;have HB1:=hid hb1;have HB2:=hid hb2;clear hB hK hb1 hb2
  gi_wp2
  gi_region
  all_goals
   gi_wp2
   simp only[Exit.noGoto];refine⟨by simp,.inl ?_⟩;have eK:W.drew.heap[D]?=some (.deferred (some [])):=HK.out;refine⟨_,_,rfl,run_takeDeferred eK,?_⟩;have hfin:Below w.heap.size w (W.drew.putObj D (.deferred none)):=HB.out.trans ((Below.refl w.heap.size W).drew.trans (belowK_b (w:=w) (Nat.le_refl _) W.drew D _ _ (by omega) eK rfl rfl));exact⟨_,results_tmp2 rfl _ _ _,by rw[HFIN.out];rfl,hfin⟩
theorem Raised_c {A:Option Addr}{n c:Nat}{LL:List ByteArray}{level:Int}{w:World}(h:Rd encStr 1 w A n LL)(hl:Lay w) :
 Calls Tryz.prog 19 #[.slice A n c,.int .i64 level] w fun e w'=>e=.returned (.tuple #[.int .i64 (raisedR LL level).1,.int .i64 (raisedR LL level).2])∧Below w.heap.size w w':=by
 by_cases hck:checkL LL=0
 · by_cases hlev:1≤level∧level≤3
   · exact callsIn_wide.1 (Raised_in h hl hck hlev)
   · have hres:raisedR LL level=(0,2):=by unfold raisedR;rw[if_neg (fun h=>h hck),if_pos hlev]
     have hin:inB level 1 3=false:=by
      cases hb:inB level 1 3 with
      | false=>rfl
      | true=>exact absurd (inB_iff.1 hb) hlev
     have hb0:=(Below.refl w.heap.size w).alloc (Nat.le_refl _) (.cells #[.int .i64 level] 3);have hbx:=Boxed.new w 3 (.int .i64 level);have HC:=hid (chkL_c (c:=c) (h.below hb0));have HCK:=hid hck;have HIN:=hid hin;rw[hres];clear hres hlev hin h hl hck
     go_enter Tryz.func19,Tryz.ntmps19
     go_wp2;go_step3
     go_wp2_with fail
     refine HC.out.mono ?_;rintro e w1 ⟨rfl,hb1⟩;rw[HCK.out];have hx1:Boxed w1 w.heap.size 3 (.int .i64 level):=(hb1.block _ (by simp)).trans hbx;have c3:=hx1.cell
     go_wp2_with fail
     refine(wwithin_c _ _ _ _).mono ?_;rintro e w2 ⟨rfl,hb2⟩;rw[HIN.out];have hbz:=below_tr hb0 (below_tr hb1 hb2);clear hb0 hb1 hb2 hbx hx1 c3
     go_wp2_with fail
     (try rw[Exit.noGoto_ret])
     go_ret2
     exact⟨rfl,hbz⟩
 · have hres:raisedR LL level=(0,checkL LL):=by unfold raisedR;rw[if_pos hck]
   have hb0:=(Below.refl w.heap.size w).alloc (Nat.le_refl _) (.cells #[.int .i64 level] 3);have HC:=hid (chkL_c (c:=c) (h.below hb0));rw[hres];obtain⟨E,hE⟩:∃ E,E=checkL LL:=⟨_,rfl⟩;rw[← hE] at HC hck ⊢
   have hne:(E == 0)=false:=by simpa using hck
   clear hres hE h hl
   go_enter Tryz.func19,Tryz.ntmps19
   go_wp2;go_step3
   go_wp2_with fail
   refine HC.out.mono ?_;rintro e w1 ⟨rfl,hb1⟩;have hbz:=below_tr hb0 hb1;clear hb0 hb1
   go_wp2_with fail
   (try rw[Exit.noGoto_ret])
   go_ret2
   exact⟨rfl,hbz⟩
end Go.Proofs.YtlaengnhfjlphaaGreatDoor
namespace Go.Proofs.YtlaengnhfjlphaaGreatDoor
open Lib (hid)
open Go.RowKit Go.Proofs Go.Shelf
attribute [local go_sem ↓] Go.wp_at_zero Go.wp_at_succ
def levS (LL:List ByteArray)(line more:Int):List Int:=(runP Ga.readOf line more begS 0 (linesB LL)).1.levels
def keepsP (LL:List ByteArray)(line more:Int):Bool:=allLe (levS LL line more) (levS LL (-1) 0)
structure KM (w:World) (Bl Bi Bb s0 n:Nat) (A:Option Addr) (c:Nat) (LL:List ByteArray) (line:Int) (LA:Option Addr) (ln lc:Nat):Prop where
 bl:Boxed w Bl 22 (.slice A n c)
 bi:Boxed w Bi 3 (.int .i64 line)
 bb:Boxed w Bb 72 (.pointer (some ⟨s0,0,none⟩))
 ls:Rd encStr 1 w A n LL
 lt:s0 < w.heap.size
 lvc:w.cell? ⟨s0,13,none⟩=some (.slice LA ln lc)
 lr:Rd enc1 1 w LA ln (levS LL (-1) 0)
theorem boxed_below {w w':World}{B:Nat}{t:TypeId}{v:Value}(h:Boxed w B t v)(hb:Below w.heap.size w w'):Boxed w' B t v:=(hb.block B h.lt).trans h
theorem KM.below {w w':World}{Bl Bi Bb s0 n:Nat}{A:Option Addr}{c:Nat}{LL:List ByteArray}{line:Int}{LA:Option Addr}{ln lc:Nat}(h:KM w Bl Bi Bb s0 n A c LL line LA ln lc)(hb:Below w.heap.size w w'):KM w' Bl Bi Bb s0 n A c LL line LA ln lc :=
 ⟨boxed_below h.bl hb,boxed_below h.bi hb,boxed_below h.bb hb,h.ls.below hb,Nat.lt_of_lt_of_le h.lt hb.size,(hb.cell (p:=⟨s0,13,none⟩) h.lt).trans h.lvc,h.lr.below hb⟩
theorem keeps_c {w:World}{Bl Bi Bb s0 n:Nat}{A:Option Addr}{c:Nat}{LL:List ByteArray}{line more:Int}{LA:Option Addr}{ln lc:Nat}(h:KM w Bl Bi Bb s0 n A c LL line LA ln lc)(hn:n≤60)(hs:∀ p∈LL,p.size≤300)(hl:Lay w)(hmo:0≤more∧more≤1000)(hlen:(levS LL line more).length=(levS LL (-1) 0).length) :
 Calls Tryz.prog 34 #[.int .i64 more,.pointer (some ⟨Bl,0,none⟩),.pointer (some ⟨Bi,0,none⟩),.pointer (some ⟨Bb,0,none⟩)] w fun e w'=>e=.returned (.bool (keepsP LL line more))∧Below w.heap.size w w':=by
 have c1:=h.bl.cell;have c2:=h.bi.cell;have HR:=hid (wrun_c (c:=c) (line:=line) (more:=more) h.ls hn hs hl hmo);have H:=hid h;have HLEN:=hid hlen;have hlv:(runP Ga.readOf line more begS 0 (linesB LL)).1.levels=levS LL line more:=rfl;have HLV:=hid hlv
 have hfull:(levS LL line more).length≤1000:=by
  have h1:=runP_okM line more (linesB LL) begS 0 begS_ok;have:=h1.levN;have:=h1.dayN;rw[← hlv];omega
 have HFULL:=hid hfull;clear h hs hl hlen hlv hfull
 go_enter Tryz.func34,Tryz.ntmps34
 go_wp2_with fail
 refine HR.out.mono ?_;rintro e w2 ⟨s,x,ve,rfl,hsa,hown,hge,hb⟩;have hle:=hsa.rows.le;rw[HLV.out] at hle;have c13:=hsa.blk.cell 13;simp[sessV] at c13;have HKM:=hid (H.out.below hb);have HLE:=hid hle;have HB:=hid hb;have hm:=hle.rd.len;have HM:=hid hm;obtain⟨A2,n2,d2⟩:∃ A2 n2,∃ d2:Nat,x.le.A=A2∧x.le.n=n2∧x.le.c=d2:=⟨_,_,_,rfl,rfl,rfl⟩;obtain⟨d2,hA2,hn2,hd2⟩:=d2;rw[hA2,hn2,hd2] at c13;rw[hn2] at HM hm;have HRD:=hid (show Rd enc1 1 w2 A2 n2 (levS LL line more) by rw[← hA2,← hn2];exact hle.rd);clear hsa hown hge hb hle hm hA2 hn2 hd2 c1 c2 HR HLE
 go_wp2_with fail
 clear c13
 go_loopw [23] (fun iv wr=>∃ k:Nat,k≤n2∧iv=.int .i64 k∧(∀(j:Nat) (v u:Int),j < k→(levS LL line more)[j]?=some v→(levS LL (-1) 0)[j]?=some u→v≤u)∧wr=w2) (fun iv _=>n2 - (intOf iv).toNat)
 case atStart=>exact⟨0,Nat.zero_le _,rfl,fun j v u hj=>by omega,rfl⟩
 case round =>
  obtain⟨k,hk,rfl,hall,rfl⟩:=hrel;have HALL:=hid hall;clear hall
  have hn1000:n2≤1000:=by have:=HM.out;have:=HFULL.out;omega
  by_cases hlt:k < n2
  · obtain⟨b1,o1,v,rfl,_,hv,hvc⟩:=HRD.out.at_ hlt
    have hln:ln=n2:=by rw[← HKM.out.lr.len,← HLEN.out,HM.out]
    obtain⟨b2,o2,u,rfl,_,hu,huc⟩:=HKM.out.lr.at_ (i:=k) (by omega);have q1:=hvc 0 _ rfl;have q2:=huc 0 _ rfl;simp only[Nat.mul_one,Nat.add_zero] at q1 q2;have c3:=HKM.out.bb.cell;have c4:=HKM.out.lvc;have HV:=hid hv;have HU:=hid hu
    have hi1:(k:Int) < (n2:Int):=by omega
    have hi2:(k:Int) < (ln:Int):=by omega
    have hi0:(0:Int)≤(k:Int):=by omega
    clear hvc huc hv hu hln
    by_cases hgt:u < v
    · have hno:keepsP LL line more=false:=by
       cases hb:keepsP LL line more with
       | false=>rfl
       | true=>have:=(allLe_iff HLEN.out).1 hb k v u HV.out HU.out;omega
      have HNO:=hid hno;clear hno
      go_wp2_with fail
      (try rw[Exit.noGoto_ret])
      go_ret
      exact⟨by rw[HNO.out];rfl,HB.out⟩
    · go_wp2_with fail
      go_roundw
      case rel =>
       refine⟨k+1,by omega,by go_num,fun j v' u' hj hv' hu'=>?_,by trivial⟩
       by_cases hjk:j < k
       · exact HALL.out j v' u' hjk hv' hu'
       · obtain rfl:j=k:=by omega
         rw[HV.out] at hv';rw[HU.out] at hu';cases hv';cases hu';omega
      case measure=>simp[intOf] <;> omega
  · obtain rfl:k=n2:=by omega
    have hyes:keepsP LL line more=true:=(allLe_iff HLEN.out).2 fun j v u hv hu=>HALL.out j v u (by rw[← HM.out];exact(List.getElem?_eq_some_iff.1 hv).1) hv hu;have HY:=hid hyes;clear hyes
    go_wp2_with fail
    go_ret
    exact⟨by rw[HY.out];rfl,HB.out⟩
end Go.Proofs.YtlaengnhfjlphaaGreatDoor
