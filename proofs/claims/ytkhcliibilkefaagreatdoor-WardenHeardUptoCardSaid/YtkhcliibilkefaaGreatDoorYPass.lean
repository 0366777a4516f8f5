/- CONTRACT of (*water.way).pass. -/
import Derived.Test.YtkhcliibilkefaaGreatDoorYPassLaw
import Derived.BigQuiet
set_option linter.unusedVariables false
set_option linter.unusedSimpArgs false
set_option maxRecDepth 100000
set_option maxHeartbeats 8000000
namespace Go.Proofs.YtkhcliibilkefaaGreatDoor
open Lib (hid)
open Go.RowKit Go.Proofs
attribute [local go_sem ↓] Go.wp_at_zero Go.wp_at_succ
structure PassI (w:World) (W0 B5:Nat) (CS DS LV RN:Slc) (sn0 sn1 so0 so1 melt tsn tso snow:Int) (lv:Nat→Int) (left:Int) (now:Nat→Int) (W:World):Prop where
 way:Blk W W0 219 (wayC CS sn0 sn1 so0 so1 melt DS tsn tso LV RN lv snow left)
 row:Blk W B5 217 (arr8 now)
 fr:Fr (fun g=>g=W0) w W
theorem PassI.below {w:World}{W0 B5:Nat}{CS DS LV RN:Slc}{sn0 sn1 so0 so1 melt tsn tso snow:Int}{lv:Nat→Int}{left:Int}{now:Nat→Int}{W W':World}
 (h:PassI w W0 B5 CS DS LV RN sn0 sn1 so0 so1 melt tsn tso snow lv left now W) (hb:Below W.heap.size W W'):PassI w W0 B5 CS DS LV RN sn0 sn1 so0 so1 melt tsn tso snow lv left now W' :=
 ⟨h.way.below hb h.way.lt,h.row.below hb h.row.lt,h.fr.trans (Fr.of_below hb _)⟩
section
variable {w:World} {W0 B5:Nat} {CS DS LV RN:Slc} {sn0 sn1 so0 so1 melt tsn tso snow:Int} {lv:Nat→Int} {left:Int} {now:Nat→Int} {W:World}
theorem PassI.setRow (h:PassI w W0 B5 CS DS LV RN sn0 sn1 so0 so1 melt tsn tso snow lv left now W){k:Nat}(hk:k<8)(hB:w.heap.size≤B5)(hW:W0<w.heap.size)(v:Int) :
 PassI w W0 B5 CS DS LV RN sn0 sn1 so0 so1 melt tsn tso snow lv left (fun j=>if j=k then v else now j) (W.setCell ⟨B5,k,none⟩ (.int .i64 v)) :=
 ⟨h.way.far (by dsimp only;omega) _,by have:=h.row.set_ k (.int .i64 v);rwa [arr8_set hk] at this,Fr.setAt h.fr (.inr hB) _⟩
theorem PassI.setLeft (h:PassI w W0 B5 CS DS LV RN sn0 sn1 so0 so1 melt tsn tso snow lv left now W)(hB:w.heap.size≤B5)(hW:W0<w.heap.size)(v:Int) :
 PassI w W0 B5 CS DS LV RN sn0 sn1 so0 so1 melt tsn tso snow lv v now (W.setCell ⟨W0,20,none⟩ (.int .i64 v)) :=
 ⟨by have:=h.way.set_ 20 (.int .i64 v);rwa [wayC_left] at this,h.row.far (by dsimp only;omega) _,Fr.setAt h.fr (.inl rfl) _⟩
theorem PassI.setLv (h:PassI w W0 B5 CS DS LV RN sn0 sn1 so0 so1 melt tsn tso snow lv left now W){k:Nat}(hk:k<8)(hB:w.heap.size≤B5)(hW:W0<w.heap.size)(v:Int) :
 PassI w W0 B5 CS DS LV RN sn0 sn1 so0 so1 melt tsn tso snow (fun j=>if j=k then v else lv j) left now (W.setCell ⟨W0,11+k,none⟩ (.int .i64 v)) :=
 ⟨by have:=h.way.set_ (11+k) (.int .i64 v);rwa [wayC_set hk] at this,h.row.far (by dsimp only;omega) _,Fr.setAt h.fr (.inl rfl) _⟩
theorem PassI.way_cell (h:PassI w W0 B5 CS DS LV RN sn0 sn1 so0 so1 melt tsn tso snow lv left now W):W.cell? ⟨W0,20,none⟩=some (.int .i64 left):=by
 have:=h.way.cell 20;simpa[wayC] using this
end
theorem pass_c {CS DS LV RN:Slc}{sn0 sn1 so0 so1 melt tsn tso snow left down:Int}{L:List Int}{C:List Cel}{W0:Nat}{w:World}
 (h:Blk w W0 219 (wayC CS sn0 sn1 so0 so1 melt DS tsn tso LV RN (lvA L) snow left)) (hC:Rd encCel 7 w CS.A CS.n C) (hne:∀ ad,CS.A=some ad→ad.block≠W0)
 (hok:∀ c∈C,celOk CS.n c) (hn:1≤CS.n∧CS.n≤8) (hL:LvB L) (hl:L.length=CS.n) (hd:0≤down∧down≤1000000) (ht:0≤tso∧tso≤1000) :
 Calls Tryz.prog 176 #[.pointer (some ⟨W0,0,none⟩),.int .i64 down] w fun e w'=>(∃ v,e=.returned v) ∧
  Blk w' W0 219 (wayC CS sn0 sn1 so0 so1 melt DS tsn tso LV RN (lvA (passW C L (down * tso / 1000))) snow (leftW C L down (down * tso / 1000) C.length+overW C L (down * tso / 1000) C.length))∧Fr (fun g=>g=W0) w w':=by
 have hlen:=hC.len;obtain⟨CA,cn,cc⟩:=CS;dsimp only at hC hne hok hn hl hlen;obtain⟨cb,co,rfl,hcb,_⟩:=hC.2 (by omega);have hpd:0≤down * tso∧down * tso≤1000000000:=⟨Int.mul_nonneg hd.1 ht.1,Int.le_trans (Int.mul_le_mul hd.2 ht.2 ht.1 (by omega)) (by decide)⟩
 have hsd:0≤down * tso / 1000∧down * tso / 1000≤down:=by
  have:down * tso≤down * 1000:=Int.mul_le_mul_of_nonneg_left ht.2 hd.1;omega
 generalize hM:down * tso=M at hpd hsd;have hdv:M.tdiv 1000=M / 1000:=Int.tdiv_eq_ediv_of_nonneg hpd.1;obtain⟨s,hs⟩:∃ s,s=M / 1000:=⟨_,rfl⟩;rw[← hs] at hsd hdv ⊢;have HS:=hid hs;clear hs;have hW:W0<w.heap.size:=h.lt;have c8:=h.cell 8;have c20:=h.cell 20;have c0:=h.cell 0;have z20:=h.frozen 20;simp[wayC,Slc.v] at c8 c20 c0;have hw1:=h.set_ 20 (.int .i64 0);rw[wayC_left] at hw1;have hf1:=Fr.setAt (E:=fun g=>g=W0) (Fr.refl _ w) (p:=⟨W0,20,none⟩) (.inl rfl) (.int .i64 0)
 have HI:=hid (show PassI w W0 w.heap.size ⟨some ⟨cb,co,none⟩,cn,cc⟩ DS LV RN sn0 sn1 so0 so1 melt tsn tso snow (lvA L) (leftW C L down s 0) (fun _=>0) ((w.setCell ⟨W0,20,none⟩ (.int .i64 0)).alloc (.cells (arr8 fun _=>0) 217)) from
  ⟨hw1.alloc _,by simpa[World.setCell] using Blk.new (w.setCell ⟨W0,20,none⟩ (.int .i64 0)) 217 (arr8 fun _=>0),hf1.trans (Fr.of_below ((Below.refl _ _).alloc (Nat.le_refl _) _) _)⟩)
 have HC:=hid hC;have HNE:=hid hne;have HOK:=hid hok;have HL:=hid hL;clear hw1 hf1 h hC hne hok hL
 go_enter Tryz.func176,Tryz.ntmps176
 go_wp2_with fail
 go_loopw [6,7,8,9,10,30] (fun _ _ _ _ _ i wr=>∃ k:Nat,k≤cn∧i=.int .i64 (k:Int)∧PassI w W0 w.heap.size ⟨some ⟨cb,co,none⟩,cn,cc⟩ DS LV RN sn0 sn1 so0 so1 melt tsn tso snow (lvA L) (leftW C L down s k) (nowW C L s k) wr) (fun _ _ _ _ _ i _=>cn - (intOf i).toNat)
 case atStart=>exact⟨0,Nat.zero_le _,rfl,(show nowW C L s 0=fun _=>0 from rfl) ▸ HI.out⟩
 case round =>
  obtain⟨k,hk,rfl,hi⟩:=hrel;clear HI
  by_cases hlt:k<cn
  · obtain⟨b,o,x,hA,hbl,hx,y0,y1,y2,y3,y4,y5,y6⟩:=(hi.fr.rd HC.out (fun ad e=>HNE.out ad e)).atCel hlt
    cases hA;have hce:=celA_at hx;have hck:=HOK.out x (List.mem_of_getElem? hx)
    have hk8:k<8:=by omega
    have hki:(k:Int)<8:=by omega
    have HX:=on_x hck (HL.out k);have HCE:=hid hce;clear hx hce;have hi2:=hi.below ((Below.refl wr.heap.size wr).alloc (Nat.le_refl _) (.cells #[.int .i64 x.lo,.int .i64 x.hi,.int .i64 x.cap,.int .i64 x.keep,.int .i64 x.pass,.int .i64 x.to,.int .i64 x.pump] 162));have hb7:=Blk.new wr 162 #[.int .i64 x.lo,.int .i64 x.hi,.int .i64 x.cap,.int .i64 x.keep,.int .i64 x.pass,.int .i64 x.to,.int .i64 x.pump];have HI:=hid hi2;have H7:=hid hb7;have HB7:=hid (show w.heap.size<wr.heap.size from hi.row.lt);clear hi2 hb7 hi
    go_upto_region 6 with fail
    revert HI H7;generalize (World.alloc wr (.cells #[.int .i64 x.lo,.int .i64 x.hi,.int .i64 x.cap,.int .i64 x.keep,.int .i64 x.pass,.int .i64 x.to,.int .i64 x.pump] 162))=w6;intro HI H7
    go_cut [8] (fun v wx=>v=.int .i64 (takenW x (lvA L k))∧Below w6.heap.size w6 wx)
    case first =>
     have q1:=HI.out.way.cell (11+k);rw[wayC_lv hk8] at q1;have q2:=H7.out.cell 6;simp at q2
     rcases Int.lt_or_le x.pump (lvA L k) with hc | hc
     · have hm:takenW x (lvA L k)=x.pump:=by unfold takenW;omega
       refine wp_region_till [] (fun U=>U.cell? ⟨W0,11+k,none⟩=some (.int .i64 (lvA L k))∧U.cell? ⟨wr.heap.size,6,none⟩=some (.int .i64 x.pump)) (by kernel_rfl) (by exact⟨q1,q2⟩) (fun hHeld=>?_);skip;refine tk 0 0 ?_;refine tk 0 1 ?_;refine tk 0 2 ?_;refine tk 0 3 ?_;refine tk 0 4 ?_;refine tk 0 5 ?_;refine tk 0 6 ?_;refine tk 0 7 ?_;refine tk 0 8 ?_;refine tk 0 9 ?_;refine td ?_
       go_wp2_with fail
       go_meet
       exact⟨by rw[hm],(Below.refl _ _).drew⟩
     · have hm:takenW x (lvA L k)=lvA L k:=by unfold takenW;omega
       refine wp_region_till [] (fun U=>U.cell? ⟨W0,11+k,none⟩=some (.int .i64 (lvA L k))∧U.cell? ⟨wr.heap.size,6,none⟩=some (.int .i64 x.pump)) (by kernel_rfl) (by exact⟨q1,q2⟩) (fun hHeld=>?_);skip;refine tk 0 0 ?_;refine tk 0 1 ?_;refine tk 0 2 ?_;refine tk 0 3 ?_;refine tk 0 4 ?_;refine tk 0 5 ?_;refine tk 0 6 ?_;refine tk 0 7 ?_;refine tk 0 8 ?_;refine tk 0 9 ?_;refine td ?_
       go_wp2_with fail
       go_meet
       exact⟨by rw[hm],(Below.refl _ _).drew⟩
    case rest =>
     obtain⟨rfl,hb6⟩:=hcut;have hi7:=HI.out.below hb6;have h77:=H7.out.below hb6 H7.out.lt;clear HI H7 hb6;have HI:=hid hi7;have H7:=hid h77;clear hi7 h77;obtain⟨HX1,HX2,HX3,HX4⟩:=HX;have q1:=HI.out.way.cell (11+k);rw[wayC_lv hk8] at q1;have q3:=H7.out.cell 3;have q4:=H7.out.cell 4;simp at q3 q4;have hst:staysW x (lvA L k)=lvA L k - takenW x (lvA L k):=rfl;have hon:onW x (lvA L k)=max 0 (staysW x (lvA L k) - x.keep) * x.pass / 1000:=rfl;obtain⟨l,hl9⟩:∃ l,l=lvA L k:=⟨_,rfl⟩;rw[← hl9] at HX1 HX2 HX3 HX4 q1 hst hon ⊢
     have hl0:0≤l∧l≤100000:=by rw[hl9];exact HL.out k
     obtain⟨t,ht9⟩:∃ t,t=takenW x l:=⟨_,rfl⟩;obtain⟨st,hst9⟩:∃ st,st=staysW x l:=⟨_,rfl⟩;obtain⟨on,hon9⟩:∃ on,on=onW x l:=⟨_,rfl⟩;rw[← ht9] at HX1 hst ⊢;rw[← hst9] at HX2 HX3 HX4 hst hon;rw[← hon9] at HX4 hon;generalize hX:max 0 (st - x.keep) * x.pass=X at HX3 hon;have hXd:X.tdiv 1000=X / 1000:=Int.tdiv_eq_ediv_of_nonneg HX3.1;have hkp:=hck.2.2.1;have hcp:=hck.1;rw[← hon] at hXd;subst hst
     have hmx:max 0 (l - t - x.keep)=if x.keep<l - t then l - t - x.keep else 0:=by split<;>omega
     rw[hmx] at hX;clear hmx;have HL9:=hid hl9;have HT9:=hid ht9;have HST9:=hid hst9;have HON9:=hid hon9;have HON:=hid hon;clear hl9 ht9 hst9 hon9 hon;have HNB:=hid (now_bd HOK.out HL.out ⟨hsd.1,by omega⟩ k k);have hnb:=HNB.out;have q5:=HI.out.row.cell k;rw[arr8_get hk8] at q5;have z5:=HI.out.row.frozen k;obtain⟨nk,hnk⟩:∃ nk,nk=nowW C L s k k:=⟨_,rfl⟩;rw[← hnk] at hnb q5;have HNK:=hid hnk;clear hnk
     have hk2:(k:Int) * 2000000≤16000000:=by omega
     have hkl:k<C.length:=by omega
     clear c8 c20 c0 z20
     go_upto_region 10 with fail
     clear q1 q3 q4 q5 z5 hX hXd;generalize (if x.keep<l - t then l - t - x.keep else 0)=mx;have hi9:=HI.out.setRow hk8 (Nat.le_refl _) hW (nk+(l - t - on+s));have h79:=H7.out.far (p:=⟨w.heap.size,k,none⟩) (by have:=HB7.out;dsimp only;omega) (.int .i64 (nk+(l - t - on+s)));clear HI H7;have HI:=hid hi9;have H7:=hid h79;clear hi9 h79;revert HI H7;generalize World.setCell _ _ _=w9;intro HI H7;have c20:=HI.out.way_cell;have HLB:=hid (left_bd (d:=down) HOK.out HL.out ⟨hsd.2,hd.2⟩ hsd.1 k);have hlb:=HLB.out;obtain⟨lf,hlf⟩:∃ lf,lf=leftW C L down s k:=⟨_,rfl⟩;rw[← hlf] at hlb c20;have HLF:=hid hlf;clear hlf;have e1:IntKind.i64.wrap (down - s)=down - s:=wi (by omega);have e2:IntKind.i64.wrap (lf+(down - s+t))=lf+(down - s+t):=wi (by omega)
     go_cut [] (fun wx=>PassI w W0 w.heap.size ⟨some ⟨cb,co,none⟩,cn,cc⟩ DS LV RN sn0 sn1 so0 so1 melt tsn tso snow (lvA L) (lf+(down - s+t)) (fun j=>if j=k then nk+(l - t - on+s) else nowW C L s k j) wx∧Blk wx wr.heap.size 162 #[.int .i64 x.lo,.int .i64 x.hi,.int .i64 x.cap,.int .i64 x.keep,.int .i64 x.pass,.int .i64 x.to,.int .i64 x.pump])
     case first =>
      refine wp_region_till [13] (fun U=>U.cell? ⟨W0,20,none⟩=some (.int .i64 lf)) (by kernel_rfl) (by exact c20) (fun hHeld=>?_);have hb9:=(Below.refl w9.heap.size w9).drew;replace HI:=hid (HI.out.below hb9);replace H7:=hdB H7 hb9;clear hb9;revert hHeld HI H7;generalize w9.drew=w0;intro hHeld HI H7;refine tk 0 0 ?_;refine tk 0 1 ?_;refine tk 0 2 ?_;refine tk 0 3 ?_;refine tk 0 4 ?_;refine tk 0 5 ?_;refine tk 0 6 ?_;refine tk 0 7 ?_;refine ar [8] (ac (fun K hK=>?_) an);go_simp;have hb9:=(Below.refl w0.heap.size w0).alloc (Nat.le_refl _) (.cells #[.int .i64 (down - s),.int .i64 t] 3);have hrd:=Rd.of_blkE (k:=1) enc1_len (Blk.new w0 3 #[.int .i64 (down - s),.int .i64 t]) (l:=[down - s,t]) (n:=2) rfl rfl;replace HI:=hid (HI.out.below hb9);replace H7:=hdB H7 hb9;have HR:=hid hrd;clear hb9 hrd;(try clear hHeld);refine hK.out _ _ (by(try dsimp only);exact(by rw[HLF.out];exact HI.out.way_cell)) (fun hHeld=>?_);clear hK K;refine pt ?_;refine ar [9] (ac (fun K hK=>?_) an);go_simp;go_at_call 211;refine(wsum2_c (c:=2) HR.out (by omega) (by omega)).mono ?_;rintro e w1 ⟨rfl,hb9⟩;replace HI:=hid (HI.out.below hb9);replace H7:=hdB H7 hb9;replace HR:=hid (HR.out.below hb9);clear hb9 ;(try go_wp2_with fail);(try clear hHeld);refine hK.out _ _ (by(try dsimp only);exact(by rw[HLF.out];exact HI.out.way_cell)) (fun hHeld=>?_);clear hK K;refine pt ?_;refine tk 0 10 ?_;refine tk 1 11 ?_;refine tk 0 12 ?_;refine ar [13] (al (fun K hK=>?_) an);have c20:=HI.out.way_cell
      have z20:=HI.out.way.frozen 20;go_simp;(try clear hHeld);refine hK.out _ _ ?_;clear hK K;refine pt ?_;refine td ?_
      go_wp2_with fail
      go_meet
      exact⟨HI.out.setLeft (Nat.le_refl _) hW _,H7.out.far (p:=⟨W0,20,none⟩) (by have:=HB7.out;dsimp only;omega) _⟩
     case rest =>
      obtain⟨hi10,h710⟩:=hcut;clear HI H7 c20;have HI:=hid hi10;have H7:=hid h710;clear hi10 h710;have p4:=H7.out.cell 5;simp at p4;have hto:=hck.2.2.2.2.1
      by_cases hr:x.to=-1
      · have c20:=HI.out.way_cell
        have z20:=HI.out.way.frozen 20;have HR:=hid hr
        go_wp2_with fail
        have hi11:=HI.out.setLeft (Nat.le_refl _) hW (lf+(down - s+t)+on);have e5:=now_river HCE.out HR.out (L:=L) (s:=s) (v:=nk+(l - t - on+s)) (by rw[HNK.out,HON9.out,HT9.out,HL9.out];rfl);have e6:=left_river HCE.out HR.out (L:=L) (s:=s) (d:=down) (v:=lf+(down - s+t)+on) (by rw[HLF.out,HON9.out,HT9.out,HL9.out]);rw[e5,e6] at hi11;rw[e6]
        go_roundw
        case rel=>exact⟨k+1,by omega,by go_num,hi11⟩
        case measure=>simp[intOf]<;>omega
      · have hto0:0≤x.to∧x.to<8:=by omega
        obtain⟨m,hm⟩:∃ m:Nat,x.to=(m:Int):=⟨x.to.toNat,by omega⟩;rw[hm] at p4
        have hm8:m<8:=by omega
        have hmi:(m:Int)<8:=by omega
        have hmn:¬((m:Int)=-1):=by omega
        have hmb:((m:Int) == -1)=false:=by rw[beq_eq_false_iff_ne];omega
        have q5:=HI.out.row.cell m;rw[arr8_get hm8] at q5;have z5:=HI.out.row.frozen m;have hnm:=now_bd HOK.out HL.out ⟨hsd.1,by omega⟩ k m;obtain⟨v,hv⟩:∃ v,v=(if m=k then nk+(l - t - on+s) else nowW C L s k m):=⟨_,rfl⟩
        have hvb:0≤v∧v≤20000000:=by rw[hv];split<;>omega
        rw[← hv] at q5;have HV:=hid hv;have HM:=hid hm;have HR:=hid hr;clear hv hm hr hnm
        go_wp2_with fail
        have hi11:=HI.out.setRow hm8 (Nat.le_refl _) hW (v+on);have e5:=now_to HCE.out HM.out (L:=L) (s:=s) (v:=nk+(l - t - on+s)) (u:=v+on) (by rw[HNK.out,HON9.out,HT9.out,HL9.out];rfl) (by rw[HV.out,HON9.out,HL9.out]);have e6:=left_to HCE.out HR.out (L:=L) (s:=s) (d:=down) (v:=lf+(down - s+t)) (by rw[HLF.out,HT9.out,HL9.out]);rw[e5,e6] at hi11
        go_roundw
        case rel=>exact⟨k+1,by omega,by go_num,hi11⟩
        case measure=>simp[intOf]<;>omega
  · obtain rfl:k=cn:=by omega
    have HI:=hid hi;clear hi hk hlt;have d0:=HI.out.way.cell 0;simp[wayC,Slc.v] at d0;have HCL:=hid hlen;clear c8 c20 c0 z20 hM hpd hdv
    go_wp2_with fail
    go_loopw [11,12,109] (fun _ _ i wr=>∃ i':Nat,i'≤k∧i=.int .i64 (i':Int)∧PassI w W0 w.heap.size ⟨some ⟨cb,co,none⟩,k,cc⟩ DS LV RN sn0 sn1 so0 so1 melt tsn tso snow (fun j=>if j<i' then lvA (passW C L s) j else lvA L j) (leftW C L down s C.length+overW C L s i') (nowW C L s C.length) wr) (fun _ _ i _=>k - (intOf i).toNat)
    case atStart=>exact⟨0,Nat.zero_le _,rfl,by
     simp only[Nat.not_lt_zero,if_false,overW,Int.add_zero,HCL.out]
     exact HI.out⟩
    case round =>
     obtain⟨i,hi,rfl,hI⟩:=hrel;clear HI d0
     by_cases hlt:i<k
     · obtain⟨b,o,x,hA,hbl,hx,y0,y1,y2,y3,y4,y5,y6⟩:=(hI.fr.rd HC.out (fun ad e=>HNE.out ad e)).atCel hlt
       cases hA;have hce:=celA_at hx;have hck:=HOK.out x (List.mem_of_getElem? hx)
       have hk8:i<8:=by omega
       have hki:(i:Int)<8:=by omega
       have HCE:=hid hce;clear hx hce;have hi2:=hI.below ((Below.refl wr.heap.size wr).alloc (Nat.le_refl _) (.cells #[.int .i64 x.lo,.int .i64 x.hi,.int .i64 x.cap,.int .i64 x.keep,.int .i64 x.pass,.int .i64 x.to,.int .i64 x.pump] 162));have hb7:=Blk.new wr 162 #[.int .i64 x.lo,.int .i64 x.hi,.int .i64 x.cap,.int .i64 x.keep,.int .i64 x.pass,.int .i64 x.to,.int .i64 x.pump];have HI:=hid hi2;have H7:=hid hb7;have HB7:=hid (show w.heap.size<wr.heap.size from hI.row.lt);clear hi2 hb7 hI
       go_upto_region 18 with fail
       revert HI H7;generalize (World.alloc wr (.cells #[.int .i64 x.lo,.int .i64 x.hi,.int .i64 x.cap,.int .i64 x.keep,.int .i64 x.pass,.int .i64 x.to,.int .i64 x.pump] 162))=w6;intro HI H7;have c20:=HI.out.way_cell;have p2:=H7.out.cell 2;simp at p2;have q5:=HI.out.row.cell i;rw[arr8_get hk8] at q5;have hnb:=now_bd HOK.out HL.out ⟨hsd.1,by omega⟩ C.length i;have hlb:=left_bd (d:=down) HOK.out HL.out ⟨hsd.2,hd.2⟩ hsd.1 C.length;have hob:=over_bd HOK.out HL.out ⟨hsd.1,by omega⟩ (by have:=HCL.out;omega) i
       have hcl8:(C.length:Int)≤8:=by have:=HCL.out;omega
       obtain⟨nk,hnk⟩:∃ nk,nk=nowW C L s C.length i:=⟨_,rfl⟩;obtain⟨lf,hlf⟩:∃ lf,lf=leftW C L down s C.length+overW C L s i:=⟨_,rfl⟩
       have hlfb:0≤lf∧lf≤200000000:=by omega
       rw[← hnk] at hnb q5;rw[← hlf] at c20;have HNK:=hid hnk;have HLF:=hid hlf
       have hnb2:0≤nk∧nk≤16000000:=by omega
       clear hnk hlf hnb hlb hob;have hcp:=hck.1;have e1:IntKind.i64.wrap (nk - x.cap)=nk - x.cap:=wi (by omega)
       go_cut [] (fun wx=>PassI w W0 w.heap.size ⟨some ⟨cb,co,none⟩,k,cc⟩ DS LV RN sn0 sn1 so0 so1 melt tsn tso snow (fun j=>if j<i then lvA (passW C L s) j else lvA L j) (lf+max 0 (nk - x.cap)) (nowW C L s C.length) wx∧Blk wx wr.heap.size 162 #[.int .i64 x.lo,.int .i64 x.hi,.int .i64 x.cap,.int .i64 x.keep,.int .i64 x.pass,.int .i64 x.to,.int .i64 x.pump])
       case first =>
        rcases Int.lt_or_le x.cap nk with hc | hc
        · have hm:max 0 (nk - x.cap)=nk - x.cap:=by omega
          have hpos:0<nk - x.cap:=by omega
          have e2:IntKind.i64.wrap (lf+(nk - x.cap))=lf+(nk - x.cap):=wi (by omega);refine wp_region_till [14] (fun U=>U.cell? ⟨W0,20,none⟩=some (.int .i64 lf)∧U.cell? ⟨w.heap.size,i,none⟩=some (.int .i64 nk)∧U.cell? ⟨wr.heap.size,2,none⟩=some (.int .i64 x.cap)) (by kernel_rfl) (by exact⟨c20,q5,p2⟩) (fun hHeld=>?_);have hb9:=(Below.refl w6.heap.size w6).drew;replace HI:=hid (HI.out.below hb9);replace H7:=hdB H7 hb9;clear hb9;revert hHeld HI H7;generalize w6.drew=w0;intro hHeld HI H7;refine tk 0 0 ?_;refine tk 0 1 ?_;refine tk 0 2 ?_;refine tk 0 3 ?_;refine tk 0 4 ?_;refine tk 0 5 ?_;refine tk 0 6 ?_;refine tk 0 7 ?_;refine tk 0 8 ?_;refine tk 0 9 ?_;refine tk 0 10 ?_;refine tk 0 11 ?_;refine tk 1 12 ?_;refine tk 0 13 ?_;refine ar [14] (al (fun K hK=>?_) an);have c20:=HI.out.way_cell;have z20:=HI.out.way.frozen 20;go_simp;(try clear hHeld);refine hK.out _ _ ?_;clear hK K;refine pt ?_;refine td ?_
          go_wp2_with fail
          go_meet
          exact⟨by rw[hm];have:=HI.out.setLeft (Nat.le_refl _) hW (lf+(nk - x.cap));exact this,H7.out.far (p:=⟨W0,20,none⟩) (by have:=HB7.out;dsimp only;omega) _⟩
        · have hm:max 0 (nk - x.cap)=0:=by omega
          have hneg:nk - x.cap≤0:=by omega
          have e2:IntKind.i64.wrap lf=lf:=wi (by omega);refine wp_region_till [14] (fun U=>U.cell? ⟨W0,20,none⟩=some (.int .i64 lf)∧U.cell? ⟨w.heap.size,i,none⟩=some (.int .i64 nk)∧U.cell? ⟨wr.heap.size,2,none⟩=some (.int .i64 x.cap)) (by kernel_rfl) (by exact⟨c20,q5,p2⟩) (fun hHeld=>?_);have hb9:=(Below.refl w6.heap.size w6).drew;replace HI:=hid (HI.out.below hb9);replace H7:=hdB H7 hb9;clear hb9;revert hHeld HI H7;generalize w6.drew=w0;intro hHeld HI H7;refine tk 0 0 ?_;refine tk 0 1 ?_;refine tk 0 2 ?_;refine tk 0 3 ?_;refine tk 0 4 ?_;refine tk 0 5 ?_;refine tk 0 6 ?_;refine tk 0 7 ?_;refine tk 0 8 ?_;refine tk 0 9 ?_;refine tk 0 10 ?_;refine tk 0 11 ?_;refine tk 1 12 ?_;refine tk 0 13 ?_;refine ar [14] (al (fun K hK=>?_) an);have c20:=HI.out.way_cell;have z20:=HI.out.way.frozen 20;go_simp;(try clear hHeld);refine hK.out _ _ ?_;clear hK K;refine pt ?_;refine td ?_
          go_wp2_with fail
          go_meet
          exact⟨by rw[hm];have:=HI.out.setLeft (Nat.le_refl _) hW (lf);simpa using this,H7.out.far (p:=⟨W0,20,none⟩) (by have:=HB7.out;dsimp only;omega) _⟩
       case rest =>
        obtain⟨hi10,h710⟩:=hcut;clear HI H7 c20 q5 p2;have HI:=hid hi10;have H7:=hid h710;clear hi10 h710;have p2:=H7.out.cell 2;simp at p2;have q5:=HI.out.row.cell i;rw[arr8_get hk8,← HNK.out] at q5
        have e7:lf+max 0 (nk - x.cap)=leftW C L down s C.length+overW C L s (i+1):=by
         rw[HLF.out,HNK.out,← HCE.out];simp only[overW];omega
        have HE8:=hid (show(fun j=>if j=i then min nk x.cap else if j<i then lvA (passW C L s) j else lvA L j)=fun j=>if j<i+1 then lvA (passW C L s) j else lvA L j from by
         funext j
         by_cases hj:j=i
         · subst hj
           rw[if_pos rfl,if_pos (by omega),lvA_pass,if_pos (by have:=HCL.out;omega),HNK.out,HCE.out]
         · rw[if_neg hj]
           by_cases hj2:j<i
           · rw[if_pos hj2,if_pos (by omega)]
           · rw[if_neg hj2,if_neg (by omega)])
        have HE7:=hid e7;clear e7
        go_upto_region 19 with fail
        rcases Int.lt_or_le x.cap nk with hc | hc
        · have HM:=hid (show min nk x.cap=x.cap by omega)
          refine wp_region_till [11] (fun U=>U.cell? ⟨w.heap.size,i,none⟩=some (.int .i64 nk)∧U.cell? ⟨wr.heap.size,2,none⟩=some (.int .i64 x.cap)) (by kernel_rfl) (by exact⟨q5,p2⟩) (fun hHeld=>?_);have hb9:=(Below.refl wc.heap.size wc).drew;replace HI:=hid (HI.out.below hb9);replace H7:=hdB H7 hb9;clear hb9;revert hHeld HI H7;generalize wc.drew=w0;intro hHeld HI H7;refine tk 0 0 ?_;refine tk 0 1 ?_;refine tk 0 2 ?_;refine tk 0 3 ?_;refine tk 0 4 ?_;refine tk 0 5 ?_;refine tk 0 6 ?_;refine tk 0 7 ?_;refine tk 2 8 ?_;refine tk 1 9 ?_;refine tk 0 10 ?_;refine ar [11] (al (fun K hK=>?_) an);have c20:=HI.out.way.cell (11+i);rw[wayC_lv hk8] at c20;have z20:=HI.out.way.frozen (11+i);go_simp;(try clear hHeld);refine hK.out _ _ ?_;clear hK K;refine pt ?_;refine td ?_;have hi12:=HI.out.setLv hk8 (Nat.le_refl _) hW (x.cap);have e8:=HE8.out;rw[HM.out] at e8;rw[e8,HE7.out] at hi12
          go_wp2_with fail
          go_roundw
          case rel=>exact⟨i+1,by omega,by go_num,hi12⟩
          case measure=>simp[intOf]<;>omega
        · have HM:=hid (show min nk x.cap=nk by omega)
          refine wp_region_till [11] (fun U=>U.cell? ⟨w.heap.size,i,none⟩=some (.int .i64 nk)∧U.cell? ⟨wr.heap.size,2,none⟩=some (.int .i64 x.cap)) (by kernel_rfl) (by exact⟨q5,p2⟩) (fun hHeld=>?_);have hb9:=(Below.refl wc.heap.size wc).drew;replace HI:=hid (HI.out.below hb9);replace H7:=hdB H7 hb9;clear hb9;revert hHeld HI H7;generalize wc.drew=w0;intro hHeld HI H7;refine tk 0 0 ?_;refine tk 0 1 ?_;refine tk 0 2 ?_;refine tk 0 3 ?_;refine tk 0 4 ?_;refine tk 0 5 ?_;refine tk 0 6 ?_;refine tk 0 7 ?_;refine tk 2 8 ?_;refine tk 1 9 ?_;refine tk 0 10 ?_;refine ar [11] (al (fun K hK=>?_) an);have c20:=HI.out.way.cell (11+i);rw[wayC_lv hk8] at c20;have z20:=HI.out.way.frozen (11+i);go_simp;(try clear hHeld);refine hK.out _ _ ?_;clear hK K;refine pt ?_;refine td ?_;have hi12:=HI.out.setLv hk8 (Nat.le_refl _) hW (nk);have e8:=HE8.out;rw[HM.out] at e8;rw[e8,HE7.out] at hi12
          go_wp2_with fail
          go_roundw
          case rel=>exact⟨i+1,by omega,by go_num,hi12⟩
          case measure=>simp[intOf]<;>omega
     · obtain rfl:i=k:=by omega
       go_wp2_with fail
       go_end0
       refine⟨⟨_,rfl⟩,?_,hI.fr⟩;have hcl:=HCL.out;have:=hI.way;rw[← hcl] at this ⊢;rw[wayC_congr (g:=lvA (passW C L s))] at this
       · exact this
       · intro j _
         split
         · rfl
         · rw[lvA_pass,if_neg (by omega)]
           unfold lvA;rw[List.getD_eq_getElem?_getD,List.getElem?_eq_none (by omega)]
           rfl
end Go.Proofs.YtkhcliibilkefaaGreatDoor
