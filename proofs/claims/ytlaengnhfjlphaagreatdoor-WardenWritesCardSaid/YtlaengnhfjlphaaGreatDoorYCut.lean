/- CONTRACT of wakes: the document's first examples hold. -/
import Derived.Test.YtlaengnhfjlphaaGreatDoorYBears
import Derived.Deep.Quiet
import Derived.BigQuiet
set_option linter.unusedVariables false
set_option linter.unusedSimpArgs false
set_option maxRecDepth 100000
set_option maxHeartbeats 8000000
namespace Go.Proofs.YtlaengnhfjlphaaGreatDoor
open Lib (hid)
open Go.RowKit Go.Proofs
attribute [local go_sem ↓] Go.wp_at_zero Go.wp_at_succ
theorem str_eql (a b:List UInt8)(W:World):(binOp .eql 9 (str a) (str b)).run Tryz.prog W=.ok (.bool (decide (a=b))) W:=by
 unfold str;rw[binOp_string_eql,Sem.run_pure,ByteArray.toList_eq,ByteArray.toList_eq];show Result.ok (Value.bool (a == b)) W=_;rw[show(a == b)=decide (a=b) from by rw[Bool.eq_iff_iff];simp]
theorem spring_c (w:World):Calls Tryz.prog 21 #[] w fun e w'=>∃ g,e=.returned (.slice (some ⟨g,0,none⟩) 16 16)∧Rd encStr 1 w' (some ⟨g,0,none⟩) 16 springL∧Below w.heap.size w w':=by
 go_enter Tryz.func21,Tryz.ntmps21
 go_wp2_with fail
 go_ret
 exact⟨w.heap.size,rfl,Rd.of_blkE encStr_len (Blk.new w 9 (springL.flatMap encStr).toArray) (by simp) springL_small.1,(Below.refl _ w).alloc (Nat.le_refl _) _⟩
theorem spring_check:checkL springL=0:=by
 unfold checkL;rw[if_neg (by rw[springL_small.1];decide),if_pos springL_small.2]
theorem ab_check:checkL [⟨#[97]⟩,⟨#[]⟩]=0:=by decide +kernel
theorem wakes_ok (w:World)(hl:Lay w):Calls Tryz.prog 7 #[] w fun e w'=>e=.returned (.bool true)∧Below w.heap.size w w':=by
 have HL:=hid hl;have HB:=hid (Below.refl w.heap.size w);clear hl
 go_enter Tryz.func7,Tryz.ntmps7
 go_wp2_with fail
 go_at_call 21;refine((spring_c _)).mono ?_;rintro e w1 ⟨g1,rfl,hr1,hb9⟩;replace HB:=hdT HB hb9;have HR1:=hid hr1;clear hb9 hr1
 go_wp2_with fail
 go_at_call 18;refine(Run_c HR1.out (HL.out.below HB.out)).mono ?_;rintro e w2 ⟨s,x,b,m,ve,es,rfl,hrows,hown,hem,hok,_,hb9⟩;obtain⟨hbb,hes⟩:=hok spring_check;rw[show linesB springL=springB from springL_B] at hbb hes;obtain⟨v1,v2,v3,v4,v5⟩:=spring_vals;rw[← hes] at v1;rw[← hbb] at v2 v3 v4 v5
 have hm16:m=16:=by rw[← hem,v1];rfl
 subst hm16;obtain⟨EA,ec,rfl,_⟩:=own_form hown;rw[spring_check];have her:Rd enc1 1 w2 EA 16 es:=Rd.of_own enc1_len hown hem;have hle:=hrows.le.rd;have hbo:=hrows.bo.rd;have hrd:=hrows.rd.len;rw[v2] at hle;rw[v3] at hbo;rw[v5] at hrd;have hle2:x.le.n=2:=hle.len.symm;have hbo2:x.bo.n=1:=hbo.len.symm
 have hrd2:x.rd.n=1:=by rw[← hrd]
 rw[hle2] at hle;rw[hbo2] at hbo;clear HR1 hrows hown hok hem hrd hbb hes;have hb2:=below_tr HB.out hb9;clear HB hb9;have HTH:=hid (show World.there (w2.alloc (.cells #[.slice none 0 0,.int .i64 0,.slice none 0 0,.slice none 0 0,.int .i64 0,.int .i64 0,.int .i64 0,.int .i64 0,.int .i64 0,.slice none 0 0,.int .i64 0,.int .i64 0,.int .i64 0,.slice none 0 0,.slice none 0 0,.slice none 0 0,.int .i64 0,.int .i64 0,.int .i64 0,.int .i64 0,.slice none 0 0,.slice none 0 0] 57)) w2.heap.size 0 22 from there_of_blk (cs:=stateL ad0 zeroS) (Blk.new w2 57 (stateL ad0 zeroS).toArray));obtain⟨cs,hcs⟩:∃ cs,cs=(stateL x b).toArray:=⟨_,rfl⟩
 have hcn:cs.size=22:=by rw[hcs];rfl
 have hc1:cs.all (·.oneCell')=true:=by rw[hcs];exact stateL_one x b
 rw[← hcs];have HCS:=hid hcs;have HCN:=hid hcn;have HC1:=hid hc1;have HV2:=hid v2;have HV3:=hid v3;have HV4:=hid v4;have HV5:=hid v5;have HV1:=hid v1;have HLE2:=hid hle2;have HBO2:=hid hbo2;have HRD2:=hid hrd2;clear hcs hcn hc1 v1 v2 v3 v4 v5 hle2 hbo2 hrd2
 go_upto_region 2 with (refine wpList_store_mid rfl 57 (.tmp 1) (.tmp 11) rfl w2.heap.size 0 cs rfl rfl (by rw[HCN.out];exact HTH.out) (by rw[HCN.out];exact stateN) HC1.out ?_)
 have hblk:=blk_cells (stateL x b) 0 (w2.alloc (.cells (stateL ad0 zeroS).toArray 57)) [] (stateL ad0 zeroS) (Blk.new w2 57 (stateL ad0 zeroS).toArray) rfl rfl
 have hb3:Below w2.heap.size w2 ((w2.alloc (.cells (stateL ad0 zeroS).toArray 57)).setCells w2.heap.size 0 (stateL x b)) :=
  (((Below.refl w2.heap.size w2).alloc (Nat.le_refl _) (.cells (stateL ad0 zeroS).toArray 57)).trans ((grown_cells (g:=w2.heap.size) (stateL x b) 0 _).below (by simp) fun q e=>Nat.le_of_eq e.symm))
 generalize hw3:(World.setCells (w2.alloc (.cells #[.slice none 0 0,.int .i64 0,.slice none 0 0,.slice none 0 0,.int .i64 0,.int .i64 0,.int .i64 0,.int .i64 0,.int .i64 0,.slice none 0 0,.int .i64 0,.int .i64 0,.int .i64 0,.slice none 0 0,.slice none 0 0,.slice none 0 0,.int .i64 0,.int .i64 0,.int .i64 0,.int .i64 0,.slice none 0 0,.slice none 0 0] 57)) w2.heap.size 0 cs.toList)=w3
 have e9:(w2.alloc (.cells (stateL ad0 zeroS).toArray 57)).setCells w2.heap.size 0 (stateL x b)=w3:=by rw[← hw3,HCS.out];rfl
 rw[e9] at hblk hb3
 have hbk:Blk w3 w2.heap.size 57 (stateL x b).toArray:=by simpa using hblk
 clear hw3 e9 hblk HTH HCN HC1;have HB:=hid (below_tr hb2 hb3);have HER:=hid (her.below hb3);have HLE:=hid (hle.below hb3);have HBO:=hid (hbo.below hb3);have HST:=hid hbk;clear hb2 hb3 her hle hbo hbk HCS;have hl19:springL[7]?=some ⟨#[119,101,97,116,104,101,114,32,52,48,32,54,48,32,53]⟩:=rfl
 have hbe:∀(g:Nat) (W:World),Rd encStr 1 W (some ⟨g,0,none⟩) 16 springL→Lay W→Calls Tryz.prog 22 #[.slice (some ⟨g,0,none⟩) 16 16,.int .i64 7] W fun e w'=>e=.returned (.tuple #[.int .i64 29,.int .i64 0])∧Below W.heap.size W w':=by
  intro g W hr hl;have h1:=Bears_ok (c:=16) hr hl spring_check hl19 (by unfold errS;rw[show linesB springL=springB from springL_B,spring_vals.1];rfl) spring_isW;have h2:bearsN springL 7 ⟨#[119,101,97,116,104,101,114,32,52,48,32,54,48,32,53]⟩=29:=spring_bears;rw[h2] at h1;exact h1
 have HBE:=hid hbe;clear hbe hl19
 go_wp2_with fail
 go_at_call 21;refine((spring_c _)).mono ?_;rintro e w4 ⟨g4,rfl,hr4,hb9⟩;replace HB:=hdT HB hb9;replace HER:=hid (HER.out.below hb9);replace HLE:=hid (HLE.out.below hb9);replace HBO:=hid (HBO.out.below hb9);replace HST:=hdB HST hb9;have HR4:=hid hr4;clear hb9 hr4
 go_wp2_with fail
 go_at_call 22;refine((HBE.out _ _ HR4.out (HL.out.below HB.out))).mono ?_;rintro e w5 ⟨rfl,hb9⟩;replace HB:=hdT HB hb9;replace HER:=hid (HER.out.below hb9);replace HLE:=hid (HLE.out.below hb9);replace HBO:=hid (HBO.out.below hb9);replace HST:=hdB HST hb9;replace HR4:=hid (HR4.out.below hb9);clear hb9 ;clear HBE;have hal:=(Below.refl w5.heap.size w5).alloc (Nat.le_refl _) (.cells #[.string ⟨#[97]⟩,.string ⟨#[]⟩] 9);have hra:=Rd.of_blkE encStr_len (Blk.new w5 9 #[.string ⟨#[97]⟩,.string ⟨#[]⟩]) (l:=[(⟨#[97]⟩:ByteArray),⟨#[]⟩]) rfl rfl
 go_wp2_with fail
 go_at_call 8;refine(Write_c hra).mono ?_;rintro e w6 ⟨v,rfl,hwo,_,hb9⟩;have hwo:=hwo ab_check;rw[ab_check];have hbk2:bookW (linesB [⟨#[97]⟩,⟨#[]⟩]) 5=[123,97,97,98,122,122,121,97,97,97,108,100,125,97,10,123,97,97,97,122,122,122,97,97,97,108,100,125,10]:=spring_book;rw[hbk2] at hwo;obtain⟨bs,hbs⟩:∃ bs:List UInt8,bs=[123,97,97,98,122,122,121,97,97,97,108,100,125,97,10,123,97,97,97,122,122,122,97,97,97,108,100,125,10]:=⟨_,rfl⟩;rw[← hbs] at hwo
 have hbl:bs.length=29:=by rw[hbs];rfl
 rw[hbl] at hwo;have HBS:=hid hbs;have HBL:=hid hbl;obtain⟨A6,c6,rfl,_⟩:=own_form hwo;have hbz:=below_tr hal hb9;have hrw:Rd encB 1 w6 A6 29 bs:=Rd.of_own encB_len (by rw[flat_u8];exact hwo) HBL.out;have HRW:=hid hrw;clear hbs hbl hbk2 hra hal hb9 hwo hrw;replace HB:=hdT HB hbz;replace HER:=hid (HER.out.below hbz);replace HLE:=hid (HLE.out.below hbz);replace HBO:=hid (HBO.out.below hbz);replace HST:=hdB HST hbz;replace HR4:=hid (HR4.out.below hbz);clear hbz;obtain⟨be,oe,y,rfl,_,hy,hyc⟩:=HER.out.at_ (i:=14) (by decide);obtain⟨be',oe',y',e',_,hy',hyc'⟩:=HER.out.at_ (i:=15) (by decide);cases e';rw[HV1.out] at hy hy';cases hy;cases hy';have q14:=hyc 0 _ rfl;have q15:=hyc' 0 _ rfl;simp at q14 q15;obtain⟨bw,ow,z,rfl,_,_,_⟩:=HRW.out.at_ (i:=0) (by decide);have p13:=HST.out.cell 13;have p20:=HST.out.cell 20;simp[stateL] at p13 p20;rw[HLE2.out] at p13;rw[HBO2.out] at p20;clear hyc hyc';have ht22:([2,2]:List Int)=[2,2]:=rfl;have hal7:=(Below.refl w6.heap.size w6).alloc (Nat.le_refl _) (.cells #[.int .i64 2,.int .i64 2] 3);have hr7:=Rd.of_blkE (enc:=enc1) (k:=1) (fun _=>rfl) (Blk.new w6 3 #[.int .i64 2,.int .i64 2]) (l:=[2,2]) rfl rfl;have HI1:=hid (wints_c (c:=x.le.c) (c':=2) (HLE.out.below hal7) hr7 (by decide));clear hr7
 go_wp2_with fail
 go_at_call 23;refine HI1.out.mono ?_;rintro e w7 ⟨rfl,hb7⟩;have hbz:=below_tr hal7 hb7;clear hal7 hb7 HI1 q14 q15 p13 p20 HER HLE;replace HB:=hdT HB hbz;replace HBO:=hid (HBO.out.below hbz);replace HST:=hdB HST hbz;replace HR4:=hid (HR4.out.below hbz);replace HRW:=hid (HRW.out.below hbz);clear hbz;have p20:=HST.out.cell 20;simp[stateL] at p20;rw[HBO2.out] at p20;have hal8:=(Below.refl w7.heap.size w7).alloc (Nat.le_refl _) (.cells #[.int .i64 0] 3);have hr8:=Rd.of_blkE (enc:=enc1) (k:=1) (fun _=>rfl) (Blk.new w7 3 #[.int .i64 0]) (l:=[0]) rfl rfl;have HI2:=hid (wints_c (c:=x.bo.c) (c':=1) (HBO.out.below hal8) hr8 (by decide));clear hr8;simp only[decide_true]
 go_wp2_with fail
 go_at_call 23;refine HI2.out.mono ?_;rintro e w8 ⟨rfl,hb8⟩;have hbz:=below_tr hal8 hb8;clear hal8 hb8 HI2 p20 HBO;replace HB:=hdT HB hbz;replace HST:=hdB HST hbz;replace HR4:=hid (HR4.out.below hbz);replace HRW:=hid (HRW.out.below hbz);clear hbz;have p19:=HST.out.cell 19;have p21:=HST.out.cell 21;simp[stateL] at p19 p21;rw[HV4.out] at p19;rw[HRD2.out] at p21
 have hcv:(convert 23 9 (.slice (some ⟨bw,ow,none⟩) 29 c6)).run Tryz.prog w8=.ok (str bs) w8:=run_textB HBL.out fun i x hx=>by
  obtain⟨b9,o9,e9,_,h9⟩:=HRW.out.2 (by decide);cases e9;have:=h9 i x hx 0 _ rfl
  simpa using this
 have heq:∀ W,(binOp .eql 9 (str bs) (.string ⟨#[123,97,97,98,122,122,121,97,97,97,108,100,125,97,10,123,97,97,97,122,122,122,97,97,97,108,100,125,10]⟩)).run Tryz.prog W=.ok (.bool true) W:=fun W=>by
  have h9:=str_eql bs [123,97,97,98,122,122,121,97,97,97,108,100,125,97,10,123,97,97,97,122,122,122,97,97,97,108,100,125,10] W;rw[decide_eq_true HBS.out] at h9;exact h9
 have hgu:∀(op:BinOp) (u v:Operand) (W:World),(eqGuard op 9 u v (str bs) (.string ⟨#[123,97,97,98,122,122,121,97,97,97,108,100,125,97,10,123,97,97,97,122,122,122,97,97,97,108,100,125,10]⟩)).run Tryz.prog W=.ok () W:=fun op u v W=>str_guard bs _ op u v W;simp only[decide_true]
 go_wp2_with fail
 go_ret
 exact⟨rfl,HB.out⟩
theorem oneStr:∀(x:ByteArray),∀ u∈encStr x,u.oneCell'=true:=fun x u hu=>by
 simp only[encStr,List.mem_singleton] at hu;subst hu;rfl
theorem oneByte:∀(x:UInt8),∀ u∈encB x,u.oneCell'=true:=fun x u hu=>by
 simp only[encB,List.mem_singleton] at hu;subst hu;rfl
theorem list_c {A:Option Addr}{n c:Nat}{LL:List ByteArray}{w:World}(h:Rd encStr 1 w A n LL)(hn:n≤100000) :
 Calls Tryz.prog 9 #[.slice A n c] w fun e w'=>∃ A' c',e=.returned (.slice A' n c')∧w'.ownsRow w.heap.size 9 1 (.slice A' n c') n (LL.flatMap encStr)∧Rd encStr 1 w' A' n LL∧n≤c'∧Below w.heap.size w w':=by
 obtain⟨i0,hi0,hz0,hz1,hz2⟩:=info_parts infoStr;have HI:=hid hi0;have HZ0:=hid hz0;have HZ1:=hid hz1;have HZ2:=hid hz2;have H:=hid h;clear hi0 hz0 hz1 hz2;have hlen:=h.len;clear h
 go_enter Tryz.func9,Tryz.ntmps9
 go_wp2_with (at_builtin;go_must (refine wpList_append_rd rfl _ _ 22 rfl w.heap.size 9 i0 _ 1 16 Tryz.underlying22 HI.out HZ0.out HZ1.out HZ2.out rfl (by decide) _ _ _ rfl (own_empty w 9 1) encStr_len oneStr A n c LL rfl (H.out.below ((Below.refl _ w).alloc (Nat.le_refl _) _)) (by unfold maxLen;omega) (by omega) (by simp) ?_;intro v2 w2 hown hgrow))
 go_ret
 have hown2:w2.ownsRow w.heap.size 9 1 v2 n (LL.flatMap encStr):=by simpa using hown
 obtain⟨A',c',rfl,hc'⟩:=own_form hown2;exact⟨A',c',rfl,hown2,Rd.of_own encStr_len hown2 hlen,hc',((Below.refl _ w).alloc (Nat.le_refl _) _).trans (Fr.of_grown hgrow (E:=fun q=>w.heap.size≤q) (fun q e _=>by first | (simp[Value.ownBlock] at e;omega) | (cases e;exact Nat.le_refl _)) |>.below (by simp) fun q hq=>hq)⟩
theorem arr_ext {p q:ByteArray}(h:p.data.toList=q.data.toList):p=q:=by
 cases p;cases q;simp only[ByteArray.mk.injEq];exact Array.toList_inj.1 h
theorem texts_c {l l':List ByteArray}{A A':Option Addr}{n c n' c':Nat}{w:World}(h:Rd encStr 1 w A n l)(h':Rd encStr 1 w A' n' l')(hn:n≤1000000000) :
 Calls Tryz.prog 14 #[.slice A n c,.slice A' n' c'] w fun e w'=>e=.returned (.bool (decide (l=l')))∧Below w.heap.size w w':=by
 have hl:=h.len;have hl':=h'.len;have HL:=hid hl;have HL':=hid hl';clear hl hl'
 by_cases hne:n=n'
 · subst hne
   have hb0:((n:Int) == (n:Int))=true:=by simp
   go_enter Tryz.func14,Tryz.ntmps14
   go_wp2_with fail
   go_loopw [5] (fun i wr=>∃ k:Nat,k≤n∧i=.int .i64 k∧Below w.heap.size w wr∧l.take k=l'.take k) (fun i _=>n - (intOf i).toNat)
   case atStart=>exact⟨0,Nat.zero_le _,rfl,Below.refl _ _,rfl⟩
   case round =>
    obtain⟨k,hk,rfl,hb,heq⟩:=hrel;have HE:=hid heq;clear heq
    by_cases hlt:k < n
    · obtain⟨b,o,x,hA,hx,h0⟩:=str_at (h.below hb) hlt
      subst hA;obtain⟨b',o',y,hA,hy,h1⟩:=str_at (h'.below hb) hlt;subst hA;have HX:=hid hx;have HY:=hid hy;clear hx hy;have HB:=hid hb;clear hb
      have hkn:(k:Int) < (n:Int):=by omega
      by_cases hxy:x=y
      · subst hxy
        have hbe:(x.toList == x.toList)=true:=by simp
        go_wp2_with fail
        go_quiet (fail)
        go_wp2
        go_roundw
        case rel=>exact⟨k+1,by omega,by go_num,below_drewN HB.out _,takeE_snoc HX.out HY.out HE.out⟩
        case measure=>simp[intOf] <;> omega
      · have hbe:(x.toList == y.toList)=false:=by
         rw[ByteArray.toList_eq,ByteArray.toList_eq]
         simpa using fun e=>hxy (arr_ext e)
        have HNE:=hid hxy;clear hxy
        go_wp2_with fail
        go_quiet (fail)
        go_wp2
        go_ret
        exact⟨ret_bool (decide_eq_false (neE_get HX.out HY.out HNE.out)).symm,below_drewN HB.out _⟩
    · obtain rfl:k=n:=by omega
      go_wp2_with fail
      go_ret
      exact⟨ret_bool (decide_eq_true (takeE_all HL.out HL'.out HE.out)).symm,hb⟩
 · have hb0:((n:Int) == (n':Int))=false:=by simp;omega
   have hb1:((n:Int) != (n':Int))=true:=by simp;omega
   have HNE:=hid hne;clear hne
   go_enter Tryz.func14,Tryz.ntmps14
   go_wp2_with fail
   go_ret
   exact⟨ret_bool (decide_eq_false (fun e=>HNE.out (by rw[← HL.out,← HL'.out,e]))).symm,Below.refl _ _⟩
def booksP (LL:List ByteArray):Prop:=(∀ p∈LL,p.size≤200)∧0 < LL.length∧LL.length≤25
instance (LL:List ByteArray):Decidable (booksP LL):=by unfold booksP;infer_instance
theorem recoverR_c (s:ByteArray)(w:World)(hs:s.size≤4000) :
 Calls Tryz.prog 13 #[.string s] w fun e w'=>∃(v:Value) (L:List ByteArray),e=.returned (.tuple #[v,.int .i64 ((readW 60 s.data.toList 5).2:Nat)])∧w'.ownsRow w.heap.size 9 1 v L.length (L.flatMap encStr)∧L.length≤60∧linesB L=(readW 60 s.data.toList 5).1∧Below w.heap.size w w':=by
 have HSL:=hid (show s.data.toList.length=s.size from rfl);obtain⟨B,hB⟩:∃ B,B=s.data.toList:=⟨_,rfl⟩;rw[← hB] at HSL ⊢;have HBE:=hid hB;clear hB
 go_enter Tryz.func13,Tryz.ntmps13
 go_wp2_with fail
 go_loopw [4,5,6] (fun ov av cv wr=>∃(LL:List ByteArray) (a ck:Nat),LL.length≤60∧a≤s.size∧ck < 11881357∧av=.int .i64 a∧cv=.int .i64 ck∧wr.ownsRow w.heap.size 9 1 ov LL.length (LL.flatMap encStr)∧(readW 60 B 5).1=linesB LL++(readW (60 - LL.length) (B.drop a) ck).1∧(readW 60 B 5).2=a+(readW (60 - LL.length) (B.drop a) ck).2∧Below w.heap.size w wr) (fun _ av _ _=>s.size - (intOf av).toNat)
 case atStart=>exact⟨[],0,5,by simp,Nat.zero_le _,by decide,rfl,rfl,World.ownsRow_nil _ _ _ _,by simp[linesB],by simp,Below.refl _ _⟩
 case round =>
  obtain⟨LL,a,ck,hl6,ha,hck,rfl,rfl,hown,h1,h2,hb⟩:=hrel;have HOW:=hid hown;have H1:=hid h1;have H2:=hid h2;have HB:=hid hb;clear hown h1 h2 hb;obtain⟨OA,oc,rfl,hoc⟩:=own_form HOW.out
  by_cases hl:LL.length < 60
  · have hl1:((LL.length:Nat):Int) < 60:=by omega
    by_cases h14:a+14≤s.size
    · have h141:(a:Int)+14≤(s.size:Int):=by omega
      have hw14:IntKind.i64.wrap ((a:Int)+14)=(a:Int)+14:=wi (by omega);obtain⟨D,hD⟩:∃ D,D=B.drop a:=⟨_,rfl⟩;obtain⟨sg,hsg⟩:∃ sg,sg=(D.drop 1).take 3:=⟨_,rfl⟩
      have hDl:¬ D.length < 14:=by rw[hD,List.length_drop,HSL.out];omega
      have hsl:sg.length=3:=by rw[hsg,List.length_take,List.length_drop];omega
      have hat:∀ j x,sg[j]?=some x→B[a+1+j]?=some x:=fun j x h9=>by
       rw[hsg,hD] at h9
       have hj:j < 3:=by have:=(List.getElem?_eq_some_iff.1 h9).1;rw[List.length_take] at this;omega
       rw[List.getElem?_take_of_lt hj,List.getElem?_drop,List.getElem?_drop] at h9;rw[← h9];congr 1;omega
      rw[← hD] at H1 H2;have HD:=hid hD;have HSG:=hid hsg;have HAT:=hid hat;have HDL:=hid hDl;have HSS:=hid hsl;clear hD hsg hat hDl hsl
      go_wp2_with fail
      go_loopw [7,8] (fun nv kv wx=>∃ j:Nat,j≤3∧kv=.int .i64 ((a:Int)+1+(j:Int))∧nv=.int .i64 (lenV (sg.take j):Nat)∧(sg.take j).all isLet=true∧wx=wr) (fun _ kv _=>a+5 - (intOf kv).toNat)
      case atStart=>exact⟨0,by omega,by simp,by simp[lenV],by simp,rfl⟩
      case round =>
       obtain⟨j,hj,rfl,rfl,hall,rfl⟩:=hrel;have hnb:=lenV_bd hall (by rw[List.length_take];omega)
       by_cases hj3:j < 3
       · obtain⟨x,hx⟩:∃ x,sg[j]?=some x:=⟨_,List.getElem?_eq_getElem (by rw[HSS.out];exact hj3)⟩
         have hx1:=HAT.out j x hx;rw[HBE.out] at hx1;have q1:=idx_str s hx1
         have hc1:((a+1+j:Nat):Int)=(a:Int)+1+(j:Int):=by omega
         rw[hc1] at q1
         have hk1:(a:Int)+1+(j:Int)≤(a:Int)+3:=by omega
         have hx8:=x.toNat_lt;have HX:=hid hx;have HALL:=hid hall;clear hx hx1 hc1 hall
         by_cases hlet:isLet x=true
         · have hx9:97≤x.toNat∧x.toNat≤122:=by simpa[isLet] using hlet
           have g1:¬(x.toNat:Int) < 97:=by omega
           have g2:¬(x.toNat:Int) > 122:=by omega
           have u1:IntKind.u8.wrap ((x.toNat:Int) - 97)=(x.toNat:Int) - 97:=wu (by omega);obtain⟨N,hN⟩:∃ N,N=lenV (sg.take j):=⟨_,rfl⟩
           have hst:((lenV (sg.take (j+1)):Nat):Int)=26 * (N:Int)+((x.toNat:Int) - 97):=by
            rw[List.take_add_one,HX.out,Option.toList_some,lenV_snoc,← hN];omega
           have hal:(sg.take (j+1)).all isLet=true:=by
            rw[List.take_add_one,HX.out,Option.toList_some,List.all_append,HALL.out];simpa using hlet
           rw[← hN] at hnb ⊢;have w1:IntKind.i64.wrap (26 * (N:Int))=26 * (N:Int):=wi (by omega);have w2:IntKind.i64.wrap (26 * (N:Int)+((x.toNat:Int) - 97))=26 * (N:Int)+((x.toNat:Int) - 97):=wi (by omega);have w3:IntKind.i64.wrap ((x.toNat:Int) - 97)=(x.toNat:Int) - 97:=wi (by omega);have HST:=hid hst;have HAL:=hid hal;clear hN hst hal hlet
           go_wp2_with fail
           go_roundw
           case rel=>exact⟨j+1,by omega,by go_num,by rw[HST.out],HAL.out,by trivial⟩
           case measure=>simp[intOf] <;> omega
         · have hx9:¬(97≤x.toNat∧x.toNat≤122):=fun h9=>hlet (by simpa[isLet] using h9)
           have e:readW (60 - LL.length) D ck=([],0):=by
            rw[show 60 - LL.length=(59 - LL.length)+1 from by omega];refine rw_nolet HDL.out fun h9=>hlet ?_;rw[← HSG.out] at h9;exact List.all_eq_true.1 h9 x (List.mem_of_getElem? HX.out)
           rw[e] at H1 H2;have H2:=H2.out;have H1:=H1.out;simp only[List.append_nil,Nat.add_zero] at H1 H2;clear e hlet
           by_cases g1:(x.toNat:Int) < 97
           · go_wp2_with fail
             go_ret2
             exact⟨_,rfl,LL,HOW.out,hl6,rfl,HB.out⟩
           · have g2:(x.toNat:Int) > 122:=by omega
             go_wp2_with fail
             go_ret2
             exact⟨_,rfl,LL,HOW.out,hl6,rfl,HB.out⟩
       · obtain rfl:j=3:=by omega
         have hk1:¬(a:Int)+1+((3:Nat):Int)≤(a:Int)+3:=by omega
         rw[List.take_of_length_le (by rw[HSS.out];exact Nat.le_refl _)] at hall hnb ⊢;obtain⟨N,hN⟩:∃ N,N=lenV sg:=⟨_,rfl⟩;rw[← hN] at hnb ⊢;have HN:=hid hN;have HALL:=hid hall;clear hN hall hj3 hj;have w4:IntKind.i64.wrap ((a:Int)+14+(N:Int))=(a:Int)+14+(N:Int):=wi (by omega)
         by_cases hlong:300 < N∨s.size < a+14+N
         · have e:readW (60 - LL.length) D ck=([],0):=by
            rw[show 60 - LL.length=(59 - LL.length)+1 from by omega];refine rw_long (n:=N) HDL.out (by rw[← HSG.out];exact HALL.out) (by rw[← HSG.out];exact HN.out) ?_;rw[HD.out,List.length_drop,HSL.out];omega
           rw[e] at H1 H2;have H2:=H2.out;have H1:=H1.out;simp only[List.append_nil,Nat.add_zero] at H1 H2;clear e
           by_cases g1:(N:Int) > 300
           · clear hlong
             go_wp2_with fail
             go_ret2
             exact⟨_,rfl,LL,HOW.out,hl6,rfl,HB.out⟩
           · have g2:(a:Int)+14+(N:Int) > (s.size:Int):=by omega
             clear hlong
             go_wp2_with fail
             go_ret2
             exact⟨_,rfl,LL,HOW.out,hl6,rfl,HB.out⟩
         · have g1:¬(N:Int) > 300:=by omega
           have g2:¬(a:Int)+14+(N:Int) > (s.size:Int):=by omega
           have hN3:N≤300:=by omega
           have hNs:a+14+N≤s.size:=by omega
           have s13:=fun W=>cut_str s (i:=a+13) (j:=a+13+N) (by omega) (by rw[← HBE.out,HSL.out];omega) (a:=(a:Int)+13) (b:=(a:Int)+13+(N:Int)) (by omega) (by omega) W;have s14:=fun W=>cut_str s (i:=a) (j:=a+14+N) (by omega) (by rw[← HBE.out,HSL.out];omega) (a:=(a:Int)) (b:=(a:Int)+14+(N:Int)) (by omega) (by omega) W;obtain⟨p,hp⟩:∃ p:ByteArray,p=⟨((D.drop 13).take N).toArray⟩:=⟨_,rfl⟩
           have hpl:p.data.toList=(D.drop 13).take N:=by rw[hp]
           obtain⟨q,hq⟩:∃ q,q=D.take (14+N):=⟨_,rfl⟩
           have e13:str ((s.data.toList.drop (a+13)).take (a+13+N - (a+13)))=.string p:=by
            rw[hp,HD.out,← HBE.out,List.drop_drop,show a+13+N - (a+13)=N from by omega];rfl
           have e14:str ((s.data.toList.drop a).take (a+14+N - a))=str q:=by
            rw[hq,HD.out,← HBE.out,show a+14+N - a=14+N from by omega]
           simp only[e13] at s13;simp only[e14] at s14;clear e13 e14 hlong
           have hp3:p.size≤1000:=by have h9:p.data.toList.length=p.size:=rfl;rw[← h9,hpl,List.length_take];omega
           obtain⟨r,hr⟩:∃ r,r=recW p.data.toList ck:=⟨_,rfl⟩
           have hc1:∀ W,Calls Tryz.prog 27 #[.string p,.int .i64 ck] W fun e w'=>e=.returned (str r)∧Below W.heap.size W w':=fun W=>by rw[hr];exact recordR_c p ck W hp3 hck
           have nq:=fun W=>str_neq r q W;have ng:=str_guard r q;have HC1:=hid hc1;have HR:=hid hr;have HQ:=hid hq;have HP:=hid hpl;have HP3:=hid hp3;clear hc1 hr hq hpl hp hp3
           go_upto_region 14 with fail
           refine wp_region_till [] (fun _=>True) (by kernel_rfl) (by trivial) (fun hHeld=>?_);have hb9:=(Below.refl wr.heap.size wr).drew;replace HB:=hdT HB hb9;replace HOW:=hid (own_mono HOW.out hb9);clear hb9;revert hHeld HB HOW;generalize wr.drew=w0;intro hHeld HB HOW;refine tk 0 0 ?_;refine tk 0 1 ?_;refine tk 0 3 ?_;refine tk 0 4 ?_;refine tk 0 5 ?_;refine tk 0 6 ?_;refine tk 0 7 ?_;refine tk 0 8 ?_;refine tk 0 9 ?_;refine ar [2] (ac (fun K hK=>?_) an);go_simp;go_at_call 27;refine(HC1.out _).mono ?_;rintro e w3 ⟨rfl,hb9⟩;replace HB:=hdT HB hb9;replace HOW:=hid (own_mono HOW.out hb9);clear hb9 ;(try go_wp2_with fail);(try clear hHeld);refine hK.out _ _ (by(try dsimp only);all_goals trivial) (fun hHeld=>?_);clear hK K;refine pt ?_;refine tk 0 10 ?_;refine td ?_;(try clear hHeld)
           by_cases hrq:r=q
           · rw[decide_eq_true hrq,Bool.not_true]
             have e:=rw_line (f:=59 - LL.length) (c:=ck) (n:=N) HDL.out (by rw[← HSG.out];exact HALL.out) (by rw[← HSG.out];exact HN.out) (by rw[HD.out,List.length_drop,HSL.out];omega) (by rw[← HP.out,← HR.out,← HQ.out];exact hrq);rw[← HP.out,HD.out,List.drop_drop] at e;rw[show 60 - LL.length=(59 - LL.length)+1 from by omega,HD.out,e] at H1 H2
             have HH1:Hid ((readW 60 B 5).1=linesB (LL++[p])++(readW (60 - (LL++[p]).length) (B.drop (a+(14+N))) (chkW ck p.data.toList)).1):=hid (by
              rw[H1.out,show 60 - (LL++[p]).length=59 - LL.length from by rw[List.length_append];simp]
              simp[linesB])
             have HH2:Hid ((readW 60 B 5).2=(a+(14+N))+(readW (60 - (LL++[p]).length) (B.drop (a+(14+N))) (chkW ck p.data.toList)).2):=hid (by
              rw[H2.out,show 60 - (LL++[p]).length=59 - LL.length from by rw[List.length_append];simp]
              simp;omega)
             clear e H1 H2 hrq;obtain⟨i0,hi0,hz0,hz1,hz2⟩:=info_parts infoStr;have HI:=hid hi0;have HZ0:=hid hz0;have HZ1:=hid hz1;have HZ2:=hid hz2;clear hi0 hz0 hz1 hz2;have hal:=(Below.refl w3.heap.size w3).alloc (Nat.le_refl _) (.cells #[.string p] 9);have hne:=Blk.new w3 9 #[.string p];have hck2:=chk_lt hck p.data.toList
             go_wp2_with (at_builtin;go_must (refine wpList_append_rd rfl _ _ 22 rfl w.heap.size 9 i0 _ 1 16 Tryz.underlying22 HI.out HZ0.out HZ1.out HZ2.out rfl (by decide) _ LL.length _ rfl (own_mono HOW.out hal) encStr_len oneStr (some ⟨w3.heap.size,0,none⟩) 1 1 [p] rfl (Rd.of_blkE (k:=1) encStr_len hne (l:=[p]) rfl rfl) (by unfold maxLen;omega) (by omega) (by have:=HB.out.size;simp;omega) ?_;intro v' w4 hown4 hgr4))
             have hown4:w4.ownsRow w.heap.size 9 1 v' (LL++[p]).length ((LL++[p]).flatMap encStr):=by simpa using hown4
             have hb4:=(below_tr HB.out hal).trans (Fr.of_grown hgr4 (E:=fun q=>w.heap.size≤q) (fun q e _=>(HOW.out.lt q e).1) |>.below (by have:=HB.out.size;simp;omega) fun q hq=>hq);clear hgr4 hal hne HB HOW;have HOW:=hid hown4;have HB:=hid hb4;clear hown4 hb4;have HCC:=hid (fun W=>chkR_c p ck W HP3.out hck);go_at_call 16;refine(HCC.out _).mono ?_;rintro e w5 ⟨rfl,hb9⟩;replace HB:=hdT HB hb9;replace HOW:=hid (own_mono HOW.out hb9);clear hb9 HCC
             go_wp2_with fail
             go_roundw
             case rel=>exact⟨LL++[p],a+(14+N),chkW ck p.data.toList,by rw[List.length_append];simp;omega,by omega,hck2,by go_num,rfl,HOW.out,HH1.out,HH2.out,HB.out⟩
             case measure=>simp[intOf] <;> omega
           · rw[decide_eq_false hrq,Bool.not_false]
             have e:readW (60 - LL.length) D ck=([],0):=by
              rw[show 60 - LL.length=(59 - LL.length)+1 from by omega];refine rw_other (n:=N) HDL.out (by rw[← HSG.out];exact HALL.out) (by rw[← HSG.out];exact HN.out) (by rw[HD.out,List.length_drop,HSL.out];omega) ?_;rw[← HP.out,← HR.out,← HQ.out];exact hrq
             rw[e] at H1 H2;have H2:=H2.out;have H1:=H1.out;simp only[List.append_nil,Nat.add_zero] at H1 H2;clear e hrq
             go_wp2_with fail
             go_ret2
             exact⟨_,rfl,LL,HOW.out,hl6,rfl,HB.out⟩
    · have h141:¬(a:Int)+14≤(s.size:Int):=by omega
      have e:readW (60 - LL.length) (B.drop a) ck=([],0):=by
       rw[show 60 - LL.length=(59 - LL.length)+1 from by omega];exact rw_short (by rw[List.length_drop,HSL.out];omega)
      rw[e] at H1 H2;have H2:=H2.out;have H1:=H1.out;simp only[List.append_nil,Nat.add_zero] at H1 H2;clear e
      go_wp2_with fail
      go_ret2
      exact⟨_,rfl,LL,HOW.out,hl6,rfl,HB.out⟩
  · have hl1:¬((LL.length:Nat):Int) < 60:=by omega
    have e:readW (60 - LL.length) (B.drop a) ck=([],0):=by
     rw[show 60 - LL.length=0 from by omega];rfl
    rw[e] at H1 H2;have H2:=H2.out;have H1:=H1.out;simp only[List.append_nil,Nat.add_zero] at H1 H2;clear e
    go_wp2_with fail
    go_ret2
    exact⟨_,rfl,LL,HOW.out,hl6,rfl,HB.out⟩
theorem linesB_inj {a b:List ByteArray}(h:linesB a=linesB b):a=b:=by
 unfold linesB at h
 exact List.map_inj_right (f:=fun p:ByteArray=>p.data.toList) (fun x y e=>arr_ext e) |>.1 h
theorem write_list {A:Option Addr}{n c:Nat}{LL:List ByteArray}{W:World}(h:Rd encStr 1 W A n LL)(hck:checkL LL=0) :
 Calls Tryz.prog 8 #[.slice A n c] W fun e w'=>∃ AB cB,e=.returned (.tuple #[.slice AB (bookW (linesB LL) 5).length cB,.int .i64 0])∧Rd encB 1 w' AB (bookW (linesB LL) 5).length (bookW (linesB LL) 5)∧(bookW (linesB LL) 5).length≤cB∧Below W.heap.size W w':=by
 refine(Write_c h).mono ?_;rintro e w' ⟨v,rfl,hwo,_,hb⟩;have hwo:=hwo hck;obtain⟨AB,cB,rfl,hcb⟩:=own_form hwo;exact⟨AB,cB,by rw[hck],Rd.of_own encB_len (by rw[flat_u8];exact hwo) rfl,hcb,hb⟩
end Go.Proofs.YtlaengnhfjlphaaGreatDoor
namespace Go.Proofs.YtlaengnhfjlphaaGreatDoor
open Lib (hid)
open Go.RowKit Go.Proofs
end Go.Proofs.YtlaengnhfjlphaaGreatDoor
