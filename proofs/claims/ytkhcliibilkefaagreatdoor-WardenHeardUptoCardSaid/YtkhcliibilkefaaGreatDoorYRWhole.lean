/- CONTRACT of wakes: the document's first examples hold. -/
import Derived.Test.YtkhcliibilkefaaGreatDoorYBears
import Derived.Deep.Quiet
import Derived.BigQuiet
set_option linter.unusedVariables false
set_option linter.unusedSimpArgs false
set_option maxRecDepth 100000
set_option maxHeartbeats 8000000
namespace Go.Proofs.YtkhcliibilkefaaGreatDoor
open Lib (hid)
open Go.RowKit Go.Proofs
attribute [local go_sem ↓] Go.wp_at_zero Go.wp_at_succ
theorem str_eql (a b:List UInt8)(W:World):(binOp .eql 9 (str a) (str b)).run Tryz.prog W=.ok (.bool (decide (a=b))) W:=by
 unfold str;rw[binOp_string_eql,Sem.run_pure,ByteArray.toList_eq,ByteArray.toList_eq];show Result.ok (Value.bool (a == b)) W=_;rw[show(a == b)=decide (a=b) from by rw[Bool.eq_iff_iff];simp]
theorem spring_c (w:World):Calls Tryz.prog 21 #[] w fun e w'=>∃ g,e=.returned (.slice (some ⟨g,0,none⟩) 16 16)∧Rd encStr 1 w' (some ⟨g,0,none⟩) 16 springL∧Below w.heap.size w w':=by
 go_enter Tryz.func21,Tryz.ntmps21
 go_wp2_with fail
 go_ret
 exact⟨w.heap.size,rfl,Rd.of_blkE encStr_len (Blk.new w 9 (springL.flatMap encStr).toArray) (by simp) springL_small.1,(Below.refl _ w).alloc (Nat.le_refl _) _⟩
theorem spring_check:checkL springL=0:=by
 unfold checkL;rw[if_neg (by rw[springL_small.1];decide),if_pos springL_small.2]
theorem ab_check:checkL [⟨#[97]⟩,⟨#[]⟩]=0:=by decide +kernel
theorem wakes_ok (w:World)(hl:Lay w):Calls Tryz.prog 6 #[] w fun e w'=>e=.returned (.bool true)∧Below w.heap.size w w':=by
 have HL:=hid hl;have HB:=hid (Below.refl w.heap.size w);clear hl
 go_enter Tryz.func6,Tryz.ntmps6
 go_wp2_with fail
 go_at_call 21;refine((spring_c _)).mono ?_;rintro e w1 ⟨g1,rfl,hr1,hb9⟩;replace HB:=hdT HB hb9;have HR1:=hid hr1;clear hb9 hr1
 go_wp2_with fail
 go_at_call 7;refine(Run_c HR1.out (HL.out.below HB.out)).mono ?_;rintro e w2 ⟨s,x,b,m,ve,es,rfl,hrows,hown,hem,hok,_,hb9⟩;obtain⟨hbb,hes⟩:=hok spring_check;rw[show linesB springL=springB from springL_B] at hbb hes;obtain⟨v1,v2,v3,v4,v5⟩:=spring_vals;rw[← hes] at v1;rw[← hbb] at v2 v3 v4 v5
 have hm16:m=16:=by rw[← hem,v1];rfl
 subst hm16;obtain⟨EA,ec,rfl,_⟩:=own_form hown;rw[spring_check];have her:Rd enc1 1 w2 EA 16 es:=Rd.of_own enc1_len hown hem;have hle:=hrows.le.rd;have hbo:=hrows.bo.rd;have hrd:=hrows.rd.len;rw[v2] at hle;rw[v3] at hbo;rw[v5] at hrd;have hle2:x.le.n=2:=hle.len.symm;have hbo2:x.bo.n=1:=hbo.len.symm
 have hrd2:x.rd.n=1:=by rw[← hrd]
 rw[hle2] at hle;rw[hbo2] at hbo;clear HR1 hrows hown hok hem hrd hbb hes;have hb2:=below_tr HB.out hb9;clear HB hb9;have HTH:=hid (show World.there (w2.alloc (.cells #[.slice none 0 0,.int .i64 0,.slice none 0 0,.slice none 0 0,.int .i64 0,.int .i64 0,.int .i64 0,.int .i64 0,.int .i64 0,.slice none 0 0,.int .i64 0,.int .i64 0,.int .i64 0,.slice none 0 0,.slice none 0 0,.slice none 0 0,.int .i64 0,.int .i64 0,.int .i64 0,.int .i64 0,.slice none 0 0,.slice none 0 0] 42)) w2.heap.size 0 22 from there_of_blk (cs:=stateL ad0 zeroS) (Blk.new w2 42 (stateL ad0 zeroS).toArray));obtain⟨cs,hcs⟩:∃ cs,cs=(stateL x b).toArray:=⟨_,rfl⟩
 have hcn:cs.size=22:=by rw[hcs];rfl
 have hc1:cs.all (·.oneCell')=true:=by rw[hcs];exact stateL_one x b
 rw[← hcs];have HCS:=hid hcs;have HCN:=hid hcn;have HC1:=hid hc1;have HV2:=hid v2;have HV3:=hid v3;have HV4:=hid v4;have HV5:=hid v5;have HV1:=hid v1;have HLE2:=hid hle2;have HBO2:=hid hbo2;have HRD2:=hid hrd2;clear hcs hcn hc1 v1 v2 v3 v4 v5 hle2 hbo2 hrd2
 go_upto_region 2 with (refine wpList_store_mid rfl 42 (.tmp 1) (.tmp 11) rfl w2.heap.size 0 cs rfl rfl (by rw[HCN.out];exact HTH.out) (by rw[HCN.out];exact stateN) HC1.out ?_)
 have hblk:=blk_cells (stateL x b) 0 (w2.alloc (.cells (stateL ad0 zeroS).toArray 42)) [] (stateL ad0 zeroS) (Blk.new w2 42 (stateL ad0 zeroS).toArray) rfl rfl
 have hb3:Below w2.heap.size w2 ((w2.alloc (.cells (stateL ad0 zeroS).toArray 42)).setCells w2.heap.size 0 (stateL x b)) :=
  (((Below.refl w2.heap.size w2).alloc (Nat.le_refl _) (.cells (stateL ad0 zeroS).toArray 42)).trans ((grown_cells (g:=w2.heap.size) (stateL x b) 0 _).below (by simp) fun q e=>Nat.le_of_eq e.symm))
 generalize hw3:(World.setCells (w2.alloc (.cells #[.slice none 0 0,.int .i64 0,.slice none 0 0,.slice none 0 0,.int .i64 0,.int .i64 0,.int .i64 0,.int .i64 0,.int .i64 0,.slice none 0 0,.int .i64 0,.int .i64 0,.int .i64 0,.slice none 0 0,.slice none 0 0,.slice none 0 0,.int .i64 0,.int .i64 0,.int .i64 0,.int .i64 0,.slice none 0 0,.slice none 0 0] 42)) w2.heap.size 0 cs.toList)=w3
 have e9:(w2.alloc (.cells (stateL ad0 zeroS).toArray 42)).setCells w2.heap.size 0 (stateL x b)=w3:=by rw[← hw3,HCS.out];rfl
 rw[e9] at hblk hb3
 have hbk:Blk w3 w2.heap.size 42 (stateL x b).toArray:=by simpa using hblk
 clear hw3 e9 hblk HTH HCN HC1;have HB:=hid (below_tr hb2 hb3);have HER:=hid (her.below hb3);have HLE:=hid (hle.below hb3);have HBO:=hid (hbo.below hb3);have HST:=hid hbk;clear hb2 hb3 her hle hbo hbk HCS;have hl19:springL[7]?=some ⟨#[119,101,97,116,104,101,114,32,52,48,32,54,48,32,53]⟩:=rfl
 have hbe:∀(g:Nat) (W:World),Rd encStr 1 W (some ⟨g,0,none⟩) 16 springL→Lay W→Calls Tryz.prog 22 #[.slice (some ⟨g,0,none⟩) 16 16,.int .i64 7] W fun e w'=>e=.returned (.tuple #[.int .i64 29,.int .i64 0])∧Below W.heap.size W w':=by
  intro g W hr hl;have h1:=Bears_ok (c:=16) hr hl spring_check hl19 (by unfold errS;rw[show linesB springL=springB from springL_B,spring_vals.1];rfl) spring_isW;have h2:bearsN springL 7 ⟨#[119,101,97,116,104,101,114,32,52,48,32,54,48,32,53]⟩=29:=spring_bears;rw[h2] at h1;exact h1
 have HBE:=hid hbe;clear hbe hl19
 go_wp2_with fail
 go_at_call 21;refine((spring_c _)).mono ?_;rintro e w4 ⟨g4,rfl,hr4,hb9⟩;replace HB:=hdT HB hb9;replace HER:=hid (HER.out.below hb9);replace HLE:=hid (HLE.out.below hb9);replace HBO:=hid (HBO.out.below hb9);replace HST:=hdB HST hb9;have HR4:=hid hr4;clear hb9 hr4
 go_wp2_with fail
 go_at_call 22;refine((HBE.out _ _ HR4.out (HL.out.below HB.out))).mono ?_;rintro e w5 ⟨rfl,hb9⟩;replace HB:=hdT HB hb9;replace HER:=hid (HER.out.below hb9);replace HLE:=hid (HLE.out.below hb9);replace HBO:=hid (HBO.out.below hb9);replace HST:=hdB HST hb9;replace HR4:=hid (HR4.out.below hb9);clear hb9 ;clear HBE;have hal:=(Below.refl w5.heap.size w5).alloc (Nat.le_refl _) (.cells #[.string ⟨#[97]⟩,.string ⟨#[]⟩] 9);have hra:=Rd.of_blkE encStr_len (Blk.new w5 9 #[.string ⟨#[97]⟩,.string ⟨#[]⟩]) (l:=[(⟨#[97]⟩:ByteArray),⟨#[]⟩]) rfl rfl
 go_wp2_with fail
 go_at_call 16;refine(Write_c hra).mono ?_;rintro e w6 ⟨v,rfl,hwo,_,hb9⟩;have hwo:=hwo ab_check;rw[ab_check];have hbk2:bookW (linesB [⟨#[97]⟩,⟨#[]⟩]) 5=[123,97,97,98,122,122,121,97,97,97,108,100,125,97,10,123,97,97,97,122,122,122,97,97,97,108,100,125,10]:=spring_book;rw[hbk2] at hwo;obtain⟨bs,hbs⟩:∃ bs:List UInt8,bs=[123,97,97,98,122,122,121,97,97,97,108,100,125,97,10,123,97,97,97,122,122,122,97,97,97,108,100,125,10]:=⟨_,rfl⟩;rw[← hbs] at hwo
 have hbl:bs.length=29:=by rw[hbs];rfl
 rw[hbl] at hwo;have HBS:=hid hbs;have HBL:=hid hbl;obtain⟨A6,c6,rfl,_⟩:=own_form hwo;have hbz:=below_tr hal hb9;have hrw:Rd encB 1 w6 A6 29 bs:=Rd.of_own encB_len (by rw[flat_u8];exact hwo) HBL.out;have HRW:=hid hrw;clear hbs hbl hbk2 hra hal hb9 hwo hrw;replace HB:=hdT HB hbz;replace HER:=hid (HER.out.below hbz);replace HLE:=hid (HLE.out.below hbz);replace HBO:=hid (HBO.out.below hbz);replace HST:=hdB HST hbz;replace HR4:=hid (HR4.out.below hbz);clear hbz;obtain⟨be,oe,y,rfl,_,hy,hyc⟩:=HER.out.at_ (i:=14) (by decide);obtain⟨be',oe',y',e',_,hy',hyc'⟩:=HER.out.at_ (i:=15) (by decide);cases e';rw[HV1.out] at hy hy';cases hy;cases hy';have q14:=hyc 0 _ rfl;have q15:=hyc' 0 _ rfl;simp at q14 q15;obtain⟨bw,ow,z,rfl,_,_,_⟩:=HRW.out.at_ (i:=0) (by decide);have p13:=HST.out.cell 13;have p20:=HST.out.cell 20;simp[stateL] at p13 p20;rw[HLE2.out] at p13;rw[HBO2.out] at p20;clear hyc hyc';have ht22:([2,2]:List Int)=[2,2]:=rfl;have hal7:=(Below.refl w6.heap.size w6).alloc (Nat.le_refl _) (.cells #[.int .i64 2,.int .i64 2] 3);have hr7:=Rd.of_blkE (enc:=enc1) (k:=1) (fun _=>rfl) (Blk.new w6 3 #[.int .i64 2,.int .i64 2]) (l:=[2,2]) rfl rfl;have HI1:=hid (wints_c (c:=x.le.c) (c':=2) (HLE.out.below hal7) hr7 (by decide));clear hr7
 go_wp2_with fail
 go_at_call 23;refine HI1.out.mono ?_;rintro e w7 ⟨rfl,hb7⟩;have hbz:=below_tr hal7 hb7;clear hal7 hb7 HI1 q14 q15 p13 p20 HER HLE;replace HB:=hdT HB hbz;replace HBO:=hid (HBO.out.below hbz);replace HST:=hdB HST hbz;replace HR4:=hid (HR4.out.below hbz);replace HRW:=hid (HRW.out.below hbz);clear hbz;have p20:=HST.out.cell 20;simp[stateL] at p20;rw[HBO2.out] at p20;have hal8:=(Below.refl w7.heap.size w7).alloc (Nat.le_refl _) (.cells #[.int .i64 0] 3);have hr8:=Rd.of_blkE (enc:=enc1) (k:=1) (fun _=>rfl) (Blk.new w7 3 #[.int .i64 0]) (l:=[0]) rfl rfl;have HI2:=hid (wints_c (c:=x.bo.c) (c':=1) (HBO.out.below hal8) hr8 (by decide));clear hr8;simp only[decide_true]
 go_wp2_with fail
 go_at_call 23;refine HI2.out.mono ?_;rintro e w8 ⟨rfl,hb8⟩;have hbz:=below_tr hal8 hb8;clear hal8 hb8 HI2 p20 HBO;replace HB:=hdT HB hbz;replace HST:=hdB HST hbz;replace HR4:=hid (HR4.out.below hbz);replace HRW:=hid (HRW.out.below hbz);clear hbz;have p19:=HST.out.cell 19;have p21:=HST.out.cell 21;simp[stateL] at p19 p21;rw[HV4.out] at p19;rw[HRD2.out] at p21
 have hcv:(convert 54 9 (.slice (some ⟨bw,ow,none⟩) 29 c6)).run Tryz.prog w8=.ok (str bs) w8:=run_textB HBL.out fun i x hx=>by
  obtain⟨b9,o9,e9,_,h9⟩:=HRW.out.2 (by decide);cases e9;have:=h9 i x hx 0 _ rfl
  simpa using this
 have heq:∀ W,(binOp .eql 9 (str bs) (.string ⟨#[123,97,97,98,122,122,121,97,97,97,108,100,125,97,10,123,97,97,97,122,122,122,97,97,97,108,100,125,10]⟩)).run Tryz.prog W=.ok (.bool true) W:=fun W=>by
  have h9:=str_eql bs [123,97,97,98,122,122,121,97,97,97,108,100,125,97,10,123,97,97,97,122,122,122,97,97,97,108,100,125,10] W;rw[decide_eq_true HBS.out] at h9;exact h9
 have hgu:∀(op:BinOp) (u v:Operand) (W:World),(eqGuard op 9 u v (str bs) (.string ⟨#[123,97,97,98,122,122,121,97,97,97,108,100,125,97,10,123,97,97,97,122,122,122,97,97,97,108,100,125,10]⟩)).run Tryz.prog W=.ok () W:=fun op u v W=>str_guard bs _ op u v W;simp only[decide_true]
 go_wp2_with fail
 go_ret
 exact⟨rfl,HB.out⟩
theorem oneStr:∀(x:ByteArray),∀ u∈encStr x,u.oneCell'=true:=fun x u hu=>by
 simp only[encStr,List.mem_singleton] at hu;subst hu;rfl
theorem list_c {A:Option Addr}{n c:Nat}{LL:List ByteArray}{w:World}(h:Rd encStr 1 w A n LL)(hn:n≤100000) :
 Calls Tryz.prog 8 #[.slice A n c] w fun e w'=>∃ A' c',e=.returned (.slice A' n c')∧w'.ownsRow w.heap.size 9 1 (.slice A' n c') n (LL.flatMap encStr)∧Rd encStr 1 w' A' n LL∧n≤c'∧Below w.heap.size w w':=by
 obtain⟨i0,hi0,hz0,hz1,hz2⟩:=info_parts infoStr;have HI:=hid hi0;have HZ0:=hid hz0;have HZ1:=hid hz1;have HZ2:=hid hz2;have H:=hid h;clear hi0 hz0 hz1 hz2;have hlen:=h.len;clear h
 go_enter Tryz.func8,Tryz.ntmps8
 go_wp2_with (at_builtin;go_must (refine wpList_append_rd rfl _ _ 22 rfl w.heap.size 9 i0 _ 1 16 Tryz.underlying22 HI.out HZ0.out HZ1.out HZ2.out rfl (by decide) _ _ _ rfl (own_empty w 9 1) encStr_len oneStr A n c LL rfl (H.out.below ((Below.refl _ w).alloc (Nat.le_refl _) _)) (by unfold maxLen;omega) (by omega) (by simp) ?_;intro v2 w2 hown hgrow))
 go_ret
 have hown2:w2.ownsRow w.heap.size 9 1 v2 n (LL.flatMap encStr):=by simpa using hown
 obtain⟨A',c',rfl,hc'⟩:=own_form hown2;exact⟨A',c',rfl,hown2,Rd.of_own encStr_len hown2 hlen,hc',((Below.refl _ w).alloc (Nat.le_refl _) _).trans (Fr.of_grown hgrow (E:=fun q=>w.heap.size≤q) (fun q e _=>by first | (simp[Value.ownBlock] at e;omega) | (cases e;exact Nat.le_refl _)) |>.below (by simp) fun q hq=>hq)⟩
def booksP (LL:List ByteArray):Prop:=(∀ p∈LL,p.size≤200)∧0<LL.length∧LL.length≤25
instance (LL:List ByteArray):Decidable (booksP LL):=by unfold booksP;infer_instance
theorem parts_none (c:UInt8):∀ {l:List UInt8},(∀ x∈l,x≠c)→partsP c l=[l]
 | [],_=>rfl
 | x::l,h=>by
  rw[partsP,if_neg (h x (by simp)),parts_none c fun y hy=>h y (by simp[hy])]
theorem parts_blank {S:List UInt8}{f i:Nat}(hfi:f≤i)(hi:S[i]?=some 32)(hno:∀ j x,f≤j→j<i→S[j]?=some x→x≠32):partsP 32 (S.drop f)=(S.drop f).take (i - f)::partsP 32 (S.drop (i+1)):=by
 have hil:=(List.getElem?_eq_some_iff.1 hi).1
 have e:S.drop f=(S.drop f).take (i - f)++32::S.drop (i+1):=by
  have h1:(S.drop f).drop (i - f)=32::S.drop (i+1):=by
   rw[List.drop_drop,show f+(i - f)=i from by omega,List.drop_eq_getElem_cons hil];rw[List.getElem?_eq_getElem hil] at hi;rw[Option.some.inj hi]
  rw[← h1,List.take_append_drop]
 have hnm:(32:UInt8) ∉ (S.drop f).take (i - f):=by
  intro hm;obtain⟨j,hj⟩:=List.getElem?_of_mem hm;have hjl:=(List.getElem?_eq_some_iff.1 hj).1;rw[List.length_take,List.length_drop] at hjl;rw[List.getElem?_take_of_lt (by omega),List.getElem?_drop] at hj;exact hno (f+j) 32 (by omega) (by omega) hj rfl
 have h2:=parts_pre 32 (S.drop (i+1)) _ hnm;rw[← e] at h2;exact h2
theorem parts_last {S:List UInt8}{f:Nat}(hno:∀ j x,f≤j→j<S.length→S[j]?=some x→x≠32):partsP 32 (S.drop f)=[S.drop f]:=by
 refine parts_none 32 fun x hx=>?_;obtain⟨j,hj⟩:=List.getElem?_of_mem hx;have hjl:=(List.getElem?_eq_some_iff.1 hj).1;rw[List.length_drop] at hjl;rw[List.getElem?_drop] at hj;exact hno (f+j) x (by omega) (by omega) hj
def SplI (S:List UInt8)(LL:List ByteArray)(f i:Nat):Prop :=
 (i≤S.length∧f≤i∧linesB LL++partsP 32 (S.drop f)=partsP 32 S∧∀ j x,f≤j→j<i→S[j]?=some x→x≠32)∨(i=S.length+1∧linesB LL=partsP 32 S)
theorem SplI.step {S:List UInt8}{LL:List ByteArray}{f i:Nat}{x:UInt8}(h:SplI S LL f i)(hx:S[i]?=some x)(hn:x≠32):SplI S LL f (i+1):=by
 have hil:=(List.getElem?_eq_some_iff.1 hx).1
 rcases h with ⟨_,h2,h3,h4⟩ | ⟨h1,_⟩
 · refine .inl ⟨hil,by omega,h3,fun j y hj hji hy=>?_⟩
   by_cases e:j=i
   · subst e;rw[hx] at hy;cases hy;exact hn
   · exact h4 j y hj (by omega) hy
 · omega
theorem SplI.cut {S:List UInt8}{LL:List ByteArray}{f i:Nat}{p:ByteArray}(h:SplI S LL f i)(hi:i≤S.length)(hx:i=S.length∨S[i]?=some 32)(hp:p.data.toList=(S.drop f).take (i - f)):f≤i∧SplI S (LL++[p]) (i+1) (i+1):=by
 have e1:linesB (LL++[p])=linesB LL++[p.data.toList]:=by simp[linesB]
 rcases h with ⟨h1,h2,h3,h4⟩ | ⟨h1,_⟩
 · refine⟨h2,?_⟩
   by_cases e:i=S.length
   · refine .inr ⟨by omega,?_⟩
     rw[parts_last fun j x hj hjl=>h4 j x hj (by omega)] at h3;rw[e1,hp,List.take_of_length_le (by rw[List.length_drop];omega)];exact h3
   · have hx:S[i]?=some 32:=hx.resolve_left e
     refine .inl ⟨by omega,Nat.le_refl _,?_,fun j y hj hji=>absurd hji (by omega)⟩;rw[parts_blank h2 hx h4] at h3;rw[e1,hp,List.append_assoc];exact h3
 · omega
theorem splitR_c (s:ByteArray)(w:World)(hs:s.size≤1048576) :
 Calls Tryz.prog 26 #[.string s] w fun e w'=>∃(v:Value) (L:List ByteArray),e=.returned v∧w'.ownsRow w.heap.size 9 1 v L.length (L.flatMap encStr)∧linesB L=partsP 32 s.data.toList∧Below w.heap.size w w':=by
 have HSL:=hid (show s.data.toList.length=s.size from rfl);obtain⟨S,hS⟩:∃ S,S=s.data.toList:=⟨_,rfl⟩;rw[← hS] at HSL ⊢;have HSE:=hid hS;clear hS;obtain⟨i0,hi0,hz0,hz1,hz2⟩:=info_parts infoStr;have HI:=hid hi0;have HZ0:=hid hz0;have HZ1:=hid hz1;have HZ2:=hid hz2;clear hi0 hz0 hz1 hz2
 go_enter Tryz.func26,Tryz.ntmps26
 go_wp2_with fail
 go_loopw [3,4,5] (fun ov fv iv wr=>∃(LL:List ByteArray) (f i:Nat),LL.length≤i∧i≤s.size+1∧fv=.int .i64 f∧iv=.int .i64 i∧wr.ownsRow w.heap.size 9 1 ov LL.length (LL.flatMap encStr)∧SplI S LL f i∧Below w.heap.size w wr) (fun _ _ iv _=>s.size+1 - (intOf iv).toNat)
 case atStart=>exact⟨[],0,0,Nat.le_refl _,Nat.zero_le _,rfl,rfl,World.ownsRow_nil _ _ _ _,.inl ⟨Nat.zero_le _,Nat.le_refl _,by simp[linesB],fun j x _ h=>absurd h (by omega)⟩,Below.refl _ _⟩
 case round =>
  obtain⟨LL,f,i,hli,his,rfl,rfl,hown,hspl,hb⟩:=hrel;have HOW:=hid hown;have HSP:=hid hspl;have HB:=hid hb;clear hown hspl hb
  by_cases hlt:i≤s.size
  · have hi1:(i:Int)≤(s.size:Int):=by omega
    by_cases hbr:i=s.size∨S[i]?=some 32
    · have hpd:(s.extract f i).data.toList=(S.drop f).take (i - f):=by rw[HSE.out];simp[List.extract_eq_take_drop]
      obtain⟨hfi,hcut⟩:=HSP.out.cut (p:=s.extract f i) (by rw[HSL.out];exact hlt) (by rw[HSL.out];exact hbr) hpd;have HCUT:=hid hcut;clear hcut hpd;have hal:=(Below.refl wr.heap.size wr).alloc (Nat.le_refl _) (.cells #[.string (s.extract f i)] 9);have hne:=Blk.new wr 9 #[.string (s.extract f i)];have hw1:IntKind.i64.wrap ((i:Int)+1)=(i:Int)+1:=wi (by omega)
      by_cases hend:i=s.size
      · have e0:((i:Int) == (s.size:Int))=true:=by simp;omega
        clear hbr hend
        go_wp2_with (at_builtin;go_must (refine wpList_append_rd rfl _ _ 22 rfl w.heap.size 9 i0 _ 1 16 Tryz.underlying22 HI.out HZ0.out HZ1.out HZ2.out rfl (by decide) _ LL.length _ rfl (own_mono HOW.out hal) encStr_len oneStr (some ⟨wr.heap.size,0,none⟩) 1 1 [s.extract f i] rfl (Rd.of_blkE (k:=1) encStr_len hne (l:=[s.extract f i]) rfl rfl) (by unfold maxLen;omega) (by omega) (by have:=HB.out.size;simp;omega) ?_;intro v' w4 hown4 hgr4))
        have hown4:w4.ownsRow w.heap.size 9 1 v' (LL++[s.extract f i]).length ((LL++[s.extract f i]).flatMap encStr):=by simpa using hown4
        have hb4:=(below_tr HB.out hal).trans (Fr.of_grown hgr4 (E:=fun q=>w.heap.size≤q) (fun q e _=>(HOW.out.lt q e).1) |>.below (by have:=HB.out.size;simp;omega) fun q hq=>hq)
        go_wp2_with fail
        go_roundw
        case rel=>exact⟨LL++[s.extract f i],i+1,i+1,by rw[List.length_append];simp;omega,by omega,by go_num,by go_num,hown4,HCUT.out,hb4⟩
        case measure=>simp[intOf]<;>omega
      · have hx:=hbr.resolve_left hend
        have e0:((i:Int) == (s.size:Int))=false:=by simp;omega
        have q1:=idx_str s (by rw[← HSE.out];exact hx);have q2:((32:UInt8).toNat:Int)=32:=rfl;rw[q2] at q1;clear hbr hx q2
        go_wp2_with (at_builtin;go_must (refine wpList_append_rd rfl _ _ 22 rfl w.heap.size 9 i0 _ 1 16 Tryz.underlying22 HI.out HZ0.out HZ1.out HZ2.out rfl (by decide) _ LL.length _ rfl (own_mono HOW.out hal) encStr_len oneStr (some ⟨wr.heap.size,0,none⟩) 1 1 [s.extract f i] rfl (Rd.of_blkE (k:=1) encStr_len hne (l:=[s.extract f i]) rfl rfl) (by unfold maxLen;omega) (by omega) (by have:=HB.out.size;simp;omega) ?_;intro v' w4 hown4 hgr4))
        have hown4:w4.ownsRow w.heap.size 9 1 v' (LL++[s.extract f i]).length ((LL++[s.extract f i]).flatMap encStr):=by simpa using hown4
        have hb4:=(below_tr HB.out hal).trans (Fr.of_grown hgr4 (E:=fun q=>w.heap.size≤q) (fun q e _=>(HOW.out.lt q e).1) |>.below (by have:=HB.out.size;simp;omega) fun q hq=>hq)
        go_wp2_with fail
        go_roundw
        case rel=>exact⟨LL++[s.extract f i],i+1,i+1,by rw[List.length_append];simp;omega,by omega,by go_num,by go_num,hown4,HCUT.out,hb4⟩
        case measure=>simp[intOf]<;>omega
    · have hend:i≠s.size:=fun e=>hbr (.inl e)
      obtain⟨x,hx⟩:∃ x,S[i]?=some x:=⟨_,List.getElem?_eq_getElem (by rw[HSL.out];omega)⟩;have hn:x≠32:=fun e=>hbr (.inr (by rw[← e];exact hx));have hst:=HSP.out.step hx hn;have q1:=idx_str s (by rw[← HSE.out];exact hx)
      have e0:((i:Int) == (s.size:Int))=false:=by simp;omega
      have hxi:(x.toNat:Int)≠32:=fun e=>hn (UInt8.toNat_inj.1 (by have h9:(32:UInt8).toNat=32:=rfl;omega))
      have e1:((x.toNat:Int) == 32)=false:=by simpa using hxi
      have HST:=hid hst;clear hbr hx hn hst hend hxi
      go_wp2_with fail
      go_roundw
      case rel=>exact⟨LL,f,i+1,by omega,by omega,by trivial,by go_num,HOW.out,HST.out,HB.out⟩
      case measure=>simp[intOf]<;>omega
  · have hi1:¬(i:Int)≤(s.size:Int):=by omega
    have hfin:linesB LL=partsP 32 S:=by
     rcases HSP.out with ⟨h1,_⟩ | ⟨_,h2⟩
     · have:=HSL.out;omega
     · exact h2
    have HF:=hid hfin;clear hfin
    go_wp2_with fail
    go_ret
    exact⟨_,rfl,LL,HOW.out,HF.out,HB.out⟩
def manyP (l:List UInt8):Int:=match wordOf l with
 | some wd=>(wd.many:Int)
 | none=>-1
theorem eql_no {p:ByteArray}{l:List UInt8}(h:¬ p.data.toList=l):(p.toList == l)=false:=by rw[ByteArray.toList_eq];exact beq_eq_false_iff_ne.2 h
theorem eql_yes {p:ByteArray}{l:List UInt8}(h:p.data.toList=l):(p.toList == l)=true:=by rw[ByteArray.toList_eq];exact beq_iff_eq.2 h
theorem manyR_c (p:ByteArray)(w:World) :
 Calls Tryz.prog 27 #[.string p] w fun e w'=>e=.returned (.int .i64 (manyP p.data.toList))∧Below w.heap.size w w':=by
 refine(?_:Calls Tryz.prog 27 #[.string p] w fun e w'=>e=.returned (.int .i64 (manyP p.data.toList))∧w'=w).mono fun e w' h=>⟨h.1,by rw[h.2];exact Below.refl _ _⟩
 by_cases h0:p.data.toList=[104,101,97,114]
 · have q0:=eql_yes h0
   have HM:=hid (show manyP p.data.toList=0 from by rw[h0];rfl);clear h0
   go_enter Tryz.func27,Tryz.ntmps27
   go_wp2_with fail
   go_ret
   exact⟨by rw[HM.out];rfl,by trivial⟩
 have q0:=eql_no h0
 by_cases h1:p.data.toList=[108,101,97,115,116]
 · have q1:=eql_yes h1
   have HM:=hid (show manyP p.data.toList=1 from by rw[h1];rfl);clear h1
   go_enter Tryz.func27,Tryz.ntmps27
   go_wp2_with fail
   go_ret
   exact⟨by rw[HM.out];rfl,by trivial⟩
 have q1:=eql_no h1
 by_cases h2:p.data.toList=[98,117,121]
 · have q2:=eql_yes h2
   have HM:=hid (show manyP p.data.toList=1 from by rw[h2];rfl);clear h2
   go_enter Tryz.func27,Tryz.ntmps27
   go_wp2_with fail
   go_ret
   exact⟨by rw[HM.out];rfl,by trivial⟩
 have q2:=eql_no h2
 by_cases h3:p.data.toList=[108,105,110,107]
 · have q3:=eql_yes h3
   have HM:=hid (show manyP p.data.toList=2 from by rw[h3];rfl);clear h3
   go_enter Tryz.func27,Tryz.ntmps27
   go_wp2_with fail
   go_ret
   exact⟨by rw[HM.out];rfl,by trivial⟩
 have q3:=eql_no h3
 by_cases h4:p.data.toList=[115,108,105,100,101]
 · have q4:=eql_yes h4
   have HM:=hid (show manyP p.data.toList=2 from by rw[h4];rfl);clear h4
   go_enter Tryz.func27,Tryz.ntmps27
   go_wp2_with fail
   go_ret
   exact⟨by rw[HM.out];rfl,by trivial⟩
 have q4:=eql_no h4
 by_cases h5:p.data.toList=[119,97,121]
 · have q5:=eql_yes h5
   have HM:=hid (show manyP p.data.toList=2 from by rw[h5];rfl);clear h5
   go_enter Tryz.func27,Tryz.ntmps27
   go_wp2_with fail
   go_ret
   exact⟨by rw[HM.out];rfl,by trivial⟩
 have q5:=eql_no h5
 by_cases h6:p.data.toList=[97,108,97,114,109]
 · have q6:=eql_yes h6
   have HM:=hid (show manyP p.data.toList=3 from by rw[h6];rfl);clear h6
   go_enter Tryz.func27,Tryz.ntmps27
   go_wp2_with fail
   go_ret
   exact⟨by rw[HM.out];rfl,by trivial⟩
 have q6:=eql_no h6
 by_cases h7:p.data.toList=[119,101,97,116,104,101,114]
 · have q7:=eql_yes h7
   have HM:=hid (show manyP p.data.toList=3 from by rw[h7];rfl);clear h7
   go_enter Tryz.func27,Tryz.ntmps27
   go_wp2_with fail
   go_ret
   exact⟨by rw[HM.out];rfl,by trivial⟩
 have q7:=eql_no h7
 by_cases h8:p.data.toList=[115,116,101,112,115]
 · have q8:=eql_yes h8
   have HM:=hid (show manyP p.data.toList=3 from by rw[h8];rfl);clear h8
   go_enter Tryz.func27,Tryz.ntmps27
   go_wp2_with fail
   go_ret
   exact⟨by rw[HM.out];rfl,by trivial⟩
 have q8:=eql_no h8
 by_cases h9:p.data.toList=[101,118,105,100,101,110,99,101]
 · have q9:=eql_yes h9
   have HM:=hid (show manyP p.data.toList=3 from by rw[h9];rfl);clear h9
   go_enter Tryz.func27,Tryz.ntmps27
   go_wp2_with fail
   go_ret
   exact⟨by rw[HM.out];rfl,by trivial⟩
 have q9:=eql_no h9
 by_cases h10:p.data.toList=[112,97,114,99,101,108]
 · have q10:=eql_yes h10
   have HM:=hid (show manyP p.data.toList=4 from by rw[h10];rfl);clear h10
   go_enter Tryz.func27,Tryz.ntmps27
   go_wp2_with fail
   go_ret
   exact⟨by rw[HM.out];rfl,by trivial⟩
 have q10:=eql_no h10
 by_cases h11:p.data.toList=[103,114,111,117,110,100]
 · have q11:=eql_yes h11
   have HM:=hid (show manyP p.data.toList=5 from by rw[h11];rfl);clear h11
   go_enter Tryz.func27,Tryz.ntmps27
   go_wp2_with fail
   go_ret
   exact⟨by rw[HM.out];rfl,by trivial⟩
 have q11:=eql_no h11
 by_cases h12:p.data.toList=[99,101,108,108]
 · have q12:=eql_yes h12
   have HM:=hid (show manyP p.data.toList=7 from by rw[h12];rfl);clear h12
   go_enter Tryz.func27,Tryz.ntmps27
   go_wp2_with fail
   go_ret
   exact⟨by rw[HM.out];rfl,by trivial⟩
 have q12:=eql_no h12
 by_cases h13:p.data.toList=[98,101,100]
 · have q13:=eql_yes h13
   have HM:=hid (show manyP p.data.toList=8 from by rw[h13];rfl);clear h13
   go_enter Tryz.func27,Tryz.ntmps27
   go_wp2_with fail
   go_ret
   exact⟨by rw[HM.out];rfl,by trivial⟩
 have q13:=eql_no h13
 have hn:wordOf p.data.toList=none:=by
  unfold wordOf;rw[List.find?_eq_none];intro wd _
  have hne:¬ wd.name=p.data.toList:=by
   cases wd<;>intro e<;>first
    | exact h0 e.symm
    | exact h1 e.symm
    | exact h2 e.symm
    | exact h3 e.symm
    | exact h4 e.symm
    | exact h5 e.symm
    | exact h6 e.symm
    | exact h7 e.symm
    | exact h8 e.symm
    | exact h9 e.symm
    | exact h10 e.symm
    | exact h11 e.symm
    | exact h12 e.symm
    | exact h13 e.symm
  simpa using hne
 have HM:=hid (show manyP p.data.toList=-1 from by unfold manyP;rw[hn]);clear hn h0 h1 h2 h3 h4 h5 h6 h7 h8 h9 h10 h11 h12 h13
 go_enter Tryz.func27,Tryz.ntmps27
 go_wp2_with fail
 go_ret
 exact⟨by rw[HM.out];rfl,by trivial⟩
def wholeV (l:List UInt8):Int×Bool:=match wholeP l with
 | some x=>(x,true)
 | none=>(0,false)
theorem tail_str (s:ByteArray)(h:1≤s.size)(W:World):(Instr.slice 9 (.string s) (some (.int .i64 1)) none none).run Tryz.prog W=.ok (.string ⟨s.data.toList.tail.toArray⟩) W:=by
 rw[run_slice_string_l _ _ _ Tryz.underlying9 _ _ (by omega) (by omega)]
 congr 2
 apply ByteArray.ext
 apply Array.ext'
 have h9:s.data.toList.length=s.size:=rfl;simp[List.extract_eq_take_drop];rw[List.take_of_length_le (by rw[List.length_tail];omega)]
theorem idx0 (s:ByteArray){x:UInt8}(h:s.data.toList[0]?=some x)(W:World):(Instr.index 9 (.string s) (.int .i64 0)).run Tryz.prog W=.ok (.int .u8 (x.toNat:Int)) W:=idx_str s h W
theorem whole_parts {l d:List UInt8}{m:Bool}(hm:m=decide (l.head?=some 45))(hd:d=if m then l.drop 1 else l) :
 (d=[]∨9<d.length∨(d.head?=some 48∧(1<d.length∨m=true))→wholeV l=(0,false)) ∧
 (¬(d=[]∨9<d.length∨(d.head?=some 48∧(1<d.length∨m=true)))→(d.all isDig=true→wholeV l=(if m then -(valP d:Int) else (valP d:Int),true))∧(¬ d.all isDig=true→wholeV l=(0,false))):=by
 have e:wholeP l=if d=[]∨9<d.length∨(d.head?=some 48∧(1<d.length∨m=true)) then none else if d.all isDig then some (if m then -(valP d:Int) else (valP d:Int)) else none:=by
  subst hm hd
  rfl
 unfold wholeV;refine⟨fun h=>by rw[e,if_pos h],fun h=>⟨fun h2=>by rw[e,if_neg h,if_pos h2],fun h2=>by rw[e,if_neg h,if_neg h2]⟩⟩
theorem wholeR_c (s:ByteArray)(w:World) :
 Calls Tryz.prog 28 #[.string s] w fun e w'=>e=.returned (.tuple #[.int .i64 (wholeV s.data.toList).1,.bool (wholeV s.data.toList).2])∧Below w.heap.size w w':=by
 refine(?_:Calls Tryz.prog 28 #[.string s] w fun e w'=>e=.returned (.tuple #[.int .i64 (wholeV s.data.toList).1,.bool (wholeV s.data.toList).2])∧w'=w).mono fun e w' h=>⟨h.1,by rw[h.2];exact Below.refl _ _⟩;have hsl:s.data.toList.length=s.size:=rfl;obtain⟨R,hR⟩:∃ R,R=wholeV s.data.toList:=⟨_,rfl⟩;rw[← hR];obtain⟨m,hm⟩:∃ m,m=decide (s.data.toList.head?=some 45):=⟨_,rfl⟩
 obtain⟨D,hD⟩:∃ D:ByteArray,D=if m then ⟨s.data.toList.tail.toArray⟩ else s:=⟨_,rfl⟩
 obtain⟨d,hd⟩:∃ d,d=D.data.toList:=⟨_,rfl⟩
 have hd2:d=if m then s.data.toList.drop 1 else s.data.toList:=by rw[hd,hD];split<;>simp
 have hdl:d.length=D.size:=by rw[hd];rfl
 have hW:=whole_parts hm hd2;rw[← hR] at hW;have HW:=hid hW;have HDE:=hid hd;have HDL:=hid hdl;clear hW hR hd hdl hd2
 by_cases h45:s.data.toList.head?=some 45
 focus
  have hmt:m=true:=by rw[hm];exact decide_eq_true h45
  have hD2:(⟨s.data.toList.tail.toArray⟩:ByteArray)=D:=by rw[hD,hmt];rfl
  have HM:=hid hmt
  have h0:s.data.toList[0]?=some 45:=by rw[← List.head?_eq_getElem?];exact h45
  have hs1:1≤s.size:=by have:=(List.getElem?_eq_some_iff.1 h0).1;omega
  have hq:(s.size:Int)>0:=by omega
  have q0:=idx0 s h0;have s1:=tail_str s hs1;have e45:((45:UInt8).toNat:Int)=45:=rfl;rw[e45] at q0;have HDD:=hid hD2;clear h0 e45 h45 hsl hm hmt hD hD2
  go_enter Tryz.func28,Tryz.ntmps28
  go_upto_region 5 with fail
  rw[HDD.out];clear hs1 hq q0 s1 HDD
 rotate_left
 have hmf:m=false:=by rw[hm];exact decide_eq_false h45
 obtain rfl:D=s:=by rw[hD,hmf];rfl
 have HM:=hid hmf
 by_cases h0:D.size=0
 focus
  have hq:¬(D.size:Int)>0:=by omega
  clear h45 hsl hm h0 hmf hD
  go_enter Tryz.func28,Tryz.ntmps28
  go_upto_region 5 with fail
  clear hq
 rotate_left
 focus
  obtain⟨x,hx⟩:∃ x,D.data.toList[0]?=some x:=⟨_,List.getElem?_eq_getElem (by omega)⟩
  have hq:(D.size:Int)>0:=by omega
  have q0:=idx0 D hx;have hne:x≠45:=fun e=>h45 (by rw[List.head?_eq_getElem?,hx,e]);have hxi:(x.toNat:Int)≠45:=fun e=>hne (UInt8.toNat_inj.1 (by have h9:(45:UInt8).toNat=45:=rfl;omega))
  have e1:((x.toNat:Int) == 45)=false:=by simpa using hxi
  clear h45 hsl hm h0 hx hne hxi hmf hD
  go_enter Tryz.func28,Tryz.ntmps28
  go_upto_region 5 with fail
  clear hq q0 e1
 all_goals
  by_cases h0:D.size=0
  · have hz:((D.size:Int) == 0)=true:=beq_iff_eq.2 (by omega)
    have HR:=hid (HW.out.1 (.inl (List.length_eq_zero_iff.1 (by rw[HDL.out];exact h0))));clear h0
    go_wp2_with fail
    go_ret2
    exact⟨by rw[HR.out];rfl,by trivial⟩
  have hz:((D.size:Int) == 0)=false:=beq_eq_false_iff_ne.2 (by omega)
  by_cases h9:9<D.size
  · have h9i:(D.size:Int)>9:=by omega
    have HR:=hid (HW.out.1 (.inr (.inl (by rw[HDL.out];exact h9))));clear h9 h0
    go_wp2_with fail
    go_ret2
    exact⟨by rw[HR.out];rfl,by trivial⟩
  have h9i:¬(D.size:Int)>9:=by omega
  obtain⟨x,hx⟩:∃ x,D.data.toList[0]?=some x:=⟨_,List.getElem?_eq_getElem (by have h8:D.data.toList.length=D.size:=rfl;omega)⟩;have q0:=idx0 D hx
  have hdx:d.head?=some x:=by rw[HDE.out,List.head?_eq_getElem?];exact hx
  have hdn:d≠[]:=fun e=>by rw[e] at hdx;cases hdx
  by_cases hbad:x=48∧(1<D.size∨m=true)
  · obtain⟨h48,hb1⟩:=hbad
    have HR:=hid (HW.out.1 (.inr (.inr ⟨by rw[hdx,h48],by rw[HDL.out];exact hb1⟩)));subst h48;have e48:((48:UInt8).toNat:Int)=48:=rfl;rw[e48] at q0
    by_cases h1:1<D.size
    · have h1i:(D.size:Int)>1:=by omega
      clear hb1 hx hdx hdn h1 h0 h9
      go_wp2_with fail
      go_ret2
      exact⟨by rw[HR.out];rfl,by trivial⟩
    · have h1i:¬(D.size:Int)>1:=by omega
      have hmt:=hb1.resolve_left h1
      first
       | (exfalso;have h8:=HM.out;rw[hmt] at h8;cases h8;done)
       | (clear hb1 hx hdx hdn h1 h0 h9 hmt;(go_wp2_with (fail));go_ret2;exact⟨by rw[HR.out];rfl,by trivial⟩)
  have hok:=HW.out.2 (by
   rintro(h8 | h8 | ⟨h8,h7⟩)
   · exact hdn h8
   · rw[HDL.out] at h8;omega
   · rw[hdx] at h8
     exact hbad ⟨Option.some.inj h8,by rw[← HDL.out];exact h7⟩)
  have HOK:=hid hok
  have hd9:D.size≤9:=by omega
  by_cases h48:x=48
  focus
   subst h48;have e48:((48:UInt8).toNat:Int)=48:=rfl;rw[e48] at q0;have h1:¬ 1<D.size:=fun h8=>hbad ⟨rfl,.inl h8⟩
   have h1i:¬(D.size:Int)>1:=by omega
   have hmf:¬ m=true:=fun h8=>hbad ⟨rfl,.inr h8⟩
   first
    | (exfalso;exact hmf HM.out;done)
    | (clear hbad hx hdx hdn hok h0 h9 h1 hmf e48;(go_upto_region 7 with (fail));clear h1i q0 hz h9i)
  rotate_left
  focus
   have hxi:(x.toNat:Int)≠48:=fun e=>h48 (UInt8.toNat_inj.1 (by have h9:(48:UInt8).toNat=48:=rfl;omega))
   have e1:((x.toNat:Int) == 48)=false:=by simpa using hxi
   clear hbad hx hdx hdn h48 hok h0 h9 hxi
   go_upto_region 7 with fail
   clear e1 q0 hz h9i
  all_goals
   go_wp2_with fail
   go_loopw [6,7] (fun nv iv wr=>∃ j:Nat,j≤D.size∧iv=.int .i64 j∧nv=.int .i64 (valP (d.take j):Nat)∧(d.take j).all isDig=true∧wr=w) (fun _ iv _=>D.size - (intOf iv).toNat)
   case atStart=>exact⟨0,Nat.zero_le _,rfl,rfl,rfl,rfl⟩
   case round =>
    obtain⟨j,hj,rfl,rfl,hall,rfl⟩:=hrel
    have hvb:valP (d.take j)<1000000000:=by
     have h1:=val_lt _ _ rfl hall
     have h2:(d.take j).length≤9:=by rw[List.length_take];omega
     exact Nat.lt_of_lt_of_le h1 (Nat.pow_le_pow_right (by omega) h2)
    have HALL:=hid hall;clear hall;obtain⟨N,hN⟩:∃ N,N=valP (d.take j):=⟨_,rfl⟩;rw[← hN] at hvb ⊢
    by_cases hlt:j<D.size
    · obtain⟨y,hy⟩:∃ y,D.data.toList[j]?=some y:=⟨_,List.getElem?_eq_getElem (by have h8:D.data.toList.length=D.size:=rfl;omega)⟩
      have q1:=idx_str D hy;have hy8:=y.toNat_lt
      have hi1:(j:Int)<(D.size:Int):=by omega
      have hsn:d.take (j+1)=d.take j++[y]:=by rw[List.take_add_one,HDE.out,hy];rfl
      by_cases hdg:isDig y=true
      · have h57:48≤y.toNat∧y.toNat≤57:=by simpa[isDig] using hdg
        have g1:¬(y.toNat:Int)<48:=by omega
        have g2:¬(y.toNat:Int)>57:=by omega
        have u1:IntKind.u8.wrap ((y.toNat:Int) - 48)=(y.toNat:Int) - 48:=wu (by omega)
        have hst:((valP (d.take (j+1)):Nat):Int)=10 * (N:Int)+((y.toNat:Int) - 48):=by rw[hsn,valP_snoc,← hN];omega
        have hal:(d.take (j+1)).all isDig=true:=by rw[hsn,List.all_append,HALL.out];simpa using hdg
        have w1:IntKind.i64.wrap (10 * (N:Int))=10 * (N:Int):=wi (by omega);have w2:IntKind.i64.wrap (10 * (N:Int)+((y.toNat:Int) - 48))=10 * (N:Int)+((y.toNat:Int) - 48):=wi (by omega);have w3:IntKind.i64.wrap ((y.toNat:Int) - 48)=(y.toNat:Int) - 48:=wi (by omega);have HST:=hid hst;have HAL:=hid hal;clear hst hal hdg hsn hy hN
        go_wp2_with fail
        go_roundw
        case rel=>exact⟨j+1,by omega,by go_num,by rw[HST.out],HAL.out,by trivial⟩
        case measure=>simp[intOf]<;>omega
      · have HR:=hid (HOK.out.2 fun h8=>hdg (List.all_eq_true.1 h8 y (by rw[HDE.out];exact List.mem_of_getElem? hy)))
        have hnd:¬(48≤y.toNat∧y.toNat≤57):=fun h8=>hdg (by simpa[isDig] using h8);clear hdg hsn hy hN
        by_cases g1:(y.toNat:Int)<48
        · go_wp2_with fail
          go_ret2
          exact⟨by rw[HR.out];rfl,by trivial⟩
        · have g2:(y.toNat:Int)>57:=by omega
          go_wp2_with fail
          go_ret2
          exact⟨by rw[HR.out];rfl,by trivial⟩
    · have hi1:¬(j:Int)<(D.size:Int):=by omega
      have hta:d.take j=d:=List.take_of_length_le (by rw[HDL.out];omega);rw[hta] at hN;have hal:=HALL.out;rw[hta] at hal;have HR:=hid (HOK.out.1 hal);rw[← hN] at HR;have w1:IntKind.i64.wrap (-(N:Int))=-(N:Int):=wi (by omega);clear hal hta hN hlt hj
      go_wp2_with fail
      go_ret2
      exact⟨by first | (rw[HR.out,if_pos HM.out];rfl) | (rw[HR.out,if_neg (by rw[HM.out];decide)];rfl),by trivial⟩
end Go.Proofs.YtkhcliibilkefaaGreatDoor
