/- THE WALK of WardenStops: what is cut off, and what is changed at a byte. -/
import Derived.Test.YtlaengnhfjlphaaGreatDoorYAux
set_option linter.unusedVariables false
set_option linter.unusedSimpArgs false
set_option maxRecDepth 100000
set_option maxHeartbeats 8000000
namespace Go.Proofs.YtlaengnhfjlphaaGreatDoor
open Lib (hid)
open Go.RowKit Go.Proofs
attribute [local go_sem ↓] Go.wp_at_zero Go.wp_at_succ
theorem linesB_inj {a b:List ByteArray}(h:linesB a=linesB b):a=b:=by
 unfold linesB at h
 exact List.map_inj_right (f:=fun p:ByteArray=>p.data.toList) (fun x y e=>arr_ext e) |>.1 h
theorem cutS {A:Option Addr}{n c k:Nat}(hk:k≤c){i:Int}(hi:i=(k:Int))(W:World):(Instr.slice 22 (.slice A n c) none (some (.int .i64 i)) none).run Tryz.prog W=.ok (.slice A k c) W:=by
 subst hi;exact cut_to_gen Tryz.underlying22 (fun _=>by kernel_rfl:∀ W,(sizeOf 9).run Tryz.prog W=.ok 1 W) A hk W
theorem cutB {A:Option Addr}{n c k:Nat}(hk:k≤c){i:Int}(hi:i=(k:Int))(W:World):(Instr.slice 23 (.slice A n c) none (some (.int .i64 i)) none).run Tryz.prog W=.ok (.slice A k c) W:=by
 subst hi;exact cut_to_gen Tryz.underlying23 (fun _=>by kernel_rfl:∀ W,(sizeOf 5).run Tryz.prog W=.ok 1 W) A hk W
theorem own_cell {w:World}{base:Nat}{e:TypeId}{size n g c j:Nat}{xs:List Value}{v:Value}(h:w.ownsRow base e size (.slice (some ⟨g,0,none⟩) n c) n xs)(hx:xs[j]?=some v):w.cell? ⟨g,j,none⟩=some v:=by
 have h9:=h.cells (g:=g) rfl j v hx
 by_cases hN:j=0
 · subst hN;simpa[Addr.add] using h9
 · simpa[Addr.add,hN] using h9
theorem set_flatB (l:List UInt8)(j:Nat)(x:UInt8):(l.flatMap encB).set j (.int .u8 (x.toNat:Int))=(l.set j x).flatMap encB:=by
 rw[flat_u8,flat_u8,List.map_set];rfl
theorem books_check {LL:List ByteArray}(h:booksP LL):checkL LL=0:=by
 unfold checkL;rw[if_neg (by have:=h.2.2;omega),if_pos (fun p hp=>by have:=h.1 p hp;omega)]
theorem books_small {LL:List ByteArray}(h:booksP LL):(∀ s∈linesB LL,s.length≤300)∧(linesB LL).length≤60∧(bookW (linesB LL) 5).length≤10000:=by
 have h1:∀ s∈linesB LL,s.length≤200:=fun s hs=>by
  obtain⟨p,hp,rfl⟩:=List.mem_map.1 hs;exact h.1 p hp
 have h2:(linesB LL).length≤25:=by unfold linesB;rw[List.length_map];exact h.2.2
 refine⟨fun s hs=>by have:=h1 s hs;omega,by omega,?_⟩
 have:∀(l:List (List UInt8)) (c:Nat),(∀ s∈l,s.length≤200)→(bookW l c).length≤214 * l.length:=by
  intro l
  induction l with
  | nil=>intro c _;simp[bookW]
  | cons s l ih =>
   intro c hs;have e1:=ih (chkW c s) fun t ht=>hs t (List.mem_cons.2 (.inr ht));have e2:=hs s (List.mem_cons.2 (.inl rfl));rw[bookW,List.length_append,rec_len,List.length_cons];omega
 have:=this (linesB LL) 5 h1;omega
theorem write_list {A:Option Addr}{n c:Nat}{LL:List ByteArray}{W:World}(h:Rd encStr 1 W A n LL)(hck:checkL LL=0) :
 Calls Tryz.prog 8 #[.slice A n c] W fun e w'=>∃ AB cB,e=.returned (.tuple #[.slice AB (bookW (linesB LL) 5).length cB,.int .i64 0])∧Rd encB 1 w' AB (bookW (linesB LL) 5).length (bookW (linesB LL) 5)∧(bookW (linesB LL) 5).length≤cB∧Below W.heap.size W w':=by
 refine(Write_c h).mono ?_;rintro e w' ⟨v,rfl,hwo,_,hb⟩;have hwo:=hwo hck;obtain⟨AB,cB,rfl,hcb⟩:=own_form hwo;exact⟨AB,cB,by rw[hck],Rd.of_own encB_len (by rw[flat_u8];exact hwo) rfl,hcb,hb⟩
theorem check_take {LL:List ByteArray}(h:checkL LL=0)(k:Nat):checkL (LL.take k)=0:=by
 obtain⟨h1,h2⟩:=checkL_zero h;unfold checkL;rw[if_neg (by rw[List.length_take];omega),if_pos (fun p hp=>h2 p (List.mem_of_mem_take hp))]
theorem WardenStops_w {A:Option Addr}{n c at_ ch:Nat}{LL:List ByteArray}{w:World}(h:Rd encStr 1 w A n LL)(hc:n≤c)(hl:Lay w)(hn:n≤9223372036854775807)(ha:at_ < 65536)(hch:ch < 65536) :
 Calls Tryz.prog 4 #[.slice A n c,.int .u16 at_,.int .u16 ch] w fun e w'=>e=.returned (.bool true)∧Below w.heap.size w w':=by
 have HR:=hid h;have HL:=hid hl;have HB:=hid (Below.refl w.heap.size w);have HLEN:=hid h.len;clear h hl
 by_cases hbk:booksP LL
 · obtain⟨hs3,hs6,hsB⟩:=books_small hbk
   have hck:=books_check hbk
   have hn25:n≤25:=by have:=HLEN.out;have:=hbk.2.2;omega
   have hn0:0 < n:=by have:=HLEN.out;have:=hbk.2.1;omega
   have hbt:=decide_eq_true hbk;obtain⟨BK,hBK⟩:∃ BK,BK=bookW (linesB LL) 5:=⟨_,rfl⟩;rw[← hBK] at hsB;obtain⟨m,hm⟩:∃ m,m=BK.length:=⟨_,rfl⟩
   have hm0:0 < m:=by
    obtain⟨p,hp⟩:∃ p,LL[0]?=some p:=⟨_,List.getElem?_eq_getElem (by rw[HLEN.out];exact hn0)⟩;rw[hm,hBK,book_at (linesB_at hp)];simp[rec_len];omega
   have HBKE:=hid hBK;have HM:=hid hm;have HS3:=hid hs3;have HS6:=hid hs6;have HCK:=hid hck;have HBT:=hid hbt
   have hm4:m≤10000:=by omega
   clear hBK hm hs3 hs6 hck hbt hsB hbk
   go_enter Tryz.func4,Tryz.ntmps4
   go_wp2_with fail
   go_at_call 15;refine(books_c HR.out hn).mono ?_;rintro e w1 ⟨rfl,hb9⟩;rw[HBT.out];replace HB:=hdT HB hb9;replace HR:=hid (HR.out.below hb9);clear hb9
   go_wp2_with fail
   go_at_call 9;refine((list_c HR.out (by omega))).mono ?_;rintro e w2 ⟨A2,c2,rfl,hown2,hr2,hc2,hb9⟩;replace HB:=hdT HB hb9;replace HR:=hid (HR.out.below hb9);have HR2:=hid hr2;clear hb9 hr2;clear hown2
   go_wp2_with fail
   go_at_call 8;refine((write_list HR2.out HCK.out)).mono ?_;rintro e w3 ⟨AB,cB,rfl,hrb,hcb,hb9⟩;rw[← HBKE.out,← HM.out] at hrb hcb ⊢;replace HB:=hdT HB hb9;replace HR:=hid (HR.out.below hb9);replace HR2:=hid (HR2.out.below hb9);have HRB:=hid hrb;clear hb9 hrb
   have hm1:¬(m:Int)=0:=by omega
   have hm2:((m:Int) == 0)=false:=by simpa using hm1
   obtain⟨cut,hcut⟩:∃ cut,cut=at_ % m:=⟨_,rfl⟩
   have hcl:cut < m:=by rw[hcut];exact Nat.mod_lt _ hm0
   have hrem:(at_:Int).tmod (m:Int)=(cut:Int):=by rw[hcut,Int.tmod_eq_emod_of_nonneg (by omega)];omega
   have hw16:IntKind.i64.wrap (at_:Int)=(at_:Int):=wi (by omega);clear hcut HR2
   go_wp2_with fail
   clear hrem hw16 hm1 hm2
   go_loopw [10,11] (fun kv ev wr=>∃ k:Nat,k≤n∧kv=.int .i64 k∧ev=.int .i64 ((bookW ((linesB LL).take k) 5).length:Nat)∧(bookW ((linesB LL).take k) 5).length≤cut∧Below w3.heap.size w3 wr) (fun kv _ _=>n - (intOf kv).toNat)
   case atStart=>exact⟨0,Nat.zero_le _,rfl,by simp[bookW],by simp[bookW],Below.refl _ _⟩
   case round =>
    obtain⟨k,hk,rfl,rfl,hkc,hbw⟩:=hrel;replace HB:=hdT HB hbw;replace HR:=hid (HR.out.below hbw);replace HRB:=hid (HRB.out.below hbw);have HBW:=hid hbw;clear hbw
    have hlt:k < n:=by
     rcases Nat.lt_or_ge k n with h9 | h9
     · exact h9
     · exfalso
       have e1:(linesB LL).take k=linesB LL:=List.take_of_length_le (by unfold linesB;rw[List.length_map,HLEN.out];exact h9);rw[e1,← HBKE.out,← HM.out] at hkc;omega
    have hi1:(k:Int) < (n:Int):=by omega
    obtain⟨p,hp⟩:∃ p,LL[k]?=some p:=⟨_,List.getElem?_eq_getElem (by rw[HLEN.out];exact hlt)⟩;have hpb:=linesB_at hp;have s1:=fun W=>cutS (A:=A) (n:=n) (c:=c) (k:=k+1) (by omega) (i:=(k:Int)+1) (by omega) W;obtain⟨E0,hE0⟩:∃ E0,E0=(bookW ((linesB LL).take k) 5).length:=⟨_,rfl⟩;obtain⟨E1,hE1⟩:∃ E1,E1=(bookW ((linesB LL).take (k+1)) 5).length:=⟨_,rfl⟩;have hlen:=book_len (c:=5) hpb;rw[← hE0,← hE1] at hlen;rw[← hE0] at hkc ⊢;have HPB:=hid hpb;have HE0:=hid hE0;have HE1:=hid hE1;have hrk:=rd_take HR.out (b:=k+1) (by omega);have HRK:=hid hrk;clear hp hpb hE0 hE1 hrk
    go_wp2_with fail
    refine((list_c HRK.out (by omega))).mono ?_;rintro e w4 ⟨A4,c4,rfl,hown4,hr4,hc4,hb9⟩;replace HB:=hdT HB hb9;replace HR:=hid (HR.out.below hb9);replace HRB:=hid (HRB.out.below hb9);replace HBW:=hdT HBW hb9;replace HRK:=hid (HRK.out.below hb9);have HR4:=hid hr4;clear hb9 hr4;clear hown4
    go_wp2_with fail
    refine((write_list HR4.out (check_take HCK.out (k+1)))).mono ?_;rintro e w5 ⟨A5,c5,rfl,hrb5,hcb5,hb9⟩;rw[linesB_take,← HE1.out] at hrb5 hcb5 ⊢;replace HB:=hdT HB hb9;replace HR:=hid (HR.out.below hb9);replace HRB:=hid (HRB.out.below hb9);replace HBW:=hdT HBW hb9;replace HRK:=hid (HRK.out.below hb9);replace HR4:=hid (HR4.out.below hb9);clear hb9 ;clear hrb5 hcb5 HR4 HRK
    by_cases hcut:cut < E1
    · have hq:(cut:Int) < (E1:Int):=by omega
      obtain⟨j,hj⟩:∃ j,cut=E0+j:=⟨cut - E0,by omega⟩
      have hj14:j < 14+p.data.toList.length:=by omega
      have s2:=fun W=>cutB (A:=AB) (n:=m) (c:=cB) (k:=cut) (by omega) (i:=(cut:Int)) rfl W;have s3:=fun W=>cutS (A:=A) (n:=n) (c:=c) (k:=k) (by omega) (i:=(k:Int)) rfl W;have hrc:=rd_take HRB.out (b:=cut) (by omega);have HRC:=hid hrc;have hst:=stops_cut HS3.out HS6.out (c:=5) HPB.out hj14;rw[← HBKE.out,← HE0.out,← hj] at hst;have HST:=hid hst;have HJ:=hid hj;have HJ14:=hid hj14;clear hj hlen hj14;obtain⟨i1,hi1',hz10,hz11,hz12⟩:=info_parts infoByte;have HI:=hid hi1';have HZ0:=hid hz10;have HZ1:=hid hz11;have HZ2:=hid hz12;clear hrc hst hi1' hz10 hz11 hz12 s1
      have hcutm:cut≤10000:=by omega
      have hal:=(Below.refl w5.heap.size w5).alloc (Nat.le_refl _) (.cells #[] 5)
      go_wp2_with (at_builtin;go_must (refine wpList_append_rd rfl _ _ 23 rfl w5.heap.size 5 i1 _ 1 1 Tryz.underlying23 HI.out HZ0.out HZ1.out HZ2.out rfl (by decide) _ _ _ rfl (own_empty w5 5 1) encB_len oneByte AB cut cB (BK.take cut) rfl (HRC.out.below hal) (by unfold maxLen;omega) (by omega) (by simp) ?_;intro v6 w6 hown6 hgr6))
      have hown6:w6.ownsRow w5.heap.size 5 1 v6 cut ((BK.take cut).flatMap encB):=by simpa using hown6
      obtain⟨A6,c6,rfl,hc6⟩:=own_form hown6;have hb6:=hal.trans (Fr.of_grown hgr6 (E:=fun q=>w5.heap.size≤q) (fun q e _=>by first | (simp[Value.ownBlock] at e;omega) | (cases e;exact Nat.le_refl _)) |>.below (by simp) fun q hq=>hq);have hr6:=Rd.of_own encB_len hown6 (by rw[List.length_take,← HM.out];omega);clear hown6 hgr6 hal HRC;replace HB:=hdT HB hb6;replace HR:=hid (HR.out.below hb6);replace HRB:=hid (HRB.out.below hb6);replace HBW:=hdT HBW hb6;clear hb6;go_at_call 10;refine(Recover_c hr6 hc6 (by omega)).mono ?_;rintro e w7 ⟨v7,k7,L7,rfl,hown7,⟨hL7,hk7⟩,hb7⟩;rw[HST.out] at hL7 hk7;have hL7:L7=LL.take k:=linesB_inj (by rw[hL7,linesB_take]);subst hL7;obtain⟨A7,c7,rfl,hc7⟩:=own_form hown7;have hr7:=Rd.of_own encStr_len hown7 rfl
      have hkl:(LL.take k).length=k:=by rw[List.length_take,HLEN.out];omega
      subst hk7;rw[hkl] at hr7 ⊢;clear hown7 hL7 hc7 hr6 hc6;have HR7:=hid hr7;clear hr7;replace HB:=hdT HB hb7;replace HR:=hid (HR.out.below hb7);replace HRB:=hid (HRB.out.below hb7);replace HBW:=hdT HBW hb7;clear hb7;have hrk2:=rd_take HR.out (b:=k) (by omega);have HT:=hid (texts_c (c:=c7) (c':=c) HR7.out hrk2 (by omega));rw[decide_eq_true rfl] at HT;clear hrk2
      have e0b:((k7:Int) == (k7:Int))=true:=by simp
      go_wp2_with fail
      go_at_call 14;refine HT.out.mono ?_;rintro e w8 ⟨rfl,hb8⟩;clear HT HR7;replace HB:=hdT HB hb8;replace HR:=hid (HR.out.below hb8);replace HRB:=hid (HRB.out.below hb8);replace HBW:=hdT HBW hb8;clear hb8;obtain⟨x0,hx0⟩:∃ x0,BK[cut]?=some x0:=⟨_,List.getElem?_eq_getElem (by rw[← HM.out];exact hcl)⟩;obtain⟨r,hr⟩:∃ r,r=ch % 255:=⟨_,rfl⟩
      have hr255:r < 255:=by rw[hr];exact Nat.mod_lt _ (by decide)
      obtain⟨z,hz⟩:∃ z:UInt8,z=UInt8.ofNat (x0.toNat+(1+r)):=⟨_,rfl⟩
      have hzn:(z.toNat:Int)=((x0.toNat:Int)+(1+(r:Int))) % 256:=by rw[hz,UInt8.toNat_ofNat'];omega
      have hzx:BK[cut]?≠some z:=by
       rw[hx0];intro e9;have:=Option.some.inj e9;have h9:=x0.toNat_lt;rw[← this] at hzn;omega
      have q1:(ch:Int).tmod 255=(r:Int):=by rw[hr,Int.tmod_eq_emod_of_nonneg (by omega)];omega
      have u1:IntKind.u16.wrap (1+(r:Int))=1+(r:Int):=by simp[IntKind.wrap,IntKind.bits,IntKind.signed];omega
      have u2:IntKind.u8.wrap (1+(r:Int))=1+(r:Int):=wu (by omega)
      have u3:IntKind.u8.wrap ((x0.toNat:Int)+(1+(r:Int)))=(z.toNat:Int):=by rw[hzn];simp[IntKind.wrap,IntKind.bits,IntKind.signed]
      have u4:IntKind.u16.wrap (r:Int)=(r:Int):=by simp[IntKind.wrap,IntKind.bits,IntKind.signed];omega
      have hcm1:(cut:Int) < (m:Int):=by omega
      have hcm0:(0:Int)≤(cut:Int):=by omega
      have HX0:=hid hx0;have HZX:=hid hzx;clear hx0 hr hz hzn hzx;have hal:=(Below.refl w8.heap.size w8).alloc (Nat.le_refl _) (.cells #[] 5)
      go_wp2_with (at_builtin;go_must (refine wpList_append_rd rfl _ _ 23 rfl w8.heap.size 5 i1 _ 1 1 Tryz.underlying23 HI.out HZ0.out HZ1.out HZ2.out rfl (by decide) _ _ _ rfl (own_empty w8 5 1) encB_len oneByte AB m cB BK rfl (HRB.out.below hal) (by unfold maxLen;omega) (by omega) (by simp) ?_;intro v9 w9 hown9 hgr9;have hown9:w9.ownsRow w8.heap.size 5 1 v9 m (BK.flatMap encB):=(by simpa using hown9);obtain⟨g9,c9,rfl,hg9,hgl9,hfz9⟩:=own_some hown9 hm0;have hce:w9.cell? ⟨g9,cut,none⟩=some (.int .u8 (x0.toNat:Int)):=own_cell hown9 (by rw[flat_u8,List.getElem?_map,HX0.out];rfl);have hfz:=hfz9 cut))
      have hc9:m≤c9:=by
       obtain⟨_,_,e9,h9⟩:=own_form hown9;cases e9;exact h9
      have hst10:=(hown9.stored cut (.int .u8 (z.toNat:Int))).1;rw[set_flatB] at hst10;have hb9:=hal.trans (Fr.of_grown hgr9 (E:=fun q=>w8.heap.size≤q) (fun q e _=>by first | (simp[Value.ownBlock] at e;omega) | (cases e;exact Nat.le_refl _)) |>.below (by simp) fun q hq=>hq);have hb10:=hb9.setCell (p:=⟨g9,cut,none⟩) hg9 (.int .u8 (z.toNat:Int));have hr10:=Rd.of_own encB_len hst10 (by rw[List.length_set,← HM.out]);have hbad:=stops_bad HS3.out HS6.out (c:=5) (x:=z) (by decide) HPB.out HJ14.out (by rw[← HBKE.out,← HE0.out,← HJ.out];exact HZX.out);rw[← HBKE.out,← HE0.out,← HJ.out] at hbad;obtain⟨w10,hw10⟩:∃ w10,w10=w9.setCell ⟨g9,cut,none⟩ (.int .u8 (z.toNat:Int)):=⟨_,rfl⟩;rw[← hw10] at hb10 hr10 ⊢;clear hw10 hst10 hb9 hal hgr9 hown9 hce hfz hfz9 q1 u1 u2 u3 u4;replace HB:=hdT HB hb10;replace HR:=hid (HR.out.below hb10);replace HRB:=hid (HRB.out.below hb10);replace HBW:=hdT HBW hb10;clear hb10;refine(Recover_c hr10 hc9 (by omega)).mono ?_;rintro e w11 ⟨v11,k11,L11,rfl,hown11,⟨hL11,hk11⟩,hb11⟩;rw[hbad] at hL11 hk11;have hL11:L11=LL.take k:=linesB_inj (by rw[hL11,linesB_take]);subst hL11;obtain⟨A11,c11,rfl,hc11⟩:=own_form hown11;have hr11:=Rd.of_own encStr_len hown11 rfl;subst hk11;rw[hkl] at hr11 ⊢;clear hown11 hL11 hc11 hr10 hbad;have HR11:=hid hr11;clear hr11;replace HB:=hdT HB hb11;replace HR:=hid (HR.out.below hb11);replace HRB:=hid (HRB.out.below hb11);replace HBW:=hdT HBW hb11;clear hb11;have hrk2:=rd_take HR.out (b:=k) (by omega)
      have HT:=hid (texts_c (c:=c11) (c':=c) HR11.out hrk2 (by omega));rw[decide_eq_true rfl] at HT;clear hrk2
      go_wp2_with fail
      go_at_call 14;refine HT.out.mono ?_;rintro e w12 ⟨rfl,hb12⟩;clear HT HR11;replace HB:=hdT HB hb12;replace HR:=hid (HR.out.below hb12);replace HRB:=hid (HRB.out.below hb12);replace HBW:=hdT HBW hb12;clear hb12;have hal:=(Below.refl w12.heap.size w12).alloc (Nat.le_refl _) (.cells #[] 5)
      go_wp2_with (at_builtin;go_must (refine wpList_append_rd rfl _ _ 23 rfl w12.heap.size 5 i1 _ 1 1 Tryz.underlying23 HI.out HZ0.out HZ1.out HZ2.out rfl (by decide) _ _ _ rfl (own_empty w12 5 1) encB_len oneByte AB m cB BK rfl (HRB.out.below hal) (by unfold maxLen;omega) (by omega) (by simp) ?_;intro v13 w13 hown13 hgr13;have hown13:w13.ownsRow w12.heap.size 5 1 v13 m (BK.flatMap encB):=(by simpa using hown13);obtain⟨A13,c13,rfl,hc13⟩:=own_form hown13))
      have hb13:=hal.trans (Fr.of_grown hgr13 (E:=fun q=>w12.heap.size≤q) (fun q e _=>by first | (simp[Value.ownBlock] at e;omega) | (cases e;exact Nat.le_refl _)) |>.below (by simp) fun q hq=>hq);have hr13:=Rd.of_own encB_len hown13 HM.out.symm;clear hown13 hgr13 hal;replace HB:=hdT HB hb13;replace HR:=hid (HR.out.below hb13);replace HRB:=hid (HRB.out.below hb13);replace HBW:=hdT HBW hb13;clear hb13;have hall:=stops_all HS3.out HS6.out 5;rw[← HBKE.out,← HM.out] at hall;go_at_call 10;refine(Recover_c hr13 hc13 (by omega)).mono ?_;rintro e w14 ⟨v14,k14,L14,rfl,hown14,⟨hL14,hk14⟩,hb14⟩;rw[hall] at hL14 hk14;have hL14:L14=LL:=linesB_inj hL14;have hk14:k14=m:=hk14;subst hL14 hk14;obtain⟨A14,c14,rfl,hc14⟩:=own_form hown14;have hr14:=Rd.of_own encStr_len hown14 rfl;rw[HLEN.out] at hr14 ⊢;have HR14:=hid hr14;clear hown14 hall hr13 hc13 hr14 hc14;replace HB:=hdT HB hb14;replace HR:=hid (HR.out.below hb14);replace HRB:=hid (HRB.out.below hb14);replace HBW:=hdT HBW hb14;clear hb14;have HT:=hid (texts_c (c:=c14) (c':=c) HR14.out HR.out (by omega));rw[decide_eq_true rfl] at HT
      have emm:((k14:Int) == (k14:Int))=true:=by simp
      go_wp2_with fail
      go_at_call 14;refine HT.out.mono ?_;rintro e w15 ⟨rfl,hb15⟩;clear HT HR14;replace HB:=hdT HB hb15;replace HR:=hid (HR.out.below hb15);replace HRB:=hid (HRB.out.below hb15);replace HBW:=hdT HBW hb15;clear hb15
      go_wp2_with fail
      go_at_call 7;refine((wakes_ok _ (HL.out.below HB.out))).mono ?_;rintro e w16 ⟨rfl,hb9⟩;replace HB:=hdT HB hb9;replace HR:=hid (HR.out.below hb9);replace HRB:=hid (HRB.out.below hb9);replace HBW:=hdT HBW hb9;clear hb9 
      go_wp2_with fail
      (try rw[Exit.noGoto_ret])
      go_ret
      exact⟨rfl,HB.out⟩
    · have hq:¬(cut:Int) < (E1:Int):=by omega
      clear s1 hlen
      go_wp2_with fail
      go_roundw
      case rel=>exact⟨k+1,by omega,by go_num,by rw[← HE1.out],by rw[← HE1.out];omega,HBW.out⟩
      case measure=>simp[intOf] <;> omega
 · have hbt:=decide_eq_false hbk
   clear hbk
   go_enter Tryz.func4,Tryz.ntmps4
   go_wp2_with fail
   go_at_call 15;refine(books_c HR.out hn).mono ?_;rintro e w1 ⟨rfl,hb9⟩;rw[hbt];replace HB:=hdT HB hb9;clear hb9 hbt
   go_wp2_with fail
   go_at_call 7;refine((wakes_ok _ (HL.out.below HB.out))).mono ?_;rintro e w2 ⟨rfl,hb9⟩;replace HB:=hdT HB hb9;clear hb9 
   go_wp2_with fail
   (try rw[Exit.noGoto_ret])
   go_ret
   exact⟨rfl,HB.out⟩
end Go.Proofs.YtlaengnhfjlphaaGreatDoor
namespace Go.Proofs.YtlaengnhfjlphaaGreatDoor
open Lib (hid)
open Go.RowKit Go.Proofs
theorem rd_drop {α:Type}{enc:α→List Value}{k:Nat}{w:World}{b o n j:Nat}{l:List α}(h:Rd enc k w (some ⟨b,o,none⟩) n l)(hj:j≤n):Rd enc k w (some ⟨b,o+j * k,none⟩) (n - j) (l.drop j):=by
 refine⟨by rw[List.length_drop,h.1],fun h0=>?_⟩;obtain⟨b',o',e,hlt,hc⟩:=h.2 (by omega);cases e;refine⟨b,o+j * k,rfl,hlt,fun i x hx q v hv=>?_⟩;rw[List.getElem?_drop] at hx;have:=hc (j+i) x hx q v hv
 rwa [show o+j * k+i * k+q=o+(j+i) * k+q from by rw[Nat.add_mul];omega]
theorem cut_from_gen {t e:TypeId}{size:Nat}(ht:Tryz.prog.underlying t=some (.slice e))(hs:∀ W,(sizeOf e).run Tryz.prog W=.ok size W)(hz:0 < size){b o n c k:Nat}(hk:0 < k)(hkn:k≤n)(hkc:k < c)(W:World) :
 (Instr.slice t (.slice (some ⟨b,o,none⟩) n c) (some (.int .i64 (k:Int))) none none).run Tryz.prog W=.ok (.slice (some ⟨b,o+k * size,none⟩) (n - k) (c - k)) W:=by
 have h0:¬ c=k:=by omega
 have h1:¬ k * size=0:=by have:=Nat.mul_pos hk hz;omega
 have h2:¬ k=0:=by omega
 have h3:¬ size=0:=by omega
 simp[Instr.slice,run_underlying ht,run_sliceBounds_from W hkn,hs,h0,Addr.add,h1,h2,h3]
theorem fromS {b o n c k:Nat}(hk:0 < k)(hkn:k≤n)(hkc:k < c){i:Int}(hi:i=(k:Int))(W:World):(Instr.slice 22 (.slice (some ⟨b,o,none⟩) n c) (some (.int .i64 i)) none none).run Tryz.prog W=.ok (.slice (some ⟨b,o+k * 1,none⟩) (n - k) (c - k)) W:=by
 subst hi;exact cut_from_gen Tryz.underlying22 (fun _=>by kernel_rfl:∀ W,(sizeOf 9).run Tryz.prog W=.ok 1 W) (by decide) hk hkn hkc W
theorem fromB {b o n c k:Nat}(hk:0 < k)(hkn:k≤n)(hkc:k < c){i:Int}(hi:i=(k:Int))(W:World):(Instr.slice 23 (.slice (some ⟨b,o,none⟩) n c) (some (.int .i64 i)) none none).run Tryz.prog W=.ok (.slice (some ⟨b,o+k * 1,none⟩) (n - k) (c - k)) W:=by
 subst hi;exact cut_from_gen Tryz.underlying23 (fun _=>by kernel_rfl:∀ W,(sizeOf 5).run Tryz.prog W=.ok 1 W) (by decide) hk hkn hkc W
attribute [local go_sem ↓] Go.wp_at_zero Go.wp_at_succ
def ckA (LL:List ByteArray)(i:Nat):Nat:=((linesB LL).take i).foldl chkW 5
theorem ckA_lt (LL:List ByteArray)(i:Nat):ckA LL i < 11881357:=fold_lt _ (by decide)
theorem ckA_succ {LL:List ByteArray}{i:Nat}{p:ByteArray}(h:LL[i]?=some p):ckA LL (i+1)=chkW (ckA LL i) p.data.toList:=by
 unfold ckA;rw[List.take_add_one,linesB_at h,Option.toList_some,List.foldl_append]
 rfl
theorem linesB_drop (LL:List ByteArray)(k:Nat):linesB (LL.drop k)=(linesB LL).drop k:=by unfold linesB;rw[List.map_drop]
theorem linesB_app (a b:List ByteArray):linesB (a++b)=linesB a++linesB b:=by unfold linesB;rw[List.map_append]
theorem bk_le (LL:List ByteArray)(k:Nat):(bookW ((linesB LL).take k) 5).length≤(bookW (linesB LL) 5).length:=by
 have:bookW (linesB LL) 5=bookW ((linesB LL).take k) 5++bookW ((linesB LL).drop k) (((linesB LL).take k).foldl chkW 5):=by
  rw[← book_app,List.take_append_drop]
 rw[this,List.length_append];omega
theorem bound_lines {LL:List ByteArray}(hs3:∀ s∈linesB LL,s.length≤300)(hs6:(linesB LL).length≤60){k:Nat}(hk:k+1 < LL.length) :
 (ckA LL k=ckA LL (k+1)→(readW 60 (bookW ((linesB LL).take k) 5++(bookW (linesB LL) 5).drop (bookW ((linesB LL).take (k+1)) 5).length) 5).1=linesB (LL.take k++LL.drop (k+1))) ∧
 (¬ ckA LL k=ckA LL (k+1)→readW 60 (bookW ((linesB LL).take k) 5++(bookW (linesB LL) 5).drop (bookW ((linesB LL).take (k+1)) 5).length) 5=(linesB (LL.take k),(bookW ((linesB LL).take k) 5).length)):=by
 have hp:LL[k]?=some LL[k]:=List.getElem?_eq_getElem (by omega);have ht:LL[k+1]?=some LL[k+1]:=List.getElem?_eq_getElem hk;have hc:=ckA_succ hp;refine⟨fun he=>?_,fun he=>?_⟩
 · rw[linesB_app,linesB_take,linesB_drop]
   exact bound_eq hs3 hs6 (linesB_at hp) (by rw[hc] at he;exact he)
 · rw[linesB_take]
   exact bound_ne hs3 hs6 (by decide) (linesB_at hp) (linesB_at ht) (by rw[hc] at he;exact he)
theorem WardenBound_w {A:Option Addr}{n c at_:Nat}{LL:List ByteArray}{w:World}(h:Rd encStr 1 w A n LL)(hc:n≤c)(hl:Lay w)(hn:n≤9223372036854775807)(ha:at_ < 256) :
 Calls Tryz.prog 5 #[.slice A n c,.int .u8 at_] w fun e w'=>e=.returned (.bool true)∧Below w.heap.size w w':=by
 have HR:=hid h;have HL:=hid hl;have HB:=hid (Below.refl w.heap.size w);have HLEN:=hid h.len;clear h hl
 by_cases hbk:booksP LL∧2≤n
 · obtain⟨hbk,hn2⟩:=hbk
   obtain⟨hs3,hs6,hsB⟩:=books_small hbk;have hck:=books_check hbk
   have hn25:n≤25:=by have:=HLEN.out;have:=hbk.2.2;omega
   have hbt:=decide_eq_true hbk
   have hi2:¬(n:Int) < 2:=by omega
   obtain⟨k,hk⟩:∃ k,k=at_ % (n - 1):=⟨_,rfl⟩
   have hkn:k+1 < n:=by have:=Nat.mod_lt at_ (show 0 < n - 1 by omega);omega
   have hbl:=bound_lines (k:=k) hs3 hs6 (by rw[HLEN.out];exact hkn);obtain⟨p,hp⟩:∃ p,LL[k]?=some p:=⟨_,List.getElem?_eq_getElem (by rw[HLEN.out];omega)⟩;obtain⟨p1,hp1⟩:∃ p,LL[k+1]?=some p:=⟨_,List.getElem?_eq_getElem (by rw[HLEN.out];omega)⟩;have hl0:=book_len (c:=5) (linesB_at hp);have hl1:=book_len (c:=5) (linesB_at hp1);have hlm:=bk_le LL (k+1+1);obtain⟨E0,hE0⟩:∃ E0,E0=(bookW ((linesB LL).take k) 5).length:=⟨_,rfl⟩;obtain⟨E1,hE1⟩:∃ E1,E1=(bookW ((linesB LL).take (k+1)) 5).length:=⟨_,rfl⟩;obtain⟨m,hm⟩:∃ m,m=(bookW (linesB LL) 5).length:=⟨_,rfl⟩;rw[← hE0,← hE1] at hl0;rw[← hE1] at hl1;rw[← hm] at hlm hsB
   have h01:E0 < E1:=by omega
   have h1m:E1 < m:=by omega
   have hm4:m≤10000:=by omega
   have HE0:=hid hE0;have HE1:=hid hE1;have HM:=hid hm;have HCK:=hid hck;have HBT:=hid hbt;have HBL:=hid hbl;have HS3:=hid hs3
   have hrem:(at_:Int).tmod ((n:Int) - 1)=(k:Int):=by
    rw[show(n:Int) - 1=((n - 1:Nat):Int) from by omega,hk,Int.tmod_eq_emod_of_nonneg (by omega)];exact(Int.natCast_emod _ _).symm
   have hw1:IntKind.i64.wrap (at_:Int)=(at_:Int):=wi (by omega)
   have hm1:¬(n:Int) - 1=0:=by omega
   have hm2:((n:Int) - 1 == 0)=false:=by simpa using hm1
   have s1:=fun W=>cutS (A:=A) (n:=n) (c:=c) (k:=k) (by omega) (i:=(k:Int)) rfl W;have s2:=fun W=>cutS (A:=A) (n:=n) (c:=c) (k:=k+1) (by omega) (i:=(k:Int)+1) (by omega) W
   have q1:¬(E0:Int) ≥ (E1:Int):=by omega
   have q2:¬(E1:Int) ≥ (m:Int):=by omega
   have HRK:=hid (rd_take HR.out (b:=k) (by omega));have HRK1:=hid (rd_take HR.out (b:=k+1) (by omega));clear hE0 hE1 hm hck hbt hbl hl0 hl1 hlm hsB hp hp1 hs3 hs6 hbk hk
   go_enter Tryz.func5,Tryz.ntmps5
   go_wp2_with fail
   go_at_call 15;refine(books_c HR.out hn).mono ?_;rintro e w1 ⟨rfl,hb9⟩;rw[HBT.out];replace HB:=hdT HB hb9;replace HR:=hid (HR.out.below hb9);replace HRK:=hid (HRK.out.below hb9);replace HRK1:=hid (HRK1.out.below hb9);clear hb9
   go_wp2_with fail
   go_at_call 9;refine((list_c HRK.out (by omega))).mono ?_;rintro e w2 ⟨A2,c2,rfl,hown2,hr2,hc2,hb9⟩;replace HB:=hdT HB hb9;replace HR:=hid (HR.out.below hb9);replace HRK:=hid (HRK.out.below hb9);replace HRK1:=hid (HRK1.out.below hb9);have HR2:=hid hr2;clear hb9 hr2;clear hown2 hc2;clear hrem hw1 hm1 hm2
   go_wp2_with fail
   go_at_call 8;refine((write_list HR2.out (check_take HCK.out k))).mono ?_;rintro e w3 ⟨AA,cA,rfl,hra,hca,hb9⟩;rw[linesB_take,← HE0.out] at hra hca ⊢;replace HB:=hdT HB hb9;replace HR:=hid (HR.out.below hb9);replace HRK:=hid (HRK.out.below hb9);replace HRK1:=hid (HRK1.out.below hb9);replace HR2:=hid (HR2.out.below hb9);have HRA:=hid hra;clear hb9 hra
   go_wp2_with fail
   go_at_call 9;refine((list_c HRK1.out (by omega))).mono ?_;rintro e w4 ⟨A3,c3,rfl,hown3,hr3,hc3,hb9⟩;replace HB:=hdT HB hb9;replace HR:=hid (HR.out.below hb9);replace HRK:=hid (HRK.out.below hb9);replace HRK1:=hid (HRK1.out.below hb9);replace HR2:=hid (HR2.out.below hb9);replace HRA:=hid (HRA.out.below hb9);have HR3:=hid hr3;clear hb9 hr3;clear hown3 hc3
   go_wp2_with fail
   go_at_call 8;refine((write_list HR3.out (check_take HCK.out (k+1)))).mono ?_;rintro e w5 ⟨AX,cX,rfl,hrx,hcx,hb9⟩;rw[linesB_take,← HE1.out] at hrx hcx ⊢;replace HB:=hdT HB hb9;replace HR:=hid (HR.out.below hb9);replace HRK:=hid (HRK.out.below hb9);replace HRK1:=hid (HRK1.out.below hb9);replace HR2:=hid (HR2.out.below hb9);replace HRA:=hid (HRA.out.below hb9);replace HR3:=hid (HR3.out.below hb9);clear hb9 ;clear hrx hcx
   go_wp2_with fail
   go_at_call 9;refine((list_c HR.out (by omega))).mono ?_;rintro e w6 ⟨A4,c4,rfl,hown4,hr4,hc4,hb9⟩;replace HB:=hdT HB hb9;replace HR:=hid (HR.out.below hb9);replace HRK:=hid (HRK.out.below hb9);replace HRK1:=hid (HRK1.out.below hb9);replace HR2:=hid (HR2.out.below hb9);replace HRA:=hid (HRA.out.below hb9);replace HR3:=hid (HR3.out.below hb9);have HR4:=hid hr4;clear hb9 hr4;clear hown4 hc4
   go_wp2_with fail
   go_at_call 8;refine((write_list HR4.out HCK.out)).mono ?_;rintro e w7 ⟨AC,cC,rfl,hrc,hcc,hb9⟩;rw[← HM.out] at hrc hcc ⊢;replace HB:=hdT HB hb9;replace HR:=hid (HR.out.below hb9);replace HRK:=hid (HRK.out.below hb9);replace HRK1:=hid (HRK1.out.below hb9);replace HR2:=hid (HR2.out.below hb9);replace HRA:=hid (HRA.out.below hb9);replace HR3:=hid (HR3.out.below hb9);replace HR4:=hid (HR4.out.below hb9);have HRC:=hid hrc;clear hb9 hrc;clear HR2 HR3 HR4
   go_wp2_with fail
   have d1:decide (E1≤E0)=false:=decide_eq_false (by omega);have d2:decide (m≤E1)=false:=decide_eq_false (by omega);simp only[d1,d2,Bool.or_false];clear q1 q2 d1 d2
   go_loopw [12,13,14] (fun bv cv iv wr=>∃ i:Nat,i≤k+1∧iv=.int .i64 i∧cv=.int .i64 (ckA LL i:Nat)∧bv=.int .i64 (ckA LL (i - 1):Nat)∧Below w7.heap.size w7 wr) (fun _ _ iv _=>k+1 - (intOf iv).toNat)
   case atStart=>exact⟨0,Nat.zero_le _,rfl,rfl,rfl,Below.refl _ _⟩
   case round =>
    obtain⟨i,hi,rfl,rfl,rfl,hbw⟩:=hrel;replace HB:=hdT HB hbw;replace HR:=hid (HR.out.below hbw);replace HRA:=hid (HRA.out.below hbw);replace HRC:=hid (HRC.out.below hbw);have HBW:=hid hbw;clear hbw
    by_cases hlt:i≤k
    · obtain⟨b,o,p,rfl,hp,c0⟩:=str_at HR.out (i:=i) (by omega)
      have hps:=ckA_succ hp
      have hp3:p.size≤1000:=by have:=HS3.out p.data.toList (List.mem_map.2 ⟨p,List.mem_of_getElem? hp,rfl⟩);have e9:p.data.toList.length=p.size:=rfl;omega
      have hi1:(i:Int)≤(k:Int):=by omega
      have hi0:(0:Int)≤(i:Int):=by omega
      have hin:(i:Int) < (n:Int):=by omega
      have HC1:=hid (fun W=>chkR_c p (ckA LL i) W hp3 (ckA_lt LL i));rw[← hps] at HC1;clear hp hps
      go_wp2_with fail
      go_at_call 16;refine(HC1.out _).mono ?_;rintro e w8 ⟨rfl,hb9⟩;replace HB:=hdT HB hb9;replace HR:=hid (HR.out.below hb9);replace HRA:=hid (HRA.out.below hb9);replace HRC:=hid (HRC.out.below hb9);replace HBW:=hdT HBW hb9;clear hb9 
      go_wp2_with fail
      go_roundw
      case rel=>exact⟨i+1,by omega,by go_num,rfl,by simp,HBW.out⟩
      case measure=>simp[intOf] <;> omega
    · obtain rfl:i=k+1:=by omega
      have hi1:¬((k:Int)+1)≤(k:Int):=by omega
      clear hi hlt;rw[Nat.add_sub_cancel];obtain⟨i1,hi1',hz10,hz11,hz12⟩:=info_parts infoByte;have HI:=hid hi1';have HZ0:=hid hz10;have HZ1:=hid hz11;have HZ2:=hid hz12;clear hi1' hz10 hz11 hz12
      obtain⟨b,o,rfl,hob⟩:∃ b o,AC=some ⟨b,o,none⟩∧b < wr.heap.size:=by
       obtain⟨b,o,e,hb,_⟩:=HRC.out.2 (by omega);exact⟨b,o,e,hb⟩
      have s3:=fun W=>fromB (b:=b) (o:=o) (n:=m) (c:=cC) (k:=E1) (by omega) (by omega) (by omega) (i:=(E1:Int)) rfl W;have hrd:=rd_drop HRC.out (j:=E1) (by omega);rw[Nat.mul_one] at hrd;have HRD:=hid hrd;clear hrd hob HRC;clear HBW
      go_upto_region 14 with fail
      clear hi1;refine wp_region_till [] (fun _=>True) (by kernel_rfl) (by trivial) (fun hHeld=>?_);have hb9:=(Below.refl wr.heap.size wr).drew;replace HB:=hdT HB hb9;replace HR:=hid (HR.out.below hb9);replace HRA:=hid (HRA.out.below hb9);replace HRD:=hid (HRD.out.below hb9);clear hb9;revert hHeld HB HR HRA HRD;generalize wr.drew=w0;intro hHeld HB HR HRA HRD;refine tk 0 1 ?_;refine tk 0 3 ?_;refine tk 0 4 ?_;refine tk 0 5 ?_;refine tk 0 6 ?_;refine ar [0] (ac (fun K hK=>?_) an);go_simp;have hn:=own_empty w0 5 1;have hbq:=(Below.refl w0.heap.size w0).alloc (Nat.le_refl _) (.cells #[] 5);(try clear hHeld);refine hK.out _ _ (by(try dsimp only);all_goals trivial) (fun hHeld=>?_);clear hK K;refine pt ?_;revert hn hbq hHeld;generalize (World.alloc w0 (.cells #[] 5))=v0;intro hn hbq hHeld;refine ar [2] (ac (fun K hK=>?_) an);refine step_append_rd rfl _ _ 23 rfl w0.heap.size 5 i1 _ 1 1 Tryz.underlying23 HI.out HZ0.out HZ1.out HZ2.out rfl (by decide) _ _ _ rfl hn encB_len oneByte AA E0 cA (bookW ((linesB LL).take k) 5) rfl (HRA.out.below hbq) (by unfold maxLen;omega) (by omega) hbq.size ?_;intro v' v1 hown1 hgr1
      have hown1:v1.ownsRow w0.heap.size 5 1 v' E0 ((bookW ((linesB LL).take k) 5).flatMap encB):=by simpa using hown1
      have hbq:=hbq.trans (Fr.of_grown hgr1 (E:=fun q=>w0.heap.size≤q) (fun q e _=>by cases e;exact Nat.le_refl _) |>.below hbq.size fun q hq=>hq);clear hgr1 hn;(try clear hHeld);refine hK.out _ _ (by(try dsimp only);all_goals trivial) (fun hHeld=>?_);clear hK K;refine pt ?_;refine ar [7] (ac (fun K hK=>?_) an);refine step_append_rd rfl _ _ 23 rfl w0.heap.size 5 i1 _ 1 1 Tryz.underlying23 HI.out HZ0.out HZ1.out HZ2.out rfl (by decide) _ E0 _ rfl hown1 encB_len oneByte (some ⟨b,o+E1,none⟩) (m - E1) (cC - E1) ((bookW (linesB LL) 5).drop E1) rfl (HRD.out.below hbq) (by unfold maxLen;omega) (by omega) hbq.size ?_;intro v2' v2 hown2 hgr2;rw[← List.flatMap_append] at hown2;obtain⟨A7,c7,rfl,hc7⟩:=own_form hown2;have hr7:=Rd.of_own encB_len hown2 (by rw[List.length_append,List.length_drop,← HE0.out,← HM.out]);have hbq:=hbq.trans (Fr.of_grown hgr2 (E:=fun q=>w0.heap.size≤q) (fun q e _=>(hown1.lt q e).1) |>.below hbq.size fun q hq=>hq);clear hgr2 hown2 hown1;(try clear hHeld);refine hK.out _ _ (by(try dsimp only);all_goals trivial) (fun hHeld=>?_);clear hK K;refine pt ?_;refine ar [8] (ac (fun K hK=>?_) an);go_simp;go_at_call 10;refine(Recover_c hr7 hc7 (by omega)).mono ?_;rintro e v3 ⟨v3',k3,L3,rfl,hown3,⟨hL3,hk3⟩,hb3⟩;have hbq:=below_tr hbq hb3;clear hb3 hr7 hc7;(try go_wp2_with fail);(try clear hHeld);refine hK.out _ _ (by(try dsimp only);all_goals trivial) (fun hHeld=>?_);clear hK K;refine pt ?_;refine tk 0 9 ?_;refine tk 0 10 ?_;refine tk 0 11 ?_;refine tk 0 12 ?_
      refine tk 0 13 ?_;refine td ?_;(try clear hHeld);replace HB:=hdT HB hbq;replace HR:=hid (HR.out.below hbq);clear hbq HRA HRD;obtain⟨A3',c3',rfl,hc3'⟩:=own_form hown3;have hr3:=Rd.of_own encStr_len hown3 rfl;have HR3:=hid hr3;clear hr3 hown3;have hbl:=HBL.out;rw[← HE0.out,← HE1.out] at hbl;obtain⟨x0,hx0⟩:∃ x0,x0=ckA LL k:=⟨_,rfl⟩;obtain⟨x1,hx1⟩:∃ x1,x1=ckA LL (k+1):=⟨_,rfl⟩;rw[← hx0,← hx1] at hbl ⊢;clear hx0 hx1
      by_cases heq:x0=x1
      · subst heq
        have hbl:=hbl.1 rfl;have hL3:=linesB_inj (hL3.trans hbl);subst hL3
        have hdl:(LL.take k++LL.drop (k+1)).length=k+(n - (k+1)):=by rw[List.length_append,List.length_take,List.length_drop,HLEN.out];omega
        rw[hdl] at HR3 ⊢
        have e0:((x0:Int) == (x0:Int))=true:=by simp
        obtain⟨ba,oa,rfl⟩:∃ b o,A=some ⟨b,o,none⟩:=by
         obtain⟨b,o,e,hb,_⟩:=HR.out.2 (by omega);exact⟨b,o,e⟩
        have s4:=fun W=>fromS (b:=ba) (o:=oa) (n:=n) (c:=c) (k:=k+1) (by omega) (by omega) (by omega) (i:=(k:Int)+1) (by omega) W;have hrd4:=rd_drop HR.out (j:=k+1) (by omega);rw[Nat.mul_one] at hrd4;have HRD4:=hid hrd4;have HRK4:=hid (rd_take HR.out (b:=k) (by omega));have HDL:=hid hdl;obtain⟨i2,hi2',hz20,hz21,hz22⟩:=info_parts infoStr;have HJ:=hid hi2';have HY0:=hid hz20;have HY1:=hid hz21;have HY2:=hid hz22;clear hi2' hz20 hz21 hz22 hrd4 hbl hc3' hk3 hdl
        go_upto_region 16 with fail
        clear e0;have hw5:IntKind.i64.wrap ((k:Int)+1)=(k:Int)+1:=wi (by omega);refine wp_region_till [] (fun _=>True) (by kernel_rfl) (by trivial) (fun hHeld=>?_);have hb9:=(Below.refl v3.heap.size v3).drew;replace HB:=hdT HB hb9;replace HR3:=hid (HR3.out.below hb9);replace HRD4:=hid (HRD4.out.below hb9);replace HRK4:=hid (HRK4.out.below hb9);clear hb9;revert hHeld HB HR3 HRD4 HRK4;generalize v3.drew=u0;intro hHeld HB HR3 HRD4 HRK4;refine tk 0 0 ?_;refine tk 0 1 ?_;refine tk 0 2 ?_;refine tk 0 3 ?_;refine tk 0 5 ?_;refine tk 0 6 ?_;refine tk 0 7 ?_;refine tk 0 8 ?_;refine ar [4] (ac (fun K hK=>?_) an);go_simp;go_at_call 9;refine(list_c HRK4.out (by omega)).mono ?_;rintro e v4 ⟨A5,c5,rfl,hown5,hr5,hc5,hbq⟩;clear hr5;(try go_wp2_with fail);(try clear hHeld);refine hK.out _ _ (by(try dsimp only);all_goals trivial) (fun hHeld=>?_);clear hK K;refine pt ?_;refine ar [9] (ac (fun K hK=>?_) an);refine step_append_rd rfl _ _ 22 rfl u0.heap.size 9 i2 _ 1 16 Tryz.underlying22 HJ.out HY0.out HY1.out HY2.out rfl (by decide) _ k _ rfl hown5 encStr_len oneStr (some ⟨ba,oa+(k+1),none⟩) (n - (k+1)) (c - (k+1)) (LL.drop (k+1)) rfl (HRD4.out.below hbq) (by unfold maxLen;omega) (by omega) hbq.size ?_;intro v5' v5 hown6 hgr6;rw[← List.flatMap_append] at hown6;obtain⟨A6,c6,rfl,hc6⟩:=own_form hown6;have hr6:=Rd.of_own encStr_len hown6 HDL.out;have hbq:=hbq.trans (Fr.of_grown hgr6 (E:=fun q=>u0.heap.size≤q) (fun q e _=>(hown5.lt q e).1) |>.below hbq.size fun q hq=>hq);clear hgr6 hown6 hown5 hc5
        (try clear hHeld);refine hK.out _ _ (by(try dsimp only);all_goals trivial) (fun hHeld=>?_);clear hK K;refine pt ?_;refine ar [10] (ac (fun K hK=>?_) an);go_simp;go_at_call 14;refine(texts_c (HR3.out.below hbq) hr6 (by omega)).mono ?_;rintro e v6 ⟨rfl,hb6⟩;rw[decide_eq_true rfl];have hbq:=below_tr hbq hb6;clear hb6 hr6;(try go_wp2_with fail);(try clear hHeld);refine hK.out _ _ (by(try dsimp only);all_goals trivial) (fun hHeld=>?_);clear hK K;refine pt ?_;refine tk 0 11 ?_;refine ar [12] (ac (fun K hK=>?_) an);go_simp;go_at_call 7;refine(wakes_ok _ (HL.out.below (below_tr HB.out hbq))).mono ?_;rintro e v7 ⟨rfl,hb7⟩;have hbq:=below_tr hbq hb7;clear hb7;(try go_wp2_with fail);(try clear hHeld);refine hK.out _ _ (by(try dsimp only);all_goals trivial) (fun hHeld=>?_);clear hK K;refine pt ?_;refine tk 0 13 ?_;refine tk 0 14 ?_;refine td ?_;(try clear hHeld)
        go_wp2_with fail
        (try rw[Exit.noGoto_ret])
        go_ret
        exact⟨rfl,below_tr HB.out hbq⟩
      · have hbl:=hbl.2 heq
        rw[hbl] at hL3 hk3 ⊢;have hL3:L3=LL.take k:=linesB_inj hL3;have hk3:k3=E0:=hk3;subst hL3 hk3
        have hkl:(LL.take k).length=k:=by rw[List.length_take,HLEN.out];omega
        rw[hkl] at HR3 ⊢
        have h9:¬(x0:Int)=(x1:Int):=by omega
        have e0:((x0:Int) == (x1:Int))=false:=by simpa using h9
        clear h9
        have e0b:((k3:Int) == (k3:Int))=true:=by simp
        have hrk2:=rd_take HR.out (b:=k) (by omega);have HT:=hid (texts_c (c:=c3') (c':=c) HR3.out hrk2 (by omega));rw[decide_eq_true rfl] at HT;clear hrk2 hbl hc3'
        go_wp2_with fail
        go_at_call 14;refine HT.out.mono ?_;rintro e v4 ⟨rfl,hb4⟩;clear HT HR3;replace HB:=hdT HB hb4;replace HR:=hid (HR.out.below hb4);clear hb4
        go_wp2_with fail
        go_at_call 7;refine((wakes_ok _ (HL.out.below HB.out))).mono ?_;rintro e v5 ⟨rfl,hb9⟩;replace HB:=hdT HB hb9;replace HR:=hid (HR.out.below hb9);clear hb9 
        go_wp2_with fail
        (try rw[Exit.noGoto_ret])
        go_ret
        exact⟨rfl,HB.out⟩
 · have hbt:booksP LL→(n:Int) < 2:=fun h9=>by have h8:¬ 2≤n:=fun h7=>hbk ⟨h9,h7⟩;omega
   clear hbk
   go_enter Tryz.func5,Tryz.ntmps5
   go_wp2_with fail
   go_at_call 15;refine(books_c HR.out hn).mono ?_;rintro e w1 ⟨rfl,hb9⟩;replace HB:=hdT HB hb9;clear hb9
   by_cases hbk:booksP LL
   · have hn2:=hbt hbk
     rw[decide_eq_true hbk];clear hbt hbk
     go_wp2_with fail
     go_at_call 7;refine((wakes_ok _ (HL.out.below HB.out))).mono ?_;rintro e w2 ⟨rfl,hb9⟩;replace HB:=hdT HB hb9;clear hb9 
     go_wp2_with fail
     (try rw[Exit.noGoto_ret])
     go_ret
     exact⟨rfl,HB.out⟩
   · rw[decide_eq_false hbk]
     clear hbt hbk
     go_wp2_with fail
     go_at_call 7;refine((wakes_ok _ (HL.out.below HB.out))).mono ?_;rintro e w2 ⟨rfl,hb9⟩;replace HB:=hdT HB hb9;clear hb9 
     go_wp2_with fail
     (try rw[Exit.noGoto_ret])
     go_ret
     exact⟨rfl,HB.out⟩
end Go.Proofs.YtlaengnhfjlphaaGreatDoor
