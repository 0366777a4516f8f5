/- THE WALK of WardenWrites: the book of any lines, and what can be read of any bytes, are the reference's. -/
import Derived.Test.YtlaengnhfjlphaaGreatDoorYCut
import Derived.Laws.BytesArg
set_option linter.unusedVariables false
set_option linter.unusedSimpArgs false
set_option maxRecDepth 100000
set_option maxHeartbeats 8000000
namespace Go.Proofs.YtlaengnhfjlphaaGreatDoor
open Lib (hid)
open Go.RowKit Go.Proofs
attribute [local go_sem ↓] Go.wp_at_zero Go.wp_at_succ
theorem conv_rd {A:Option Addr}{n c:Nat}{l:List UInt8}{W:World}(h:Rd encB 1 W A n l):(convert 23 9 (.slice A n c)).run Tryz.prog W=.ok (str l) W:=by
 have hl:=h.len
 rcases Nat.eq_zero_or_pos n with h0 | h0
 · obtain rfl:l=[]:=List.length_eq_zero_iff.1 (by omega)
   cases A with
   | none=>exact run_convert_bytes_nil W 23 5 Tryz.underlying23 Tryz.underlying5 n c _ Tryz.underlying9
   | some a =>
    subst h0;exact run_convert_bytes_back (P:=Tryz.prog) W 23 9 5 a c [] Tryz.underlying23 Tryz.underlying5 Tryz.underlying9 (fun j hj=>absurd hj (Nat.not_lt_zero _))
 · obtain⟨b,o,rfl,_,hc⟩:=h.2 h0
   exact run_textB hl fun i x hx=>by
    have:=hc i x hx 0 _ rfl
    simpa using this
theorem write_wrong {A:Option Addr}{n c:Nat}{LL:List ByteArray}{W:World}(h:Rd encStr 1 W A n LL)(hck:checkL LL=3) :
 Calls Tryz.prog 8 #[.slice A n c] W fun e w'=>e=.returned (.tuple #[.slice none 0 0,.int .i64 3])∧Below W.heap.size W w':=by
 refine(Write_c h).mono ?_;rintro e w' ⟨v,rfl,_,hwo,hb⟩;have hwo:=hwo (by rw[hck];decide);subst hwo;exact⟨by rw[hck],hb⟩
theorem WardenWrites_w {A AB:Option Addr}{n c m cb:Nat}{LL:List ByteArray}{bs:List UInt8}{w:World}(h:Rd encStr 1 w A n LL)(hbs:Rd encB 1 w AB m bs)(hl:Lay w)(hn:n≤9223372036854775807) :
 Calls Tryz.prog 3 #[.slice A n c,.slice AB m cb] w fun e w'=>e=.returned (.bool true)∧Below w.heap.size w w':=by
 have HR:=hid h;have HL:=hid hl;have HB:=hid (Below.refl w.heap.size w);have HLEN:=hid h.len;have HRB:=hid hbs;have HBL:=hid hbs.len;clear h hl hbs
 go_enter Tryz.func3,Tryz.ntmps3
 go_wp2_with fail
 go_loopw [5,6] (fun nv iv wr=>∃(i:Nat) (x:Int),i≤n∧iv=.int .i64 i∧nv=.int .i64 x∧wr=w) (fun _ iv _=>n - (intOf iv).toNat)
 case atStart=>exact⟨0,0,Nat.zero_le _,rfl,rfl,rfl⟩
 case round =>
  obtain⟨i,x,hi,rfl,rfl,rfl⟩:=hrel
  by_cases hlt:i < n
  · obtain⟨b,o,p,rfl,hp,c0⟩:=str_at HR.out hlt
    have hi1:(i:Int) < (n:Int):=by omega
    have hi0:(0:Int)≤(i:Int):=by omega
    clear hp
    go_wp2_with fail
    go_roundw
    case rel=>exact⟨i+1,_,by omega,by go_num,rfl,by trivial⟩
    case measure=>simp[intOf] <;> omega
  · obtain rfl:i=n:=by omega
    have hi1:¬(i:Int) < (i:Int):=by omega
    clear hlt hi
    by_cases g1:i≤62
    · have q1:¬(i:Int) > 62:=by omega
      by_cases g2:x > 4000
      · skip
        go_wp2_with fail
        go_wp2_with fail
        go_at_call 7;refine((wakes_ok _ (HL.out.below HB.out))).mono ?_;rintro e v2 ⟨rfl,hb9⟩;replace HB:=hdT HB hb9;replace HR:=hid (HR.out.below hb9);replace HRB:=hid (HRB.out.below hb9);clear hb9 
        go_wp2_with fail
        (try rw[Exit.noGoto_ret])
        go_ret
        exact⟨rfl,HB.out⟩
      · by_cases g3:m≤4000
        · have q3:¬(m:Int) > 4000:=by omega
          by_cases hr:rightP LL
          · have HRT:=hid hr;have HCK:=hid (right_check hr);have HDR:=hid (decide_eq_true hr)
            clear hr
            go_wp2_with fail
            go_wp2_with fail
            go_at_call 9;refine((list_c HR.out (by omega))).mono ?_;rintro e v2 ⟨A2,c2,rfl,hown2,hr2,hc2,hb9⟩;replace HB:=hdT HB hb9;replace HR:=hid (HR.out.below hb9);replace HRB:=hid (HRB.out.below hb9);have HR2:=hid hr2;clear hb9 hr2;clear hown2 hc2;clear g2 q1 q3
            go_wp2_with fail
            go_at_call 8;refine((write_list HR2.out HCK.out)).mono ?_;rintro e v3 ⟨AA,cA,rfl,hra,hca,hb9⟩;replace HB:=hdT HB hb9;replace HR:=hid (HR.out.below hb9);replace HRB:=hid (HRB.out.below hb9);replace HR2:=hid (HR2.out.below hb9);have HRA:=hid hra;clear hb9 hra;clear HR2;have hal:=(Below.refl v3.heap.size v3).alloc (Nat.le_refl _) (.cells #[] 5);obtain⟨i1,hi1',hz10,hz11,hz12⟩:=info_parts infoByte;have HI:=hid hi1';have HZ0:=hid hz10;have HZ1:=hid hz11;have HZ2:=hid hz12;clear hi1' hz10 hz11 hz12
            go_wp2_with (at_builtin;go_must (refine wpList_append_rd rfl _ _ 23 rfl v3.heap.size 5 i1 _ 1 1 Tryz.underlying23 HI.out HZ0.out HZ1.out HZ2.out rfl (by decide) _ _ _ rfl (own_empty v3 5 1) encB_len oneByte AB m cb bs rfl (HRB.out.below hal) (by unfold maxLen;omega) (by omega) (by simp) ?_;intro v6 w6 hown6 hgr6))
            have hown6:w6.ownsRow v3.heap.size 5 1 v6 m (bs.flatMap encB):=by simpa using hown6
            obtain⟨A6,c6,rfl,hc6⟩:=own_form hown6;have hb6:=hal.trans (Fr.of_grown hgr6 (E:=fun q=>v3.heap.size≤q) (fun q e _=>by first | (simp[Value.ownBlock] at e;omega) | (cases e;exact Nat.le_refl _)) |>.below (by simp) fun q hq=>hq);have hr6:=Rd.of_own encB_len hown6 HBL.out;clear hown6 hgr6 hal;replace HB:=hdT HB hb6;replace HR:=hid (HR.out.below hb6);replace HRB:=hid (HRB.out.below hb6);replace HRA:=hid (HRA.out.below hb6);clear hb6;go_at_call 10;refine(Recover_c hr6 hc6 (by omega)).mono ?_;rintro e w7 ⟨v7,k7,L7,rfl,hown7,⟨hL7,hk7⟩,hb7⟩;obtain⟨A7,c7,rfl,hc7⟩:=own_form hown7;have hr7:=Rd.of_own encStr_len hown7 rfl;have HR7:=hid hr7;have HL7:=hid hL7;have HK7:=hid hk7;clear hown7 hr7 hr6 hc6 hL7 hk7 hc7;replace HB:=hdT HB hb7;replace HR:=hid (HR.out.below hb7);replace HRB:=hid (HRB.out.below hb7);replace HRA:=hid (HRA.out.below hb7);clear hb7
            go_wp2_with fail
            go_at_call 11;refine((rightR_c HR.out hn)).mono ?_;rintro e w8 ⟨rfl,hb9⟩;rw[HDR.out];replace HB:=hdT HB hb9;replace HR:=hid (HR.out.below hb9);replace HRB:=hid (HRB.out.below hb9);replace HRA:=hid (HRA.out.below hb9);replace HR7:=hid (HR7.out.below hb9);clear hb9 ;obtain⟨BK,hBK⟩:∃ BK,BK=bookW (linesB LL) 5:=⟨_,rfl⟩;rw[← hBK] at HRA ⊢;have HBK:=hid hBK;clear hBK;have nq:=fun W=>str_neq BK BK W;have ng:=str_guard BK BK;rw[decide_eq_true rfl] at nq
            go_upto_region 13 with fail
            refine wp_region_till [] (fun _=>True) (by kernel_rfl) (by trivial) (fun hHeld=>?_);have hb9:=(Below.refl w8.heap.size w8).drew;replace HB:=hdT HB hb9;replace HR:=hid (HR.out.below hb9);replace HRB:=hid (HRB.out.below hb9);replace HRA:=hid (HRA.out.below hb9);replace HR7:=hid (HR7.out.below hb9);clear hb9;revert hHeld HB HR HRB HRA HR7;generalize w8.drew=u0;intro hHeld HB HR HRB HRA HR7;have hbq:=Below.refl u0.heap.size u0;refine tk 0 0 ?_;refine tk 0 1 ?_;refine tk 0 2 ?_;refine tk 0 3 ?_;refine tk 0 5 ?_
            focus
             refine ar [4,6] (ac (fun K hK=>?_) (ac (fun K hK=>?_) an));have hcv:=conv_rd (c:=cA) (HRA.out.below hbq);go_simp;(try clear hHeld);refine hK.out _ _ (by(try dsimp only);all_goals trivial) (fun hHeld=>?_);clear hK K;refine pt ?_;clear hcv;refine ar [6] (ac (fun K hK=>?_) an);go_simp;go_at_call 12;refine(bookR_c (HR.out.below hbq) HRT.out.1 (by rw[← HLEN.out];exact HRT.out.2)).mono ?_;rintro e u1 ⟨rfl,hb4⟩;rw[← HBK.out];have hbq:=below_tr hbq hb4;clear hb4;(try go_wp2_with fail);(try clear hHeld);refine hK.out _ _ (by(try dsimp only);all_goals trivial) (fun hHeld=>?_);clear hK K;refine pt ?_;refine tk 0 7 ?_;refine tk 0 8 ?_;rotate_left;go_simp;go_at_call 12;refine(bookR_c (HR.out.below hbq) HRT.out.1 (by rw[← HLEN.out];exact HRT.out.2)).mono ?_;rintro e u1 ⟨rfl,hb4⟩;rw[← HBK.out];have hbq:=below_tr hbq hb4;clear hb4;(try go_wp2_with fail);(try clear hHeld);refine hK.out _ _ (by(try dsimp only);all_goals trivial) (fun hHeld=>?_);clear hK K;refine pt ?_;refine ar [4] (ac (fun K hK=>?_) an);have hcv:=conv_rd (c:=cA) (HRA.out.below hbq);go_simp;(try clear hHeld);refine hK.out _ _ (by(try dsimp only);all_goals trivial) (fun hHeld=>?_);clear hK K;refine pt ?_;clear hcv;refine tk 0 7 ?_;refine tk 0 8 ?_;rotate_left
             all_goals
              refine td ?_;(try clear hHeld);replace HB:=hdT HB hbq;replace HR:=hid (HR.out.below hbq);replace HRB:=hid (HRB.out.below hbq);replace HRA:=hid (HRA.out.below hbq);replace HR7:=hid (HR7.out.below hbq);clear hbq nq ng HRA HBK
              go_upto_region 15 with fail
              have hbs:(⟨bs.toArray⟩:ByteArray).size=m:=by rw[← HBL.out];simp[ByteArray.size]
              have HC:=hid (fun W=>recoverR_c ⟨bs.toArray⟩ W (by omega));clear hbs;have hcv:=conv_rd (c:=cb) HRB.out
              go_wp2_with fail
              clear hcv;go_at_call 13;refine(HC.out _).mono ?_;rintro e w9 ⟨v9,L9,rfl,hown9,hl9,hL9,hb9⟩;replace HB:=hdT HB hb9;replace HR:=hid (HR.out.below hb9);replace HRB:=hid (HRB.out.below hb9);replace HR7:=hid (HR7.out.below hb9);clear hb9;have hL9:L9=L7:=linesB_inj (by rw[hL9,HL7.out]);subst hL9;obtain⟨A9,c9,rfl,hc9⟩:=own_form hown9;have hr9:=Rd.of_own encStr_len hown9 rfl;have HT:=hid (texts_c (c:=c7) (c':=c9) HR7.out hr9 (by omega));rw[decide_eq_true rfl] at HT;have hk7:=HK7.out;have hke:(readW 60 bs 5).2=k7:=hk7.symm;rw[hke]
              have e0b:((k7:Int) == (k7:Int))=true:=by simp
              clear hk7 hke hown9 hr9 hL9 hc9 HC
              go_wp2_with fail
              go_at_call 14;refine HT.out.mono ?_;rintro e w10 ⟨rfl,hb4⟩;clear HT HR7;replace HB:=hdT HB hb4;replace HR:=hid (HR.out.below hb4);replace HRB:=hid (HRB.out.below hb4);clear hb4
              go_wp2_with fail
              go_at_call 7;refine((wakes_ok _ (HL.out.below HB.out))).mono ?_;rintro e w11 ⟨rfl,hb9⟩;replace HB:=hdT HB hb9;replace HR:=hid (HR.out.below hb9);replace HRB:=hid (HRB.out.below hb9);clear hb9 
              go_wp2_with fail
              (try rw[Exit.noGoto_ret])
              go_ret
              exact⟨rfl,HB.out⟩
          · have HCK:=hid (wrong_check hr);have HDR:=hid (decide_eq_false hr)
            clear hr
            go_wp2_with fail
            go_wp2_with fail
            go_at_call 9;refine((list_c HR.out (by omega))).mono ?_;rintro e v2 ⟨A2,c2,rfl,hown2,hr2,hc2,hb9⟩;replace HB:=hdT HB hb9;replace HR:=hid (HR.out.below hb9);replace HRB:=hid (HRB.out.below hb9);have HR2:=hid hr2;clear hb9 hr2;clear hown2 hc2;clear g2 q1 q3
            go_wp2_with fail
            go_at_call 8;refine((write_wrong HR2.out HCK.out)).mono ?_;rintro e v3 ⟨rfl,hb9⟩;replace HB:=hdT HB hb9;replace HR:=hid (HR.out.below hb9);replace HRB:=hid (HRB.out.below hb9);replace HR2:=hid (HR2.out.below hb9);clear hb9 ;clear HR2;have hal:=(Below.refl v3.heap.size v3).alloc (Nat.le_refl _) (.cells #[] 5);obtain⟨i1,hi1',hz10,hz11,hz12⟩:=info_parts infoByte;have HI:=hid hi1';have HZ0:=hid hz10;have HZ1:=hid hz11;have HZ2:=hid hz12;clear hi1' hz10 hz11 hz12
            go_wp2_with (at_builtin;go_must (refine wpList_append_rd rfl _ _ 23 rfl v3.heap.size 5 i1 _ 1 1 Tryz.underlying23 HI.out HZ0.out HZ1.out HZ2.out rfl (by decide) _ _ _ rfl (own_empty v3 5 1) encB_len oneByte AB m cb bs rfl (HRB.out.below hal) (by unfold maxLen;omega) (by omega) (by simp) ?_;intro v6 w6 hown6 hgr6))
            have hown6:w6.ownsRow v3.heap.size 5 1 v6 m (bs.flatMap encB):=by simpa using hown6
            obtain⟨A6,c6,rfl,hc6⟩:=own_form hown6;have hb6:=hal.trans (Fr.of_grown hgr6 (E:=fun q=>v3.heap.size≤q) (fun q e _=>by first | (simp[Value.ownBlock] at e;omega) | (cases e;exact Nat.le_refl _)) |>.below (by simp) fun q hq=>hq);have hr6:=Rd.of_own encB_len hown6 HBL.out;clear hown6 hgr6 hal;replace HB:=hdT HB hb6;replace HR:=hid (HR.out.below hb6);replace HRB:=hid (HRB.out.below hb6);clear hb6;go_at_call 10;refine(Recover_c hr6 hc6 (by omega)).mono ?_;rintro e w7 ⟨v7,k7,L7,rfl,hown7,⟨hL7,hk7⟩,hb7⟩;obtain⟨A7,c7,rfl,hc7⟩:=own_form hown7;have hr7:=Rd.of_own encStr_len hown7 rfl;have HR7:=hid hr7;have HL7:=hid hL7;have HK7:=hid hk7;clear hown7 hr7 hr6 hc6 hL7 hk7 hc7;replace HB:=hdT HB hb7;replace HR:=hid (HR.out.below hb7);replace HRB:=hid (HRB.out.below hb7);clear hb7
            go_wp2_with fail
            go_at_call 11;refine((rightR_c HR.out hn)).mono ?_;rintro e w8 ⟨rfl,hb9⟩;rw[HDR.out];replace HB:=hdT HB hb9;replace HR:=hid (HR.out.below hb9);replace HRB:=hid (HRB.out.below hb9);replace HR7:=hid (HR7.out.below hb9);clear hb9 
            go_upto_region 15 with fail
            have hbs:(⟨bs.toArray⟩:ByteArray).size=m:=by rw[← HBL.out];simp[ByteArray.size]
            have HC:=hid (fun W=>recoverR_c ⟨bs.toArray⟩ W (by omega));clear hbs;have hcv:=conv_rd (c:=cb) HRB.out
            go_wp2_with fail
            clear hcv;go_at_call 13;refine(HC.out _).mono ?_;rintro e w9 ⟨v9,L9,rfl,hown9,hl9,hL9,hb9⟩;replace HB:=hdT HB hb9;replace HR:=hid (HR.out.below hb9);replace HRB:=hid (HRB.out.below hb9);replace HR7:=hid (HR7.out.below hb9);clear hb9;have hL9:L9=L7:=linesB_inj (by rw[hL9,HL7.out]);subst hL9;obtain⟨A9,c9,rfl,hc9⟩:=own_form hown9;have hr9:=Rd.of_own encStr_len hown9 rfl;have HT:=hid (texts_c (c:=c7) (c':=c9) HR7.out hr9 (by omega));rw[decide_eq_true rfl] at HT;have hk7:=HK7.out;have hke:(readW 60 bs 5).2=k7:=hk7.symm;rw[hke]
            have e0b:((k7:Int) == (k7:Int))=true:=by simp
            clear hk7 hke hown9 hr9 hL9 hc9 HC
            go_wp2_with fail
            go_at_call 14;refine HT.out.mono ?_;rintro e w10 ⟨rfl,hb4⟩;clear HT HR7;replace HB:=hdT HB hb4;replace HR:=hid (HR.out.below hb4);replace HRB:=hid (HRB.out.below hb4);clear hb4
            go_wp2_with fail
            go_wp2_with fail
            go_at_call 7;refine((wakes_ok _ (HL.out.below HB.out))).mono ?_;rintro e w11 ⟨rfl,hb9⟩;replace HB:=hdT HB hb9;replace HR:=hid (HR.out.below hb9);replace HRB:=hid (HRB.out.below hb9);clear hb9 
            go_wp2_with fail
            (try rw[Exit.noGoto_ret])
            go_ret
            exact⟨rfl,HB.out⟩
        · have q3:(m:Int) > 4000:=by omega
          go_wp2_with fail
          go_wp2_with fail
          go_at_call 7;refine((wakes_ok _ (HL.out.below HB.out))).mono ?_;rintro e v2 ⟨rfl,hb9⟩;replace HB:=hdT HB hb9;replace HR:=hid (HR.out.below hb9);replace HRB:=hid (HRB.out.below hb9);clear hb9 
          go_wp2_with fail
          (try rw[Exit.noGoto_ret])
          go_ret
          exact⟨rfl,HB.out⟩
    · have q1:(i:Int) > 62:=by omega
      go_wp2_with fail
      go_wp2_with fail
      go_at_call 7;refine((wakes_ok _ (HL.out.below HB.out))).mono ?_;rintro e v2 ⟨rfl,hb9⟩;replace HB:=hdT HB hb9;replace HR:=hid (HR.out.below hb9);replace HRB:=hid (HRB.out.below hb9);clear hb9 
      go_wp2_with fail
      (try rw[Exit.noGoto_ret])
      go_ret
      exact⟨rfl,HB.out⟩
end Go.Proofs.YtlaengnhfjlphaaGreatDoor
