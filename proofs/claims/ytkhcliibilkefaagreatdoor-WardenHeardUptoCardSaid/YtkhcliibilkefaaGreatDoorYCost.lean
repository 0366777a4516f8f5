/- CONTRACT of digits: the bytes of a text of hexadecimal digits. -/
import Derived.Test.YtkhcliibilkefaaGreatDoorRecord
import Derived.Test.YtkhcliibilkefaaGreatDoorYShelf
import Derived.Test.YtkhcliibilkefaaGreatDoorYWords
import Derived.Shelf.SlicesE.Clone
import Derived.Test.YtkhcliibilkefaaGreatDoorYSlope
set_option linter.unusedVariables false
set_option linter.unusedSimpArgs false
set_option maxRecDepth 100000
set_option maxHeartbeats 8000000
namespace Go.Proofs.YtkhcliibilkefaaGreatDoor
open Lib (hid)
open Go.RowKit Go.Proofs
attribute [local go_sem ↓] Go.wp_at_zero Go.wp_at_succ
theorem infoBy:(Tryz.prog.info? 5).map (fun i=>(i.zero,i.size,i.bytes))=some (some (.int .u8 0),1,1):=by kernel_rfl
theorem oneBt (x:UInt8):∀ u∈encB x,u.oneCell'=true:=by intro u hu;simp[encB] at hu;subst hu;rfl
theorem own_setB {w:World}{base:Nat}{e:TypeId}{size n c g:Nat}{xs:List Value}(h:w.ownsRow base e size (.slice (some ⟨g,0,none⟩) n c) n xs){j:Nat}(hj:j<n * size)(u:Value) :
 (w.setCell ⟨g,j,none⟩ u).ownsRow base e size (.slice (some ⟨g,0,none⟩) n c) n (xs.set j u):=by
 refine⟨by rw[List.length_set];exact h.1,?_⟩
 rcases h.2 with ⟨h0,_⟩ | ⟨g',cap,cur,hv,hb,hg,h1,h2,h3,h4⟩
 · cases h0
 · cases hv
   refine .inr ⟨g,c,cur.setIfInBounds j u,rfl,hb,Blk.set_ (show Blk w g e cur from hg) j u,h1,h2,by simpa using h3,?_⟩;rw[Array.toList_setIfInBounds,List.take_set,h4]
theorem flat_encB (l:List UInt8):l.flatMap encB=l.map fun x=>Value.int .u8 (x.toNat:Int):=by
 induction l with
 | nil=>rfl
 | cons a l ih=>simp only[List.flatMap_cons,ih,List.map_cons];rfl
def bytesW (o:List Nat):List UInt8:=o.map UInt8.ofNat
theorem digits_c (s:ByteArray)(hs:s.size≤1000)(w:World) :
 Calls Tryz.prog 112 #[.string s] w fun e w'=>∃ A n c,e=.returned (.tuple #[.slice A n c,.bool (wireP s.data.toList).isSome])∧(∀ o,wireP s.data.toList=some o→n≤c∧Rd encB 1 w' A n (bytesW o))∧Below w.heap.size w w':=by
 obtain⟨i0,hi0,hz0,hz1,hz2⟩:=info_parts infoBy;have HI:=hid hi0;have HZ0:=hid hz0;have HZ1:=hid hz1;have HZ2:=hid hz2;clear hi0 hz0 hz1 hz2;have hlen:s.data.toList.length=s.size:=rfl;obtain⟨T,hT⟩:∃ T,T=s.data.toList:=⟨_,rfl⟩;rw[← hT] at hlen ⊢;have HT:=hid hT;have HLEN:=hid hlen;clear hT hlen
 go_enter Tryz.func112,Tryz.ntmps112
 go_wp2_with fail
 go_loopw [2,4] (fun out i wr=>∃(k:Nat) (o:List Nat),k≤s.size∧i=.int .i64 k∧loopH T k=some o∧wr.ownsRow w.heap.size 5 1 out o.length ((bytesW o).flatMap encB)∧Below w.heap.size w wr) (fun _ i _=>s.size - (intOf i).toNat)
 case atStart=>exact⟨0,[],Nat.zero_le _,rfl,rfl,World.ownsRow_nil _ _ _ _,Below.refl _ _⟩
 case round =>
  obtain⟨k,o,hk,rfl,hl,hown,hb⟩:=hrel
  by_cases hlt:k<s.size
  · have hi1:(k:Int)<(s.size:Int):=by omega
    have hget:T[k]?=some s[k]:=by rw[HT.out,Array.getElem?_toList];exact Array.getElem?_eq_getElem hlt
    have hc:=strings_IndexByte ⟨#[48,49,50,51,52,53,54,55,56,57,97,98,99,100,101,102]⟩ (s[k].toNat:Int) wr
    have e1:((s[k].toNat:Int)).toNat.toUInt8=s[k]:=by simp
    rw[e1,show(⟨#[48,49,50,51,52,53,54,55,56,57,97,98,99,100,101,102]⟩:ByteArray).data.toList=digT from rfl,index_hex] at hc
    have hst:loopH T (k+1)=match hexP s[k] with | some d=>some (stepH o k d) | none=>none:=by
     rw[loopH,hl,hget];simp only[Option.bind_some];cases hexP s[k]<;>rfl
    have HO:=hid hown;have HB:=hid hb;have HLO:=hid (loopH_len hl);have HBY:=hid (loopH_byte hl);obtain⟨hx,hhx⟩:∃ z,z=hexP s[k]:=⟨_,rfl⟩;rw[← hhx] at hc hst;have HST:=hid hst
    cases hx with
    | none =>
     have HC:=hid hc;clear hc e1 hown hb hl hget hst hhx
     go_wp2_with fail
     go_at_call 150;refine HC.out.mono ?_;rintro e w1 ⟨rfl,rfl⟩
     go_wp2_with fail
     (try rw[Exit.noGoto_ret])
     go_ret2
     have hwn:=wire_not (t:=T) (k:=k+1) (by rw[HLEN.out];omega) HST.out;exact⟨none,0,0,by rw[hwn];rfl,fun o ho=>(by rw[hwn] at ho;cases ho),HB.out⟩
    | some d =>
     have hd:=hex_lt hhx.symm
     have hd0:¬(d:Int)<0:=by omega
     have HC:=hid hc;clear hc e1 hown hb hl hget hst hhx
     rcases Nat.mod_two_eq_zero_or_one k with hm | hm
     · have HM:=hid hm
       have hm1:(k:Int).tmod 2=0:=by rw[Int.tmod_eq_emod_of_nonneg (by omega)];omega
       go_wp2_with fail
       go_at_call 150;refine HC.out.mono ?_;rintro e w1 ⟨rfl,rfl⟩
       have hb16:[UInt8.ofNat (16 * d)].flatMap encB=[Value.int .u8 (16 * (d:Int))]:=by
        have:(UInt8.ofNat (16 * d)).toNat=16 * d:=by rw[UInt8.toNat_ofNat'];omega
        rw[List.flatMap_cons,List.flatMap_nil,List.append_nil];show [Value.int .u8 (((UInt8.ofNat (16 * d)).toNat:Nat):Int)]=_;rw[this];simp
       have HB16:=hid hb16;have hol:=HLO.out;clear hb16
       go_wp2_with (at_builtin;go_must (refine wpList_append_rd rfl _ _ 54 rfl w.heap.size 5 i0 (.int .u8 0) 1 1 Tryz.underlying54 HI.out HZ0.out HZ1.out HZ2.out rfl (by decide) _ o.length ((bytesW o).flatMap encB) rfl (own_mono HO.out ((Below.refl _ w1).alloc (Nat.le_refl _) _)) encB_len oneBt _ 1 1 [UInt8.ofNat (16 * d)] rfl (Rd.of_blkE encB_len (Blk.new w1 5 #[.int .u8 (16 * (d:Int))]) HB16.out rfl) (by unfold maxLen;omega) (by omega) (by have:=HB.out.size;simp;omega) ?_;intro v2 w2 hown hgrow))
       have HB2:=hid ((HB.out.alloc HB.out.size (.cells #[.int .u8 (16 * (d:Int))] 5)).grown hgrow (by have:=HB.out.size;simp;omega) (fun g hg=>((own_mono HO.out ((Below.refl _ w1).alloc (Nat.le_refl _) (.cells #[.int .u8 (16 * (d:Int))] 5))).lt g hg).1))
       have HO2:Hid (w2.ownsRow w.heap.size 5 1 v2 (stepH o k d).length ((bytesW (stepH o k d)).flatMap encB)):=by
        show World.ownsRow _ _ _ _ _ _ _;unfold stepH;rw[if_pos HM.out,List.length_append,show bytesW (o++[16 * d])=bytesW o++[UInt8.ofNat (16 * d)] by simp[bytesW],List.flatMap_append];exact hown
       clear hown hgrow hol
       go_wp2_with fail
       go_roundw
       case rel=>exact⟨k+1,stepH o k d,by omega,by go_num,HST.out,HO2.out,HB2.out⟩
       case measure=>simp[intOf]<;>omega
     · have HM:=hid hm
       have hm1:(k:Int).tmod 2=1:=by rw[Int.tmod_eq_emod_of_nonneg (by omega)];omega
       go_wp2_with fail
       go_at_call 150;refine HC.out.mono ?_;rintro e w1 ⟨rfl,rfl⟩;obtain⟨o0,a,hoe,ha,ho0⟩:=HBY.out.2 hm;have hol:=HLO.out
       have hbl:(bytesW o).length=o.length:=by simp[bytesW]
       obtain⟨A1,c1,rfl,hc1⟩:=own_form HO.out;obtain⟨g,c,e9,hg,hcc,hrw⟩:=RowW.of_own encB_len (by decide) HO.out hbl (by omega);cases e9
       have hq:(k:Int).tdiv 2=((k / 2:Nat):Int):=by rw[Int.tdiv_eq_ediv_of_nonneg (by omega)];omega
       have hi2:((k / 2:Nat):Int)<(o.length:Int):=by omega
       have hi0:(0:Int)≤((k / 2:Nat):Int):=by omega
       have hat:(bytesW o)[k / 2]?=some (UInt8.ofNat (16 * a)):=by
        rw[hoe];simp only[bytesW,List.getElem?_map];rw[List.getElem?_append_right (by omega),show k / 2 - o0.length=0 by omega];rfl
       have z0:=hrw.cell (j:=0) hat rfl
       have hv:(UInt8.ofNat (16 * a)).toNat=16 * a:=by rw[UInt8.toNat_ofNat'];omega
       simp only[Nat.add_zero,Nat.mul_one,hv] at z0;have fz:=hrw.frozen (k / 2);have HOE:=hid hoe;have HO0:=hid ho0;have HGE:=hid hg;have HHA:=hid ha;have HCC:=hid hcc;generalize hkk:k / 2=m at hq hi2 hi0 z0 fz ho0;have HKK:=hid hkk;clear hoe ho0 hbl hg hcc hrw hat hkk hc1
       go_wp2_with fail
       go_roundw
       case rel =>
        have hsl:stepH o k d=o.set m (16 * a+d):=by
         unfold stepH;rw[if_neg (by have:=HM.out;omega),HKK.out]
         congr 1
         rw[HOE.out,List.getD_eq_getElem?_getD,List.getElem?_append_right (by have:=HO0.out;have:=HKK.out;omega),show m - o0.length=0 by have:=HO0.out;have:=HKK.out;omega]
         rfl
        have hll:(stepH o k d).length=o.length:=by rw[hsl,List.length_set]
        have hbb:(UInt8.ofNat (16 * a+d)).toNat=16 * a+d:=by rw[UInt8.toNat_ofNat'];have:=HHA.out;omega
        refine⟨k+1,stepH o k d,by omega,by go_num,HST.out,?_,HB.out.setCell (p:=⟨g,m,none⟩) HGE.out _⟩;have h1:=own_setB (j:=m) HO.out (by omega) (.int .u8 (16 * (a:Int)+(d:Int)));rw[hll,hsl]
        have h2:(bytesW (o.set m (16 * a+d))).flatMap encB=((bytesW o).flatMap encB).set m (.int .u8 (16 * (a:Int)+(d:Int))):=by
         rw[flat_encB,flat_encB,bytesW,List.map_set,List.map_set,hbb];simp[bytesW]
        rw[h2]
        first | exact h1 | (rw[← hol];exact h1)
       case measure=>simp[intOf]<;>omega
  · obtain rfl:k=s.size:=by omega
    have HO:=hid hown;have HB:=hid hb;have hw:=wire_is (t:=T) (o:=o) (by rw[HLEN.out];exact hl);rw[HLEN.out] at hw;have HW:=hid hw
    rcases Nat.mod_two_eq_zero_or_one s.size with hm | hm
    · have hm1:(s.size:Int).tmod 2=0:=by rw[Int.tmod_eq_emod_of_nonneg (by omega)];omega
      rw[if_pos hm] at HW;obtain⟨A1,c1,rfl,hnr⟩:=NewR.of_own encB_len HO.out (by simp[bytesW]);have HNR:=hid hnr;clear hown hb hl hw hm hnr
      go_wp2_with fail
      (try rw[Exit.noGoto_ret])
      go_ret2
      exact⟨A1,o.length,c1,by rw[HW.out];rfl,fun o2 h2=>(by rw[HW.out] at h2;obtain rfl:=Option.some.inj h2;exact⟨HNR.out.cap,HNR.out.rd⟩),HB.out⟩
    · have hm1:(s.size:Int).tmod 2=1:=by rw[Int.tmod_eq_emod_of_nonneg (by omega)];omega
      rw[if_neg (by omega)] at HW;obtain⟨A1,c1,rfl,hnr⟩:=NewR.of_own encB_len HO.out (by simp[bytesW]);clear hown hb hl hw hm hnr
      go_wp2_with fail
      (try rw[Exit.noGoto_ret])
      go_ret2
      exact⟨A1,o.length,c1,by rw[HW.out];rfl,fun o2 h2=>(by rw[HW.out] at h2;cases h2),HB.out⟩
theorem sl_low_c (lo hi:Int)(w:World):Calls Tryz.prog 233 #[.agg #[.int .i64 lo,.int .i64 hi]] w fun e w'=>e=.returned (.int .i64 lo)∧Below w.heap.size w w':=by
 go_enter Tryz.func233,Tryz.ntmps233
 go_wp2
 go_ret
 exact⟨rfl,(Below.refl _ _).alloc (Nat.le_refl _) _⟩
theorem sl_high_c (lo hi:Int)(w:World):Calls Tryz.prog 234 #[.agg #[.int .i64 lo,.int .i64 hi]] w fun e w'=>e=.returned (.int .i64 hi)∧Below w.heap.size w w':=by
 go_enter Tryz.func234,Tryz.ntmps234
 go_wp2
 go_ret
 exact⟨rfl,(Below.refl _ _).alloc (Nat.le_refl _) _⟩
theorem real_c (b:BedS)(w:World):Calls Tryz.prog 232 #[.agg #[.int .i64 b.drive,.int .i64 b.normal,.int .i64 b.f0,.int .i64 b.f1,.int .i64 b.c0,.int .i64 b.c1,.int .i64 b.w0,.int .i64 b.w1],.func (.func 233) #[] #[],.func (.func 234) #[] #[]] w fun e w'=>e=.returned (.agg #[.int .i64 b.f0,.int .i64 b.c0,.int .i64 b.w1])∧Below w.heap.size w w':=by
 have hal:=((Below.refl w.heap.size w).alloc (Nat.le_refl _) (.cells #[.int .i64 b.drive,.int .i64 b.normal,.int .i64 b.f0,.int .i64 b.f1,.int .i64 b.c0,.int .i64 b.c1,.int .i64 b.w0,.int .i64 b.w1] 157)).alloc (by simp) (.cells #[.int .i64 0,.int .i64 0,.int .i64 0] 257);have hx:=(Blk.new w 157 #[.int .i64 b.drive,.int .i64 b.normal,.int .i64 b.f0,.int .i64 b.f1,.int .i64 b.c0,.int .i64 b.c1,.int .i64 b.w0,.int .i64 b.w1]).alloc (.cells #[.int .i64 0,.int .i64 0,.int .i64 0] 257);have hr:=Blk.new (w.alloc (.cells #[.int .i64 b.drive,.int .i64 b.normal,.int .i64 b.f0,.int .i64 b.f1,.int .i64 b.c0,.int .i64 b.c1,.int .i64 b.w0,.int .i64 b.w1] 157)) 257 #[.int .i64 0,.int .i64 0,.int .i64 0];simp only[World.size_alloc] at hr;have HB:=hid hal;have HX:=hid hx;have HR:=hid hr;clear hal hx hr
 go_enter Tryz.func232,Tryz.ntmps232
 go_upto_region 1 with fail
 revert HB HX HR;generalize (World.alloc (World.alloc w (.cells #[.int .i64 b.drive,.int .i64 b.normal,.int .i64 b.f0,.int .i64 b.f1,.int .i64 b.c0,.int .i64 b.c1,.int .i64 b.w0,.int .i64 b.w1] 157)) (.cells #[.int .i64 0,.int .i64 0,.int .i64 0] 257))=w1;intro HB HX HR;refine wp_region_till [13] (fun U=>U.cell? ⟨w.heap.size,0,none⟩=some (.int .i64 b.drive)∧U.cell? ⟨w.heap.size,1,none⟩=some (.int .i64 b.normal)∧U.cell? ⟨w.heap.size,2,none⟩=some (.int .i64 b.f0)∧U.cell? ⟨w.heap.size,3,none⟩=some (.int .i64 b.f1)∧U.cell? ⟨w.heap.size,4,none⟩=some (.int .i64 b.c0)∧U.cell? ⟨w.heap.size,5,none⟩=some (.int .i64 b.c1)∧U.cell? ⟨w.heap.size,6,none⟩=some (.int .i64 b.w0)∧U.cell? ⟨w.heap.size,7,none⟩=some (.int .i64 b.w1)) (by kernel_rfl) (by exact⟨by simpa using (show Blk w1.drew w.heap.size _ _ from HX.out).cell 0,by simpa using (show Blk w1.drew w.heap.size _ _ from HX.out).cell 1,by simpa using (show Blk w1.drew w.heap.size _ _ from HX.out).cell 2,by simpa using (show Blk w1.drew w.heap.size _ _ from HX.out).cell 3,by simpa using (show Blk w1.drew w.heap.size _ _ from HX.out).cell 4,by simpa using (show Blk w1.drew w.heap.size _ _ from HX.out).cell 5,by simpa using (show Blk w1.drew w.heap.size _ _ from HX.out).cell 6,by simpa using (show Blk w1.drew w.heap.size _ _ from HX.out).cell 7⟩) (fun hHeld=>?_);have hb9:=(Below.refl w1.heap.size w1).drew;replace HB:=hdT HB hb9;replace HX:=hdB HX hb9;replace HR:=hdB HR hb9;clear hb9;revert hHeld HB HX HR;generalize w1.drew=w0
 intro hHeld HB HX HR;refine tk 0 0 ?_;refine tk 0 1 ?_;refine tk 0 2 ?_;refine tk 0 4 ?_;refine tk 0 5 ?_;refine tk 0 6 ?_;refine tk 0 8 ?_;refine tk 0 9 ?_;refine tk 0 10 ?_;refine ar [3] (ac (fun K hK=>?_) an);go_simp;go_at_call 233;refine(sl_low_c _ _ _).mono ?_;rintro e w1 ⟨rfl,hb9⟩;replace HB:=hdT HB hb9;replace HX:=hdB HX hb9;replace HR:=hdB HR hb9;clear hb9 ;(try go_wp2_with fail);(try clear hHeld);refine hK.out _ _ (by(try dsimp only);exact⟨by simpa using HX.out.cell 0,by simpa using HX.out.cell 1,by simpa using HX.out.cell 2,by simpa using HX.out.cell 3,by simpa using HX.out.cell 4,by simpa using HX.out.cell 5,by simpa using HX.out.cell 6,by simpa using HX.out.cell 7⟩) (fun hHeld=>?_);clear hK K;refine pt ?_;refine ar [7] (ac (fun K hK=>?_) an);go_simp;go_at_call 233;refine(sl_low_c _ _ _).mono ?_;rintro e w1 ⟨rfl,hb9⟩;replace HB:=hdT HB hb9;replace HX:=hdB HX hb9;replace HR:=hdB HR hb9;clear hb9 ;(try go_wp2_with fail);(try clear hHeld);refine hK.out _ _ (by(try dsimp only);exact⟨by simpa using HX.out.cell 0,by simpa using HX.out.cell 1,by simpa using HX.out.cell 2,by simpa using HX.out.cell 3,by simpa using HX.out.cell 4,by simpa using HX.out.cell 5,by simpa using HX.out.cell 6,by simpa using HX.out.cell 7⟩) (fun hHeld=>?_);clear hK K;refine pt ?_;refine ar [11] (ac (fun K hK=>?_) an);go_simp;go_at_call 234;refine(sl_high_c _ _ _).mono ?_;rintro e w1 ⟨rfl,hb9⟩;replace HB:=hdT HB hb9;replace HX:=hdB HX hb9;replace HR:=hdB HR hb9;clear hb9 ;(try go_wp2_with fail)
 (try clear hHeld);refine hK.out _ _ (by(try dsimp only);exact⟨by simpa using HX.out.cell 0,by simpa using HX.out.cell 1,by simpa using HX.out.cell 2,by simpa using HX.out.cell 3,by simpa using HX.out.cell 4,by simpa using HX.out.cell 5,by simpa using HX.out.cell 6,by simpa using HX.out.cell 7⟩) (fun hHeld=>?_);clear hK K;refine pt ?_;refine tk 0 12 ?_;refine ar [13] (al (fun K hK=>?_) an);have s0:=HR.out.cell 0;have s1:=HR.out.cell 1;have s2:=HR.out.cell 2;have f0:=HR.out.frozen 0;have f1:=HR.out.frozen 1;have f2:=HR.out.frozen 2;simp at s0 s1 s2;go_simp;(try clear hHeld);refine hK.out _ _ ?_;clear hK K;refine pt ?_;refine td ?_;have h0:=((HR.out.set_ 0 (.int .i64 b.f0)).set_ 1 (.int .i64 b.c0)).set_ 2 (.int .i64 b.w1);have hb0:=((HB.out.setCell (p:=⟨w.heap.size+1,0,none⟩) (by simp) (.int .i64 b.f0)).setCell (p:=⟨w.heap.size+1,1,none⟩) (by simp) (.int .i64 b.c0)).setCell (p:=⟨w.heap.size+1,2,none⟩) (by simp) (.int .i64 b.w1);have c0:=h0.cell 0;have c1:=h0.cell 1;have c2:=h0.cell 2;simp at c0 c1 c2
 go_wp2_with fail
 refine bodyPost_ret (v:=.agg #[.int .i64 b.f0,.int .i64 b.c0,.int .i64 b.w1]) ?_ rfl ⟨rfl,hb0⟩;simp[results,Tryz.f232,go_sem,c0,c1,c2]
theorem bedLeast_c (b:BedS)(w:World):Calls Tryz.prog 212 #[.agg #[.int .i64 b.drive,.int .i64 b.normal,.int .i64 b.f0,.int .i64 b.f1,.int .i64 b.c0,.int .i64 b.c1,.int .i64 b.w0,.int .i64 b.w1]] w fun e w'=>e=.returned (.agg #[.int .i64 b.f0,.int .i64 b.c0,.int .i64 b.w1])∧Below w.heap.size w w':=by
 have hal:=((Below.refl w.heap.size w).alloc (Nat.le_refl _) (.cells #[.int .i64 b.drive,.int .i64 b.normal,.int .i64 b.f0,.int .i64 b.f1,.int .i64 b.c0,.int .i64 b.c1,.int .i64 b.w0,.int .i64 b.w1] 157)).alloc (by simp) (.cells #[.int .i64 0,.int .i64 0,.int .i64 0] 257);have hr:=Blk.new (w.alloc (.cells #[.int .i64 b.drive,.int .i64 b.normal,.int .i64 b.f0,.int .i64 b.f1,.int .i64 b.c0,.int .i64 b.c1,.int .i64 b.w0,.int .i64 b.w1] 157)) 257 #[.int .i64 0,.int .i64 0,.int .i64 0];simp only[World.size_alloc] at hr
 go_enter Tryz.func212,Tryz.ntmps212
 go_wp2_with fail
 go_at_call 232;refine(real_c b _).mono ?_;rintro e w1 ⟨rfl,hb9⟩;have HB:=hid (below_tr hal hb9);have h0:=hr.below hb9 hr.lt;have s0:=h0.cell 0;have s1:=h0.cell 1;have s2:=h0.cell 2;have f0:=h0.frozen 0;have f1:=h0.frozen 1;have f2:=h0.frozen 2;simp at s0 s1 s2
 go_wp2_with fail
 have h1:=((h0.set_ 0 (.int .i64 b.f0)).set_ 1 (.int .i64 b.c0)).set_ 2 (.int .i64 b.w1);have hb0:=((HB.out.setCell (p:=⟨w.heap.size+1,0,none⟩) (by simp) (.int .i64 b.f0)).setCell (p:=⟨w.heap.size+1,1,none⟩) (by simp) (.int .i64 b.c0)).setCell (p:=⟨w.heap.size+1,2,none⟩) (by simp) (.int .i64 b.w1);have c0:=h1.cell 0;have c1:=h1.cell 1;have c2:=h1.cell 2;simp at c0 c1 c2;refine bodyPost_ret (v:=.agg #[.int .i64 b.f0,.int .i64 b.c0,.int .i64 b.w1]) ?_ rfl ⟨rfl,hb0⟩;simp[results,Tryz.f212,go_sem,c0,c1,c2]
theorem noReal_c (b:BedS)(w:World):Calls Tryz.prog 179 #[.agg #[.int .i64 b.drive,.int .i64 b.normal,.int .i64 b.f0,.int .i64 b.f1,.int .i64 b.c0,.int .i64 b.c1,.int .i64 b.w0,.int .i64 b.w1]] w fun e w'=>e=.returned (.agg #[.int .i64 0,.int .i64 0,.int .i64 0])∧Below w.heap.size w w':=by
 go_enter Tryz.func179,Tryz.ntmps179
 go_wp2_with fail
 refine bodyPost_ret (v:=.agg #[.int .i64 0,.int .i64 0,.int .i64 0]) ?_ rfl ⟨rfl,((Below.refl w.heap.size w).alloc (Nat.le_refl _) _).alloc (by simp) _⟩;simp[results,Tryz.f179,go_sem]
theorem holds_c (b:BedS)(f c x:Int)(w:World)(hn:0≤b.normal∧b.normal≤100000)(hx:0≤x∧x≤100000)(hf:0≤f∧f≤2000)(hc:0≤c∧c≤100000) :
 Calls Tryz.prog 245 #[.agg #[.int .i64 b.drive,.int .i64 b.normal,.int .i64 b.f0,.int .i64 b.f1,.int .i64 b.c0,.int .i64 b.c1,.int .i64 b.w0,.int .i64 b.w1],.agg #[.int .i64 f,.int .i64 c,.int .i64 x]] w fun e w'=>e=.returned (.int .i64 (holdsS b f c x))∧Below w.heap.size w w':=by
 have hal:=((Below.refl w.heap.size w).alloc (Nat.le_refl _) (.cells #[.int .i64 b.drive,.int .i64 b.normal,.int .i64 b.f0,.int .i64 b.f1,.int .i64 b.c0,.int .i64 b.c1,.int .i64 b.w0,.int .i64 b.w1] 157)).alloc (by simp) (.cells #[.int .i64 f,.int .i64 c,.int .i64 x] 257)
 have hm:0≤max 0 (b.normal - x)∧max 0 (b.normal - x)≤100000:=by omega
 have hp:0≤max 0 (b.normal - x) * f∧max 0 (b.normal - x) * f≤200000000 :=
  ⟨Int.mul_nonneg hm.1 hf.1,Int.le_trans (Int.mul_le_mul hm.2 hf.2 hf.1 (by omega)) (by decide)⟩
 have hv:holdsS b f c x=max 0 (b.normal - x) * f / 1000+c:=rfl;have HV:=hid hv;clear hv;generalize hM:max 0 (b.normal - x) * f=M at hp HV;have hd:(M.tdiv 1000)=M / 1000:=Int.tdiv_eq_ediv_of_nonneg hp.1
 have hM2:0≤M / 1000∧M / 1000≤200000:=by omega
 go_enter Tryz.func245,Tryz.ntmps245
 go_wp2_with fail
 go_ret
 exact⟨ret_int HV.out.symm,hal⟩
def lkA (A:Option Addr)(n c:Nat)(least factor:Int)(T:FuncId):Array Value:=#[.slice A n c,.int .i64 least,.int .i64 factor,.func (.func T) #[] #[]]
def costOf (least:Bool)(factor:Int)(b:BedS):Int:=1000 * (if least then leastS b else 0) - factor * b.drive
theorem fd_bd {b:BedS}(h:bedOk b){factor:Int}(hf:0≤factor∧factor≤10001):-1000100000≤factor * b.drive∧factor * b.drive≤1000100000:=by
 obtain⟨h1,_⟩:=h
 constructor
 · rcases Int.le_total 0 b.drive with h | h
   · exact Int.le_trans (by decide) (Int.mul_nonneg hf.1 h)
   · have:factor * (-b.drive)≤1000100000:=Int.le_trans (Int.mul_le_mul hf.2 (show -b.drive≤100000 by omega) (by omega) (by omega)) (by decide)
     rw[Int.mul_neg] at this;omega
 · rcases Int.le_total 0 b.drive with h | h
   · exact Int.le_trans (Int.mul_le_mul hf.2 h1.2 h (by omega)) (by decide)
   · exact Int.le_trans (Int.mul_nonpos_of_nonneg_of_nonpos hf.1 h) (by decide)
theorem least_bd {b:BedS}(h:bedOk b):0≤leastS b∧leastS b≤300000:=by
 obtain⟨h1,h2,h3,h4,h5⟩:=h;exact⟨holds_nn h3.1 h4.1,holds_bd h2.2 (by omega) ⟨h3.1,by omega⟩ (by omega)⟩
theorem cosT_true {b:BedS}(h:bedOk b){factor:Int}(hf:0≤factor∧factor≤10001):IntKind.i64.wrap (IntKind.i64.wrap (1000 * holdsS b b.f0 b.c0 b.w1) - IntKind.i64.wrap (factor * b.drive))=costOf true factor b:=by
 have h1:=fd_bd h hf;have h2:=least_bd h;have e:costOf true factor b=1000 * leastS b - factor * b.drive:=rfl;rw[e,show holdsS b b.f0 b.c0 b.w1=leastS b from rfl,wi (e:=1000 * leastS b) (by omega),wi (e:=factor * b.drive) (by omega),wi (by omega)]
theorem cosT_false {b:BedS}(h:bedOk b){factor:Int}(hf:0≤factor∧factor≤10001):IntKind.i64.wrap (IntKind.i64.wrap (1000 * holdsS b 0 0 0) - IntKind.i64.wrap (factor * b.drive))=costOf false factor b:=by
 have h1:=fd_bd h hf;have e:costOf false factor b=1000 * 0 - factor * b.drive:=rfl
 have e0:holdsS b 0 0 0=0:=by simp[holdsS]
 rw[e,e0,wi (e:=1000 * 0) (by omega),wi (e:=factor * b.drive) (by omega),wi (by omega)]
theorem cost_bd {b:BedS}(h:bedOk b){t:Bool}{factor:Int}(hf:0≤factor∧factor≤10001):-1500000000≤costOf t factor b∧costOf t factor b≤1500000000:=by
 obtain⟨h1,h2,h3,h4,h5⟩:=h;have ha:0≤leastS b∧leastS b≤300000:=⟨holds_nn h3.1 h4.1,holds_bd h2.2 (by omega) ⟨h3.1,by omega⟩ (by omega)⟩
 have hp:factor * b.drive≤1000100000:=by
  rcases Int.le_total 0 b.drive with h | h
  · exact Int.le_trans (Int.mul_le_mul hf.2 h1.2 h (by omega)) (by decide)
  · exact Int.le_trans (Int.mul_nonpos_of_nonneg_of_nonpos hf.1 h) (by decide)
 have hq:-1000100000≤factor * b.drive:=by
  rcases Int.le_total 0 b.drive with h | h
  · exact Int.le_trans (by decide) (Int.mul_nonneg hf.1 h)
  · have:factor * (-b.drive)≤1000100000:=Int.le_trans (Int.mul_le_mul hf.2 (show -b.drive≤100000 by omega) (by omega) (by omega)) (by decide)
    rw[Int.mul_neg] at this;omega
 unfold costOf
 split<;>omega
theorem cost_true {CL:List ColR}{A:Option Addr}{n c k:Nat}{least factor:Int}{w:World}(h:Rd encC 1 w A n CL)(hb:∀(i:Nat) (r:ColR),CL[i]?=some r→Rd encBed 8 w r.A 1 [r.bed])(hok:∀(i:Nat) (r:ColR),CL[i]?=some r→bedOk r.bed)(hf:0≤factor∧factor≤10001){r:ColR}(hk:CL[k]?=some r)(hc9:n≤12) :
 Calls Tryz.prog 235 #[.agg (lkA A n c least factor 212),.int .i64 k,.int .i64 0] w fun e w'=>e=.returned (.int .i64 (costOf true factor r.bed))∧Below w.heap.size w w':=by
 have hkn:k<n:=by have:=(List.getElem?_eq_some_iff.1 hk).1;have:=h.len;omega
 obtain⟨x,hx⟩:∃ x,x=r.bed:=⟨_,rfl⟩;have HOK:=hid (show bedOk x from hx ▸ hok k r hk);have hbd:=cost_bd (t:=true) HOK.out hf;rw[← hx];have hal:=(Below.refl w.heap.size w).alloc (Nat.le_refl _) (.cells (lkA A n c least factor 212) 253);have hl0:=Blk.new w 253 (lkA A n c least factor 212);obtain⟨g,o,r1,rfl,hgl,hr1,y0⟩:=(h.below hal).atC (i:=k) hkn
 obtain rfl:r1=r:=by rw[hk] at hr1;exact(Option.some.inj hr1).symm
 obtain⟨g2,o2,x1,hA2,hgl2,hx1,z0,z1,z2,z3,z4,z5,z6,z7⟩:=((hb k r1 hk).below hal).atBed (i:=0) (by omega)
 obtain rfl:x=x1:=by simp at hx1;rw[hx,hx1]
 rw[hA2] at y0;simp only[Nat.zero_mul,Nat.add_zero] at z0 z1 z2 z3 z4 z5 z6 z7;have HB:=hid hal;have HL:=hid hl0;have hfd:=hf;clear hal hl0 h hb hok hr1 hx1 hx hA2
 go_enter Tryz.func235,Tryz.ntmps235
 go_upto_region 1 with fail
 have hfold:∀ P:World→Prop,P (w.alloc (.cells (lkA (some ⟨g,o,none⟩) n c least factor 212) 253))→P (w.alloc (.cells #[.slice (some ⟨g,o,none⟩) n c,.int .i64 least,.int .i64 factor,.func (.func 212) #[] #[]] 253)):=fun P h=>h;refine hfold _ ?_;clear hfold;revert y0 z0 z1 z2 z3 z4 z5 z6 z7 hgl hgl2 HB HL;generalize (World.alloc w (.cells (lkA (some ⟨g,o,none⟩) n c least factor 212) 253))=w1;intro y0 z0 z1 z2 z3 z4 z5 z6 z7 hgl hgl2 HB HL;have l0:=HL.out.cell 0;have l1:=HL.out.cell 1;have l2:=HL.out.cell 2;have l3:=HL.out.cell 3;simp[lkA] at l0 l1 l2 l3
 go_upto_region 2 with fail
 have hal:=(Below.refl w1.heap.size w1).alloc (Nat.le_refl _) (.cells #[.int .i64 x.drive,.int .i64 x.normal,.int .i64 x.f0,.int .i64 x.f1,.int .i64 x.c0,.int .i64 x.c1,.int .i64 x.w0,.int .i64 x.w1] 157);have hn2:=Blk.new w1 157 #[.int .i64 x.drive,.int .i64 x.normal,.int .i64 x.f0,.int .i64 x.f1,.int .i64 x.c0,.int .i64 x.c1,.int .i64 x.w0,.int .i64 x.w1];replace HB:=hdT HB hal;replace HL:=hdB HL hal;have HX:=hid hn2;clear hal hn2 y0 z0 z1 z2 z3 z4 z5 z6 z7 hgl hgl2 l0 l1 l2 l3;revert HB HL HX;generalize w1.heap.size=gX;generalize (World.alloc w1 (.cells #[.int .i64 x.drive,.int .i64 x.normal,.int .i64 x.f0,.int .i64 x.f1,.int .i64 x.c0,.int .i64 x.c1,.int .i64 x.w0,.int .i64 x.w1] 157))=w1;intro HB HL HX
 refine wp_region_till [] (fun U=>U.cell? ⟨gX,0,none⟩=some (.int .i64 x.drive)∧U.cell? ⟨gX,1,none⟩=some (.int .i64 x.normal)∧U.cell? ⟨gX,2,none⟩=some (.int .i64 x.f0)∧U.cell? ⟨gX,3,none⟩=some (.int .i64 x.f1)∧U.cell? ⟨gX,4,none⟩=some (.int .i64 x.c0)∧U.cell? ⟨gX,5,none⟩=some (.int .i64 x.c1)∧U.cell? ⟨gX,6,none⟩=some (.int .i64 x.w0)∧U.cell? ⟨gX,7,none⟩=some (.int .i64 x.w1)∧U.cell? ⟨w.heap.size,2,none⟩=some (.int .i64 factor)∧U.cell? ⟨w.heap.size,3,none⟩=some (.func (.func 212) #[] #[])) (by kernel_rfl) (by exact⟨by simpa using (show Blk w1.drew gX _ _ from HX.out).cell 0,by simpa using (show Blk w1.drew gX _ _ from HX.out).cell 1,by simpa using (show Blk w1.drew gX _ _ from HX.out).cell 2,by simpa using (show Blk w1.drew gX _ _ from HX.out).cell 3,by simpa using (show Blk w1.drew gX _ _ from HX.out).cell 4,by simpa using (show Blk w1.drew gX _ _ from HX.out).cell 5,by simpa using (show Blk w1.drew gX _ _ from HX.out).cell 6,by simpa using (show Blk w1.drew gX _ _ from HX.out).cell 7,by simpa[lkA] using (show Blk w1.drew w.heap.size _ _ from HL.out).cell 2,by simpa[lkA] using (show Blk w1.drew w.heap.size _ _ from HL.out).cell 3⟩) (fun hHeld=>?_);have hb9:=(Below.refl w1.heap.size w1).drew;replace HB:=hdT HB hb9;replace HL:=hdB HL hb9;replace HX:=hdB HX hb9;clear hb9;revert hHeld HB HL HX;generalize w1.drew=w0;intro hHeld HB HL HX;refine tk 0 0 ?_;refine tk 0 1 ?_;refine tk 0 2 ?_;refine tk 0 3 ?_;refine tk 0 7 ?_;refine tk 0 8 ?_;refine tk 0 9 ?_;refine tk 0 10 ?_
 refine tk 0 11 ?_;refine ar [4] (ac (fun K hK=>?_) an);go_simp;go_at_call 212;refine(bedLeast_c _ _).mono ?_;rintro e w1 ⟨rfl,hb9⟩;replace HB:=hdT HB hb9;replace HL:=hdB HL hb9;replace HX:=hdB HX hb9;clear hb9 ;(try go_wp2_with fail);(try clear hHeld);refine hK.out _ _ (by(try dsimp only);exact⟨by simpa using HX.out.cell 0,by simpa using HX.out.cell 1,by simpa using HX.out.cell 2,by simpa using HX.out.cell 3,by simpa using HX.out.cell 4,by simpa using HX.out.cell 5,by simpa using HX.out.cell 6,by simpa using HX.out.cell 7,by simpa[lkA] using HL.out.cell 2,by simpa[lkA] using HL.out.cell 3⟩) (fun hHeld=>?_);clear hK K;refine pt ?_;refine ar [5] (ac (fun K hK=>?_) an);go_simp;go_at_call 245;refine(holds_c x (x.f0) (x.c0) (x.w1) _ HOK.out.2.1 ⟨by have:=HOK.out.2.2.2.2;omega,by have:=HOK.out.2.2.2.2;omega⟩ ⟨HOK.out.2.2.1.1,by have:=HOK.out.2.2.1;omega⟩ ⟨HOK.out.2.2.2.1.1,by have:=HOK.out.2.2.2.1;omega⟩).mono ?_;rintro e w1 ⟨rfl,hb9⟩;replace HB:=hdT HB hb9;replace HL:=hdB HL hb9;replace HX:=hdB HX hb9;clear hb9 ;(try go_wp2_with fail);(try clear hHeld);refine hK.out _ _ (by(try dsimp only);exact⟨by simpa using HX.out.cell 0,by simpa using HX.out.cell 1,by simpa using HX.out.cell 2,by simpa using HX.out.cell 3,by simpa using HX.out.cell 4,by simpa using HX.out.cell 5,by simpa using HX.out.cell 6,by simpa using HX.out.cell 7,by simpa[lkA] using HL.out.cell 2,by simpa[lkA] using HL.out.cell 3⟩) (fun hHeld=>?_);clear hK K;refine pt ?_;refine tk 0 6 ?_;refine tk 0 12 ?_
 refine tk 0 13 ?_;refine td ?_;clear hHeld
 go_wp2_with fail
 go_ret
 exact⟨ret_int (by first | exact cosT_true HOK.out hfd | exact cosT_false HOK.out hfd),HB.out⟩
theorem cost_false {CL:List ColR}{A:Option Addr}{n c k:Nat}{least factor:Int}{w:World}(h:Rd encC 1 w A n CL)(hb:∀(i:Nat) (r:ColR),CL[i]?=some r→Rd encBed 8 w r.A 1 [r.bed])(hok:∀(i:Nat) (r:ColR),CL[i]?=some r→bedOk r.bed)(hf:0≤factor∧factor≤10001){r:ColR}(hk:CL[k]?=some r)(hc9:n≤12) :
 Calls Tryz.prog 235 #[.agg (lkA A n c least factor 179),.int .i64 k,.int .i64 0] w fun e w'=>e=.returned (.int .i64 (costOf false factor r.bed))∧Below w.heap.size w w':=by
 have hkn:k<n:=by have:=(List.getElem?_eq_some_iff.1 hk).1;have:=h.len;omega
 obtain⟨x,hx⟩:∃ x,x=r.bed:=⟨_,rfl⟩;have HOK:=hid (show bedOk x from hx ▸ hok k r hk);have hbd:=cost_bd (t:=false) HOK.out hf;rw[← hx];have hal:=(Below.refl w.heap.size w).alloc (Nat.le_refl _) (.cells (lkA A n c least factor 179) 253);have hl0:=Blk.new w 253 (lkA A n c least factor 179);obtain⟨g,o,r1,rfl,hgl,hr1,y0⟩:=(h.below hal).atC (i:=k) hkn
 obtain rfl:r1=r:=by rw[hk] at hr1;exact(Option.some.inj hr1).symm
 obtain⟨g2,o2,x1,hA2,hgl2,hx1,z0,z1,z2,z3,z4,z5,z6,z7⟩:=((hb k r1 hk).below hal).atBed (i:=0) (by omega)
 obtain rfl:x=x1:=by simp at hx1;rw[hx,hx1]
 rw[hA2] at y0;simp only[Nat.zero_mul,Nat.add_zero] at z0 z1 z2 z3 z4 z5 z6 z7;have HB:=hid hal;have HL:=hid hl0;have hfd:=hf;clear hal hl0 h hb hok hr1 hx1 hx hA2
 go_enter Tryz.func235,Tryz.ntmps235
 go_upto_region 1 with fail
 have hfold:∀ P:World→Prop,P (w.alloc (.cells (lkA (some ⟨g,o,none⟩) n c least factor 179) 253))→P (w.alloc (.cells #[.slice (some ⟨g,o,none⟩) n c,.int .i64 least,.int .i64 factor,.func (.func 179) #[] #[]] 253)):=fun P h=>h;refine hfold _ ?_;clear hfold;revert y0 z0 z1 z2 z3 z4 z5 z6 z7 hgl hgl2 HB HL;generalize (World.alloc w (.cells (lkA (some ⟨g,o,none⟩) n c least factor 179) 253))=w1;intro y0 z0 z1 z2 z3 z4 z5 z6 z7 hgl hgl2 HB HL;have l0:=HL.out.cell 0;have l1:=HL.out.cell 1;have l2:=HL.out.cell 2;have l3:=HL.out.cell 3;simp[lkA] at l0 l1 l2 l3
 go_upto_region 2 with fail
 have hal:=(Below.refl w1.heap.size w1).alloc (Nat.le_refl _) (.cells #[.int .i64 x.drive,.int .i64 x.normal,.int .i64 x.f0,.int .i64 x.f1,.int .i64 x.c0,.int .i64 x.c1,.int .i64 x.w0,.int .i64 x.w1] 157);have hn2:=Blk.new w1 157 #[.int .i64 x.drive,.int .i64 x.normal,.int .i64 x.f0,.int .i64 x.f1,.int .i64 x.c0,.int .i64 x.c1,.int .i64 x.w0,.int .i64 x.w1];replace HB:=hdT HB hal;replace HL:=hdB HL hal;have HX:=hid hn2;clear hal hn2 y0 z0 z1 z2 z3 z4 z5 z6 z7 hgl hgl2 l0 l1 l2 l3;revert HB HL HX;generalize w1.heap.size=gX;generalize (World.alloc w1 (.cells #[.int .i64 x.drive,.int .i64 x.normal,.int .i64 x.f0,.int .i64 x.f1,.int .i64 x.c0,.int .i64 x.c1,.int .i64 x.w0,.int .i64 x.w1] 157))=w1;intro HB HL HX
 refine wp_region_till [] (fun U=>U.cell? ⟨gX,0,none⟩=some (.int .i64 x.drive)∧U.cell? ⟨gX,1,none⟩=some (.int .i64 x.normal)∧U.cell? ⟨gX,2,none⟩=some (.int .i64 x.f0)∧U.cell? ⟨gX,3,none⟩=some (.int .i64 x.f1)∧U.cell? ⟨gX,4,none⟩=some (.int .i64 x.c0)∧U.cell? ⟨gX,5,none⟩=some (.int .i64 x.c1)∧U.cell? ⟨gX,6,none⟩=some (.int .i64 x.w0)∧U.cell? ⟨gX,7,none⟩=some (.int .i64 x.w1)∧U.cell? ⟨w.heap.size,2,none⟩=some (.int .i64 factor)∧U.cell? ⟨w.heap.size,3,none⟩=some (.func (.func 179) #[] #[])) (by kernel_rfl) (by exact⟨by simpa using (show Blk w1.drew gX _ _ from HX.out).cell 0,by simpa using (show Blk w1.drew gX _ _ from HX.out).cell 1,by simpa using (show Blk w1.drew gX _ _ from HX.out).cell 2,by simpa using (show Blk w1.drew gX _ _ from HX.out).cell 3,by simpa using (show Blk w1.drew gX _ _ from HX.out).cell 4,by simpa using (show Blk w1.drew gX _ _ from HX.out).cell 5,by simpa using (show Blk w1.drew gX _ _ from HX.out).cell 6,by simpa using (show Blk w1.drew gX _ _ from HX.out).cell 7,by simpa[lkA] using (show Blk w1.drew w.heap.size _ _ from HL.out).cell 2,by simpa[lkA] using (show Blk w1.drew w.heap.size _ _ from HL.out).cell 3⟩) (fun hHeld=>?_);have hb9:=(Below.refl w1.heap.size w1).drew;replace HB:=hdT HB hb9;replace HL:=hdB HL hb9;replace HX:=hdB HX hb9;clear hb9;revert hHeld HB HL HX;generalize w1.drew=w0;intro hHeld HB HL HX;refine tk 0 0 ?_;refine tk 0 1 ?_;refine tk 0 2 ?_;refine tk 0 3 ?_;refine tk 0 7 ?_;refine tk 0 8 ?_;refine tk 0 9 ?_;refine tk 0 10 ?_
 refine tk 0 11 ?_;refine ar [4] (ac (fun K hK=>?_) an);go_simp;go_at_call 179;refine(noReal_c _ _).mono ?_;rintro e w1 ⟨rfl,hb9⟩;replace HB:=hdT HB hb9;replace HL:=hdB HL hb9;replace HX:=hdB HX hb9;clear hb9 ;(try go_wp2_with fail);(try clear hHeld);refine hK.out _ _ (by(try dsimp only);exact⟨by simpa using HX.out.cell 0,by simpa using HX.out.cell 1,by simpa using HX.out.cell 2,by simpa using HX.out.cell 3,by simpa using HX.out.cell 4,by simpa using HX.out.cell 5,by simpa using HX.out.cell 6,by simpa using HX.out.cell 7,by simpa[lkA] using HL.out.cell 2,by simpa[lkA] using HL.out.cell 3⟩) (fun hHeld=>?_);clear hK K;refine pt ?_;refine ar [5] (ac (fun K hK=>?_) an);go_simp;go_at_call 245;refine(holds_c x 0 0 0 _ HOK.out.2.1 ⟨by omega,by omega⟩ ⟨by omega,by omega⟩ ⟨by omega,by omega⟩).mono ?_;rintro e w1 ⟨rfl,hb9⟩;replace HB:=hdT HB hb9;replace HL:=hdB HL hb9;replace HX:=hdB HX hb9;clear hb9 ;(try go_wp2_with fail);(try clear hHeld);refine hK.out _ _ (by(try dsimp only);exact⟨by simpa using HX.out.cell 0,by simpa using HX.out.cell 1,by simpa using HX.out.cell 2,by simpa using HX.out.cell 3,by simpa using HX.out.cell 4,by simpa using HX.out.cell 5,by simpa using HX.out.cell 6,by simpa using HX.out.cell 7,by simpa[lkA] using HL.out.cell 2,by simpa[lkA] using HL.out.cell 3⟩) (fun hHeld=>?_);clear hK K;refine pt ?_;refine tk 0 6 ?_;refine tk 0 12 ?_;refine tk 0 13 ?_;refine td ?_;clear hHeld
 go_wp2_with fail
 go_ret
 exact⟨ret_int (by first | exact cosT_true HOK.out hfd | exact cosT_false HOK.out hfd),HB.out⟩
end Go.Proofs.YtkhcliibilkefaaGreatDoor
