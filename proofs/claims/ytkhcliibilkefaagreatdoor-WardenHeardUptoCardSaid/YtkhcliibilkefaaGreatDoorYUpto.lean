/- CONTRACTS of warden.written and Write: the book of lines. -/
import Derived.Test.YtkhcliibilkefaaGreatDoorZHear
import Derived.Test.YtkhcliibilkefaaGreatDoorYHeardLaw
import Derived.Test.YtkhcliibilkefaaGreatDoorRows
import Derived.HandedShaped
import Derived.Handed
import Derived.Lib.LaidU8
import Derived.Shelf.Vars
import Derived.Lay
import Derived.MakeChecks
import Derived.Deep.DeepHandedRow
set_option linter.unusedVariables false
set_option linter.unusedSimpArgs false
set_option maxRecDepth 100000
set_option maxHeartbeats 8000000
namespace Go.Proofs.YtkhcliibilkefaaGreatDoor
open Lib (hid)
open Go.RowKit Go.Proofs
attribute [local go_sem ↓] Go.wp_at_zero Go.wp_at_succ
theorem infoByte:(Tryz.prog.info? 5).map (fun i=>(i.zero,i.size,i.bytes))=some (some (.int .u8 0),1,1):=by kernel_rfl
def linesB (LL:List ByteArray):List (List UInt8):=LL.map (·.data.toList)
theorem linesB_at {LL:List ByteArray}{j:Nat}{p:ByteArray}(h:LL[j]?=some p):(linesB LL)[j]?=some p.data.toList:=by unfold linesB;rw[List.getElem?_map,h];rfl
theorem fold_take {l:List (List UInt8)}{j c:Nat}{s:List UInt8}(h:l[j]?=some s):(l.take (j+1)).foldl chkW c=chkW ((l.take j).foldl chkW c) s:=by
 rw[List.take_add_one,h,Option.toList_some,List.foldl_append];rfl
theorem book_bd:∀(l:List (List UInt8)) (c:Nat),(∀ s∈l,s.length≤1000)→(bookW l c).length≤1014 * l.length
 | [],_,_=>by simp[bookW]
 | s::l,c,h=>by
  have h1:=book_bd l (chkW c s) fun t ht=>h t (List.mem_cons.2 (.inr ht));have h2:=h s (List.mem_cons.2 (.inl rfl));rw[bookW,List.length_append,rec_len,List.length_cons];omega
theorem own_lower {w:World}{b b':Nat}{e:TypeId}{size n:Nat}{v:Value}{xs:List Value}(h:w.ownsRow b e size v n xs)(hb:b'≤b):w.ownsRow b' e size v n xs :=
 ⟨h.1,h.2.imp id fun⟨g,cap,cur,e1,h1,r⟩=>⟨g,cap,cur,e1,Nat.le_trans hb h1,r⟩⟩
theorem written_c {A:Option Addr}{n c:Nat}{LL:List ByteArray}{w:World}(h:Rd encStr 1 w A n LL)(hn:n≤1000)(hs:∀ p∈LL,p.size≤1000) :
 Calls Tryz.prog 34 #[.slice A n c] w fun e w'=>∃ v,e=.returned v∧w'.ownsRow w.heap.size 5 1 v (bookW (linesB LL) 5).length ((bookW (linesB LL) 5).map u8V)∧Below w.heap.size w w':=by
 have H:=hid h;have HLEN:=hid h.len;have HS:=hid hs;have HB:=hid (Below.refl w.heap.size w);obtain⟨i0,hi0,hz0,hz1,hz2⟩:=info_parts infoByte;have HI:=hid hi0;have HZ0:=hid hz0;have HZ1:=hid hz1;have HZ2:=hid hz2;clear hi0 hz0 hz1 hz2 h hs
 go_enter Tryz.func34,Tryz.ntmps34
 go_wp2_with fail
 go_loopw [2,3,10] (fun ov kv iv wr=>∃(j:Nat) (B:List UInt8) (k:Nat) (v:Value),v=ov∧j≤n∧iv=.int .i64 j∧B=bookW ((linesB LL).take j) 5∧k=((linesB LL).take j).foldl chkW 5∧kv=.int .i64 (k:Nat)∧wr.ownsRow w.heap.size 5 1 v B.length (B.map u8V)∧Below w.heap.size w wr) (fun _ _ iv _=>n - (intOf iv).toNat)
 case atStart=>exact⟨0,[],5,_,rfl,Nat.zero_le _,rfl,rfl,rfl,rfl,World.ownsRow_nil _ _ _ _,HB.out⟩
 case round =>
  obtain⟨j,B,k,ov,rfl,hj,rfl,hB,hk,rfl,hown,hb⟩:=hrel;have HBK:=hid hB;have HK:=hid hk;have HOWN:=hid hown;clear HB;have HB:=hid hb;clear hB hk hown hb
  by_cases hlt:j<n
  · obtain⟨b,o,p,rfl,hp,c0⟩:=str_at (H.out.below HB.out) hlt
    have HP:=hid hp
    have hi1:(j:Int)<(n:Int):=by omega
    have hi0:(0:Int)≤(j:Int):=by omega
    have hps:=HS.out p (List.mem_of_getElem? hp)
    have hkl:k<11881357:=by rw[HK.out];exact fold_lt _ (by decide)
    have hbl:B.length≤1014 * 1000:=by
     have:=book_bd ((linesB LL).take j) 5 fun s hs=>by
      obtain⟨q,hq,rfl⟩:=List.mem_map.1 (List.mem_of_mem_take hs);exact HS.out q hq
     rw[HBK.out]
     have h2:((linesB LL).take j).length≤1000:=by rw[List.length_take];omega
     omega
    have hrl:(recW p.data.toList k).length=14+p.size:=by rw[rec_len];rfl
    have HRL:=hid hrl;have HBL:=hid hbl;have HRC:=hid (fun W=>record_c p k W hps hkl);have HPS:=hid hps;clear hp hrl hbl hps hkl
    go_wp2_with fail
    refine(HRC.out _).mono ?_;rintro e w2 ⟨rfl,hb9⟩;replace HB:=hdT HB hb9;replace HOWN:=hid (own_mono HOWN.out hb9);clear hb9 ;clear c0
    go_wp2_with (at_builtin;go_must (refine Lib.wpList_append_own_string _ rfl _ _ 54 9 rfl w.heap.size 5 i0 Tryz.underlying54 Tryz.underlying9 HI.out HZ0.out HZ1.out HZ2.out ov B.length (B.map u8V) rfl HOWN.out ⟨(recW p.data.toList k).toArray⟩ rfl (by have h1:=HBL.out;have h2:=HRL.out;have h3:=HPS.out;show B.length+(recW p.data.toList k).length≤_;unfold maxLen;omega) (by have h1:=HBL.out;have h2:=HRL.out;have h3:=HPS.out;show B.length+(recW p.data.toList k).length≤_;omega) HB.out.size ?_;intro v' w3 hown hgr hnil))
    have hx:=linesB_at HP.out;have hb3:=HB.out.trans ((Fr.of_grown hgr (E:=fun g=>ov.ownBlock=some g) fun g e _=>e).below HB.out.size fun q e=>(HOWN.out.lt q e).1);refine⟨⟨j+1,B++recW p.data.toList k,_,v',rfl,by omega,by go_num,?_,rfl,?_,?_,hb3⟩,by simp[intOf];omega⟩
    · rw[book_succ hx,← HBK.out,← HK.out]
    · rw[fold_take hx,← HK.out]
    · rw[List.length_append,List.map_append]
      exact hown
  · obtain rfl:j=n:=by omega
    have hall:(linesB LL).take j=linesB LL:=by rw[List.take_of_length_le (by unfold linesB;rw[List.length_map,HLEN.out];exact Nat.le_refl _)]
    have hfin:=HBK.out;rw[hall] at hfin;have HF:=hid hfin;clear hfin hall
    go_wp2_with fail
    go_ret
    exact⟨ov,rfl,by rw[← HF.out];exact HOWN.out,HB.out⟩
theorem Write_c {A:Option Addr}{n c:Nat}{LL:List ByteArray}{w:World}(h:Rd encStr 1 w A n LL) :
 Calls Tryz.prog 16 #[.slice A n c] w fun e w'=>∃ v,e=.returned (.tuple #[v,.int .i64 (checkL LL)]) ∧
  (checkL LL=0→w'.ownsRow w.heap.size 5 1 v (bookW (linesB LL) 5).length ((bookW (linesB LL) 5).map u8V))∧(checkL LL≠0→v=.slice none 0 0)∧Below w.heap.size w w':=by
 have H:=hid h;have HB:=hid (Below.refl w.heap.size w);have HLEN:=hid h.len;have hck:=fun W (hW:Below w.heap.size w W)=>chkL_c (c:=c) (h.below hW);have HCK:=hid hck;clear h hck;obtain⟨E,hE⟩:∃ E,E=checkL LL:=⟨_,rfl⟩;rw[← hE] at HCK ⊢
 go_enter Tryz.func16,Tryz.ntmps16
 go_wp2_with fail
 go_at_call 24;refine(HCK.out _ HB.out).mono ?_;rintro e w1 ⟨rfl,hb9⟩;replace HB:=hdT HB hb9;clear hb9 
 by_cases h0:E=0
 · subst h0
   have hn:n≤60∧∀ p∈LL,p.size≤300:=by
    unfold checkL at hE
    split at hE
    · cases hE
    · split at hE
      · rename_i h1 h2;exact⟨by have:=HLEN.out;omega,h2⟩
      · cases hE
   have hwr:=fun W (hW:Below w.heap.size w W)=>written_c (c:=c) (H.out.below hW) (by omega) (fun p hp=>by have:=hn.2 p hp;omega);have HWR:=hid hwr;clear hwr hn hE
   go_wp2_with fail
   go_at_call 34;refine(HWR.out _ HB.out).mono ?_;rintro e w2 ⟨v,rfl,hown,hb9⟩;have hown:=own_lower hown HB.out.size;replace HB:=hdT HB hb9;have HOWN:=hid hown;clear hb9 hown
   go_wp2_with fail
   go_ret2
   exact⟨v,rfl,HOWN.out,HB.out⟩
 · have hne:(E == 0)=false:=by simpa using h0
   clear hE
   go_wp2_with fail
   (try rw[Exit.noGoto_ret])
   go_ret2
   exact⟨_,rfl,fun h=>absurd h h0,fun _=>rfl,HB.out⟩
def rightP (LL:List ByteArray):Prop:=(∀ p∈LL,p.size≤300)∧LL.length≤60
instance (LL:List ByteArray):Decidable (rightP LL):=by unfold rightP;infer_instance
theorem right_check {LL:List ByteArray}(h:rightP LL):checkL LL=0:=by
 unfold checkL;rw[if_neg (by have:=h.2;omega),if_pos h.1]
theorem rightR_c {A:Option Addr}{n c:Nat}{LL:List ByteArray}{w:World}(h:Rd encStr 1 w A n LL)(hn:n≤9223372036854775807) :
 Calls Tryz.prog 20 #[.slice A n c] w fun e w'=>e=.returned (.bool (decide (rightP LL)))∧Below w.heap.size w w':=by
 have H:=hid h;have HLEN:=hid h.len;clear h
 go_enter Tryz.func20,Tryz.ntmps20
 go_wp2_with fail
 go_loopw [3] (fun i wr=>∃ k:Nat,k≤n∧i=.int .i64 k∧(∀ p∈LL.take k,p.size≤300)∧wr=w) (fun i _=>n - (intOf i).toNat)
 case atStart=>exact⟨0,Nat.zero_le _,rfl,by simp,rfl⟩
 case round =>
  obtain⟨k,hk,rfl,hall,rfl⟩:=hrel;have HALL:=hid hall;clear hall
  by_cases hlt:k<n
  · obtain⟨b,o,p,rfl,hp,c0⟩:=str_at H.out hlt
    have HP:=hid hp
    have hi1:(k:Int)<(n:Int):=by omega
    have hi0:(0:Int)≤(k:Int):=by omega
    clear hp
    by_cases hps:p.size≤300
    · have hqp:¬(300:Int)<(p.size:Int):=by omega
      go_wp2_with fail
      go_roundw
      case rel =>
       refine⟨k+1,by omega,by go_num,fun q hq9=>?_,by trivial⟩;rw[List.take_add_one,HP.out] at hq9
       rcases List.mem_append.1 hq9 with h9 | h9
       · exact HALL.out q h9
       · obtain rfl:q=p:=by simpa using h9
         exact hps
      case measure=>simp[intOf]<;>omega
    · have hqp:(300:Int)<(p.size:Int):=by omega
      have hno:decide (rightP LL)=false:=decide_eq_false fun h9=>hps (h9.1 p (List.mem_of_getElem? HP.out));have HNO:=hid hno;clear hno
      go_wp2_with fail
      (try rw[Exit.noGoto_ret])
      go_ret
      exact⟨by rw[HNO.out];rfl,Below.refl _ _⟩
  · obtain rfl:k=n:=by omega
    have hall:∀ p∈LL,p.size≤300:=fun p hp=>HALL.out p (by rw[← HLEN.out,List.take_length];exact hp)
    by_cases h25:k≤60
    · have hyes:decide (rightP LL)=true:=decide_eq_true ⟨hall,by have:=HLEN.out;omega⟩
      have HY:=hid hyes
      have hq2:(k:Int)≤60:=by omega
      clear hyes hall
      go_wp2_with fail
      go_ret
      exact⟨by rw[HY.out];rfl,Below.refl _ _⟩
    · have hno:decide (rightP LL)=false:=decide_eq_false fun h9=>by have:=h9.2;have:=HLEN.out;omega
      have HNO:=hid hno
      have hq2:¬(k:Int)≤60:=by omega
      clear hno hall
      go_wp2_with fail
      go_ret
      exact⟨by rw[HNO.out];rfl,Below.refl _ _⟩
theorem one_text (x:UInt8)(W:World):(convert 54 9 (.slice (some ⟨W.heap.size,0,none⟩) 1 1)).run Tryz.prog (W.alloc (.cells #[.int .u8 (x.toNat:Int)] 5))=.ok (str [x]) (W.alloc (.cells #[.int .u8 (x.toNat:Int)] 5)) :=
 run_convert_bytes_back (P:=Tryz.prog) (W.alloc (.cells #[.int .u8 (x.toNat:Int)] 5)) 54 9 5 ⟨W.heap.size,0,none⟩ 1 [x] Tryz.underlying54 Tryz.underlying5 Tryz.underlying9 (fun j hj=>by
  rw[Addr.add_mid,Nat.zero_add,(Blk.new W 5 #[.int .u8 (x.toNat:Int)]).cell]
  have:j=0:=by simpa using hj
  subst this;rfl)
theorem digitR_c {x:UInt8}{d:Nat}(h:hexP x=some d)(w:World):Calls Tryz.prog 29 #[.int .u8 (x.toNat:Int)] w fun e w'=>e=.returned (.int .i64 (d:Int))∧Below w.heap.size w w':=by
 have h8:=x.toNat_lt;unfold hexP at h
 split at h
 · next h1 =>
   obtain rfl:=Option.some.inj h
   have g1:(x.toNat:Int)≥48:=by omega
   have g2:(x.toNat:Int)≤57:=by omega
   have u1:IntKind.u8.wrap ((x.toNat:Int) - 48)=(x.toNat:Int) - 48:=wu (by omega);have u2:IntKind.i64.wrap ((x.toNat:Int) - 48)=(x.toNat:Int) - 48:=wi (by omega);have HE:=hid (show(x.toNat:Int) - 48=((x.toNat - 48:Nat):Int) from by omega);clear h
   go_enter Tryz.func29,Tryz.ntmps29
   go_wp2_with fail
   (try rw[Exit.noGoto_ret])
   go_ret
   exact⟨by rw[← HE.out];rfl,Below.refl _ _⟩
 · next h1 =>
   split at h
   · next h2 =>
     obtain rfl:=Option.some.inj h
     have g1:(x.toNat:Int)≥48:=by omega
     have g2:¬(x.toNat:Int)≤57:=by omega
     have g3:(x.toNat:Int)≥97:=by omega
     have g4:(x.toNat:Int)≤102:=by omega
     have u1:IntKind.u8.wrap ((x.toNat:Int) - 97)=(x.toNat:Int) - 97:=wu (by omega);have u2:IntKind.i64.wrap ((x.toNat:Int) - 97)=(x.toNat:Int) - 97:=wi (by omega);have u3:IntKind.i64.wrap ((x.toNat:Int) - 97+10)=(x.toNat:Int) - 97+10:=wi (by omega);have HE:=hid (show(x.toNat:Int) - 97+10=((x.toNat - 87:Nat):Int) from by omega);clear h h1
     go_enter Tryz.func29,Tryz.ntmps29
     go_wp2_with fail
     (try rw[Exit.noGoto_ret])
     go_ret
     exact⟨by rw[← HE.out];rfl,Below.refl _ _⟩
   · cases h
theorem wireR_c {T:ByteArray}{o:List Nat}(h:wireP T.data.toList=some o)(hs:T.size≤1000)(w:World) :
 Calls Tryz.prog 10 #[.string T] w fun e w'=>e=.returned (.tuple #[str (o.map UInt8.ofNat),.bool true])∧Below w.heap.size w w':=by
 have htl:T.data.toList.length=T.size:=rfl
 obtain⟨m,hm⟩:∃ m,T.size=2 * m:=by
  rcases Nat.mod_two_eq_zero_or_one T.data.toList.length with e | e
  · exact⟨T.size / 2,by omega⟩
  · rw[wire_odd (T.data.toList.length / 2) T.data.toList (by omega)] at h;cases h
 obtain⟨hol,hat⟩:=(wire_iff m T.data.toList o (by omega)).1 h
 have hrem:(T.size:Int).tmod 2=0:=by rw[hm];push_cast;exact Int.mul_tmod_right 2 _
 have HAT:=hid hat;have HOL:=hid hol;have HM:=hid hm;clear h hat hol htl
 go_enter Tryz.func10,Tryz.ntmps10
 have hs0:Value.string ⟨#[]⟩=str []:=rfl
 go_wp2_with fail
 rw[hs0];clear hs0 hrem
 go_loopw [4,5] (fun sv iv wr=>∃ j:Nat,j≤m∧iv=.int .i64 ((2 * j:Nat):Int)∧sv=str ((o.take j).map UInt8.ofNat)∧Below w.heap.size w wr) (fun _ iv _=>T.size - (intOf iv).toNat)
 case atStart=>exact⟨0,Nat.zero_le _,rfl,rfl,Below.refl _ _⟩
 case round =>
  obtain⟨j,hj,rfl,rfl,hb⟩:=hrel;have HB:=hid hb;clear hb
  by_cases hlt:j<m
  · obtain⟨a,b,ha,hb',ho⟩:=HAT.out j hlt
    obtain⟨x,hx,ha⟩:=Option.bind_eq_some_iff.1 ha;obtain⟨y,hy,hb'⟩:=Option.bind_eq_some_iff.1 hb';have q1:=idx_str T hx;have q2:=idx_str T hy
    have hc2:((2 * j+1:Nat):Int)=((2 * j:Nat):Int)+1:=by omega
    rw[hc2] at q2
    have hi1:((2 * j:Nat):Int)<(T.size:Int):=by rw[HM.out];omega
    have ha16:=hex_lt ha;have hb16:=hex_lt hb';have HA:=hid (fun W=>digitR_c ha W);have HBB:=hid (fun W=>digitR_c hb' W);obtain⟨z,hz⟩:∃ z,z=UInt8.ofNat (16 * a+b):=⟨_,rfl⟩
    have hzn:(z.toNat:Int)=16 * (a:Int)+(b:Int):=by rw[hz,UInt8.toNat_ofNat'];omega
    have hst:(o.take (j+1)).map UInt8.ofNat=(o.take j).map UInt8.ofNat++[z]:=by rw[List.take_add_one,ho,hz];simp
    obtain⟨l,hl⟩:∃ l,l=(o.take j).map UInt8.ofNat:=⟨_,rfl⟩
    have hll:l.length≤1000:=by rw[hl,List.length_map,List.length_take];omega
    rw[← hl] at hst ⊢;have a1:=fun W=>one_text z W;have a2:=fun W=>add_strs l [z] (by simp;omega) W;have u1:IntKind.i64.wrap (16 * (a:Int))=16 * (a:Int):=wi (by omega);have u2:IntKind.i64.wrap (16 * (a:Int)+(b:Int))=16 * (a:Int)+(b:Int):=wi (by omega)
    have u3:IntKind.u8.wrap (16 * (a:Int)+(b:Int))=(z.toNat:Int):=by rw[hzn];exact wu (by omega)
    have w1:IntKind.i64.wrap (((2 * j:Nat):Int)+1)=((2 * j:Nat):Int)+1:=wi (by omega);have w2:IntKind.i64.wrap (((2 * j:Nat):Int)+2)=((2 * j:Nat):Int)+2:=wi (by omega)
    have g1:¬(a:Int)<0:=by omega
    have g2:¬(b:Int)<0:=by omega
    have HST:=hid hst;clear hst hz hzn hl hx hy ha hb' ho hc2;obtain⟨J,hJ⟩:∃ J:Int,J=((2 * j:Nat):Int):=⟨_,rfl⟩;rw[← hJ] at q1 q2 hi1 w1 w2 ⊢;have HJ:=hid hJ;clear hJ
    go_upto_region 7 with fail
    refine wp_region_till [] (fun _=>True) (by kernel_rfl) (by trivial) (fun hHeld=>?_);have hb9:=(Below.refl wr.heap.size wr).drew;replace HB:=hdT HB hb9;clear hb9;revert hHeld HB;generalize wr.drew=u0;intro hHeld HB;have hbq:=Below.refl u0.heap.size u0;refine tk 0 0 ?_;refine tk 0 1 ?_;refine tk 0 2 ?_;refine tk 0 4 ?_;refine tk 0 5 ?_;refine tk 0 6 ?_;refine tk 0 7 ?_;refine ar [3] (ac (fun K hK=>?_) an);go_simp;go_at_call 29;refine(HA.out _).mono ?_;rintro e u1 ⟨rfl,hb4⟩;have hbq:=below_tr hbq hb4;clear hb4;(try go_wp2_with fail);(try clear hHeld);refine hK.out _ _ (by(try dsimp only);all_goals trivial) (fun hHeld=>?_);clear hK K;refine pt ?_;refine ar [8] (ac (fun K hK=>?_) an);go_simp;go_at_call 29;refine(HBB.out _).mono ?_;rintro e u2 ⟨rfl,hb4⟩;have hbq:=below_tr hbq hb4;clear hb4;(try go_wp2_with fail);(try clear hHeld);refine hK.out _ _ (by(try dsimp only);all_goals trivial) (fun hHeld=>?_);clear hK K;refine pt ?_;refine tk 0 9 ?_;refine tk 0 10 ?_;refine td ?_;(try clear hHeld);replace HB:=hdT HB hbq;clear hbq q1 q2 HA HBB
    go_wp2_with fail
    go_roundw
    case rel=>exact⟨j+1,by omega,by rw[HJ.out];go_num,by rw[HST.out],HB.out.trans ((Below.refl _ _).alloc (HB.out.size) _)⟩
    case measure=>have:=HJ.out;simp[intOf]<;>omega
  · obtain rfl:j=m:=by omega
    have hi1:¬((2 * j:Nat):Int)<(T.size:Int):=by rw[HM.out];omega
    have hall:o.take j=o:=List.take_of_length_le (by rw[HOL.out];exact Nat.le_refl _);rw[hall];clear hall
    go_wp2_with fail
    go_ret2
    exact⟨rfl,HB.out⟩
def hexT:ByteArray:=⟨#[48,49,50,51,52,53,54,55,56,57,97,98,99,100,101,102]⟩
theorem hexT_at:∀ k,k<16→hexT.data.toList[k]?=some (hexD k):=by decide
theorem two_text (x y:UInt8)(W:World):(convert 54 9 (.slice (some ⟨W.heap.size,0,none⟩) 2 2)).run Tryz.prog (W.alloc (.cells #[.int .u8 (x.toNat:Int),.int .u8 (y.toNat:Int)] 5))=.ok (str [x,y]) (W.alloc (.cells #[.int .u8 (x.toNat:Int),.int .u8 (y.toNat:Int)] 5)) :=
 run_convert_bytes_back (P:=Tryz.prog) (W.alloc (.cells #[.int .u8 (x.toNat:Int),.int .u8 (y.toNat:Int)] 5)) 54 9 5 ⟨W.heap.size,0,none⟩ 2 [x,y] Tryz.underlying54 Tryz.underlying5 Tryz.underlying9 (fun j hj=>by
  rw[Addr.add_mid,Nat.zero_add,(Blk.new W 5 #[.int .u8 (x.toNat:Int),.int .u8 (y.toNat:Int)]).cell]
  have:j=0∨j=1:=by simp at hj;omega
  rcases this with rfl | rfl<;>rfl)
theorem run_index_u8 (s:ByteArray)(k:Nat)(hk:k<s.size)(W:World):(Instr.index 9 (.string s) (.int .u8 (k:Int))).run Tryz.prog W=(Instr.index 9 (.string s) (.int .i64 (k:Int))).run Tryz.prog W:=by
 rw[run_index_string _ _ _ _ _ Tryz.underlying9,run_index_string _ _ _ _ _ Tryz.underlying9,dif_pos ⟨by omega,by omega⟩,dif_pos ⟨by omega,by omega⟩]
theorem hex_c {A:Option Addr}{n c:Nat}{bs:List UInt8}{w:World}(h:Rd encB 1 w A n bs)(hn:n≤1000) :
 Calls Tryz.prog 14 #[.slice A n c] w fun e w'=>e=.returned (str (hexL bs))∧Below w.heap.size w w':=by
 have HR:=hid h;have HBL:=hid h.len;clear h
 go_enter Tryz.func14,Tryz.ntmps14
 have hs0:Value.string ⟨#[]⟩=str []:=rfl
 go_wp2_with fail
 rw[hs0];clear hs0
 go_loopw [3,4] (fun sv iv wr=>∃ i:Nat,i≤n∧iv=.int .i64 i∧sv=str (hexL (bs.take i))∧Below w.heap.size w wr) (fun _ iv _=>n - (intOf iv).toNat)
 case atStart=>exact⟨0,Nat.zero_le _,rfl,rfl,Below.refl _ _⟩
 case round =>
  obtain⟨i,hi,rfl,rfl,hb⟩:=hrel;have HB:=hid hb;clear hb
  by_cases hlt:i<n
  · obtain⟨b,o,x,rfl,_,hx,hc⟩:=(HR.out.below HB.out).at_ hlt
    have x0:wr.cell? ⟨b,o+i,none⟩=some (.int .u8 (x.toNat:Int)):=by simpa using hc 0 _ rfl
    have h8:=x.toNat_lt
    have hi1:(i:Int)<(n:Int):=by omega
    have hi0:(0:Int)≤(i:Int):=by omega
    have hst:hexL (bs.take (i+1))=hexL (bs.take i)++hexB x:=by rw[List.take_add_one,hx];simp[hexL]
    obtain⟨l,hl⟩:∃ l,l=hexL (bs.take i):=⟨_,rfl⟩
    have hll:l.length≤2000:=by rw[hl,hexL_len,List.length_take];omega
    rw[← hl] at hst ⊢;obtain⟨p,hp⟩:∃ p,p=x.toNat / 16:=⟨_,rfl⟩;obtain⟨q,hq⟩:∃ q,q=x.toNat % 16:=⟨_,rfl⟩
    have hp16:p<16:=by omega
    have hq16:q<16:=by omega
    have d1:(x.toNat:Int).tdiv 16=(p:Int):=by rw[hp,Int.tdiv_eq_ediv_of_nonneg (by omega)];omega
    have d2:(x.toNat:Int).tmod 16=(q:Int):=by rw[hq,Int.tmod_eq_emod_of_nonneg (by omega)];omega
    have u1:IntKind.u8.wrap (p:Int)=(p:Int):=wu (by omega);have u2:IntKind.u8.wrap (q:Int)=(q:Int):=wu (by omega)
    have ix:∀(k:Nat),k<16→∀ W,(Instr.index 9 (.string ⟨#[48,49,50,51,52,53,54,55,56,57,97,98,99,100,101,102]⟩) (.int .u8 (k:Int))).run Tryz.prog W=.ok (.int .u8 ((hexD k).toNat:Int)) W:=fun k hk W=>by
     rw[run_index_u8 _ _ (by exact hk) W];exact idx_str hexT (hexT_at k hk) W
    have q1:=fun W=>ix p hp16 W;have q2:=fun W=>ix q hq16 W;have a2:=fun W=>add_strs l [hexD p,hexD q] (by simp;omega) W
    have hst2:hexL (bs.take (i+1))=l++[hexD p,hexD q]:=by rw[hst,hp,hq];rfl
    have HST:=hid hst2;have HX0:=hid x0;have HXX:=hid hx;clear hst hst2 hl hp hq ix hx hc;replace HR:=hid (HR.out.below HB.out)
    go_upto_region 5 with fail
    refine wp_region_till [15] (fun U=>U.cell? ⟨b,o+i,none⟩=some (.int .u8 (x.toNat:Int))) (by kernel_rfl) (by exact HX0.out) (fun hHeld=>?_);have hb9:=(Below.refl wr.heap.size wr).drew;replace HB:=hdT HB hb9;replace HR:=hid (HR.out.below hb9);clear hb9;revert hHeld HB HR;generalize wr.drew=u0;intro hHeld HB HR;refine tk 0 0 ?_;refine tk 6 1 ?_;refine tk 6 2 ?_;refine tk 5 3 ?_;refine tk 4 4 ?_;refine tk 3 5 ?_;refine tk 2 6 ?_;refine tk 6 7 ?_;refine tk 6 8 ?_;refine tk 5 9 ?_;refine tk 4 10 ?_;refine tk 3 11 ?_;refine tk 2 12 ?_;refine ar [13] (ac (fun K hK=>?_) an);go_simp;have hb2:=HB.out.alloc (HB.out.size) (.cells #[.int .u8 ((hexD p).toNat:Int),.int .u8 ((hexD q).toNat:Int)] 5)
    have hx1:(u0.alloc (.cells #[.int .u8 ((hexD p).toNat:Int),.int .u8 ((hexD q).toNat:Int)] 5)).cell? ⟨b,o+i,none⟩=some (.int .u8 (x.toNat:Int)):=by
     obtain⟨b2,o2,x2,e2,_,hx2,hc2⟩:=(HR.out.below ((Below.refl u0.heap.size u0).alloc (Nat.le_refl _) (.cells #[.int .u8 ((hexD p).toNat:Int),.int .u8 ((hexD q).toNat:Int)] 5))).at_ hlt;cases e2;rw[HXX.out] at hx2;cases hx2
     simpa using hc2 0 _ rfl
    (try clear hHeld);refine hK.out _ _ (by(try dsimp only);exact hx1) (fun hHeld=>?_);clear hK K;refine pt ?_;refine ar [14] (ac (fun K hK=>?_) an);have a1:=two_text (hexD p) (hexD q) u0;go_simp;(try clear hHeld);refine hK.out _ _ (by(try dsimp only);exact hx1) (fun hHeld=>?_);clear hK K;refine pt ?_;refine ar [15] (al (fun K hK=>?_) an);go_simp;(try clear hHeld);refine hK.out _ _ ?_;clear hK K;refine pt ?_;refine te 16 ?_;refine td ?_;(try clear hHeld);clear a1 a2 hx1 q1 q2
    go_wp2_with fail
    go_roundw
    case rel=>exact⟨i+1,by omega,by go_num,by rw[HST.out],hb2⟩
    case measure=>simp[intOf]<;>omega
  · obtain rfl:i=n:=by omega
    have hi1:¬(i:Int)<(i:Int):=by omega
    have hall:bs.take i=bs:=List.take_of_length_le (by rw[HBL.out];exact Nat.le_refl _);rw[hall];clear hall
    go_wp2_with fail
    go_ret
    exact⟨rfl,HB.out⟩
end Go.Proofs.YtkhcliibilkefaaGreatDoor
namespace Go.Proofs.YtkhcliibilkefaaGreatDoor
open Lib (hid)
open Go.RowKit Go.Proofs Go.ChangeShapes Go.WideShapes Go.Deep
section
variable {H:Type} {enc:TypeId×Value→H} {P:Program} {w:World} {base:Nat} {spare:Nat→Bool} {held:Bool}
theorem el_str {t:TypeId}(ht:P.underlying t=some .string)(fuel:Nat)(cs:List Value)(x:DataW H×List MemPlace)(h:DataW.trod enc P w base spare held fuel t cs=some x) :
 ∃ s:ByteArray,encStr s=cs∧True:=by
 obtain⟨s,e,_,_⟩:=DataW.trod_string ht h;exact⟨s,e.symm,trivial⟩
theorem rd_texts_of {t e:TypeId}{A:Option Addr}{len cap:Nat}{d:DataW H}{p:List MemPlace}(ht:P.underlying t=some (.slice e))(he:P.underlying e=some .string)(hc:P.cellsOf e=1)(h:DataW.Trod enc P w base spare held t (.slice A len cap) d p) :
 ∃ l:List ByteArray,Rd encStr 1 w A len l∧len≤cap∧cap≤maxLen:=by
 obtain⟨fuel,hf⟩:=h;obtain⟨A',len',cap',l,e,h1,h2,h3,h4⟩:=rd_gen (en:=encStr) ht hc (by decide) (el_str he) hf;simp[Value.cells] at e;obtain⟨rfl,rfl,rfl⟩:=e;exact⟨l,h1,h2,h3⟩
theorem iface_of {t:TypeId}{m:Array (String×TypeId)}{fuel:Nat}{cs:List Value}{x:DataW H×List MemPlace}(ht:P.underlying t=some (.interface m))(h:DataW.trod enc P w base spare held fuel t cs=some x):∃ v,cs=[v]∧ErrV v:=by
 cases fuel with
 | zero=>simp[DataW.trod] at h
 | succ n =>
  unfold DataW.trod at h;rw[ht] at h
  split at h<;>first
   | (rename_i h1;cases h1;done)
   | skip
  all_goals first
   | exact⟨_,rfl,.inl rfl⟩
   | exact⟨_,rfl,.inr ⟨_,_,rfl⟩⟩
   | cases h
end
theorem gsz:Tryz.prog.globals.size≤9:=of_decide_eq_true (by kernel_rfl)
theorem bsz:9<(begin Tryz.prog (fun _ _=>0) default).world.heap.size:=of_decide_eq_true (by kernel_rfl)
theorem g_syn:Tryz.prog.globalNamed "strconv.ErrSyntax"=some 1:=by kernel_rfl
theorem g_rng:Tryz.prog.globalNamed "strconv.ErrRange"=some 2:=by kernel_rfl
theorem g_err (i:Nat)(h:i=1∨i=2):(Tryz.prog.globals[i]?).map (·.type)=some 142:=by rcases h with rfl | rfl<;>kernel_rfl
theorem u_err:∃ m,Tryz.prog.underlying 142=some (.interface m):=by
 have h:(match Tryz.prog.underlying 142 with | some (.interface _)=>true | _=>false)=true:=by kernel_rfl
 split at h
 · next m hm=>exact⟨m,hm⟩
 · cases h
theorem err_of {W:World}{n:String}{d:DataW Unit}{g:Nat}(h:Lib.VarReads Tryz.prog W n d)(hg:Tryz.prog.globalNamed n=some g)(h12:g=1∨g=2):∃ v,W.cell? ⟨g,0,none⟩=some v∧ErrV v:=by
 obtain⟨g',t,cs,fuel,p,hg',ht,hv,hd⟩:=h;obtain rfl:=Option.some.inj (hg.symm.trans hg');obtain rfl:=Option.some.inj ((g_err g h12).symm.trans ht);obtain⟨m,hm⟩:=u_err;obtain⟨v,hcs,hev⟩:=iface_of hm hd;have:=World.var?_cell hg hv 0
 have hc:cs=#[v]:=by cases cs;simp at hcs;simp[hcs]
 rw[hc] at this;exact⟨v,by simpa using this,hev⟩
theorem tab_of {W:World}{k:IntKind}{zs:List Int}{n:String}{g:Nat}{t e:TypeId}{m:Nat}(hg:Tryz.prog.globalNamed n=some g)(hty:(Tryz.prog.globals[g]?).map (·.type)=some t)(ht:Tryz.prog.underlying t=some (.array m e))(he:Tryz.prog.underlying e=some (.int k))(hce:Tryz.prog.cellsOf e=1)(hct:Tryz.prog.cellsOf t=m)
 (h:Lib.VarReads Tryz.prog W n (Lib.tabData k zs)):Lib.TabIs Tryz.prog W n k zs:=by
 obtain⟨g',t',cs,fuel,p,hg',ht',hv,hd⟩:=h;obtain rfl:=Option.some.inj (hg.symm.trans hg');obtain rfl:=Option.some.inj (hty.symm.trans ht');unfold Lib.TabIs;rw[hv,← Lib.cells_of_tab ht he hce hct hd]
theorem g_pow:∃ g,Tryz.prog.globalNamed "internal/strconv.uint64pow10"=some g∧(Tryz.prog.globals[g]?).map (·.type)=some 301:=by
 refine⟨_,rfl,?_⟩
 kernel_rfl
theorem max_of {W:World}(hs:W.ShapedOpen Tryz.prog):∃ m,W.cell? ⟨0,0,none⟩=some (.int .i64 m) :=
 cell_of_shapedOpen_int (P:=Tryz.prog) (g:=0) (t:=3) (zero:=#[.int .i64 0]) hs (of_decide_eq_true (by kernel_rfl)) (by kernel_rfl) rfl (by kernel_rfl) (by kernel_rfl) Tryz.underlying3
theorem size_of {W:World}(hs:W.ShapedOpen Tryz.prog):10≤W.heap.size:=by
 obtain⟨o,_,ho,_⟩:=hs.2 9 gsz bsz;have:=(Array.getElem?_eq_some_iff.1 ho).1;omega
theorem lay_of {W:World}{L:List (String×DataW Unit)}(h:laidMet Tryz.prog L W)(hs:W.ShapedOpen Tryz.prog){d1 d2:DataW Unit}(h1:("strconv.ErrSyntax",d1)∈L) (h2:("strconv.ErrRange",d2)∈L) (h5:("internal/strconv.uint64pow10",Lib.tabData .u64 Lib.pow10Tab)∈L):Lay W:=by
 obtain⟨g,hg,hty⟩:=g_pow;exact⟨size_of hs,max_of hs,err_of (Lib.laidMet.reads h h1) g_syn (.inl rfl),err_of (Lib.laidMet.reads h h2) g_rng (.inr rfl),tab_of hg hty Tryz.underlying301 Tryz.underlying269 (by kernel_rfl) (by kernel_rfl) (Lib.laidMet.reads h h5)⟩
section
variable {H:Type}
theorem bulk_one (d:DataW H):1≤Rows.uptoBulk d:=by
 cases d with
 | lit l=>cases l<;>simp[Rows.uptoBulk]
 | _=>simp[Rows.uptoBulk]
theorem bulk_part {d:DataW H}:∀ {l:List (DataW H)},d∈l→Rows.uptoBulk d≤Rows.uptoBulkAll l
 | [],h=>by cases h
 | x::r,h=>by
  simp only[Rows.uptoBulkAll]
  rcases List.mem_cons.1 h with rfl | e
  · omega
  · have:=bulk_part e;omega
theorem bulk_len:∀(l:List (DataW H)),l.length≤Rows.uptoBulkAll l
 | []=>by simp
 | x::r=>by have:=bulk_one x;have:=bulk_len r;simp only[Rows.uptoBulkAll,List.length_cons];omega
variable {enc:TypeId×Value→H} {P:Program} {w:World} {base:Nat} {spare:Nat→Bool} {held:Bool}
theorem texts_small {t e:TypeId}{A:Option Addr}{len cap B:Nat}{d:DataW H}{p:List MemPlace}(ht:P.underlying t=some (.slice e))(he:P.underlying e=some .string)(hc:P.cellsOf e=1)(h:DataW.Trod enc P w base spare held t (.slice A len cap) d p)
 {l:List ByteArray} (hr:Rd encStr 1 w A len l) (hB:Rows.uptoBulk d≤B):len≤B∧∀ q∈l,q.size≤B:=by
 obtain⟨fuel,hf⟩:=h
 rcases open_slice ht hf with ⟨h0,_⟩ | ⟨a,len',cap',m,n,D,Pl,hcs,hb,hl,hm,hmm,hx,hi⟩
 · simp[Value.cells] at h0
   obtain⟨_,rfl,_⟩:=h0;refine⟨Nat.zero_le _,fun q hq=>?_⟩;have:=hr.len;obtain rfl:l=[]:=List.length_eq_zero_iff.1 this;cases hq
 · simp[Value.cells] at hcs
   obtain⟨rfl,rfl,rfl⟩:=hcs
   have hlm:len≤m:=by rw[hmm];split<;>omega
   have hd:=congrArg Prod.fst hx;dsimp only at hd;rw[hd] at hB;simp only[Rows.uptoBulk] at hB;have h1:=bulk_len ((List.range len).map D);rw[List.length_map,List.length_range] at h1;refine⟨by omega,fun q hq=>?_⟩;obtain⟨i,hiq⟩:=List.getElem?_of_mem hq
   have hil:i<len:=by have:=hr.len;have:=(List.getElem?_eq_some_iff.1 hiq).1;omega
   obtain⟨cs',hcc,htr⟩:=hi i (by omega);obtain⟨s,rfl,hds,_⟩:=DataW.trod_string he htr;have hds:=congrArg Prod.fst hds;dsimp only at hds;obtain⟨b,o,y,ea,_,hy,hcell⟩:=hr.at_ hil;cases ea;rw[hiq] at hy;cases hy;have hq0:=hcell 0 _ rfl;rw[hc] at hcc;obtain⟨_,_,hat⟩:=World.cells?_some hcc;have hs0:=hat 0 (by decide)
   have hadd:(Addr.add ⟨b,o,none⟩ (i * 1)).add 0=⟨b,o+i * 1+0,none⟩:=by rw[Go.Deep.add_add];unfold Addr.add;split<;>simp_all
   rw[hadd,hq0] at hs0
   have hsq:s=q:=by simpa[encStr] using hs0.symm
   subst hsq;have h2:Rows.uptoBulk (D i)≤Rows.uptoBulkAll ((List.range len).map D):=bulk_part (List.mem_map.2 ⟨i,List.mem_range.2 hil,rfl⟩);rw[hds] at h2;simp only[Rows.uptoBulk] at h2;have h3:s.data.toList.length=s.size:=rfl;omega
theorem witness_row {C:Checked}{os:Os}{f:FuncId}{fn:Func}{s:OpenSpec}{conds:List PathCond}{apart:Bool}{laid:List (String×DataW Unit)}(w0:World)(args:Array Value)(hos:w0.os=os)
 (hsh:(w0.forCall (fun _ _=>0) ⟨#[],args,[]⟩).Shaped C.prog) (hok:Input.okWideB C.prog (w0.forCall (fun _ _=>0) ⟨#[],args,[]⟩) f ⟨#[],args,[]⟩=true)
 (hrow:s.preRow enc C.prog fn conds apart laid (w0.forCall (fun _ _=>0) ⟨#[],args,[]⟩).memory args) :
 ∃(w:World) (tape:Tape) (i:Input),w.os=os∧(w.forCall tape i).Shaped C.prog∧i.vars=[]∧Input.okWide C.prog (w.forCall tape i) .any w.heap.size f i ∧
  s.preRow enc C.prog fn conds apart laid (w.forCall tape i).memory i.args∧({ modest:=false }:Assume).holds C.prog (lone (Frame.enter C.prog f i.args .normal) [] (w.forCall tape i)) :=
 ⟨w0,fun _ _=>0,⟨#[],args,[]⟩,hos,hsh,(Input.okWide_of_okWideB (base:=0) hok).1,(Input.okWide_of_okWideB hok).2,hrow,by
  simp only[Assume.holds]
  exact⟨by simp,by simp,fun _=>Modest.zero,by simp,by simp⟩⟩
end
end Go.Proofs.YtkhcliibilkefaaGreatDoor
