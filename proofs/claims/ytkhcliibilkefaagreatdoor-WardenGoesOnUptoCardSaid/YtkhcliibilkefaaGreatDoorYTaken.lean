/- CONTRACT of ref.Parse: the word, the numbers and the text of a line. -/
import Derived.Test.YtkhcliibilkefaaGreatDoorYRWhole
import Derived.BigQuiet
set_option linter.unusedVariables false
set_option linter.unusedSimpArgs false
set_option maxRecDepth 100000
set_option maxHeartbeats 8000000
namespace Go.Proofs.YtkhcliibilkefaaGreatDoor
open Lib (hid)
open Go.RowKit Go.Proofs
attribute [local go_sem ↓] Go.wp_at_zero Go.wp_at_succ
theorem results_tmp4 {fn:Func}{t u v x:Tmp}(h:fn.results=#[.tmp t,.tmp u,.tmp v,.tmp x])(tmps:Array Value)(P:Program)(w:World) :
 (results fn tmps).run P w=.ok (.tuple #[tmps.getD t undef,tmps.getD u undef,tmps.getD v undef,tmps.getD x undef]) w:=by
 simp[results,h]
def ParR (w':World)(S:List UInt8)(e:Ending):Prop:=match parseP S with
 | .bad=>e=.returned (.tuple #[str [],.slice none 0 0,str [],.bool false])
 | .nums wd l=>∃ A c,e=.returned (.tuple #[str wd.name,.slice A l.length c,str [],.bool true])∧Rd enc1 1 w' A l.length l
 | .text t=>e=.returned (.tuple #[str (Wd.name .hear),.slice none 0 0,str t,.bool true])
theorem parR_bad {w':World}{S:List UInt8}{e:Ending}(h:parseP S=.bad)(he:e=.returned (.tuple #[str [],.slice none 0 0,str [],.bool false])):ParR w' S e:=by unfold ParR;rw[h];exact he
theorem parR_nums {w':World}{S:List UInt8}{e:Ending}{wd:Wd}{l:List Int}{A:Option Addr}{c:Nat}{p0:ByteArray}(h:parseP S=.nums wd l)(hn:wd.name=p0.data.toList)
 (he:e=.returned (.tuple #[.string p0,.slice A l.length c,str [],.bool true])) (hr:Rd enc1 1 w' A l.length l):ParR w' S e:=by
 unfold ParR;rw[h]
 have h9:str wd.name=.string p0:=by rw[hn];rfl
 exact⟨A,c,by rw[he,h9],hr⟩
theorem many_word {p:List UInt8}(h:1≤manyP p):∃ wd,wordOf p=some wd∧wd≠.hear∧manyP p=(wd.many:Int):=by
 unfold manyP at h ⊢
 cases hw:wordOf p with
 | none=>rw[hw] at h;dsimp only at h;omega
 | some wd =>
  rw[hw] at h;refine⟨wd,rfl,fun e=>?_,rfl⟩;subst e;simp[Wd.many] at h
theorem many_zero {p:List UInt8}(h:manyP p=0):wordOf p=some .hear:=by
 unfold manyP at h
 cases hw:wordOf p with
 | none=>rw[hw] at h;dsimp only at h;omega
 | some wd =>
  rw[hw] at h;cases wd<;>simp[Wd.many] at h
  rfl
theorem many_neg {p:List UInt8}(h:¬ manyP p=0)(h1:¬ 1≤manyP p):wordOf p=none:=by
 cases hw:wordOf p with
 | none=>rfl
 | some wd =>
  exfalso
  unfold manyP at h h1;rw[hw] at h h1;dsimp only at h h1;omega
theorem cmd_num2 {p:List UInt8}{ps:List (List UInt8)}{wd:Wd}(h:wordOf p=some wd)(hh:wd≠.hear):cmdOf (p::ps)=if ps.length=wd.many then (match numsP ps with | some l=>Cmd.nums wd l | none=>.bad) else .bad:=by
 simp only[cmdOf,h]
 cases wd<;>first | rfl | exact absurd rfl hh
theorem parseR_c (s:ByteArray)(w:World)(hs:s.size≤1048576) :
 Calls Tryz.prog 9 #[.string s] w fun e w'=>ParR w' s.data.toList e∧Below w.heap.size w w':=by
 obtain⟨S,hS⟩:∃ S,S=s.data.toList:=⟨_,rfl⟩;have HSP:=hid (splitR_c s w hs);rw[← hS] at HSP ⊢;clear hS
 go_enter Tryz.func9,Tryz.ntmps9
 go_wp2_with fail
 go_at_call 26;refine HSP.out.mono ?_;rintro e w1 ⟨v1,L,rfl,hown1,hL,hb1⟩;obtain⟨A1,c1,rfl,hc1⟩:=own_form hown1;have hr1:=Rd.of_own encStr_len hown1 rfl
 have hsplit:parseP S=cmdOf (linesB L):=by rw[hL];rfl
 have hne:0<L.length:=by
  have h1:=parts_ne 32 S;rw[← hL] at h1
  cases L with
  | nil=>exact absurd rfl h1
  | cons p l=>simp
 have HR:=hid hr1;have HB:=hid hb1;have HS:=hid hsplit;have HNE:=hid hne;clear hown1 hr1 hb1 hsplit hL hc1 HSP;obtain⟨b,o,p0,rfl,hp0,x0⟩:=str_at HR.out hne
 obtain⟨Ps,hPs⟩:∃ Ps,L=p0::Ps:=by
  cases L with
  | nil=>cases hp0
  | cons q l=>exact⟨l,by simp at hp0;rw[hp0]⟩
 have hL1:L.length=Ps.length+1:=by rw[hPs];rfl
 have hSe:parseP S=cmdOf (p0.data.toList::linesB Ps):=by rw[HS.out,hPs];rfl
 have HSE:=hid hSe;have HL1:=hid hL1;have HPS:=hid hPs
 have hps:(linesB Ps).length=Ps.length:=by unfold linesB;rw[List.length_map]
 have HPL:=hid hps;obtain⟨n,hn⟩:∃ n,n=manyP p0.data.toList:=⟨_,rfl⟩;have HN:=hid hn
 have hx0:w1.cell? ⟨b,o,none⟩=some (.string p0):=by simpa using x0
 have hpos:(0:Int)<(L.length:Int):=by omega
 have HM:=hid (fun W=>manyR_c p0 W);clear hSe hL1 hPs hps x0 hn
 go_wp2_with fail
 go_at_call 27;refine(HM.out _).mono ?_;rintro e w2 ⟨rfl,hb9⟩;rw[← HN.out];replace HR:=hid (HR.out.below hb9);replace HB:=hdT HB hb9;clear hb9 hx0 HM
 have hpos2:(0:Int)<(L.length:Int):=by omega
 have x0:w2.cell? ⟨b,o,none⟩=some (.string p0):=by
  obtain⟨b9,o9,p9,e9,hp9,c9⟩:=str_at HR.out HNE.out;cases e9;rw[hp9] at hp0;cases hp0
  simpa using c9
 have X0:=hid x0;clear x0 hp0 hpos2
 by_cases hz:n=0
 · subst hz
   have hwo:=many_zero HN.out.symm
   by_cases h2:L.length=2
   · obtain⟨p1,rfl⟩:∃ p1,Ps=[p1]:=by
      have h8:=HL1.out
      cases Ps with
      | nil=>simp at h8;omega
      | cons q l =>
       cases l with
       | nil=>exact⟨q,rfl⟩
       | cons q2 l=>simp at h8;omega
     have hres:parseP S=.text p1.data.toList:=by rw[HSE.out];simp[cmdOf,hwo,linesB]
     have hname:=word_name hwo
     have x1:w2.cell? ⟨b,o+1,none⟩=some (.string p1):=by
      obtain⟨b9,o9,p9,e9,hp9,c9⟩:=str_at (i:=1) HR.out (by omega);cases e9;rw[HPS.out] at hp9
      obtain rfl:p1=p9:=by simpa using hp9
      exact c9
     have x0:=X0.out
     have e2:((L.length:Int) == 2)=true:=by simp;omega
     have i0:(0:Int)<(L.length:Int):=by omega
     have i1:(1:Int)<(L.length:Int):=by omega
     have HRES:=hid hres;have HNM:=hid hname;clear hres hname h2 hwo hne
     go_wp2_with fail
     go_quiet (fail)
     go_wp2
     ((try simp only[Exit.inBlock,Exit.then]);refine bodyPost_ret (results_tmp4 rfl _ _ _) rfl ?_)
     refine⟨?_,below_drewN HB.out _⟩;unfold ParR;rw[HRES.out]
     have h9:str (Wd.name .hear)=.string p0:=by rw[HNM.out];rfl
     rw[h9]
     rfl
   · have hres:parseP S=.bad:=by
      rw[HSE.out]
      have h9:(linesB Ps).length≠1:=by rw[HPL.out];have:=HL1.out;omega
      simp only[cmdOf,hwo]
      split
      · next t e=>rw[e] at h9;exact absurd rfl h9
      · rfl
     have HRES:=hid hres
     have e2:((L.length:Int) == 2)=false:=by simp;omega
     clear hres h2 hwo hne
     go_wp2_with fail
     ((try simp only[Exit.inBlock,Exit.then]);refine bodyPost_ret (results_tmp4 rfl _ _ _) rfl ?_)
     exact⟨parR_bad HRES.out rfl,HB.out⟩
 · have ez:(n == 0)=false:=by simpa using hz
   by_cases h1:1≤n
   · have g1:¬ n<1:=by omega
     obtain⟨wd,hwo,hwh,hmm⟩:=many_word (by rw[← HN.out];exact h1);rw[← HN.out] at hmm;have hm8:=many_bd hwh;have hcm:=cmd_num2 (ps:=linesB Ps) hwo hwh;rw[← HSE.out,HPL.out] at hcm;obtain⟨m,hm⟩:∃ m,m=wd.many:=⟨_,rfl⟩;rw[← hm] at hmm hm8 hcm;subst hmm;have hwm:IntKind.i64.wrap ((m:Int)+1)=(m:Int)+1:=wi (by omega)
     by_cases hlen:Ps.length=m
     · rw[if_pos hlen] at hcm
       have e3:((L.length:Int) != (m:Int)+1)=false:=by have:=HL1.out;simp;omega
       have HCM:=hid hcm;have HWN:=hid (word_name hwo);obtain⟨i0,hi0,hz0,hz1,hz2⟩:=info_parts infoIntW;have HI:=hid hi0;have HZ0:=hid hz0;have HZ1:=hid hz1;have HZ2:=hid hz2
       have hLm:L.length=m+1:=by have:=HL1.out;omega
       have HLM:=hid hLm;have HPM:=hid hlen;clear hi0 hz0 hz1 hz2 hcm hwo hwh hm hlen hne hLm
       go_wp2_with fail
       go_loopw [8,9] (fun lv iv wr=>∃(k:Nat) (ns:List Int),k≤m∧iv=.int .i64 ((k:Int)+1)∧ns.length=k∧numsP ((linesB Ps).take k)=some ns∧wr.ownsRow w2.heap.size 3 1 lv k (ns.flatMap enc1)∧Below w2.heap.size w2 wr) (fun _ iv _=>m+1 - (intOf iv).toNat)
       case atStart=>exact⟨0,[],Nat.zero_le _,rfl,rfl,rfl,World.ownsRow_nil _ _ _ _,Below.refl _ _⟩
       case round =>
        obtain⟨k,ns,hk,rfl,hkl,hns,hown,hb⟩:=hrel;have HOW:=hid hown;have HBR:=hid hb;have HNS:=hid hns;have HKL:=hid hkl;clear hown hb hns hkl
        by_cases hlt:k<m
        · have hi1:(k:Int)+1≤(m:Int):=by omega
          obtain⟨b9,o9,p,e9,hp,c0⟩:=str_at (i:=k+1) (HR.out.below HBR.out) (by rw[HLM.out];omega);cases e9;have hp2:(linesB Ps)[k]?=some p.data.toList:=linesB_at (by rw[HPS.out] at hp;simpa using hp)
          have hi2:(k:Int)+1<(L.length:Int):=by rw[HLM.out];omega
          have hi3:(0:Int)≤(k:Int)+1:=by omega
          have hix:((k:Int)+1).toNat=k+1:=by omega
          have HP:=hid hp2;have HWC:=hid (fun W=>wholeR_c p W);clear hp hp2
          cases hw:wholeP p.data.toList with
          | none =>
           have hv:wholeV p.data.toList=(0,false):=by unfold wholeV;rw[hw]
           have hnone:=nums_none (List.mem_of_getElem? HP.out) hw;rw[hv] at HWC;have hcm:=HCM.out;rw[hnone] at hcm;have HRES:=hid (show parseP S=.bad from hcm);clear hw hv hnone hcm
           go_wp2_with fail
           go_at_call 28;refine(HWC.out _).mono ?_;rintro e w4 ⟨rfl,hb9⟩;replace HB:=hdT (hdT HB HBR.out) hb9;clear hb9
           go_wp2_with fail
           ((try simp only[Exit.inBlock,Exit.then]);refine bodyPost_ret (results_tmp4 rfl _ _ _) rfl ?_)
           exact⟨parR_bad HRES.out rfl,HB.out⟩
          | some v =>
           have hv:wholeV p.data.toList=(v,true):=by unfold wholeV;rw[hw]
           have hst:numsP ((linesB Ps).take (k+1))=some (ns++[v]):=by
            rw[List.take_add_one,HP.out];exact nums_snoc HNS.out hw
           rw[hv] at HWC;have HST:=hid hst;clear hw hv hst
           go_wp2_with fail
           go_at_call 28;refine(HWC.out _).mono ?_;rintro e w4 ⟨rfl,hb9⟩;replace HBR:=hid (below_tr HBR.out hb9);replace HOW:=hid (own_mono HOW.out hb9);clear hb9 c0;have hal:=(Below.refl w4.heap.size w4).alloc (Nat.le_refl _) (.cells #[.int .i64 v] 3);have hne:=Blk.new w4 3 #[.int .i64 v]
           go_wp2_with (at_builtin;go_must (refine wpList_append_rd rfl _ _ 28 rfl w2.heap.size 3 i0 _ 1 8 Tryz.underlying28 HI.out HZ0.out HZ1.out HZ2.out rfl (by decide) _ k _ rfl (own_mono HOW.out hal) enc1_len oneInt (some ⟨w4.heap.size,0,none⟩) 1 1 [v] rfl (Rd.of_blkE (k:=1) enc1_len hne (l:=[v]) rfl rfl) (by unfold maxLen;omega) (by omega) (by have:=HBR.out.size;simp;omega) ?_;intro v' w5 hown5 hgr5))
           have hown5:w5.ownsRow w2.heap.size 3 1 v' (k+1) ((ns++[v]).flatMap enc1):=by simpa using hown5
           have hb5:=(below_tr HBR.out hal).trans (Fr.of_grown hgr5 (E:=fun q=>w2.heap.size≤q) (fun q e _=>(HOW.out.lt q e).1) |>.below (by have:=HBR.out.size;simp;omega) fun q hq=>hq);clear hgr5 hal hne HOW HBR;have HOW:=hid hown5;have HBR:=hid hb5;clear hown5 hb5
           go_wp2_with fail
           go_roundw
           case rel=>exact⟨k+1,ns++[v],by omega,by go_num,by rw[List.length_append,HKL.out];rfl,HST.out,HOW.out,HBR.out⟩
           case measure=>simp[intOf]<;>omega
        · obtain rfl:k=m:=by omega
          have hi1:¬(k:Int)+1≤(k:Int):=by omega
          have htk:(linesB Ps).take k=linesB Ps:=List.take_of_length_le (by rw[HPL.out,HPM.out];exact Nat.le_refl _);have hns:=HNS.out;rw[htk] at hns;have hcm:=HCM.out;rw[hns] at hcm;have HRES:=hid (show parseP S=.nums wd ns from hcm);obtain⟨A9,c9,rfl,hc9⟩:=own_form HOW.out;have hr9:=Rd.of_own enc1_len HOW.out HKL.out;have HR9:=hid hr9
          have x0:wr.cell? ⟨b,o,none⟩=some (.string p0):=by
           obtain⟨b9,o9,p9,e9,hp9,c9⟩:=str_at (HR.out.below HBR.out) HNE.out;cases e9;rw[HPS.out] at hp9
           obtain rfl:p0=p9:=by simpa using hp9
           simpa using c9
          have hpos:(0:Int)<(L.length:Int):=by rw[HLM.out];omega
          replace HB:=hdT HB HBR.out;clear htk hns hcm hr9 hc9 hlt hk
          go_wp2_with fail
          ((try simp only[Exit.inBlock,Exit.then]);refine bodyPost_ret (results_tmp4 rfl _ _ _) rfl ?_)
          have hkl:=HKL.out;subst hkl;exact⟨parR_nums HRES.out HWN.out rfl HR9.out,HB.out⟩
     · rw[if_neg hlen] at hcm
       have HRES:=hid hcm
       have e3:((L.length:Int) != (m:Int)+1)=true:=by have:=HL1.out;simp;omega
       clear hcm hlen hwo hwh hm hne
       go_wp2_with fail
       ((try simp only[Exit.inBlock,Exit.then]);refine bodyPost_ret (results_tmp4 rfl _ _ _) rfl ?_)
       exact⟨parR_bad HRES.out rfl,HB.out⟩
   · have hres:parseP S=.bad:=by
      rw[HSE.out];have hwo:=many_neg (by rw[← HN.out];exact hz) (by rw[← HN.out];exact h1);simp only[cmdOf,hwo]
     have HRES:=hid hres
     have g1:n<1:=by omega
     clear hres hne hz h1
     go_wp2_with fail
     ((try simp only[Exit.inBlock,Exit.then]);refine bodyPost_ret (results_tmp4 rfl _ _ _) rfl ?_)
     exact⟨parR_bad HRES.out rfl,HB.out⟩
theorem parR_shape {w':World}{S:List UInt8}{e:Ending}(h:ParR w' S e):∃(q:ByteArray) (lv tv:Value) (is:Bool),e=.returned (.tuple #[.string q,lv,tv,.bool is])∧(is && decide (q.data.toList=Wd.name .weather))=isW S:=by
 unfold ParR at h;unfold isW
 cases hp:parseP S with
 | bad=>rw[hp] at h;exact⟨_,_,_,_,h,rfl⟩
 | nums wd l =>
  rw[hp] at h;obtain⟨A,c,h,_⟩:=h;refine⟨_,_,_,_,h,?_⟩;cases wd<;>rfl
 | text t=>rw[hp] at h;exact⟨_,_,_,_,h,rfl⟩
theorem few_c {A:Option Addr}{n c:Nat}{LL:List ByteArray}{w:World}(h:Rd encStr 1 w A n LL)(hs:∀ p∈LL,p.size≤1048576)(hn:n≤1048576) :
 Calls Tryz.prog 19 #[.slice A n c] w fun e w'=>∃ b,e=.returned (.bool b)∧Below w.heap.size w w':=by
 have HR:=hid h;have HS:=hid hs;clear h hs
 go_enter Tryz.func19,Tryz.ntmps19
 go_wp2_with fail
 go_loopw [3,4,5,6,7] (fun av bv cv dv iv wr=>∃(i:Nat) (x y z u:Int),i≤n∧iv=.int .i64 i∧av=.int .i64 x∧bv=.int .i64 y∧cv=.int .i64 z∧dv=.int .i64 u∧Below w.heap.size w wr) (fun _ _ _ _ iv _=>n - (intOf iv).toNat)
 case atStart=>exact⟨0,0,0,0,0,Nat.zero_le _,rfl,rfl,rfl,rfl,rfl,Below.refl _ _⟩
 case round =>
  obtain⟨i,x,y,z,u,hi,rfl,rfl,rfl,rfl,rfl,hb⟩:=hrel;have HB:=hid hb;clear hb
  by_cases hlt:i<n
  · obtain⟨b,o,p,rfl,hp,c0⟩:=str_at (HR.out.below HB.out) hlt
    have hi1:(i:Int)<(n:Int):=by omega
    have hi0:(0:Int)≤(i:Int):=by omega
    have HP:=hid (fun W=>parseR_c p W (HS.out p (List.mem_of_getElem? hp)));clear hp
    go_wp2_with fail
    go_at_call 9;refine(HP.out _).mono ?_;rintro e w2 ⟨hpr,hb9⟩;obtain⟨q,lv,tv,is,rfl,-⟩:=parR_shape hpr;replace HB:=hdT HB hb9;clear hb9 hpr HP c0
    by_cases h1:q.data.toList=[98,101,100]
    · have q1:=eql_yes h1
      clear h1
      go_wp2_with fail
      go_roundw
      case rel=>exact⟨i+1,_,_,_,_,by omega,by go_num,rfl,rfl,rfl,rfl,HB.out⟩
      case measure=>simp[intOf]<;>omega
    · have q1:=eql_no h1
      by_cases h2:q.data.toList=[119,101,97,116,104,101,114]
      · have q2:=eql_yes h2
        clear h1 h2
        go_wp2_with fail
        go_roundw
        case rel=>exact⟨i+1,_,_,_,_,by omega,by go_num,rfl,rfl,rfl,rfl,HB.out⟩
        case measure=>simp[intOf]<;>omega
      · have q2:=eql_no h2
        by_cases h3:q.data.toList=[112,97,114,99,101,108]
        · have q3:=eql_yes h3
          clear h1 h2 h3
          go_wp2_with fail
          go_roundw
          case rel=>exact⟨i+1,_,_,_,_,by omega,by go_num,rfl,rfl,rfl,rfl,HB.out⟩
          case measure=>simp[intOf]<;>omega
        · have q3:=eql_no h3
          clear h1 h2 h3
          go_wp2_with fail
          go_roundw
          case rel=>exact⟨i+1,_,_,_,_,by omega,by go_num,rfl,rfl,rfl,rfl,HB.out⟩
          case measure=>simp[intOf]<;>omega
  · obtain rfl:i=n:=by omega
    have hi1:¬(i:Int)<(i:Int):=by omega
    clear hlt hi
    by_cases c1:y≤5
    rotate_left
    focus
     skip
    rotate_left
    by_cases c2:z≤8
    rotate_left
    focus
     skip
    rotate_left 2
    by_cases c3:u≤6
    rotate_left
    focus
     skip
    rotate_left 3
    by_cases c4:(i:Int)≤30
    focus
     by_cases c5:x≤1200
     rotate_left
     have c6:(i:Int)≤62:=by omega
     have c7:¬ x≤300:=by omega
     have c9:¬ x≤310:=by omega
     by_cases c8:((i:Int) == 1)=true
    rotate_left 3
    focus
     have c8:¬((i:Int) == 1)=true:=by simp;omega
     by_cases c6:(i:Int)≤62
     by_cases c7:x≤300
    all_goals
     (try simp only[Bool.not_eq_true] at c8)
     go_wp2_with fail
     go_ret
     exact⟨by first | exact .inl rfl | exact .inr rfl,HB.out⟩
theorem ready_c {A:Option Addr}{n c:Nat}{LL:List ByteArray}{w:World}(h:Rd encStr 1 w A n LL)(hs:∀ p∈LL,p.size≤1048576)(hn:n≤1048576) :
 Calls Tryz.prog 5 #[.slice A n c] w fun e w'=>∃ b,e=.returned (.bool b)∧(b=true→rightP LL)∧Below w.heap.size w w':=by
 have HR:=hid h;have HF:=hid (few_c (c:=c) h hs hn);clear h hs
 go_enter Tryz.func5,Tryz.ntmps5
 go_wp2_with fail
 go_at_call 19;refine HF.out.mono ?_;rintro e w2 ⟨b,rfl,hb2⟩;have HB:=hid hb2;clear hb2 HF
 cases b with
 | false =>
  go_wp2_with fail
  go_ret
  exact⟨false,rfl,(fun h9=>by cases h9),HB.out⟩
 | true =>
  go_wp2_with fail
  go_at_call 20;refine(rightR_c (HR.out.below HB.out) (by omega)).mono ?_;rintro e w3 ⟨rfl,hb9⟩;replace HB:=hdT HB hb9;clear hb9
  by_cases hr:rightP LL
  · rw[decide_eq_true hr]
    go_wp2_with fail
    go_ret
    exact⟨true,rfl,(fun _=>hr),HB.out⟩
  · rw[decide_eq_false hr]
    go_wp2_with fail
    go_ret
    exact⟨false,rfl,(fun h9=>by cases h9),HB.out⟩
theorem taken_c {A EA:Option Addr}{n c ec:Nat}{LL:List ByteArray}{es:List Int}{w:World}(h:Rd encStr 1 w A n LL)(he:Rd enc1 1 w EA n es)(hn:n≤60) :
 Calls Tryz.prog 15 #[.slice A n c,.slice EA n ec] w fun e w'=>∃(v:Value) (L:List ByteArray),e=.returned v∧w'.ownsRow w.heap.size 9 1 v L.length (L.flatMap encStr)∧linesB L=takenP (linesB LL) es∧(∀ p∈L,p∈LL)∧L.length≤n∧Below w.heap.size w w':=by
 have HR:=hid h;have HE:=hid he;have HLL:=hid h.len;have HEL:=hid he.len;clear h he;obtain⟨i0,hi0,hz0,hz1,hz2⟩:=info_parts infoStr;have HI:=hid hi0;have HZ0:=hid hz0;have HZ1:=hid hz1;have HZ2:=hid hz2;clear hi0 hz0 hz1 hz2
 go_enter Tryz.func15,Tryz.ntmps15
 go_wp2_with fail
 go_loopw [5,6] (fun ov iv wr=>∃(j:Nat) (L:List ByteArray),j≤n∧iv=.int .i64 j∧wr.ownsRow w.heap.size 9 1 ov L.length (L.flatMap encStr)∧linesB L=takenP ((linesB LL).take j) (es.take j)∧(∀ p∈L,p∈LL)∧L.length≤j∧Below w.heap.size w wr) (fun _ iv _=>n - (intOf iv).toNat)
 case atStart=>exact⟨0,[],Nat.zero_le _,rfl,World.ownsRow_nil _ _ _ _,by simp[linesB,takenP],(fun p hp=>by cases hp),Nat.le_refl _,Below.refl _ _⟩
 case round =>
  obtain⟨j,L,hj,rfl,hown,hlin,hall,hlen,hb⟩:=hrel;have HOW:=hid hown;have HLIN:=hid hlin;have HALL:=hid hall;have HB:=hid hb;clear hown hlin hall hb
  have hls:(linesB LL).length=n:=by unfold linesB;rw[List.length_map,HLL.out]
  by_cases hlt:j<n
  · obtain⟨b,o,p,rfl,hp,c0⟩:=str_at (HR.out.below HB.out) hlt
    obtain⟨g,f,y,rfl,_,hy,hc⟩:=(HE.out.below HB.out).at_ hlt
    have x0:wr.cell? ⟨g,f+j,none⟩=some (.int .i64 y):=by simpa using hc 0 _ rfl
    have hi1:(j:Int)<(n:Int):=by omega
    have hi0:(0:Int)≤(j:Int):=by omega
    have hst:takenP ((linesB LL).take (j+1)) (es.take (j+1))=linesB L++(if y=0 then [p.data.toList] else []):=by
     rw[List.take_add_one,List.take_add_one,linesB_at hp,hy,Option.toList_some,Option.toList_some,taken_snoc _ _ (by rw[List.length_take,List.length_take,HEL.out,hls]),HLIN.out]
    have HST:=hid hst;have HP:=hid (List.mem_of_getElem? hp);clear hst hp hy hc hls
    by_cases hz:y=0
    · subst hz
      have hst:=HST.out;rw[if_pos rfl] at hst;have HS2:=hid hst;clear hst HST;have hal:=(Below.refl wr.heap.size wr).alloc (Nat.le_refl _) (.cells #[.string p] 9);have hne:=Blk.new wr 9 #[.string p]
      go_wp2_with (at_builtin;go_must (refine wpList_append_rd rfl _ _ 22 rfl w.heap.size 9 i0 _ 1 16 Tryz.underlying22 HI.out HZ0.out HZ1.out HZ2.out rfl (by decide) _ L.length _ rfl (own_mono HOW.out hal) encStr_len oneStr (some ⟨wr.heap.size,0,none⟩) 1 1 [p] rfl (Rd.of_blkE (k:=1) encStr_len hne (l:=[p]) rfl rfl) (by unfold maxLen;omega) (by omega) (by have:=HB.out.size;simp;omega) ?_;intro v' w4 hown4 hgr4))
      have hown4:w4.ownsRow w.heap.size 9 1 v' (L++[p]).length ((L++[p]).flatMap encStr):=by simpa using hown4
      have hb4:=(below_tr HB.out hal).trans (Fr.of_grown hgr4 (E:=fun q=>w.heap.size≤q) (fun q e _=>(HOW.out.lt q e).1) |>.below (by have:=HB.out.size;simp;omega) fun q hq=>hq)
      go_wp2_with fail
      go_roundw
      case rel=>exact⟨j+1,L++[p],by omega,by go_num,hown4,by rw[HS2.out];simp[linesB],fun q hq=>by
       rcases List.mem_append.1 hq with h9 | h9
       · exact HALL.out q h9
       · obtain rfl:q=p:=by simpa using h9
         exact HP.out,by rw[List.length_append];simp;omega,hb4⟩
      case measure=>simp[intOf]<;>omega
    · have ey:(y == 0)=false:=beq_eq_false_iff_ne.2 hz
      have hst:=HST.out;rw[if_neg hz,List.append_nil] at hst;have HS2:=hid hst;clear hst HST hz
      go_wp2_with fail
      go_roundw
      case rel=>exact⟨j+1,L,by omega,by go_num,HOW.out,HS2.out.symm,HALL.out,by omega,HB.out⟩
      case measure=>simp[intOf]<;>omega
  · obtain rfl:j=n:=by omega
    have hi1:¬(j:Int)<(j:Int):=by omega
    have hlin:=HLIN.out;rw[List.take_of_length_le (by rw[hls];exact Nat.le_refl _),List.take_of_length_le (by rw[HEL.out];exact Nat.le_refl _)] at hlin;have HL2:=hid hlin;clear hlin hls
    go_wp2_with fail
    go_ret
    exact⟨_,rfl,L,HOW.out,HL2.out,HALL.out,hlen,HB.out⟩
end Go.Proofs.YtkhcliibilkefaaGreatDoor
