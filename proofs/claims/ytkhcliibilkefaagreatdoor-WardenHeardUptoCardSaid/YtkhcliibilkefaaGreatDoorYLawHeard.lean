/- CONTRACT of ref.Parse: the word, the numbers and the text of a line. -/
import Derived.Test.YtkhcliibilkefaaGreatDoorYRWhole
import Derived.BigQuiet
import Derived.Laws.StructEq
set_option linter.unusedVariables false
set_option linter.unusedSimpArgs false
set_option maxRecDepth 100000
set_option maxHeartbeats 8000000
namespace Go.Proofs.YtkhcliibilkefaaGreatDoor
open Lib (hid)
open Go.RowKit Go.Proofs
attribute [local go_sem ↓] Go.wp_at_zero Go.wp_at_succ
theorem results_tmp4 {fn:Func}{t u v x:Tmp}(h:fn.results=#[.tmp t,.tmp u,.tmp v,.tmp x])(tmps:Array Value)(P:Program)(w:World) :
 (results fn tmps).run P w=.ok (.tuple #[tmps.getD t undef,tmps.getD u undef,tmps.getD v undef,tmps.getD x undef]) w:=by
 simp[results,h]
def ParR (w':World)(S:List UInt8)(e:Ending):Prop:=match parseP S with
 | .bad=>e=.returned (.tuple #[str [],.slice none 0 0,str [],.bool false])
 | .nums wd l=>∃ A c,e=.returned (.tuple #[str wd.name,.slice A l.length c,str [],.bool true])∧Rd enc1 1 w' A l.length l
 | .text t=>e=.returned (.tuple #[str (Wd.name .hear),.slice none 0 0,str t,.bool true])
theorem parR_bad {w':World}{S:List UInt8}{e:Ending}(h:parseP S=.bad)(he:e=.returned (.tuple #[str [],.slice none 0 0,str [],.bool false])):ParR w' S e:=by unfold ParR;rw[h];exact he
theorem parR_nums {w':World}{S:List UInt8}{e:Ending}{wd:Wd}{l:List Int}{A:Option Addr}{c:Nat}{p0:ByteArray}(h:parseP S=.nums wd l)(hn:wd.name=p0.data.toList)
 (he:e=.returned (.tuple #[.string p0,.slice A l.length c,str [],.bool true])) (hr:Rd enc1 1 w' A l.length l):ParR w' S e:=by
 unfold ParR;rw[h]
 have h9:str wd.name=.string p0:=by rw[hn];rfl
 exact⟨A,c,by rw[he,h9],hr⟩
theorem many_word {p:List UInt8}(h:1≤manyP p):∃ wd,wordOf p=some wd∧wd≠.hear∧manyP p=(wd.many:Int):=by
 unfold manyP at h ⊢
 cases hw:wordOf p with
 | none=>rw[hw] at h;dsimp only at h;omega
 | some wd =>
  rw[hw] at h;refine⟨wd,rfl,fun e=>?_,rfl⟩;subst e;simp[Wd.many] at h
theorem many_zero {p:List UInt8}(h:manyP p=0):wordOf p=some .hear:=by
 unfold manyP at h
 cases hw:wordOf p with
 | none=>rw[hw] at h;dsimp only at h;omega
 | some wd =>
  rw[hw] at h;cases wd<;>simp[Wd.many] at h
  rfl
theorem many_neg {p:List UInt8}(h:¬ manyP p=0)(h1:¬ 1≤manyP p):wordOf p=none:=by
 cases hw:wordOf p with
 | none=>rfl
 | some wd =>
  exfalso
  unfold manyP at h h1;rw[hw] at h h1;dsimp only at h h1;omega
theorem cmd_num2 {p:List UInt8}{ps:List (List UInt8)}{wd:Wd}(h:wordOf p=some wd)(hh:wd≠.hear):cmdOf (p::ps)=if ps.length=wd.many then (match numsP ps with | some l=>Cmd.nums wd l | none=>.bad) else .bad:=by
 simp only[cmdOf,h]
 cases wd<;>first | rfl | exact absurd rfl hh
theorem parseR_c (s:ByteArray)(w:World)(hs:s.size≤1048576) :
 Calls Tryz.prog 9 #[.string s] w fun e w'=>ParR w' s.data.toList e∧Below w.heap.size w w':=by
 obtain⟨S,hS⟩:∃ S,S=s.data.toList:=⟨_,rfl⟩;have HSP:=hid (splitR_c s w hs);rw[← hS] at HSP ⊢;clear hS
 go_enter Tryz.func9,Tryz.ntmps9
 go_wp2_with fail
 go_at_call 26;refine HSP.out.mono ?_;rintro e w1 ⟨v1,L,rfl,hown1,hL,hb1⟩;obtain⟨A1,c1,rfl,hc1⟩:=own_form hown1;have hr1:=Rd.of_own encStr_len hown1 rfl
 have hsplit:parseP S=cmdOf (linesB L):=by rw[hL];rfl
 have hne:0<L.length:=by
  have h1:=parts_ne 32 S;rw[← hL] at h1
  cases L with
  | nil=>exact absurd rfl h1
  | cons p l=>simp
 have HR:=hid hr1;have HB:=hid hb1;have HS:=hid hsplit;have HNE:=hid hne;clear hown1 hr1 hb1 hsplit hL hc1 HSP;obtain⟨b,o,p0,rfl,hp0,x0⟩:=str_at HR.out hne
 obtain⟨Ps,hPs⟩:∃ Ps,L=p0::Ps:=by
  cases L with
  | nil=>cases hp0
  | cons q l=>exact⟨l,by simp at hp0;rw[hp0]⟩
 have hL1:L.length=Ps.length+1:=by rw[hPs];rfl
 have hSe:parseP S=cmdOf (p0.data.toList::linesB Ps):=by rw[HS.out,hPs];rfl
 have HSE:=hid hSe;have HL1:=hid hL1;have HPS:=hid hPs
 have hps:(linesB Ps).length=Ps.length:=by unfold linesB;rw[List.length_map]
 have HPL:=hid hps;obtain⟨n,hn⟩:∃ n,n=manyP p0.data.toList:=⟨_,rfl⟩;have HN:=hid hn
 have hx0:w1.cell? ⟨b,o,none⟩=some (.string p0):=by simpa using x0
 have hpos:(0:Int)<(L.length:Int):=by omega
 have HM:=hid (fun W=>manyR_c p0 W);clear hSe hL1 hPs hps x0 hn
 go_wp2_with fail
 go_at_call 27;refine(HM.out _).mono ?_;rintro e w2 ⟨rfl,hb9⟩;rw[← HN.out];replace HR:=hid (HR.out.below hb9);replace HB:=hdT HB hb9;clear hb9 hx0 HM
 have hpos2:(0:Int)<(L.length:Int):=by omega
 have x0:w2.cell? ⟨b,o,none⟩=some (.string p0):=by
  obtain⟨b9,o9,p9,e9,hp9,c9⟩:=str_at HR.out HNE.out;cases e9;rw[hp9] at hp0;cases hp0
  simpa using c9
 have X0:=hid x0;clear x0 hp0 hpos2
 by_cases hz:n=0
 · subst hz
   have hwo:=many_zero HN.out.symm
   by_cases h2:L.length=2
   · obtain⟨p1,rfl⟩:∃ p1,Ps=[p1]:=by
      have h8:=HL1.out
      cases Ps with
      | nil=>simp at h8;omega
      | cons q l =>
       cases l with
       | nil=>exact⟨q,rfl⟩
       | cons q2 l=>simp at h8;omega
     have hres:parseP S=.text p1.data.toList:=by rw[HSE.out];simp[cmdOf,hwo,linesB]
     have hname:=word_name hwo
     have x1:w2.cell? ⟨b,o+1,none⟩=some (.string p1):=by
      obtain⟨b9,o9,p9,e9,hp9,c9⟩:=str_at (i:=1) HR.out (by omega);cases e9;rw[HPS.out] at hp9
      obtain rfl:p1=p9:=by simpa using hp9
      exact c9
     have x0:=X0.out
     have e2:((L.length:Int) == 2)=true:=by simp;omega
     have i0:(0:Int)<(L.length:Int):=by omega
     have i1:(1:Int)<(L.length:Int):=by omega
     have HRES:=hid hres;have HNM:=hid hname;clear hres hname h2 hwo hne
     go_wp2_with fail
     go_quiet (fail)
     go_wp2
     ((try simp only[Exit.inBlock,Exit.then]);refine bodyPost_ret (results_tmp4 rfl _ _ _) rfl ?_)
     refine⟨?_,below_drewN HB.out _⟩;unfold ParR;rw[HRES.out]
     have h9:str (Wd.name .hear)=.string p0:=by rw[HNM.out];rfl
     rw[h9]
     rfl
   · have hres:parseP S=.bad:=by
      rw[HSE.out]
      have h9:(linesB Ps).length≠1:=by rw[HPL.out];have:=HL1.out;omega
      simp only[cmdOf,hwo]
      split
      · next t e=>rw[e] at h9;exact absurd rfl h9
      · rfl
     have HRES:=hid hres
     have e2:((L.length:Int) == 2)=false:=by simp;omega
     clear hres h2 hwo hne
     go_wp2_with fail
     ((try simp only[Exit.inBlock,Exit.then]);refine bodyPost_ret (results_tmp4 rfl _ _ _) rfl ?_)
     exact⟨parR_bad HRES.out rfl,HB.out⟩
 · have ez:(n == 0)=false:=by simpa using hz
   by_cases h1:1≤n
   · have g1:¬ n<1:=by omega
     obtain⟨wd,hwo,hwh,hmm⟩:=many_word (by rw[← HN.out];exact h1);rw[← HN.out] at hmm;have hm8:=many_bd hwh;have hcm:=cmd_num2 (ps:=linesB Ps) hwo hwh;rw[← HSE.out,HPL.out] at hcm;obtain⟨m,hm⟩:∃ m,m=wd.many:=⟨_,rfl⟩;rw[← hm] at hmm hm8 hcm;subst hmm;have hwm:IntKind.i64.wrap ((m:Int)+1)=(m:Int)+1:=wi (by omega)
     by_cases hlen:Ps.length=m
     · rw[if_pos hlen] at hcm
       have e3:((L.length:Int) != (m:Int)+1)=false:=by have:=HL1.out;simp;omega
       have HCM:=hid hcm;have HWN:=hid (word_name hwo);obtain⟨i0,hi0,hz0,hz1,hz2⟩:=info_parts infoIntW;have HI:=hid hi0;have HZ0:=hid hz0;have HZ1:=hid hz1;have HZ2:=hid hz2
       have hLm:L.length=m+1:=by have:=HL1.out;omega
       have HLM:=hid hLm;have HPM:=hid hlen;clear hi0 hz0 hz1 hz2 hcm hwo hwh hm hlen hne hLm
       go_wp2_with fail
       go_loopw [8,9] (fun lv iv wr=>∃(k:Nat) (ns:List Int),k≤m∧iv=.int .i64 ((k:Int)+1)∧ns.length=k∧numsP ((linesB Ps).take k)=some ns∧wr.ownsRow w2.heap.size 3 1 lv k (ns.flatMap enc1)∧Below w2.heap.size w2 wr) (fun _ iv _=>m+1 - (intOf iv).toNat)
       case atStart=>exact⟨0,[],Nat.zero_le _,rfl,rfl,rfl,World.ownsRow_nil _ _ _ _,Below.refl _ _⟩
       case round =>
        obtain⟨k,ns,hk,rfl,hkl,hns,hown,hb⟩:=hrel;have HOW:=hid hown;have HBR:=hid hb;have HNS:=hid hns;have HKL:=hid hkl;clear hown hb hns hkl
        by_cases hlt:k<m
        · have hi1:(k:Int)+1≤(m:Int):=by omega
          obtain⟨b9,o9,p,e9,hp,c0⟩:=str_at (i:=k+1) (HR.out.below HBR.out) (by rw[HLM.out];omega);cases e9;have hp2:(linesB Ps)[k]?=some p.data.toList:=linesB_at (by rw[HPS.out] at hp;simpa using hp)
          have hi2:(k:Int)+1<(L.length:Int):=by rw[HLM.out];omega
          have hi3:(0:Int)≤(k:Int)+1:=by omega
          have hix:((k:Int)+1).toNat=k+1:=by omega
          have HP:=hid hp2;have HWC:=hid (fun W=>wholeR_c p W);clear hp hp2
          cases hw:wholeP p.data.toList with
          | none =>
           have hv:wholeV p.data.toList=(0,false):=by unfold wholeV;rw[hw]
           have hnone:=nums_none (List.mem_of_getElem? HP.out) hw;rw[hv] at HWC;have hcm:=HCM.out;rw[hnone] at hcm;have HRES:=hid (show parseP S=.bad from hcm);clear hw hv hnone hcm
           go_wp2_with fail
           go_at_call 28;refine(HWC.out _).mono ?_;rintro e w4 ⟨rfl,hb9⟩;replace HB:=hdT (hdT HB HBR.out) hb9;clear hb9
           go_wp2_with fail
           ((try simp only[Exit.inBlock,Exit.then]);refine bodyPost_ret (results_tmp4 rfl _ _ _) rfl ?_)
           exact⟨parR_bad HRES.out rfl,HB.out⟩
          | some v =>
           have hv:wholeV p.data.toList=(v,true):=by unfold wholeV;rw[hw]
           have hst:numsP ((linesB Ps).take (k+1))=some (ns++[v]):=by
            rw[List.take_add_one,HP.out];exact nums_snoc HNS.out hw
           rw[hv] at HWC;have HST:=hid hst;clear hw hv hst
           go_wp2_with fail
           go_at_call 28;refine(HWC.out _).mono ?_;rintro e w4 ⟨rfl,hb9⟩;replace HBR:=hid (below_tr HBR.out hb9);replace HOW:=hid (own_mono HOW.out hb9);clear hb9 c0;have hal:=(Below.refl w4.heap.size w4).alloc (Nat.le_refl _) (.cells #[.int .i64 v] 3);have hne:=Blk.new w4 3 #[.int .i64 v]
           go_wp2_with (at_builtin;go_must (refine wpList_append_rd rfl _ _ 28 rfl w2.heap.size 3 i0 _ 1 8 Tryz.underlying28 HI.out HZ0.out HZ1.out HZ2.out rfl (by decide) _ k _ rfl (own_mono HOW.out hal) enc1_len oneInt (some ⟨w4.heap.size,0,none⟩) 1 1 [v] rfl (Rd.of_blkE (k:=1) enc1_len hne (l:=[v]) rfl rfl) (by unfold maxLen;omega) (by omega) (by have:=HBR.out.size;simp;omega) ?_;intro v' w5 hown5 hgr5))
           have hown5:w5.ownsRow w2.heap.size 3 1 v' (k+1) ((ns++[v]).flatMap enc1):=by simpa using hown5
           have hb5:=(below_tr HBR.out hal).trans (Fr.of_grown hgr5 (E:=fun q=>w2.heap.size≤q) (fun q e _=>(HOW.out.lt q e).1) |>.below (by have:=HBR.out.size;simp;omega) fun q hq=>hq);clear hgr5 hal hne HOW HBR;have HOW:=hid hown5;have HBR:=hid hb5;clear hown5 hb5
           go_wp2_with fail
           go_roundw
           case rel=>exact⟨k+1,ns++[v],by omega,by go_num,by rw[List.length_append,HKL.out];rfl,HST.out,HOW.out,HBR.out⟩
           case measure=>simp[intOf]<;>omega
        · obtain rfl:k=m:=by omega
          have hi1:¬(k:Int)+1≤(k:Int):=by omega
          have htk:(linesB Ps).take k=linesB Ps:=List.take_of_length_le (by rw[HPL.out,HPM.out];exact Nat.le_refl _);have hns:=HNS.out;rw[htk] at hns;have hcm:=HCM.out;rw[hns] at hcm;have HRES:=hid (show parseP S=.nums wd ns from hcm);obtain⟨A9,c9,rfl,hc9⟩:=own_form HOW.out;have hr9:=Rd.of_own enc1_len HOW.out HKL.out;have HR9:=hid hr9
          have x0:wr.cell? ⟨b,o,none⟩=some (.string p0):=by
           obtain⟨b9,o9,p9,e9,hp9,c9⟩:=str_at (HR.out.below HBR.out) HNE.out;cases e9;rw[HPS.out] at hp9
           obtain rfl:p0=p9:=by simpa using hp9
           simpa using c9
          have hpos:(0:Int)<(L.length:Int):=by rw[HLM.out];omega
          replace HB:=hdT HB HBR.out;clear htk hns hcm hr9 hc9 hlt hk
          go_wp2_with fail
          ((try simp only[Exit.inBlock,Exit.then]);refine bodyPost_ret (results_tmp4 rfl _ _ _) rfl ?_)
          have hkl:=HKL.out;subst hkl;exact⟨parR_nums HRES.out HWN.out rfl HR9.out,HB.out⟩
     · rw[if_neg hlen] at hcm
       have HRES:=hid hcm
       have e3:((L.length:Int) != (m:Int)+1)=true:=by have:=HL1.out;simp;omega
       clear hcm hlen hwo hwh hm hne
       go_wp2_with fail
       ((try simp only[Exit.inBlock,Exit.then]);refine bodyPost_ret (results_tmp4 rfl _ _ _) rfl ?_)
       exact⟨parR_bad HRES.out rfl,HB.out⟩
   · have hres:parseP S=.bad:=by
      rw[HSE.out];have hwo:=many_neg (by rw[← HN.out];exact hz) (by rw[← HN.out];exact h1);simp only[cmdOf,hwo]
     have HRES:=hid hres
     have g1:n<1:=by omega
     clear hres hne hz h1
     go_wp2_with fail
     ((try simp only[Exit.inBlock,Exit.then]);refine bodyPost_ret (results_tmp4 rfl _ _ _) rfl ?_)
     exact⟨parR_bad HRES.out rfl,HB.out⟩
theorem parR_shape {w':World}{S:List UInt8}{e:Ending}(h:ParR w' S e):∃(q:ByteArray) (lv tv:Value) (is:Bool),e=.returned (.tuple #[.string q,lv,tv,.bool is])∧(is && decide (q.data.toList=Wd.name .weather))=isW S:=by
 unfold ParR at h;unfold isW
 cases hp:parseP S with
 | bad=>rw[hp] at h;exact⟨_,_,_,_,h,rfl⟩
 | nums wd l =>
  rw[hp] at h;obtain⟨A,c,h,_⟩:=h;refine⟨_,_,_,_,h,?_⟩;cases wd<;>rfl
 | text t=>rw[hp] at h;exact⟨_,_,_,_,h,rfl⟩
theorem few_c {A:Option Addr}{n c:Nat}{LL:List ByteArray}{w:World}(h:Rd encStr 1 w A n LL)(hs:∀ p∈LL,p.size≤1048576)(hn:n≤1048576) :
 Calls Tryz.prog 19 #[.slice A n c] w fun e w'=>∃ b,e=.returned (.bool b)∧Below w.heap.size w w':=by
 have HR:=hid h;have HS:=hid hs;clear h hs
 go_enter Tryz.func19,Tryz.ntmps19
 go_wp2_with fail
 go_loopw [3,4,5,6,7] (fun av bv cv dv iv wr=>∃(i:Nat) (x y z u:Int),i≤n∧iv=.int .i64 i∧av=.int .i64 x∧bv=.int .i64 y∧cv=.int .i64 z∧dv=.int .i64 u∧Below w.heap.size w wr) (fun _ _ _ _ iv _=>n - (intOf iv).toNat)
 case atStart=>exact⟨0,0,0,0,0,Nat.zero_le _,rfl,rfl,rfl,rfl,rfl,Below.refl _ _⟩
 case round =>
  obtain⟨i,x,y,z,u,hi,rfl,rfl,rfl,rfl,rfl,hb⟩:=hrel;have HB:=hid hb;clear hb
  by_cases hlt:i<n
  · obtain⟨b,o,p,rfl,hp,c0⟩:=str_at (HR.out.below HB.out) hlt
    have hi1:(i:Int)<(n:Int):=by omega
    have hi0:(0:Int)≤(i:Int):=by omega
    have HP:=hid (fun W=>parseR_c p W (HS.out p (List.mem_of_getElem? hp)));clear hp
    go_wp2_with fail
    go_at_call 9;refine(HP.out _).mono ?_;rintro e w2 ⟨hpr,hb9⟩;obtain⟨q,lv,tv,is,rfl,-⟩:=parR_shape hpr;replace HB:=hdT HB hb9;clear hb9 hpr HP c0
    by_cases h1:q.data.toList=[98,101,100]
    · have q1:=eql_yes h1
      clear h1
      go_wp2_with fail
      go_roundw
      case rel=>exact⟨i+1,_,_,_,_,by omega,by go_num,rfl,rfl,rfl,rfl,HB.out⟩
      case measure=>simp[intOf]<;>omega
    · have q1:=eql_no h1
      by_cases h2:q.data.toList=[119,101,97,116,104,101,114]
      · have q2:=eql_yes h2
        clear h1 h2
        go_wp2_with fail
        go_roundw
        case rel=>exact⟨i+1,_,_,_,_,by omega,by go_num,rfl,rfl,rfl,rfl,HB.out⟩
        case measure=>simp[intOf]<;>omega
      · have q2:=eql_no h2
        by_cases h3:q.data.toList=[112,97,114,99,101,108]
        · have q3:=eql_yes h3
          clear h1 h2 h3
          go_wp2_with fail
          go_roundw
          case rel=>exact⟨i+1,_,_,_,_,by omega,by go_num,rfl,rfl,rfl,rfl,HB.out⟩
          case measure=>simp[intOf]<;>omega
        · have q3:=eql_no h3
          clear h1 h2 h3
          go_wp2_with fail
          go_roundw
          case rel=>exact⟨i+1,_,_,_,_,by omega,by go_num,rfl,rfl,rfl,rfl,HB.out⟩
          case measure=>simp[intOf]<;>omega
  · obtain rfl:i=n:=by omega
    have hi1:¬(i:Int)<(i:Int):=by omega
    clear hlt hi
    by_cases c1:y≤5
    rotate_left
    focus
     skip
    rotate_left
    by_cases c2:z≤8
    rotate_left
    focus
     skip
    rotate_left 2
    by_cases c3:u≤6
    rotate_left
    focus
     skip
    rotate_left 3
    by_cases c4:(i:Int)≤30
    focus
     by_cases c5:x≤1200
     rotate_left
     have c6:(i:Int)≤62:=by omega
     have c7:¬ x≤300:=by omega
     have c9:¬ x≤310:=by omega
     by_cases c8:((i:Int) == 1)=true
    rotate_left 3
    focus
     have c8:¬((i:Int) == 1)=true:=by simp;omega
     by_cases c6:(i:Int)≤62
     by_cases c7:x≤300
    all_goals
     (try simp only[Bool.not_eq_true] at c8)
     go_wp2_with fail
     go_ret
     exact⟨by first | exact .inl rfl | exact .inr rfl,HB.out⟩
theorem ready_c {A:Option Addr}{n c:Nat}{LL:List ByteArray}{w:World}(h:Rd encStr 1 w A n LL)(hs:∀ p∈LL,p.size≤1048576)(hn:n≤1048576) :
 Calls Tryz.prog 5 #[.slice A n c] w fun e w'=>∃ b,e=.returned (.bool b)∧(b=true→rightP LL)∧Below w.heap.size w w':=by
 have HR:=hid h;have HF:=hid (few_c (c:=c) h hs hn);clear h hs
 go_enter Tryz.func5,Tryz.ntmps5
 go_wp2_with fail
 go_at_call 19;refine HF.out.mono ?_;rintro e w2 ⟨b,rfl,hb2⟩;have HB:=hid hb2;clear hb2 HF
 cases b with
 | false =>
  go_wp2_with fail
  go_ret
  exact⟨false,rfl,(fun h9=>by cases h9),HB.out⟩
 | true =>
  go_wp2_with fail
  go_at_call 20;refine(rightR_c (HR.out.below HB.out) (by omega)).mono ?_;rintro e w3 ⟨rfl,hb9⟩;replace HB:=hdT HB hb9;clear hb9
  by_cases hr:rightP LL
  · rw[decide_eq_true hr]
    go_wp2_with fail
    go_ret
    exact⟨true,rfl,(fun _=>hr),HB.out⟩
  · rw[decide_eq_false hr]
    go_wp2_with fail
    go_ret
    exact⟨false,rfl,(fun h9=>by cases h9),HB.out⟩
abbrev vRd (r:Rdg):Value:=.agg #[.int .i64 r.ins,.int .i64 r.num,.int .i64 r.tim,.int .i64 r.val]
theorem run_same_rdg (r:Rdg)(W:World):(binOp .neq 86 (vRd r) (vRd r)).run Tryz.prog W=.ok (.bool false) W:=by
 rw[run_neq_struct];simp[go_sem,Tryz.underlying86]
theorem readings_c {l:List Rdg}{A A':Option Addr}{n c c':Nat}{w:World}(h:Rd encR 4 w A n l)(h':Rd encR 4 w A' n l)(hn:n≤1000000000) :
 Calls Tryz.prog 12 #[.slice A n c,.slice A' n c'] w fun e w'=>e=.returned (.bool true)∧Below w.heap.size w w':=by
 have hb0:((n:Int) == (n:Int))=true:=by simp
 go_enter Tryz.func12,Tryz.ntmps12
 go_wp2_with fail
 go_loopw [5] (fun i wr=>∃ k:Nat,k≤n∧i=.int .i64 k∧Below w.heap.size w wr) (fun i _=>n - (intOf i).toNat)
 case atStart=>exact⟨0,Nat.zero_le _,rfl,Below.refl _ _⟩
 case round =>
  obtain⟨k,hk,rfl,hb⟩:=hrel
  by_cases hlt:k<n
  · obtain⟨b,o,x,hA,_,hx,h0,h1,h2,h3⟩:=(h.below hb).at4 hlt
    subst hA;obtain⟨b',o',y,hA,_,hy,j0,j1,j2,j3⟩:=(h'.below hb).at4 hlt;subst hA
    obtain rfl:y=x:=by rw[hx] at hy;exact(Option.some.inj hy).symm
    have HB:=hid hb;clear hb hx hy
    have hkn:(k:Int)<(n:Int):=by omega
    have hq:=fun W=>run_same_rdg y W
    go_wp2_with fail
    go_quiet (fail)
    go_wp2
    go_roundw
    case rel=>exact⟨k+1,by omega,by go_num,below_drewN HB.out _⟩
    case measure=>simp[intOf]<;>omega
  · obtain rfl:k=n:=by omega
    go_wp2_with fail
    go_ret
    exact⟨rfl,hb⟩
end Go.Proofs.YtkhcliibilkefaaGreatDoor
namespace Go.Proofs.YtkhcliibilkefaaGreatDoor
open Lib (hid)
open Go.RowKit Go.Proofs
theorem rd_drop {α:Type}{enc:α→List Value}{k:Nat}{w:World}{b o n j:Nat}{l:List α}(h:Rd enc k w (some ⟨b,o,none⟩) n l)(hj:j≤n):Rd enc k w (some ⟨b,o+j * k,none⟩) (n - j) (l.drop j):=by
 refine⟨by rw[List.length_drop,h.1],fun h0=>?_⟩;obtain⟨b',o',e,hlt,hc⟩:=h.2 (by omega);cases e;refine⟨b,o+j * k,rfl,hlt,fun i x hx q v hv=>?_⟩;rw[List.getElem?_drop] at hx;have:=hc (j+i) x hx q v hv
 rwa [show o+j * k+i * k+q=o+(j+i) * k+q from by rw[Nat.add_mul];omega]
theorem cutR {A:Option Addr}{n c k:Nat}(hk:k≤c){i:Int}(hi:i=(k:Int))(W:World):(Instr.slice 40 (.slice A n c) none (some (.int .i64 i)) none).run Tryz.prog W=.ok (.slice A k c) W:=by
 subst hi;exact cut_to_gen Tryz.underlying40 (fun _=>by kernel_rfl:∀ W,(sizeOf 86).run Tryz.prog W=.ok 4 W) A hk W
theorem midR {b o len cap lo hi:Nat}(h1:lo≤hi)(h2:hi≤cap)(h3:lo<cap){i j:Int}(hi':i=(lo:Int))(hj:j=(hi:Int))(W:World) :
 (Instr.slice 40 (.slice (some ⟨b,o,none⟩) len cap) (some (.int .i64 i)) (some (.int .i64 j)) none).run Tryz.prog W=.ok (.slice (some ⟨b,o+lo * 4,none⟩) (hi - lo) (cap - lo)) W:=by
 subst hi' hj
 have hs:∀ W,(sizeOf 86).run Tryz.prog W=.ok 4 W:=fun _=>by kernel_rfl
 have hne:¬ cap=lo:=by omega
 have hb:=run_sliceBounds_in (P:=Tryz.prog) (len:=len) (cap:=cap) W h1 h2;simp only[Instr.slice,Sem.run_bind,run_underlying Tryz.underlying40,Result.andThen_ok,hb,hs];simp only[if_neg hne,Sem.run_pure,Option.map,Addr.add_mid]
attribute [local go_sem ↓] Go.wp_at_zero Go.wp_at_succ
theorem oneRdg (x:Rdg):∀ u∈encR x,u.oneCell'=true:=by intro u hu;simp[encR] at hu;rcases hu with rfl | rfl | rfl | rfl<;>rfl
theorem nums_word {S:List UInt8}{wd:Wd}{l:List Int}(h:parseP S=.nums wd l):wd≠.hear:=by
 unfold parseP at h
 cases hp:partsP 32 S with
 | nil=>exact absurd hp (parts_ne 32 S)
 | cons p ps =>
  rw[hp] at h;obtain⟨h1,_,_⟩:=cmd_nums h;rintro rfl;simp only[cmdOf,h1] at h
  split at h<;>cases h
theorem wire_len {t:List UInt8}{o:List Nat}(h:wireP t=some o):o.length≤t.length:=by
 rcases Nat.mod_two_eq_zero_or_one t.length with e | e
 · have:=((wire_iff (t.length / 2) t o (by omega)).1 h).1
   omega
 · rw[wire_odd (t.length / 2) t (by omega)] at h;cases h
theorem text_le {S t:List UInt8}(h:parseP S=.text t):t.length≤S.length:=by
 unfold parseP at h;refine parts_le 32 S t ?_
 cases hp:partsP 32 S with
 | nil=>exact absurd hp (parts_ne 32 S)
 | cons p ps =>
  rw[hp] at h;simp only[cmdOf] at h
  split at h
  · cases h
  · split at h
    · next t'=>cases h;simp
    · cases h
  · split at h
    · split at h<;>cases h
    · cases h
theorem parR_hear {w':World}{S:List UInt8}{e:Ending}(h:ParR w' S e) :
 (∃(t:List UInt8) (q:ByteArray) (lv:Value),parseP S=.text t∧q.data.toList=[104,101,97,114]∧e=.returned (.tuple #[.string q,lv,.string ⟨t.toArray⟩,.bool true])) ∨
 (heardL Ga.readOf S=[]∧∃(q:ByteArray) (lv tv:Value) (is:Bool),e=.returned (.tuple #[.string q,lv,tv,.bool is])∧(is=true→¬ q.data.toList=[104,101,97,114])):=by
 unfold ParR at h
 cases hp:parseP S with
 | bad=>rw[hp] at h;exact .inr ⟨by unfold heardL;rw[hp],_,_,_,_,h,fun h9=>by cases h9⟩
 | nums wd l =>
  rw[hp] at h;obtain⟨A,c,h,_⟩:=h;have hw:=nums_word hp;refine .inr ⟨by unfold heardL;rw[hp],_,_,_,_,h,fun _=>?_⟩
  cases wd<;>first | exact absurd rfl hw | (intro h9;revert h9;decide)
 | text t=>rw[hp] at h;exact .inl ⟨t,⟨(Wd.name .hear).toArray⟩,_,rfl,rfl,h⟩
theorem WardenHeard_w {A:Option Addr}{n c:Nat}{LL:List ByteArray}{w:World}(h:Rd encStr 1 w A n LL)(hs:∀ p∈LL,p.size≤1048576)(hn:n≤1048576)(hl:Lay w) :
 Calls Tryz.prog 3 #[.slice A n c] w fun e w'=>e=.returned (.bool true)∧Below w.heap.size w w':=by
 have HR:=hid h;have HL:=hid hl;have HB:=hid (Below.refl w.heap.size w);have HLEN:=hid h.len;have HS:=hid hs;clear h hl hs
 go_enter Tryz.func3,Tryz.ntmps3
 go_wp2_with fail
 go_at_call 5;refine((ready_c HR.out HS.out hn)).mono ?_;rintro e w1 ⟨bR,rfl,hbr,hb9⟩;replace HB:=hdT HB hb9;replace HR:=hid (HR.out.below hb9);clear hb9 
 cases bR with
 | false =>
  clear hbr
  go_wp2_with fail
  go_wp2_with fail
  go_at_call 6;refine((wakes_ok _ (HL.out.below HB.out))).mono ?_;rintro e v2 ⟨rfl,hb9⟩;replace HB:=hdT HB hb9;replace HR:=hid (HR.out.below hb9);clear hb9 
  go_wp2_with fail
  (try rw[Exit.noGoto_ret])
  go_ret
  exact⟨rfl,HB.out⟩
 | true =>
  have hr:=hbr rfl;have hck:=right_check hr
  have hn60:n≤60:=by have:=hr.2;have:=HLEN.out;omega
  have HCK:=hid hck;have HRT:=hid hr;clear hbr hck hr
  go_wp2_with fail
  go_at_call 8;refine((list_c HR.out (by omega))).mono ?_;rintro e w2 ⟨A2,c2,rfl,hown2,hr2,hc2,hb9⟩;replace HB:=hdT HB hb9;replace HR:=hid (HR.out.below hb9);have HR2:=hid hr2;clear hb9 hr2;clear hown2 hc2
  go_wp2_with fail
  go_at_call 7;refine(Run_c HR2.out (HL.out.below HB.out)).mono ?_;rintro e w3 ⟨s,x,b,mm,ve,es,rfl,hrows,hown,hem,hok,_,hb9⟩;obtain⟨hbb,hes⟩:=hok HCK.out;have hlen:=runP_len Ga.readOf (-1) 0 (linesB LL) begS 0;rw[← hes,show(linesB LL).length=n from by unfold linesB;rw[List.length_map,HLEN.out]] at hlen
  obtain rfl:mm=n:=by omega
  obtain⟨EA,ec,rfl,_⟩:=own_form hown;rw[HCK.out];have her:Rd enc1 1 w3 EA mm es:=Rd.of_own enc1_len hown hem;have hrd:=hrows.rd.rd;have hrc:=hrows.rd.cap;have hrr:b.rds=heardP Ga.readOf (linesB LL) es:=(by have h9:=run_rds Ga.readOf (-1) 0 (linesB LL) begS 0;rw[← hbb,← hes] at h9;simpa[begS] using h9);have h200:b.rds.length≤200:=(by have h9:SOk b:=(by rw[hbb];exact runP_okM _ _ _ _ _ begS_ok);exact h9.rdsN);obtain⟨R,hR⟩:∃ R,R=b.rds:=⟨_,rfl⟩;rw[← hR] at hrd hrr h200;have hrn:x.rd.n=R.length:=hrd.len.symm;rw[hrn] at hrd hrc;have HRR:=hid hrr;have HRC:=hid hrc;have HRN:=hid hrn;have hat:=run_at Ga.readOf (-1) 0 (linesB LL) begS 0;rw[← hes] at hat;have HAT:=hid hat;clear hrr hrc hrn hR hat;have HES:=hid hes;have HEL:=hid hlen;clear HR2 hrows hown hok hem hbb hes hlen;have hb2:=below_tr HB.out hb9;have hrb:=HR.out.below hb9;clear HB HR hb9;have HR:=hid hrb;clear hrb;have HTH:=hid (show World.there (w3.alloc (.cells (stateL ad0 zeroS).toArray 42)) w3.heap.size 0 22 from there_of_blk (cs:=stateL ad0 zeroS) (Blk.new w3 42 (stateL ad0 zeroS).toArray));obtain⟨cs,hcs⟩:∃ cs,cs=(stateL x b).toArray:=⟨_,rfl⟩
  have hcn:cs.size=22:=by rw[hcs];rfl
  have hc1:cs.all (·.oneCell')=true:=by rw[hcs];exact stateL_one x b
  rw[← hcs];have HCS:=hid hcs;have HCN:=hid hcn;have HC1:=hid hc1;clear hcs hcn hc1
  go_upto_region 4 with (refine wpList_store_mid rfl 42 (.tmp 3) (.tmp 31) rfl w3.heap.size 0 cs rfl rfl (by rw[HCN.out];exact HTH.out) (by rw[HCN.out];exact stateN) HC1.out ?_)
  have hblk:=blk_cells (stateL x b) 0 (w3.alloc (.cells (stateL ad0 zeroS).toArray 42)) [] (stateL ad0 zeroS) (Blk.new w3 42 (stateL ad0 zeroS).toArray) rfl rfl
  have hb3:Below w3.heap.size w3 ((w3.alloc (.cells (stateL ad0 zeroS).toArray 42)).setCells w3.heap.size 0 (stateL x b)) :=
   (((Below.refl w3.heap.size w3).alloc (Nat.le_refl _) (.cells (stateL ad0 zeroS).toArray 42)).trans ((grown_cells (g:=w3.heap.size) (stateL x b) 0 _).below (by simp) fun q e=>Nat.le_of_eq e.symm))
  generalize hw4:(World.setCells _ w3.heap.size 0 cs.toList)=w4
  have e9:(w3.alloc (.cells (stateL ad0 zeroS).toArray 42)).setCells w3.heap.size 0 (stateL x b)=w4:=by rw[← hw4,HCS.out];rfl
  rw[e9] at hblk hb3
  have hbk:Blk w4 w3.heap.size 42 (stateL x b).toArray:=by simpa using hblk
  clear hw4 e9 hblk HTH HCN HC1;have HB:=hid (below_tr hb2 hb3);have HER:=hid (her.below hb3);have HST:=hid hbk;have hrb:=HR.out.below hb3;clear hb2 her hbk HCS HR;have HR:=hid hrb;clear hrb;obtain⟨S0,hS0⟩:∃ S0,S0=w3.heap.size:=⟨_,rfl⟩;rw[← hS0] at HST ⊢;have HRD:=hid (hrd.below hb3);clear hrd;clear hS0 hb3
  have en:((mm:Int) != (mm:Int))=false:=by simp
  go_wp2_with fail
  clear en
  go_loopw [6,7] (fun nv iv wr=>∃ i:Nat,i≤mm∧iv=.int .i64 i∧nv=.int .i64 (heardP Ga.readOf ((linesB LL).take i) (es.take i)).length∧Below w4.heap.size w4 wr) (fun _ iv _=>mm - (intOf iv).toNat)
  case atStart=>exact⟨0,Nat.zero_le _,rfl,by simp[heardP],Below.refl _ _⟩
  case round =>
   obtain⟨i,hi,rfl,rfl,hbw⟩:=hrel;replace HB:=hdT HB hbw;replace HR:=hid (HR.out.below hbw);replace HER:=hid (HER.out.below hbw);replace HST:=hdB HST hbw;replace HRD:=hid (HRD.out.below hbw);have HBW:=hid hbw;clear hbw
   have hls:(linesB LL).length=mm:=by unfold linesB;rw[List.length_map,HLEN.out]
   obtain⟨H0,hH0⟩:∃ H0,H0=heardP Ga.readOf ((linesB LL).take i) (es.take i):=⟨_,rfl⟩
   by_cases hlt:i<mm
   · obtain⟨b0,o0,p,rfl,hp,c0⟩:=str_at HR.out hlt
     obtain⟨x0,hx⟩:∃ x0,es[i]?=some x0:=⟨_,List.getElem?_eq_getElem (by rw[HEL.out];exact hlt)⟩;have hps:=HRT.out.1 p (List.mem_of_getElem? hp);have htk:=heard_take Ga.readOf (l:=linesB LL) (es:=es) (j:=i) (s:=p.data.toList) (e:=x0) (by rw[HEL.out,hls]) (linesB_at hp) hx;have hpre:=heard_pre Ga.readOf (l:=linesB LL) (es:=es) (i+1) (by rw[HEL.out,hls]);rw[← HRR.out,htk] at hpre;rw[← hH0] at htk hpre ⊢
     have hH200:H0.length≤200:=by obtain⟨t,ht⟩:=hpre;have h9:=congrArg List.length ht;rw[List.length_append,List.length_append] at h9;omega
     have hi1:(i:Int)<(mm:Int):=by omega
     have hi0:(0:Int)≤(i:Int):=by omega
     obtain⟨b',m',hstep⟩:=HAT.out i p.data.toList (linesB_at hp);rw[hx] at hstep;have hstep:=Option.some.inj hstep;obtain⟨ge,fe,ye,hEA,_,hye,hce⟩:=HER.out.at_ hlt;rw[hx] at hye;obtain rfl:=Option.some.inj hye;have HPC:=hid (fun W=>parseR_c p W (by omega));have HX0:=hid hx;have HTK:=hid htk;have HPRE:=hid hpre;have HSTEP:=hid hstep;have HPS:=hid hps;clear hp hx htk hpre hstep hH0 hye hps
     go_wp2_with fail
     go_at_call 9;refine(HPC.out _).mono ?_;rintro e w7 ⟨hpr,hb9⟩;replace HB:=hdT HB hb9;replace HR:=hid (HR.out.below hb9);replace HER:=hid (HER.out.below hb9);replace HST:=hdB HST hb9;replace HRD:=hid (HRD.out.below hb9);replace HBW:=hdT HBW hb9;clear hb9 c0 HPC hce;obtain⟨ge',fe',ye',hEA',_,hye',hce⟩:=HER.out.at_ hlt;rw[hEA] at hEA';cases hEA';subst hEA
     have x1:w7.cell? ⟨ge,fe+i,none⟩=some (.int .i64 x0):=by
      have h9:es[i]?=some x0:=HX0.out;rw[hye'] at h9;obtain rfl:=Option.some.inj h9
      simpa using hce 0 _ rfl
     clear hye' hce
     rcases parR_hear hpr with ⟨t,q,lv,hpt,hq,rfl⟩ | ⟨hno,q,lv,tv,is,rfl,hqn⟩
     · have q1:=eql_yes hq
       have q2:(q.toList != [104,101,97,114])=false:=by rw[bne,q1];rfl
       have htl:=text_le hpt
       by_cases hz:x0=0
       · subst hz
         obtain⟨w9,hw9,hne0,hhl⟩:=heard_some Ga.readOf hpt HSTEP.out.symm;have htk:=HTK.out;have hpre:=HPRE.out;rw[if_pos rfl,hhl] at htk hpre
         have hsz:(⟨t.toArray⟩:ByteArray).size≤300:=by
          have h9:p.data.toList.length=p.size:=rfl
          have h8:(⟨t.toArray⟩:ByteArray).size=t.length:=by simp[ByteArray.size]
          have:=HPS.out;omega
         have HWI:=hid (fun W=>wireR_c (T:=⟨t.toArray⟩) hw9 (by omega) W);obtain⟨bs,hbs⟩:∃ bs,bs=w9.map UInt8.ofNat:=⟨_,rfl⟩
         have hbl:bs.length≤1000:=by
          have h9:=wire_len hw9
          have h8:(⟨t.toArray⟩:ByteArray).size=t.length:=by simp[ByteArray.size]
          rw[hbs,List.length_map];omega
         rw[← hbs] at HWI hne0 htk hpre;obtain⟨BS,hBS⟩:∃ BS:ByteArray,BS=⟨bs.toArray⟩:=⟨_,rfl⟩
         have hBl:BS.data.toList=bs:=by rw[hBS]
         have hBn:BS.size=bs.length:=by rw[hBS];simp[ByteArray.size]
         rw[show str bs=.string BS from by rw[hBS];rfl] at HWI;obtain⟨RL,hRL⟩:∃ RL,RL=Ga.readOf bs:=⟨_,rfl⟩;rw[← hRL] at hne0 htk hpre;have HT:=hid htk;have HP:=hid hpre;have HRL:=hid hRL;have HNE:=hid hne0;have HBSL:=hid hBl;clear hw9 hhl htk hpre hsz hbs hRL hne0 htl hpt hq hpr HTK HPRE HSTEP hBS hBl
         go_wp2_with fail
         go_at_call 10;refine((HWI.out _)).mono ?_;rintro e w8 ⟨rfl,hb9⟩;replace HB:=hdT HB hb9;replace HR:=hid (HR.out.below hb9);replace HER:=hid (HER.out.below hb9);replace HST:=hdB HST hb9;replace HRD:=hid (HRD.out.below hb9);replace HBW:=hdT HBW hb9;clear hb9 ;clear HWI q1 q2 x1;obtain⟨w9,cb,hcv,hr9,hb9,hc9⟩:=bytes_of BS w8;rw[HBSL.out] at hr9;rw[hBn] at hcv hr9 hc9;replace HB:=hdT HB hb9;replace HR:=hid (HR.out.below hb9);replace HER:=hid (HER.out.below hb9);replace HST:=hdB HST hb9;replace HRD:=hid (HRD.out.below hb9);replace HBW:=hdT HBW hb9;clear hb9;have HB9:=hid hr9;have HC9:=hid hc9
         go_wp2_with fail
         clear hcv;go_at_call 11;refine((Ga.Read_c HB9.out HC9.out (by omega))).mono ?_;rintro e wa ⟨A1,n1,d1,A9,n9,d9,rfl,hd1,hd9,hr1,hr0,hb9⟩;rw[← HRL.out] at hr1;clear hd1 hd9 hr0;have hn1:=hr1.len;replace HB:=hdT HB hb9;replace HR:=hid (HR.out.below hb9);replace HER:=hid (HER.out.below hb9);replace HST:=hdB HST hb9;replace HRD:=hid (HRD.out.below hb9);replace HBW:=hdT HBW hb9;replace HB9:=hid (HB9.out.below hb9);have HR1:=hid hr1;clear hb9 hr1;clear HB9 hr9 hc9
         have h1p:0<n1:=by have:=HNE.out;omega
         obtain⟨tl,htl⟩:=HP.out
         have hRl:R.length=H0.length+n1+tl.length:=by rw[htl,List.length_append,List.length_append];omega
         obtain⟨br,orr,hA,_,_⟩:=HRD.out.2 (by omega)
         have hmid:(R.drop H0.length).take n1=RL:=by rw[htl,List.append_assoc,List.drop_left,← hn1,List.take_left]
         have s14:=fun W=>midR (b:=br) (o:=orr) (len:=R.length) (cap:=x.rd.c) (lo:=H0.length) (hi:=H0.length+n1) (by omega) (by have:=HRC.out;omega) (by have:=HRC.out;omega) (i:=(H0.length:Int)) (j:=(H0.length:Int)+(n1:Int)) rfl (by omega) W;rw[Nat.add_sub_cancel_left] at s14;have hrd:=HRD.out;rw[hA] at hrd;have hrm:=rd_take (rd_drop hrd (j:=H0.length) (by omega)) (b:=n1) (by omega);rw[hmid] at hrm;have p21:=HST.out.cell 21;simp[stateL] at p21;rw[HRN.out,hA] at p21;have e0:((n1:Int) == 0)=false:=beq_eq_false_iff_ne.2 (by omega)
         have g1:¬(H0.length:Int)+(n1:Int)>(R.length:Int):=by omega
         have w14:IntKind.i64.wrap ((H0.length:Int)+(n1:Int))=(H0.length:Int)+(n1:Int):=wi (by omega);have HHT:=hid (show(heardP Ga.readOf ((linesB LL).take (i+1)) (es.take (i+1))).length=H0.length+n1 from by rw[HT.out,List.length_append,hn1]);have HRDC:=hid (readings_c (c:=d1) (c':=x.rd.c - H0.length) HR1.out hrm (by omega));clear htl hRl hA hmid hrd hrm hn1 h1p HP HT
         go_wp2_with fail
         clear s14 p21;go_at_call 12;refine(HRDC.out).mono ?_;rintro e wb ⟨rfl,hb9⟩;replace HB:=hdT HB hb9;replace HR:=hid (HR.out.below hb9);replace HER:=hid (HER.out.below hb9);replace HST:=hdB HST hb9;replace HRD:=hid (HRD.out.below hb9);replace HBW:=hdT HBW hb9;replace HR1:=hid (HR1.out.below hb9);clear hb9 
         go_wp2_with fail
         go_roundw
         case rel=>exact⟨i+1,by omega,by go_num,by rw[HHT.out];go_num,HBW.out⟩
         case measure=>simp[intOf]<;>omega
       · have htk:=HTK.out
         rw[if_neg hz,List.append_nil] at htk;have HT:=hid htk
         have e0:(x0 != 0)=true:=by simpa using hz
         have e1:(x0 == 0)=false:=by simpa using hz
         clear htk HTK hz hpt hq hpr htl HSTEP
         go_wp2_with fail
         go_roundw
         case rel=>exact⟨i+1,by omega,by go_num,by rw[HT.out],HBW.out⟩
         case measure=>simp[intOf]<;>omega
     · have htk:=HTK.out
       rw[hno] at htk
       have htk:heardP Ga.readOf ((linesB LL).take (i+1)) (es.take (i+1))=H0:=by rw[htk];split<;>simp
       have HT:=hid htk;clear htk HTK hno hpr HSTEP
       cases is with
       | false =>
        clear hqn
        go_wp2_with fail
        go_roundw
        case rel=>exact⟨i+1,by omega,by go_num,by rw[HT.out],HBW.out⟩
        case measure=>simp[intOf]<;>omega
       | true =>
        have q1:=eql_no (hqn rfl)
        have q2:(q.toList != [104,101,97,114])=true:=by rw[bne,q1];rfl
        clear hqn
        go_wp2_with fail
        go_roundw
        case rel=>exact⟨i+1,by omega,by go_num,by rw[HT.out],HBW.out⟩
        case measure=>simp[intOf]<;>omega
   · obtain rfl:i=mm:=by omega
     have hi1:¬(i:Int)<(i:Int):=by omega
     have hI:H0=R:=by
      rw[hH0,HRR.out,List.take_of_length_le (by rw[hls];exact Nat.le_refl _),List.take_of_length_le (by rw[HEL.out];exact Nat.le_refl _)]
     rw[← hH0,hI];have p21:=HST.out.cell 21;simp[stateL] at p21;rw[HRN.out] at p21
     have en:((R.length:Int) != (R.length:Int))=false:=by simp
     clear hI hH0 hls hlt hi;obtain⟨K,hK⟩:∃ K,K=min 9 R.length:=⟨_,rfl⟩
     have hK9:K≤9:=by omega
     have hKR:K≤R.length:=by omega
     have hKi:min (9:Int) (R.length:Int)=(K:Int):=by omega
     have sK:=fun W=>cutR (A:=x.rd.A) (n:=R.length) (c:=x.rd.c) (k:=K) (by have:=HRC.out;omega) (i:=(K:Int)) rfl W;have hrf:=rd_take HRD.out (b:=K) hKR;have HRF:=hid hrf;have hfv:∀ r∈R.take K,Ga.validB r=true:=fun r hr=>heard_valid _ _ r (by rw[← HRR.out];exact List.mem_of_mem_take hr);have HFV:=hid hfv;have HKM:=hid hK;clear hrf hfv hK
     by_cases h0:K=0
     · subst h0
       have hR0:R.length=0:=by have:=HKM.out;omega
       go_upto_region 20 with fail
       (try rw[show(min (9:Int) 0).toNat=0 from rfl]);clear sK p21 hKi
       go_wp2_with fail
       go_at_call 6;refine((wakes_ok _ (HL.out.below HB.out))).mono ?_;rintro e v2 ⟨rfl,hb9⟩;replace HB:=hdT HB hb9;clear hb9 
       go_wp2_with fail
       (try rw[Exit.noGoto_ret])
       go_ret
       exact⟨rfl,HB.out⟩
     · have e0:((K:Int) == 0)=false:=beq_eq_false_iff_ne.2 (by omega)
       go_upto_region 22 with fail
       (try rw[← HKM.out]);clear sK p21 e0 en;obtain⟨i1,hi1',hz10,hz11,hz12⟩:=info_parts Ga.infoR;have HI:=hid hi1';have HZ0:=hid hz10;have HZ1:=hid hz11;have HZ2:=hid hz12;clear hi1' hz10 hz11 hz12 hi1
       have hfl:(R.take K).length=K:=by rw[List.length_take];omega
       obtain⟨FW,hFW⟩:∃ FW,FW=R.take K:=⟨_,rfl⟩;rw[← hFW] at hfl HRF HFV;have HFL:=hid hfl;clear hfl hFW HRD HRR HBW HER;have hal:=(Below.refl wr.heap.size wr).alloc (Nat.le_refl _) (.cells #[] 86)
       go_wp2_with (at_builtin;go_must (refine wpList_append_rd rfl _ _ 40 rfl wr.heap.size 86 i1 _ 4 32 Tryz.underlying40 HI.out HZ0.out HZ1.out HZ2.out rfl (by decide) _ _ _ rfl (own_empty wr 86 4) encR_len oneRdg x.rd.A K x.rd.c FW rfl (HRF.out.below hal) (by unfold maxLen;omega) (by omega) (by simp) ?_;intro v6 w6 hown6 hgr6))
       have hown6:w6.ownsRow wr.heap.size 86 4 v6 K (FW.flatMap encR):=by simpa using hown6
       obtain⟨A6,c6,rfl,hc6⟩:=own_form hown6;have hb6:=hal.trans (Fr.of_grown hgr6 (E:=fun q=>wr.heap.size≤q) (fun q e _=>by first | (simp[Value.ownBlock] at e;omega) | (cases e;exact Nat.le_refl _)) |>.below (by simp) fun q hq=>hq);have hr6:=Rd.of_own encR_len hown6 HFL.out;clear hown6 hgr6 hal;replace HB:=hdT HB hb6;replace HRF:=hid (HRF.out.below hb6);clear hb6;have hez:Ga.errR FW=0:=Ga.errR_zero.2 ⟨by rw[HFL.out];omega,Ga.allB_iff.2 fun j y hy=>HFV.out y (List.mem_of_getElem? hy)⟩;go_at_call 13;refine(Ga.Write_c hr6 (by unfold maxLen;omega) hc6).mono ?_;rintro e w7 ⟨⟨A7,m7,c7,rfl,hc7,_,hown7⟩,hb9⟩;obtain⟨hm7,hown7⟩:=hown7 hez;rw[hez];have hr7:=Rd.of_own encB_len hown7 (by rw[Ga.bytesOf_len,HFL.out,hm7]);have HR7:=hid hr7;have HM7:=hid hm7;clear hown7 hr7 hr6 hez hc6 hc7 hm7;replace HB:=hdT HB hb9;replace HRF:=hid (HRF.out.below hb9);clear hb9
       go_wp2_with fail
       obtain⟨hx,hhx⟩:∃ hx,hx=hexL (Ga.bytesOf FW):=⟨_,rfl⟩
       have hxl:hx.length=32 * K:=by rw[hhx,hexL_len,Ga.bytesOf_len,HFL.out];omega
       obtain⟨P,hP⟩:∃ P:ByteArray,P=⟨([104,101,97,114,32]++hx).toArray⟩:=⟨_,rfl⟩
       have hPs:P.size≤300:=by rw[hP];simp[ByteArray.size];omega
       have hck2:checkL [P]=0:=by unfold checkL;rw[if_neg (by simp),if_pos (fun q hq=>by rw[show q=P from by simpa using hq];exact hPs)]
       have hrun:(runP Ga.readOf (-1) 0 begS 0 (linesB [P])).1.rds=FW:=by
        have h9:linesB [P]=[[104,101,97,114,32]++hexL (Ga.bytesOf FW)]:=by rw[hP,hhx];rfl
        rw[h9];exact hear_run (Ga.read_bytes (Ga.allB_iff.2 fun j y hy=>HFV.out y (List.mem_of_getElem? hy))).1 (by rw[HFL.out];exact h0) (by rw[HFL.out];omega)
       have a1:∀ W,(binOp .add 9 (.string ⟨#[104,101,97,114,32]⟩) (str hx)).run Tryz.prog W=.ok (.string P) W:=fun W=>by
        have h9:=add_lists ⟨#[104,101,97,114,32]⟩ ⟨hx.toArray⟩ ([104,101,97,114,32]++hx) rfl (by simp;omega) W;rw[hP];exact h9
       have HHX:=hid hhx;have HCK2:=hid hck2;have HRUN:=hid hrun;clear hhx hP hck2 hrun hPs;go_at_call 14;refine((hex_c HR7.out (by have:=HM7.out;omega))).mono ?_;rintro e w8 ⟨rfl,hb9⟩;rw[← HHX.out];replace HB:=hdT HB hb9;replace HRF:=hid (HRF.out.below hb9);replace HR7:=hid (HR7.out.below hb9);clear hb9 ;clear HR7;have hal8:=(Below.refl w8.heap.size w8).alloc (Nat.le_refl _) (.cells #[.string P] 9);have hr8:=Rd.of_blkE encStr_len (Blk.new w8 9 #[.string P]) (l:=[P]) rfl rfl;have HR8:=hid hr8;have HAL8:=hid hal8;clear hr8 hal8
       go_wp2_with fail
       clear a1;go_at_call 7;refine(Run_c HR8.out (HL.out.below (below_tr HB.out HAL8.out))).mono ?_;rintro e w9 ⟨s2,x2,b2,m2,ve2,es2,rfl,hrows2,hown2,hem2,hok2,_,hb9⟩;obtain⟨hbb2,_⟩:=hok2 HCK2.out;rw[HCK2.out];have hrd2:=hrows2.rd.rd;rw[hbb2,HRUN.out] at hrd2
       have hxn:x2.rd.n=K:=by rw[← HFL.out];exact hrd2.len.symm
       rw[hxn] at hrd2;have HXN:=hid hxn;have HRD2:=hid hrd2;have hbz:=below_tr HAL8.out hb9;clear hrows2 hown2 hem2 hok2 hbb2 hrd2 hxn HR8 HAL8 hb9 HRUN;replace HB:=hdT HB hbz;replace HRF:=hid (HRF.out.below hbz);clear hbz;have HTH:=hid (show World.there (w9.alloc (.cells (stateL ad0 zeroS).toArray 42)) w9.heap.size 0 22 from there_of_blk (cs:=stateL ad0 zeroS) (Blk.new w9 42 (stateL ad0 zeroS).toArray));obtain⟨cs2,hcs⟩:∃ cs2,cs2=(stateL x2 b2).toArray:=⟨_,rfl⟩
       have hcn:cs2.size=22:=by rw[hcs];rfl
       have hc1:cs2.all (·.oneCell')=true:=by rw[hcs];exact stateL_one x2 b2
       rw[← hcs];have HCS:=hid hcs;have HCN:=hid hcn;have HC1:=hid hc1;clear hcs hcn hc1
       go_upto_region 24 with (refine wpList_store_mid rfl 42 (.tmp 20) (.tmp 149) rfl w9.heap.size 0 cs2 rfl rfl (by rw[HCN.out];exact HTH.out) (by rw[HCN.out];exact stateN) HC1.out ?_)
       have hblk:=blk_cells (stateL x2 b2) 0 (w9.alloc (.cells (stateL ad0 zeroS).toArray 42)) [] (stateL ad0 zeroS) (Blk.new w9 42 (stateL ad0 zeroS).toArray) rfl rfl
       have hb3:Below w9.heap.size w9 ((w9.alloc (.cells (stateL ad0 zeroS).toArray 42)).setCells w9.heap.size 0 (stateL x2 b2)) :=
        (((Below.refl w9.heap.size w9).alloc (Nat.le_refl _) (.cells (stateL ad0 zeroS).toArray 42)).trans ((grown_cells (g:=w9.heap.size) (stateL x2 b2) 0 _).below (by simp) fun q e=>Nat.le_of_eq e.symm))
       generalize hw4:(World.setCells _ w9.heap.size 0 cs2.toList)=wa
       have e9:(w9.alloc (.cells (stateL ad0 zeroS).toArray 42)).setCells w9.heap.size 0 (stateL x2 b2)=wa:=by rw[← hw4,HCS.out];rfl
       rw[e9] at hblk hb3
       have hbk:Blk wa w9.heap.size 42 (stateL x2 b2).toArray:=by simpa using hblk
       clear hw4 e9 hblk HTH HCN HC1;have HST2:=hid hbk;have hrd2:=HRD2.out.below hb3;clear HRD2;have HRD2:=hid hrd2;replace HB:=hdT HB hb3;replace HRF:=hid (HRF.out.below hb3);clear hbk HCS hb3 hrd2;have HRDC:=hid (readings_c (c:=x2.rd.c) (c':=x.rd.c) HRD2.out HRF.out (by omega));have p21:=HST2.out.cell 21;simp[stateL] at p21;rw[HXN.out] at p21
       go_wp2_with fail
       go_at_call 12;refine(HRDC.out).mono ?_;rintro e wb ⟨rfl,hb9⟩;replace HB:=hdT HB hb9;replace HRF:=hid (HRF.out.below hb9);clear hb9 ;clear p21 HRDC HRD2 HST2
       go_wp2_with fail
       go_at_call 6;refine((wakes_ok _ (HL.out.below HB.out))).mono ?_;rintro e v2 ⟨rfl,hb9⟩;replace HB:=hdT HB hb9;clear hb9 
       go_wp2_with fail
       (try rw[Exit.noGoto_ret])
       go_ret
       exact⟨rfl,HB.out⟩
end Go.Proofs.YtkhcliibilkefaaGreatDoor
