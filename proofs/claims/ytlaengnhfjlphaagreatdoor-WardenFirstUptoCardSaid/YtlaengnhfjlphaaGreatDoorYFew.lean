/- CONTRACT of ref.many: how many numbers a word has. -/
import Derived.Test.YtlaengnhfjlphaaGreatDoorYRSplit
import Derived.BigQuiet
set_option linter.unusedVariables false
set_option linter.unusedSimpArgs false
set_option maxRecDepth 100000
set_option maxHeartbeats 8000000
namespace Go.Proofs.YtlaengnhfjlphaaGreatDoor
open Lib (hid)
open Go.RowKit Go.Proofs
attribute [local go_sem ↓] Go.wp_at_zero Go.wp_at_succ
def manyP (l:List UInt8):Int:=match wordOf l with
 | some wd=>(wd.many:Int)
 | none=>-1
theorem eql_no {p:ByteArray}{l:List UInt8}(h:¬ p.data.toList=l):(p.toList == l)=false:=by rw[ByteArray.toList_eq];exact beq_eq_false_iff_ne.2 h
theorem eql_yes {p:ByteArray}{l:List UInt8}(h:p.data.toList=l):(p.toList == l)=true:=by rw[ByteArray.toList_eq];exact beq_iff_eq.2 h
theorem manyR_c (p:ByteArray)(w:World) :
 Calls Tryz.prog 43 #[.string p] w fun e w'=>e=.returned (.int .i64 (manyP p.data.toList))∧Below w.heap.size w w':=by
 refine(?_:Calls Tryz.prog 43 #[.string p] w fun e w'=>e=.returned (.int .i64 (manyP p.data.toList))∧w'=w).mono fun e w' h=>⟨h.1,by rw[h.2];exact Below.refl _ _⟩
 by_cases h0:p.data.toList=[104,101,97,114]
 · have q0:=eql_yes h0
   have HM:=hid (show manyP p.data.toList=0 from by rw[h0];rfl);clear h0
   go_enter Tryz.func43,Tryz.ntmps43
   go_wp2_with fail
   go_ret
   exact⟨by rw[HM.out];rfl,by trivial⟩
 have q0:=eql_no h0
 by_cases h1:p.data.toList=[108,101,97,115,116]
 · have q1:=eql_yes h1
   have HM:=hid (show manyP p.data.toList=1 from by rw[h1];rfl);clear h1
   go_enter Tryz.func43,Tryz.ntmps43
   go_wp2_with fail
   go_ret
   exact⟨by rw[HM.out];rfl,by trivial⟩
 have q1:=eql_no h1
 by_cases h2:p.data.toList=[98,117,121]
 · have q2:=eql_yes h2
   have HM:=hid (show manyP p.data.toList=1 from by rw[h2];rfl);clear h2
   go_enter Tryz.func43,Tryz.ntmps43
   go_wp2_with fail
   go_ret
   exact⟨by rw[HM.out];rfl,by trivial⟩
 have q2:=eql_no h2
 by_cases h3:p.data.toList=[108,105,110,107]
 · have q3:=eql_yes h3
   have HM:=hid (show manyP p.data.toList=2 from by rw[h3];rfl);clear h3
   go_enter Tryz.func43,Tryz.ntmps43
   go_wp2_with fail
   go_ret
   exact⟨by rw[HM.out];rfl,by trivial⟩
 have q3:=eql_no h3
 by_cases h4:p.data.toList=[115,108,105,100,101]
 · have q4:=eql_yes h4
   have HM:=hid (show manyP p.data.toList=2 from by rw[h4];rfl);clear h4
   go_enter Tryz.func43,Tryz.ntmps43
   go_wp2_with fail
   go_ret
   exact⟨by rw[HM.out];rfl,by trivial⟩
 have q4:=eql_no h4
 by_cases h5:p.data.toList=[119,97,121]
 · have q5:=eql_yes h5
   have HM:=hid (show manyP p.data.toList=2 from by rw[h5];rfl);clear h5
   go_enter Tryz.func43,Tryz.ntmps43
   go_wp2_with fail
   go_ret
   exact⟨by rw[HM.out];rfl,by trivial⟩
 have q5:=eql_no h5
 by_cases h6:p.data.toList=[97,108,97,114,109]
 · have q6:=eql_yes h6
   have HM:=hid (show manyP p.data.toList=3 from by rw[h6];rfl);clear h6
   go_enter Tryz.func43,Tryz.ntmps43
   go_wp2_with fail
   go_ret
   exact⟨by rw[HM.out];rfl,by trivial⟩
 have q6:=eql_no h6
 by_cases h7:p.data.toList=[119,101,97,116,104,101,114]
 · have q7:=eql_yes h7
   have HM:=hid (show manyP p.data.toList=3 from by rw[h7];rfl);clear h7
   go_enter Tryz.func43,Tryz.ntmps43
   go_wp2_with fail
   go_ret
   exact⟨by rw[HM.out];rfl,by trivial⟩
 have q7:=eql_no h7
 by_cases h8:p.data.toList=[115,116,101,112,115]
 · have q8:=eql_yes h8
   have HM:=hid (show manyP p.data.toList=3 from by rw[h8];rfl);clear h8
   go_enter Tryz.func43,Tryz.ntmps43
   go_wp2_with fail
   go_ret
   exact⟨by rw[HM.out];rfl,by trivial⟩
 have q8:=eql_no h8
 by_cases h9:p.data.toList=[101,118,105,100,101,110,99,101]
 · have q9:=eql_yes h9
   have HM:=hid (show manyP p.data.toList=3 from by rw[h9];rfl);clear h9
   go_enter Tryz.func43,Tryz.ntmps43
   go_wp2_with fail
   go_ret
   exact⟨by rw[HM.out];rfl,by trivial⟩
 have q9:=eql_no h9
 by_cases h10:p.data.toList=[112,97,114,99,101,108]
 · have q10:=eql_yes h10
   have HM:=hid (show manyP p.data.toList=4 from by rw[h10];rfl);clear h10
   go_enter Tryz.func43,Tryz.ntmps43
   go_wp2_with fail
   go_ret
   exact⟨by rw[HM.out];rfl,by trivial⟩
 have q10:=eql_no h10
 by_cases h11:p.data.toList=[103,114,111,117,110,100]
 · have q11:=eql_yes h11
   have HM:=hid (show manyP p.data.toList=5 from by rw[h11];rfl);clear h11
   go_enter Tryz.func43,Tryz.ntmps43
   go_wp2_with fail
   go_ret
   exact⟨by rw[HM.out];rfl,by trivial⟩
 have q11:=eql_no h11
 by_cases h12:p.data.toList=[99,101,108,108]
 · have q12:=eql_yes h12
   have HM:=hid (show manyP p.data.toList=7 from by rw[h12];rfl);clear h12
   go_enter Tryz.func43,Tryz.ntmps43
   go_wp2_with fail
   go_ret
   exact⟨by rw[HM.out];rfl,by trivial⟩
 have q12:=eql_no h12
 by_cases h13:p.data.toList=[98,101,100]
 · have q13:=eql_yes h13
   have HM:=hid (show manyP p.data.toList=8 from by rw[h13];rfl);clear h13
   go_enter Tryz.func43,Tryz.ntmps43
   go_wp2_with fail
   go_ret
   exact⟨by rw[HM.out];rfl,by trivial⟩
 have q13:=eql_no h13
 have hn:wordOf p.data.toList=none:=by
  unfold wordOf;rw[List.find?_eq_none];intro wd _
  have hne:¬ wd.name=p.data.toList:=by
   cases wd <;> intro e <;> first
    | exact h0 e.symm
    | exact h1 e.symm
    | exact h2 e.symm
    | exact h3 e.symm
    | exact h4 e.symm
    | exact h5 e.symm
    | exact h6 e.symm
    | exact h7 e.symm
    | exact h8 e.symm
    | exact h9 e.symm
    | exact h10 e.symm
    | exact h11 e.symm
    | exact h12 e.symm
    | exact h13 e.symm
  simpa using hne
 have HM:=hid (show manyP p.data.toList=-1 from by unfold manyP;rw[hn]);clear hn h0 h1 h2 h3 h4 h5 h6 h7 h8 h9 h10 h11 h12 h13
 go_enter Tryz.func43,Tryz.ntmps43
 go_wp2_with fail
 go_ret
 exact⟨by rw[HM.out];rfl,by trivial⟩
def wholeV (l:List UInt8):Int × Bool:=match wholeP l with
 | some x=>(x,true)
 | none=>(0,false)
theorem tail_str (s:ByteArray)(h:1≤s.size)(W:World):(Instr.slice 9 (.string s) (some (.int .i64 1)) none none).run Tryz.prog W=.ok (.string ⟨s.data.toList.tail.toArray⟩) W:=by
 rw[run_slice_string_l _ _ _ Tryz.underlying9 _ _ (by omega) (by omega)]
 congr 2
 apply ByteArray.ext
 apply Array.ext'
 have h9:s.data.toList.length=s.size:=rfl;simp[List.extract_eq_take_drop];rw[List.take_of_length_le (by rw[List.length_tail];omega)]
theorem idx0 (s:ByteArray){x:UInt8}(h:s.data.toList[0]?=some x)(W:World):(Instr.index 9 (.string s) (.int .i64 0)).run Tryz.prog W=.ok (.int .u8 (x.toNat:Int)) W:=idx_str s h W
theorem whole_parts {l d:List UInt8}{m:Bool}(hm:m=decide (l.head?=some 45))(hd:d=if m then l.drop 1 else l) :
 (d=[]∨9 < d.length∨(d.head?=some 48∧(1 < d.length∨m=true))→wholeV l=(0,false)) ∧
 (¬(d=[]∨9 < d.length∨(d.head?=some 48∧(1 < d.length∨m=true)))→(d.all isDig=true→wholeV l=(if m then -(valP d:Int) else (valP d:Int),true))∧(¬ d.all isDig=true→wholeV l=(0,false))):=by
 have e:wholeP l=if d=[]∨9 < d.length∨(d.head?=some 48∧(1 < d.length∨m=true)) then none else if d.all isDig then some (if m then -(valP d:Int) else (valP d:Int)) else none:=by
  subst hm hd
  rfl
 unfold wholeV;refine⟨fun h=>by rw[e,if_pos h],fun h=>⟨fun h2=>by rw[e,if_neg h,if_pos h2],fun h2=>by rw[e,if_neg h,if_neg h2]⟩⟩
theorem wholeR_c (s:ByteArray)(w:World) :
 Calls Tryz.prog 44 #[.string s] w fun e w'=>e=.returned (.tuple #[.int .i64 (wholeV s.data.toList).1,.bool (wholeV s.data.toList).2])∧Below w.heap.size w w':=by
 refine(?_:Calls Tryz.prog 44 #[.string s] w fun e w'=>e=.returned (.tuple #[.int .i64 (wholeV s.data.toList).1,.bool (wholeV s.data.toList).2])∧w'=w).mono fun e w' h=>⟨h.1,by rw[h.2];exact Below.refl _ _⟩;have hsl:s.data.toList.length=s.size:=rfl;obtain⟨R,hR⟩:∃ R,R=wholeV s.data.toList:=⟨_,rfl⟩;rw[← hR];obtain⟨m,hm⟩:∃ m,m=decide (s.data.toList.head?=some 45):=⟨_,rfl⟩
 obtain⟨D,hD⟩:∃ D:ByteArray,D=if m then ⟨s.data.toList.tail.toArray⟩ else s:=⟨_,rfl⟩
 obtain⟨d,hd⟩:∃ d,d=D.data.toList:=⟨_,rfl⟩
 have hd2:d=if m then s.data.toList.drop 1 else s.data.toList:=by rw[hd,hD];split <;> simp
 have hdl:d.length=D.size:=by rw[hd];rfl
 have hW:=whole_parts hm hd2;rw[← hR] at hW;have HW:=hid hW;have HDE:=hid hd;have HDL:=hid hdl;clear hW hR hd hdl hd2
 by_cases h45:s.data.toList.head?=some 45
 focus
  have hmt:m=true:=by rw[hm];exact decide_eq_true h45
  have hD2:(⟨s.data.toList.tail.toArray⟩:ByteArray)=D:=by rw[hD,hmt];rfl
  have HM:=hid hmt
  have h0:s.data.toList[0]?=some 45:=by rw[← List.head?_eq_getElem?];exact h45
  have hs1:1≤s.size:=by have:=(List.getElem?_eq_some_iff.1 h0).1;omega
  have hq:(s.size:Int) > 0:=by omega
  have q0:=idx0 s h0;have s1:=tail_str s hs1;have e45:((45:UInt8).toNat:Int)=45:=rfl;rw[e45] at q0;have HDD:=hid hD2;clear h0 e45 h45 hsl hm hmt hD hD2
  go_enter Tryz.func44,Tryz.ntmps44
  go_upto_region 5 with fail
  rw[HDD.out];clear hs1 hq q0 s1 HDD
 rotate_left
 have hmf:m=false:=by rw[hm];exact decide_eq_false h45
 obtain rfl:D=s:=by rw[hD,hmf];rfl
 have HM:=hid hmf
 by_cases h0:D.size=0
 focus
  have hq:¬(D.size:Int) > 0:=by omega
  clear h45 hsl hm h0 hmf hD
  go_enter Tryz.func44,Tryz.ntmps44
  go_upto_region 5 with fail
  clear hq
 rotate_left
 focus
  obtain⟨x,hx⟩:∃ x,D.data.toList[0]?=some x:=⟨_,List.getElem?_eq_getElem (by omega)⟩
  have hq:(D.size:Int) > 0:=by omega
  have q0:=idx0 D hx;have hne:x≠45:=fun e=>h45 (by rw[List.head?_eq_getElem?,hx,e]);have hxi:(x.toNat:Int)≠45:=fun e=>hne (UInt8.toNat_inj.1 (by have h9:(45:UInt8).toNat=45:=rfl;omega))
  have e1:((x.toNat:Int) == 45)=false:=by simpa using hxi
  clear h45 hsl hm h0 hx hne hxi hmf hD
  go_enter Tryz.func44,Tryz.ntmps44
  go_upto_region 5 with fail
  clear hq q0 e1
 all_goals
  by_cases h0:D.size=0
  · have hz:((D.size:Int) == 0)=true:=beq_iff_eq.2 (by omega)
    have HR:=hid (HW.out.1 (.inl (List.length_eq_zero_iff.1 (by rw[HDL.out];exact h0))));clear h0
    go_wp2_with fail
    go_ret2
    exact⟨by rw[HR.out];rfl,by trivial⟩
  have hz:((D.size:Int) == 0)=false:=beq_eq_false_iff_ne.2 (by omega)
  by_cases h9:9 < D.size
  · have h9i:(D.size:Int) > 9:=by omega
    have HR:=hid (HW.out.1 (.inr (.inl (by rw[HDL.out];exact h9))));clear h9 h0
    go_wp2_with fail
    go_ret2
    exact⟨by rw[HR.out];rfl,by trivial⟩
  have h9i:¬(D.size:Int) > 9:=by omega
  obtain⟨x,hx⟩:∃ x,D.data.toList[0]?=some x:=⟨_,List.getElem?_eq_getElem (by have h8:D.data.toList.length=D.size:=rfl;omega)⟩;have q0:=idx0 D hx
  have hdx:d.head?=some x:=by rw[HDE.out,List.head?_eq_getElem?];exact hx
  have hdn:d≠[]:=fun e=>by rw[e] at hdx;cases hdx
  by_cases hbad:x=48∧(1 < D.size∨m=true)
  · obtain⟨h48,hb1⟩:=hbad
    have HR:=hid (HW.out.1 (.inr (.inr ⟨by rw[hdx,h48],by rw[HDL.out];exact hb1⟩)));subst h48;have e48:((48:UInt8).toNat:Int)=48:=rfl;rw[e48] at q0
    by_cases h1:1 < D.size
    · have h1i:(D.size:Int) > 1:=by omega
      clear hb1 hx hdx hdn h1 h0 h9
      go_wp2_with fail
      go_ret2
      exact⟨by rw[HR.out];rfl,by trivial⟩
    · have h1i:¬(D.size:Int) > 1:=by omega
      have hmt:=hb1.resolve_left h1
      first
       | (exfalso;have h8:=HM.out;rw[hmt] at h8;cases h8;done)
       | (clear hb1 hx hdx hdn h1 h0 h9 hmt;(go_wp2_with (fail));go_ret2;exact⟨by rw[HR.out];rfl,by trivial⟩)
  have hok:=HW.out.2 (by
   rintro(h8 | h8 | ⟨h8,h7⟩)
   · exact hdn h8
   · rw[HDL.out] at h8;omega
   · rw[hdx] at h8
     exact hbad ⟨Option.some.inj h8,by rw[← HDL.out];exact h7⟩)
  have HOK:=hid hok
  have hd9:D.size≤9:=by omega
  by_cases h48:x=48
  focus
   subst h48;have e48:((48:UInt8).toNat:Int)=48:=rfl;rw[e48] at q0;have h1:¬ 1 < D.size:=fun h8=>hbad ⟨rfl,.inl h8⟩
   have h1i:¬(D.size:Int) > 1:=by omega
   have hmf:¬ m=true:=fun h8=>hbad ⟨rfl,.inr h8⟩
   first
    | (exfalso;exact hmf HM.out;done)
    | (clear hbad hx hdx hdn hok h0 h9 h1 hmf e48;(go_upto_region 7 with (fail));clear h1i q0 hz h9i)
  rotate_left
  focus
   have hxi:(x.toNat:Int)≠48:=fun e=>h48 (UInt8.toNat_inj.1 (by have h9:(48:UInt8).toNat=48:=rfl;omega))
   have e1:((x.toNat:Int) == 48)=false:=by simpa using hxi
   clear hbad hx hdx hdn h48 hok h0 h9 hxi
   go_upto_region 7 with fail
   clear e1 q0 hz h9i
  all_goals
   go_wp2_with fail
   go_loopw [6,7] (fun nv iv wr=>∃ j:Nat,j≤D.size∧iv=.int .i64 j∧nv=.int .i64 (valP (d.take j):Nat)∧(d.take j).all isDig=true∧wr=w) (fun _ iv _=>D.size - (intOf iv).toNat)
   case atStart=>exact⟨0,Nat.zero_le _,rfl,rfl,rfl,rfl⟩
   case round =>
    obtain⟨j,hj,rfl,rfl,hall,rfl⟩:=hrel
    have hvb:valP (d.take j) < 1000000000:=by
     have h1:=val_lt _ _ rfl hall
     have h2:(d.take j).length≤9:=by rw[List.length_take];omega
     exact Nat.lt_of_lt_of_le h1 (Nat.pow_le_pow_right (by omega) h2)
    have HALL:=hid hall;clear hall;obtain⟨N,hN⟩:∃ N,N=valP (d.take j):=⟨_,rfl⟩;rw[← hN] at hvb ⊢
    by_cases hlt:j < D.size
    · obtain⟨y,hy⟩:∃ y,D.data.toList[j]?=some y:=⟨_,List.getElem?_eq_getElem (by have h8:D.data.toList.length=D.size:=rfl;omega)⟩
      have q1:=idx_str D hy;have hy8:=y.toNat_lt
      have hi1:(j:Int) < (D.size:Int):=by omega
      have hsn:d.take (j+1)=d.take j++[y]:=by rw[List.take_add_one,HDE.out,hy];rfl
      by_cases hdg:isDig y=true
      · have h57:48≤y.toNat∧y.toNat≤57:=by simpa[isDig] using hdg
        have g1:¬(y.toNat:Int) < 48:=by omega
        have g2:¬(y.toNat:Int) > 57:=by omega
        have u1:IntKind.u8.wrap ((y.toNat:Int) - 48)=(y.toNat:Int) - 48:=wu (by omega)
        have hst:((valP (d.take (j+1)):Nat):Int)=10 * (N:Int)+((y.toNat:Int) - 48):=by rw[hsn,valP_snoc,← hN];omega
        have hal:(d.take (j+1)).all isDig=true:=by rw[hsn,List.all_append,HALL.out];simpa using hdg
        have w1:IntKind.i64.wrap (10 * (N:Int))=10 * (N:Int):=wi (by omega);have w2:IntKind.i64.wrap (10 * (N:Int)+((y.toNat:Int) - 48))=10 * (N:Int)+((y.toNat:Int) - 48):=wi (by omega);have w3:IntKind.i64.wrap ((y.toNat:Int) - 48)=(y.toNat:Int) - 48:=wi (by omega);have HST:=hid hst;have HAL:=hid hal;clear hst hal hdg hsn hy hN
        go_wp2_with fail
        go_roundw
        case rel=>exact⟨j+1,by omega,by go_num,by rw[HST.out],HAL.out,by trivial⟩
        case measure=>simp[intOf] <;> omega
      · have HR:=hid (HOK.out.2 fun h8=>hdg (List.all_eq_true.1 h8 y (by rw[HDE.out];exact List.mem_of_getElem? hy)))
        have hnd:¬(48≤y.toNat∧y.toNat≤57):=fun h8=>hdg (by simpa[isDig] using h8);clear hdg hsn hy hN
        by_cases g1:(y.toNat:Int) < 48
        · go_wp2_with fail
          go_ret2
          exact⟨by rw[HR.out];rfl,by trivial⟩
        · have g2:(y.toNat:Int) > 57:=by omega
          go_wp2_with fail
          go_ret2
          exact⟨by rw[HR.out];rfl,by trivial⟩
    · have hi1:¬(j:Int) < (D.size:Int):=by omega
      have hta:d.take j=d:=List.take_of_length_le (by rw[HDL.out];omega);rw[hta] at hN;have hal:=HALL.out;rw[hta] at hal;have HR:=hid (HOK.out.1 hal);rw[← hN] at HR;have w1:IntKind.i64.wrap (-(N:Int))=-(N:Int):=wi (by omega);clear hal hta hN hlt hj
      go_wp2_with fail
      go_ret2
      exact⟨by first | (rw[HR.out,if_pos HM.out];rfl) | (rw[HR.out,if_neg (by rw[HM.out];decide)];rfl),by trivial⟩
theorem results_tmp4 {fn:Func}{t u v x:Tmp}(h:fn.results=#[.tmp t,.tmp u,.tmp v,.tmp x])(tmps:Array Value)(P:Program)(w:World) :
 (results fn tmps).run P w=.ok (.tuple #[tmps.getD t undef,tmps.getD u undef,tmps.getD v undef,tmps.getD x undef]) w:=by
 simp[results,h]
def ParR (w':World)(S:List UInt8)(e:Ending):Prop:=match parseP S with
 | .bad=>e=.returned (.tuple #[str [],.slice none 0 0,str [],.bool false])
 | .nums wd l=>∃ A c,e=.returned (.tuple #[str wd.name,.slice A l.length c,str [],.bool true])∧Rd enc1 1 w' A l.length l
 | .text t=>e=.returned (.tuple #[str (Wd.name .hear),.slice none 0 0,str t,.bool true])
theorem parR_bad {w':World}{S:List UInt8}{e:Ending}(h:parseP S=.bad)(he:e=.returned (.tuple #[str [],.slice none 0 0,str [],.bool false])):ParR w' S e:=by unfold ParR;rw[h];exact he
theorem parR_nums {w':World}{S:List UInt8}{e:Ending}{wd:Wd}{l:List Int}{A:Option Addr}{c:Nat}{p0:ByteArray}(h:parseP S=.nums wd l)(hn:wd.name=p0.data.toList)
 (he:e=.returned (.tuple #[.string p0,.slice A l.length c,str [],.bool true])) (hr:Rd enc1 1 w' A l.length l):ParR w' S e:=by
 unfold ParR;rw[h]
 have h9:str wd.name=.string p0:=by rw[hn];rfl
 exact⟨A,c,by rw[he,h9],hr⟩
theorem many_word {p:List UInt8}(h:1≤manyP p):∃ wd,wordOf p=some wd∧wd≠.hear∧manyP p=(wd.many:Int):=by
 unfold manyP at h ⊢
 cases hw:wordOf p with
 | none=>rw[hw] at h;dsimp only at h;omega
 | some wd =>
  rw[hw] at h;refine⟨wd,rfl,fun e=>?_,rfl⟩;subst e;simp[Wd.many] at h
theorem many_zero {p:List UInt8}(h:manyP p=0):wordOf p=some .hear:=by
 unfold manyP at h
 cases hw:wordOf p with
 | none=>rw[hw] at h;dsimp only at h;omega
 | some wd =>
  rw[hw] at h;cases wd <;> simp[Wd.many] at h
  rfl
theorem many_neg {p:List UInt8}(h:¬ manyP p=0)(h1:¬ 1≤manyP p):wordOf p=none:=by
 cases hw:wordOf p with
 | none=>rfl
 | some wd =>
  exfalso
  unfold manyP at h h1;rw[hw] at h h1;dsimp only at h h1;omega
theorem cmd_num2 {p:List UInt8}{ps:List (List UInt8)}{wd:Wd}(h:wordOf p=some wd)(hh:wd≠.hear):cmdOf (p :: ps)=if ps.length=wd.many then (match numsP ps with | some l=>Cmd.nums wd l | none=>.bad) else .bad:=by
 simp only[cmdOf,h]
 cases wd <;> first | rfl | exact absurd rfl hh
theorem parseR_c (s:ByteArray)(w:World)(hs:s.size≤1048576) :
 Calls Tryz.prog 32 #[.string s] w fun e w'=>ParR w' s.data.toList e∧Below w.heap.size w w':=by
 obtain⟨S,hS⟩:∃ S,S=s.data.toList:=⟨_,rfl⟩;have HSP:=hid (splitR_c s w hs);rw[← hS] at HSP ⊢;clear hS
 go_enter Tryz.func32,Tryz.ntmps32
 go_wp2_with fail
 go_at_call 42;refine HSP.out.mono ?_;rintro e w1 ⟨v1,L,rfl,hown1,hL,hb1⟩;obtain⟨A1,c1,rfl,hc1⟩:=own_form hown1;have hr1:=Rd.of_own encStr_len hown1 rfl
 have hsplit:parseP S=cmdOf (linesB L):=by rw[hL];rfl
 have hne:0 < L.length:=by
  have h1:=parts_ne 32 S;rw[← hL] at h1
  cases L with
  | nil=>exact absurd rfl h1
  | cons p l=>simp
 have HR:=hid hr1;have HB:=hid hb1;have HS:=hid hsplit;have HNE:=hid hne;clear hown1 hr1 hb1 hsplit hL hc1 HSP;obtain⟨b,o,p0,rfl,hp0,x0⟩:=str_at HR.out hne
 obtain⟨Ps,hPs⟩:∃ Ps,L=p0 :: Ps:=by
  cases L with
  | nil=>cases hp0
  | cons q l=>exact⟨l,by simp at hp0;rw[hp0]⟩
 have hL1:L.length=Ps.length+1:=by rw[hPs];rfl
 have hSe:parseP S=cmdOf (p0.data.toList :: linesB Ps):=by rw[HS.out,hPs];rfl
 have HSE:=hid hSe;have HL1:=hid hL1;have HPS:=hid hPs
 have hps:(linesB Ps).length=Ps.length:=by unfold linesB;rw[List.length_map]
 have HPL:=hid hps;obtain⟨n,hn⟩:∃ n,n=manyP p0.data.toList:=⟨_,rfl⟩;have HN:=hid hn
 have hx0:w1.cell? ⟨b,o,none⟩=some (.string p0):=by simpa using x0
 have hpos:(0:Int) < (L.length:Int):=by omega
 have HM:=hid (fun W=>manyR_c p0 W);clear hSe hL1 hPs hps x0 hn
 go_wp2_with fail
 go_at_call 43;refine(HM.out _).mono ?_;rintro e w2 ⟨rfl,hb9⟩;rw[← HN.out];replace HR:=hid (HR.out.below hb9);replace HB:=hdT HB hb9;clear hb9 hx0 HM
 have hpos2:(0:Int) < (L.length:Int):=by omega
 have x0:w2.cell? ⟨b,o,none⟩=some (.string p0):=by
  obtain⟨b9,o9,p9,e9,hp9,c9⟩:=str_at HR.out HNE.out;cases e9;rw[hp9] at hp0;cases hp0
  simpa using c9
 have X0:=hid x0;clear x0 hp0 hpos2
 by_cases hz:n=0
 · subst hz
   have hwo:=many_zero HN.out.symm
   by_cases h2:L.length=2
   · obtain⟨p1,rfl⟩:∃ p1,Ps=[p1]:=by
      have h8:=HL1.out
      cases Ps with
      | nil=>simp at h8;omega
      | cons q l =>
       cases l with
       | nil=>exact⟨q,rfl⟩
       | cons q2 l=>simp at h8;omega
     have hres:parseP S=.text p1.data.toList:=by rw[HSE.out];simp[cmdOf,hwo,linesB]
     have hname:=word_name hwo
     have x1:w2.cell? ⟨b,o+1,none⟩=some (.string p1):=by
      obtain⟨b9,o9,p9,e9,hp9,c9⟩:=str_at (i:=1) HR.out (by omega);cases e9;rw[HPS.out] at hp9
      obtain rfl:p1=p9:=by simpa using hp9
      exact c9
     have x0:=X0.out
     have e2:((L.length:Int) == 2)=true:=by simp;omega
     have i0:(0:Int) < (L.length:Int):=by omega
     have i1:(1:Int) < (L.length:Int):=by omega
     have HRES:=hid hres;have HNM:=hid hname;clear hres hname h2 hwo hne
     go_wp2_with fail
     go_quiet (fail)
     go_wp2
     ((try simp only[Exit.inBlock,Exit.then]);refine bodyPost_ret (results_tmp4 rfl _ _ _) rfl ?_)
     refine⟨?_,below_drewN HB.out _⟩;unfold ParR;rw[HRES.out]
     have h9:str (Wd.name .hear)=.string p0:=by rw[HNM.out];rfl
     rw[h9]
     rfl
   · have hres:parseP S=.bad:=by
      rw[HSE.out]
      have h9:(linesB Ps).length≠1:=by rw[HPL.out];have:=HL1.out;omega
      simp only[cmdOf,hwo]
      split
      · next t e=>rw[e] at h9;exact absurd rfl h9
      · rfl
     have HRES:=hid hres
     have e2:((L.length:Int) == 2)=false:=by simp;omega
     clear hres h2 hwo hne
     go_wp2_with fail
     ((try simp only[Exit.inBlock,Exit.then]);refine bodyPost_ret (results_tmp4 rfl _ _ _) rfl ?_)
     exact⟨parR_bad HRES.out rfl,HB.out⟩
 · have ez:(n == 0)=false:=by simpa using hz
   by_cases h1:1≤n
   · have g1:¬ n < 1:=by omega
     obtain⟨wd,hwo,hwh,hmm⟩:=many_word (by rw[← HN.out];exact h1);rw[← HN.out] at hmm;have hm8:=many_bd hwh;have hcm:=cmd_num2 (ps:=linesB Ps) hwo hwh;rw[← HSE.out,HPL.out] at hcm;obtain⟨m,hm⟩:∃ m,m=wd.many:=⟨_,rfl⟩;rw[← hm] at hmm hm8 hcm;subst hmm;have hwm:IntKind.i64.wrap ((m:Int)+1)=(m:Int)+1:=wi (by omega)
     by_cases hlen:Ps.length=m
     · rw[if_pos hlen] at hcm
       have e3:((L.length:Int) != (m:Int)+1)=false:=by have:=HL1.out;simp;omega
       have HCM:=hid hcm;have HWN:=hid (word_name hwo);obtain⟨i0,hi0,hz0,hz1,hz2⟩:=info_parts infoIntW;have HI:=hid hi0;have HZ0:=hid hz0;have HZ1:=hid hz1;have HZ2:=hid hz2
       have hLm:L.length=m+1:=by have:=HL1.out;omega
       have HLM:=hid hLm;have HPM:=hid hlen;clear hi0 hz0 hz1 hz2 hcm hwo hwh hm hlen hne hLm
       go_wp2_with fail
       go_loopw [8,9] (fun lv iv wr=>∃(k:Nat) (ns:List Int),k≤m∧iv=.int .i64 ((k:Int)+1)∧ns.length=k∧numsP ((linesB Ps).take k)=some ns∧wr.ownsRow w2.heap.size 3 1 lv k (ns.flatMap enc1)∧Below w2.heap.size w2 wr) (fun _ iv _=>m+1 - (intOf iv).toNat)
       case atStart=>exact⟨0,[],Nat.zero_le _,rfl,rfl,rfl,World.ownsRow_nil _ _ _ _,Below.refl _ _⟩
       case round =>
        obtain⟨k,ns,hk,rfl,hkl,hns,hown,hb⟩:=hrel;have HOW:=hid hown;have HBR:=hid hb;have HNS:=hid hns;have HKL:=hid hkl;clear hown hb hns hkl
        by_cases hlt:k < m
        · have hi1:(k:Int)+1≤(m:Int):=by omega
          obtain⟨b9,o9,p,e9,hp,c0⟩:=str_at (i:=k+1) (HR.out.below HBR.out) (by rw[HLM.out];omega);cases e9;have hp2:(linesB Ps)[k]?=some p.data.toList:=linesB_at (by rw[HPS.out] at hp;simpa using hp)
          have hi2:(k:Int)+1 < (L.length:Int):=by rw[HLM.out];omega
          have hi3:(0:Int)≤(k:Int)+1:=by omega
          have hix:((k:Int)+1).toNat=k+1:=by omega
          have HP:=hid hp2;have HWC:=hid (fun W=>wholeR_c p W);clear hp hp2
          cases hw:wholeP p.data.toList with
          | none =>
           have hv:wholeV p.data.toList=(0,false):=by unfold wholeV;rw[hw]
           have hnone:=nums_none (List.mem_of_getElem? HP.out) hw;rw[hv] at HWC;have hcm:=HCM.out;rw[hnone] at hcm;have HRES:=hid (show parseP S=.bad from hcm);clear hw hv hnone hcm
           go_wp2_with fail
           go_at_call 44;refine(HWC.out _).mono ?_;rintro e w4 ⟨rfl,hb9⟩;replace HB:=hdT (hdT HB HBR.out) hb9;clear hb9
           go_wp2_with fail
           ((try simp only[Exit.inBlock,Exit.then]);refine bodyPost_ret (results_tmp4 rfl _ _ _) rfl ?_)
           exact⟨parR_bad HRES.out rfl,HB.out⟩
          | some v =>
           have hv:wholeV p.data.toList=(v,true):=by unfold wholeV;rw[hw]
           have hst:numsP ((linesB Ps).take (k+1))=some (ns++[v]):=by
            rw[List.take_add_one,HP.out];exact nums_snoc HNS.out hw
           rw[hv] at HWC;have HST:=hid hst;clear hw hv hst
           go_wp2_with fail
           go_at_call 44;refine(HWC.out _).mono ?_;rintro e w4 ⟨rfl,hb9⟩;replace HBR:=hid (below_tr HBR.out hb9);replace HOW:=hid (own_mono HOW.out hb9);clear hb9 c0;have hal:=(Below.refl w4.heap.size w4).alloc (Nat.le_refl _) (.cells #[.int .i64 v] 3);have hne:=Blk.new w4 3 #[.int .i64 v]
           go_wp2_with (at_builtin;go_must (refine wpList_append_rd rfl _ _ 43 rfl w2.heap.size 3 i0 _ 1 8 Tryz.underlying43 HI.out HZ0.out HZ1.out HZ2.out rfl (by decide) _ k _ rfl (own_mono HOW.out hal) enc1_len oneInt (some ⟨w4.heap.size,0,none⟩) 1 1 [v] rfl (Rd.of_blkE (k:=1) enc1_len hne (l:=[v]) rfl rfl) (by unfold maxLen;omega) (by omega) (by have:=HBR.out.size;simp;omega) ?_;intro v' w5 hown5 hgr5))
           have hown5:w5.ownsRow w2.heap.size 3 1 v' (k+1) ((ns++[v]).flatMap enc1):=by simpa using hown5
           have hb5:=(below_tr HBR.out hal).trans (Fr.of_grown hgr5 (E:=fun q=>w2.heap.size≤q) (fun q e _=>(HOW.out.lt q e).1) |>.below (by have:=HBR.out.size;simp;omega) fun q hq=>hq);clear hgr5 hal hne HOW HBR;have HOW:=hid hown5;have HBR:=hid hb5;clear hown5 hb5
           go_wp2_with fail
           go_roundw
           case rel=>exact⟨k+1,ns++[v],by omega,by go_num,by rw[List.length_append,HKL.out];rfl,HST.out,HOW.out,HBR.out⟩
           case measure=>simp[intOf] <;> omega
        · obtain rfl:k=m:=by omega
          have hi1:¬(k:Int)+1≤(k:Int):=by omega
          have htk:(linesB Ps).take k=linesB Ps:=List.take_of_length_le (by rw[HPL.out,HPM.out];exact Nat.le_refl _);have hns:=HNS.out;rw[htk] at hns;have hcm:=HCM.out;rw[hns] at hcm;have HRES:=hid (show parseP S=.nums wd ns from hcm);obtain⟨A9,c9,rfl,hc9⟩:=own_form HOW.out;have hr9:=Rd.of_own enc1_len HOW.out HKL.out;have HR9:=hid hr9
          have x0:wr.cell? ⟨b,o,none⟩=some (.string p0):=by
           obtain⟨b9,o9,p9,e9,hp9,c9⟩:=str_at (HR.out.below HBR.out) HNE.out;cases e9;rw[HPS.out] at hp9
           obtain rfl:p0=p9:=by simpa using hp9
           simpa using c9
          have hpos:(0:Int) < (L.length:Int):=by rw[HLM.out];omega
          replace HB:=hdT HB HBR.out;clear htk hns hcm hr9 hc9 hlt hk
          go_wp2_with fail
          ((try simp only[Exit.inBlock,Exit.then]);refine bodyPost_ret (results_tmp4 rfl _ _ _) rfl ?_)
          have hkl:=HKL.out;subst hkl;exact⟨parR_nums HRES.out HWN.out rfl HR9.out,HB.out⟩
     · rw[if_neg hlen] at hcm
       have HRES:=hid hcm
       have e3:((L.length:Int) != (m:Int)+1)=true:=by have:=HL1.out;simp;omega
       clear hcm hlen hwo hwh hm hne
       go_wp2_with fail
       ((try simp only[Exit.inBlock,Exit.then]);refine bodyPost_ret (results_tmp4 rfl _ _ _) rfl ?_)
       exact⟨parR_bad HRES.out rfl,HB.out⟩
   · have hres:parseP S=.bad:=by
      rw[HSE.out];have hwo:=many_neg (by rw[← HN.out];exact hz) (by rw[← HN.out];exact h1);simp only[cmdOf,hwo]
     have HRES:=hid hres
     have g1:n < 1:=by omega
     clear hres hne hz h1
     go_wp2_with fail
     ((try simp only[Exit.inBlock,Exit.then]);refine bodyPost_ret (results_tmp4 rfl _ _ _) rfl ?_)
     exact⟨parR_bad HRES.out rfl,HB.out⟩
theorem parR_shape {w':World}{S:List UInt8}{e:Ending}(h:ParR w' S e):∃(q:ByteArray) (lv tv:Value) (is:Bool),e=.returned (.tuple #[.string q,lv,tv,.bool is])∧(is && decide (q.data.toList=Wd.name .weather))=isW S:=by
 unfold ParR at h;unfold isW
 cases hp:parseP S with
 | bad=>rw[hp] at h;exact⟨_,_,_,_,h,rfl⟩
 | nums wd l =>
  rw[hp] at h;obtain⟨A,c,h,_⟩:=h;refine⟨_,_,_,_,h,?_⟩;cases wd <;> rfl
 | text t=>rw[hp] at h;exact⟨_,_,_,_,h,rfl⟩
theorem few_c {A:Option Addr}{n c:Nat}{LL:List ByteArray}{w:World}(h:Rd encStr 1 w A n LL)(hs:∀ p∈LL,p.size≤1048576)(hn:n≤1048576) :
 Calls Tryz.prog 28 #[.slice A n c] w fun e w'=>∃ b,e=.returned (.bool b)∧Below w.heap.size w w':=by
 have HR:=hid h;have HS:=hid hs;clear h hs
 go_enter Tryz.func28,Tryz.ntmps28
 go_wp2_with fail
 go_loopw [3,4,5,6,7] (fun av bv cv dv iv wr=>∃(i:Nat) (x y z u:Int),i≤n∧iv=.int .i64 i∧av=.int .i64 x∧bv=.int .i64 y∧cv=.int .i64 z∧dv=.int .i64 u∧Below w.heap.size w wr) (fun _ _ _ _ iv _=>n - (intOf iv).toNat)
 case atStart=>exact⟨0,0,0,0,0,Nat.zero_le _,rfl,rfl,rfl,rfl,rfl,Below.refl _ _⟩
 case round =>
  obtain⟨i,x,y,z,u,hi,rfl,rfl,rfl,rfl,rfl,hb⟩:=hrel;have HB:=hid hb;clear hb
  by_cases hlt:i < n
  · obtain⟨b,o,p,rfl,hp,c0⟩:=str_at (HR.out.below HB.out) hlt
    have hi1:(i:Int) < (n:Int):=by omega
    have hi0:(0:Int)≤(i:Int):=by omega
    have HP:=hid (fun W=>parseR_c p W (HS.out p (List.mem_of_getElem? hp)));clear hp
    go_wp2_with fail
    go_at_call 32;refine(HP.out _).mono ?_;rintro e w2 ⟨hpr,hb9⟩;obtain⟨q,lv,tv,is,rfl,-⟩:=parR_shape hpr;replace HB:=hdT HB hb9;clear hb9 hpr HP c0
    by_cases h1:q.data.toList=[98,101,100]
    · have q1:=eql_yes h1
      clear h1
      go_wp2_with fail
      go_roundw
      case rel=>exact⟨i+1,_,_,_,_,by omega,by go_num,rfl,rfl,rfl,rfl,HB.out⟩
      case measure=>simp[intOf] <;> omega
    · have q1:=eql_no h1
      by_cases h2:q.data.toList=[119,101,97,116,104,101,114]
      · have q2:=eql_yes h2
        clear h1 h2
        go_wp2_with fail
        go_roundw
        case rel=>exact⟨i+1,_,_,_,_,by omega,by go_num,rfl,rfl,rfl,rfl,HB.out⟩
        case measure=>simp[intOf] <;> omega
      · have q2:=eql_no h2
        by_cases h3:q.data.toList=[112,97,114,99,101,108]
        · have q3:=eql_yes h3
          clear h1 h2 h3
          go_wp2_with fail
          go_roundw
          case rel=>exact⟨i+1,_,_,_,_,by omega,by go_num,rfl,rfl,rfl,rfl,HB.out⟩
          case measure=>simp[intOf] <;> omega
        · have q3:=eql_no h3
          clear h1 h2 h3
          go_wp2_with fail
          go_roundw
          case rel=>exact⟨i+1,_,_,_,_,by omega,by go_num,rfl,rfl,rfl,rfl,HB.out⟩
          case measure=>simp[intOf] <;> omega
  · obtain rfl:i=n:=by omega
    have hi1:¬(i:Int) < (i:Int):=by omega
    clear hlt hi
    by_cases c1:y≤5
    rotate_left
    focus
     skip
    rotate_left
    by_cases c2:z≤8
    rotate_left
    focus
     skip
    rotate_left 2
    by_cases c3:u≤6
    rotate_left
    focus
     skip
    rotate_left 3
    by_cases c4:(i:Int)≤30
    focus
     by_cases c5:x≤1200
     rotate_left
     have c6:(i:Int)≤62:=by omega
     have c7:¬ x≤300:=by omega
     have c9:¬ x≤310:=by omega
     by_cases c8:((i:Int) == 1)=true
    rotate_left 3
    focus
     have c8:¬((i:Int) == 1)=true:=by simp;omega
     by_cases c6:(i:Int)≤62
     by_cases c7:x≤300
    all_goals
     (try simp only[Bool.not_eq_true] at c8)
     go_wp2_with fail
     go_ret
     exact⟨by first | exact .inl rfl | exact .inr rfl,HB.out⟩
theorem ready_c {A:Option Addr}{n c:Nat}{LL:List ByteArray}{w:World}(h:Rd encStr 1 w A n LL)(hs:∀ p∈LL,p.size≤1048576)(hn:n≤1048576) :
 Calls Tryz.prog 17 #[.slice A n c] w fun e w'=>∃ b,e=.returned (.bool b)∧(b=true→rightP LL)∧Below w.heap.size w w':=by
 have HR:=hid h;have HF:=hid (few_c (c:=c) h hs hn);clear h hs
 go_enter Tryz.func17,Tryz.ntmps17
 go_wp2_with fail
 go_at_call 28;refine HF.out.mono ?_;rintro e w2 ⟨b,rfl,hb2⟩;have HB:=hid hb2;clear hb2 HF
 cases b with
 | false =>
  go_wp2_with fail
  go_ret
  exact⟨false,rfl,(fun h9=>by cases h9),HB.out⟩
 | true =>
  go_wp2_with fail
  go_at_call 11;refine(rightR_c (HR.out.below HB.out) (by omega)).mono ?_;rintro e w3 ⟨rfl,hb9⟩;replace HB:=hdT HB hb9;clear hb9
  by_cases hr:rightP LL
  · rw[decide_eq_true hr]
    go_wp2_with fail
    go_ret
    exact⟨true,rfl,(fun _=>hr),HB.out⟩
  · rw[decide_eq_false hr]
    go_wp2_with fail
    go_ret
    exact⟨false,rfl,(fun h9=>by cases h9),HB.out⟩
theorem weather_c {A EA:Option Addr}{n c ec k:Nat}{LL:List ByteArray}{es:List Int}{p:ByteArray}{x:Int}{w:World}(h:Rd encStr 1 w A n LL)(he:Rd enc1 1 w EA n es)(hp:LL[k]?=some p)(hx:es[k]?=some x)(hs:p.size≤1048576) :
 Calls Tryz.prog 20 #[.slice A n c,.slice EA n ec,.int .i64 k] w fun e w'=>e=.returned (.bool (isW p.data.toList && decide (x=0)))∧Below w.heap.size w w':=by
 obtain⟨R,hR⟩:∃ R,R=(isW p.data.toList && decide (x=0)):=⟨_,rfl⟩;rw[← hR];have HR:=hid hR;clear hR
 have hkn:k < n:=by have:=h.len;have:=(List.getElem?_eq_some_iff.1 hp).1;omega
 obtain⟨b,o,p1,rfl,hp1,c0⟩:=str_at h hkn
 obtain rfl:p=p1:=by rw[hp] at hp1;exact Option.some.inj hp1
 have hi0:(0:Int)≤(k:Int):=by omega
 have hi1:(k:Int) < (n:Int):=by omega
 have HP:=hid (fun W=>parseR_c p W hs);have HE:=hid he;have HX:=hid hx;clear hp hp1 h he hx
 go_enter Tryz.func20,Tryz.ntmps20
 go_wp2_with fail
 go_at_call 32;refine(HP.out _).mono ?_;rintro e w2 ⟨hpr,hb9⟩;obtain⟨q,lv,tv,is,rfl,his⟩:=parR_shape hpr;have HB:=hid hb9;have HI:=hid his;clear hb9 hpr HP c0 his
 cases is with
 | false =>
  have HRES:=hid (show R=false from by rw[HR.out,← HI.out];rfl)
  go_wp2_with fail
  go_ret
  exact⟨by rw[HRES.out];rfl,HB.out⟩
 | true =>
  by_cases h1:q.data.toList=[119,101,97,116,104,101,114]
  · have q1:=eql_yes h1
    have h2:q.data.toList=Wd.name .weather:=h1;obtain⟨g,f,y,rfl,_,hy,hc⟩:=(HE.out.below HB.out).at_ hkn
    obtain rfl:x=y:=by have h8:=HX.out;rw[hy] at h8;exact(Option.some.inj h8).symm
    have x0:w2.cell? ⟨g,f+k,none⟩=some (.int .i64 x):=by simpa using hc 0 _ rfl
    clear h1 hc hy
    by_cases h3:x=0
    · subst h3
      have HRES:=hid (show R=true from by rw[HR.out,← HI.out,decide_eq_true h2];rfl);clear h2
      go_wp2_with fail
      go_ret
      exact⟨by rw[HRES.out];rfl,HB.out⟩
    · have e3:(x == 0)=false:=beq_eq_false_iff_ne.2 h3
      have HRES:=hid (show R=false from by rw[HR.out,← HI.out,decide_eq_true h2,decide_eq_false h3];rfl);clear h3 h2
      go_wp2_with fail
      go_ret
      exact⟨by rw[HRES.out];rfl,HB.out⟩
  · have q1:=eql_no h1
    have h2:¬ q.data.toList=Wd.name .weather:=h1;have HRES:=hid (show R=false from by rw[HR.out,← HI.out,decide_eq_false h2];rfl);clear h1 h2
    go_wp2_with fail
    go_ret
    exact⟨by rw[HRES.out];rfl,HB.out⟩
end Go.Proofs.YtlaengnhfjlphaaGreatDoor
