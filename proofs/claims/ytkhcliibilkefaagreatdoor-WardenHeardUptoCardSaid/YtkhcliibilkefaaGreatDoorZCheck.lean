/- THE CONTRACTS of package zone's small functions for coins: fund, sum, cmp.Or, slices.Compare, better. -/
import Derived.Deep.DeepCutAuto
import Derived.Deep.MidRow
import Derived.Deep.AppendLies
import Derived.Deep.DrawnRows
import Derived.Test.YtkhcliibilkefaaGreatDoorZAllPar
import Derived.Test.YtkhcliibilkefaaGreatDoorSLaw
set_option linter.unusedVariables false
set_option linter.unusedSimpArgs false
set_option maxRecDepth 100000
set_option maxHeartbeats 8000000
namespace Go.Proofs.YtkhcliibilkefaaGreatDoor
open Lib (hid)
open Go.RowKit Go.Proofs
def sumL (l:List Int):Int:=l.sum
theorem sumL_succ {l:List Int}{k:Nat}{x:Int}(h:l[k]?=some x):sumL (l.take (k+1))=sumL (l.take k)+x:=by
 unfold sumL;rw[List.take_add_one,h];simp
theorem sumL_bd {M:Int}{l:List Int}(hM:0≤M)(h:∀ x∈l,0≤x∧x≤M):0≤sumL l∧sumL l≤M * l.length:=by
 unfold sumL
 induction l with
 | nil=>simp
 | cons a l ih =>
  have h1:=ih (fun x hx=>h x (by simp[hx]));have h2:=h a (by simp);simp only[List.sum_cons,List.length_cons];rw[show M * ((l.length+1:Nat):Int)=M * l.length+M by push_cast;rw[Int.mul_add,Int.mul_one]];omega
def SumOk (l:List Int):Prop:=∀ k,-4000000000000000000≤sumL (l.take k)∧sumL (l.take k)≤4000000000000000000
theorem SumOk.of {M:Int}{l:List Int}(hM:0≤M)(h:∀ x∈l,0≤x∧x≤M)(hl:M * l.length≤4000000000000000000):SumOk l:=by
 intro k;have h1:=sumL_bd hM (l:=l.take k) (fun x hx=>h x (List.mem_of_mem_take hx));have h2:M * ((l.take k).length:Int)≤M * l.length:=Int.mul_le_mul_of_nonneg_left (by rw[List.length_take];omega) hM;omega
theorem fund_c (n:Int)(w:World):Calls Tryz.prog 142 #[.int .i64 n] w fun e w'=>e=.returned (.bool (inB n 0 100000000))∧w=w':=by
 go_enter Tryz.func142,Tryz.ntmps142
 go_wp2_with (go_at_call 139;refine(within_c _ _ _ _).mono ?_;rintro e w' ⟨rfl,rfl⟩)
 go_ret
 exact⟨rfl,rfl⟩
theorem dropAll {l:List Int}{n:Nat}(h:l.length=n):l.drop n=[]:=List.drop_of_length_le (by rw[h];exact Nat.le_refl _)
def orL:List Int→Int
 | []=>0
 | a::l=>if a=0 then orL l else a
theorem orL_two (a b:Int):orL [a,b]=if a=0 then b else a:=by
 simp only[orL];split<;>simp_all
theorem drop_cons {α:Type}{l:List α}{k:Nat}{x:α}(h:l[k]?=some x):l.drop k=x::l.drop (k+1):=by
 obtain⟨hk,rfl⟩:=List.getElem?_eq_some_iff.1 h;exact List.drop_eq_getElem_cons hk
theorem Or_c {l:List Int}{A:Option Addr}{n c:Nat}{w:World}(h:Rd enc1 1 w A n l)(hn:n≤1000000) :
 Calls Tryz.prog 191 #[.slice A n c] w fun e w'=>e=.returned (.int .i64 (orL l))∧w=w':=by
 have HL:=hid h.len
 go_enter Tryz.func191,Tryz.ntmps191
 go_wp2_with fail
 go_loopw [8] (fun i wr=>∃ k:Nat,k≤n∧i=.int .i64 k∧orL l=orL (l.drop k)∧wr=w) (fun i _=>n - (intOf i).toNat)
 case atStart=>exact⟨0,Nat.zero_le _,rfl,rfl,rfl⟩
 case round =>
  obtain⟨k,hk,rfl,hor,rfl⟩:=hrel;have HO:=hid hor;clear hor
  by_cases hlt:k<n
  · obtain⟨b,o,x,hA,_,hx,h0⟩:=h.at1 hlt
    subst hA;have HD:=hid (drop_cons hx);clear hx
    by_cases hz:x=0
    · subst hz
      go_wp2_with fail
      go_roundw
      case rel=>exact⟨k+1,by omega,by go_num,by rw[HO.out,HD.out];rfl,trivial⟩
      case measure=>simp[intOf]<;>omega
    · have hz2:(x == 0)=false:=by simpa using hz
      go_wp2_with fail
      go_ret
      exact⟨ret_int (by rw[HO.out,HD.out,orL,if_neg hz]),rfl⟩
  · obtain rfl:k=n:=by omega
    go_wp2_with fail
    go_ret
    exact⟨ret_int (by rw[HO.out,dropAll HL.out];rfl),rfl⟩
def cmpI (a b:Int):Int:=if a=b then 0 else if a<b then -1 else 1
theorem isNaN_c (a:Int)(w:World):Calls Tryz.prog 192 #[.int .i64 a] w fun e w'=>e=.returned (.bool false)∧w=w':=by
 go_enter Tryz.func192,Tryz.ntmps192
 go_wp2_with fail
 go_ret
 exact⟨rfl,rfl⟩
theorem CompareI_c (a b:Int)(w:World):Calls Tryz.prog 220 #[.int .i64 a,.int .i64 b] w fun e w'=>e=.returned (.int .i64 (cmpI a b))∧w=w':=by
 rcases Int.lt_trichotomy a b with h | h | h
 · have hr:cmpI a b=-1:=by unfold cmpI;rw[if_neg (by omega),if_pos h]
   have HR:=hid hr;clear hr
   go_enter Tryz.func220,Tryz.ntmps220
   go_wp2_with (go_at_call 192;refine(isNaN_c _ _).mono ?_;rintro e w' ⟨rfl,rfl⟩)
   go_ret
   exact⟨ret_int HR.out.symm,rfl⟩
 · subst h
   have hr:cmpI a a=0:=by simp[cmpI]
   have HR:=hid hr;clear hr
   go_enter Tryz.func220,Tryz.ntmps220
   go_wp2_with (go_at_call 192;refine(isNaN_c _ _).mono ?_;rintro e w' ⟨rfl,rfl⟩)
   go_ret
   exact⟨ret_int HR.out.symm,rfl⟩
 · have hr:cmpI a b=1:=by unfold cmpI;rw[if_neg (by omega),if_neg (by omega)]
   have h2:¬ a<b:=by omega
   have HR:=hid hr;clear hr
   go_enter Tryz.func220,Tryz.ntmps220
   go_wp2_with (go_at_call 192;refine(isNaN_c _ _).mono ?_;rintro e w' ⟨rfl,rfl⟩)
   go_ret
   exact⟨ret_int HR.out.symm,rfl⟩
theorem cmpL_cons (a:Int)(l:List Int)(b:Int)(m:List Int):cmpL (a::l) (b::m)=if cmpI a b=0 then cmpL l m else cmpI a b:=by
 simp only[cmpL,cmpI]
 split
 · simp
 · split<;>simp
theorem CompareL_c {l m:List Int}{A A':Option Addr}{n n' c c':Nat}{w:World}(h:Rd enc1 1 w A n l)(h':Rd enc1 1 w A' n' m)(hn:n≤1000000)(hn':n'≤1000000) :
 Calls Tryz.prog 190 #[.slice A n c,.slice A' n' c'] w fun e w'=>e=.returned (.int .i64 (cmpL l m))∧w=w':=by
 have HL:=hid h.len;have HM:=hid h'.len
 go_enter Tryz.func190,Tryz.ntmps190
 go_wp2_with fail
 go_loopw [11] (fun i wr=>∃ k:Nat,k≤n∧k≤n'∧i=.int .i64 k∧cmpL l m=cmpL (l.drop k) (m.drop k)∧wr=w) (fun i _=>n - (intOf i).toNat)
 case atStart=>exact⟨0,Nat.zero_le _,Nat.zero_le _,rfl,rfl,rfl⟩
 case round =>
  obtain⟨k,hk,hk',rfl,hor,rfl⟩:=hrel;have HO:=hid hor;clear hor
  by_cases hlt:k<n
  · obtain⟨b,o,x,hA,_,hx,h0⟩:=h.at1 hlt
    subst hA;have HD:=hid (drop_cons hx);clear hx
    by_cases hlt':k<n'
    · obtain⟨b',o',y,hA',_,hy,h0'⟩:=h'.at1 hlt'
      subst hA';have HD':=hid (drop_cons hy);clear hy;have hcc:=cmpL_cons x (l.drop (k+1)) y (m.drop (k+1));have HC:=hid (fun W=>CompareI_c x y W)
      have hi0:(0:Int)≤(k:Int):=by omega
      have hi1:(k:Int)<(n':Int):=by omega
      generalize cmpI x y=z at hcc HC
      by_cases hz:z=0
      · subst hz
        rw[if_pos rfl] at hcc;have HCC:=hid hcc;clear hcc
        go_wp2_with (go_at_call 220;refine(HC.out _).mono ?_;rintro e w' ⟨rfl,rfl⟩)
        go_roundw
        case rel=>exact⟨k+1,by omega,by omega,by go_num,by rw[HO.out,HD.out,HD'.out,HCC.out],trivial⟩
        case measure=>simp[intOf]<;>omega
      · rw[if_neg hz] at hcc
        have HCC:=hid hcc;clear hcc
        have hz2:(z == 0)=false:=by simpa using hz
        go_wp2_with (go_at_call 220;refine(HC.out _).mono ?_;rintro e w' ⟨rfl,rfl⟩)
        go_ret
        exact⟨ret_int (by rw[HO.out,HD.out,HD'.out,HCC.out]),rfl⟩
    · obtain rfl:k=n':=by omega
      go_wp2_with fail
      go_ret
      exact⟨ret_int (by rw[HO.out,HD.out,dropAll HM.out];rfl),rfl⟩
  · obtain rfl:k=n:=by omega
    by_cases hlt':k<n'
    · obtain⟨b',o',y,hA',_,hy,h0'⟩:=h'.at1 hlt'
      have HD':=hid (drop_cons hy);clear hy
      have hi1:(k:Int)<(n':Int):=by omega
      go_wp2_with fail
      go_ret
      exact⟨ret_int (by rw[HO.out,HD'.out,dropAll HL.out];rfl),rfl⟩
    · obtain rfl:k=n':=by omega
      go_wp2_with fail
      go_ret
      exact⟨ret_int (by rw[HO.out,dropAll HM.out,dropAll HL.out];rfl),rfl⟩
theorem run_eql_bought (a b c d:Int)(W:World):(binOp .eql 231 (.agg #[.int .i64 a,.int .i64 b]) (.agg #[.int .i64 c,.int .i64 d])).run Tryz.prog W=.ok (.bool (decide (a=c∧b=d))) W:=by
 rw[run_eql_struct]
 have:(Op.equalIn 10000 231 (.agg #[.int .i64 a,.int .i64 b]) (.agg #[.int .i64 c,.int .i64 d])).run Tryz.prog W=.ok (decide (a=c∧b=d)) W:=by
  simp[go_sem,Tryz.underlying231]
  by_cases h1:a=c<;>by_cases h2:b=d<;>simp[h1,h2]
 rw[this];rfl
theorem rd_two (w:World)(a b:Int){g:Nat}(hg:g=w.heap.size):Rd enc1 1 (w.alloc (.cells #[.int .i64 a,.int .i64 b] 3)) (some ⟨g,0,none⟩) 2 [a,b]:=by
 subst hg;refine⟨rfl,fun _=>⟨w.heap.size,0,rfl,by simp,fun i x hx j u hu=>?_⟩⟩
 have hj:j=0:=by
  have:=(List.getElem?_eq_some_iff.1 hu).1;simp[enc1] at this;exact this
 subst hj;simp[enc1] at hu;subst hu;have hc:=(Blk.new w 3 #[.int .i64 a,.int .i64 b]).cell i
 have hi:i=0∨i=1:=by have:=(List.getElem?_eq_some_iff.1 hx).1;simp at this;omega
 rcases hi with rfl | rfl
 · simp at hx;subst hx;simp
 · simp at hx;subst hx;simp
theorem better_c {g c:Int}{b:Bst}{l:List Int}{A A':Option Addr}{n n' cp cp':Nat}{w:World}(h:Rd enc1 1 w A n l)(h':Rd enc1 1 w A' n' b.set)(hn:n≤1000000)(hn':n'≤1000000)
 (hb:-1000000000000≤g∧g≤1000000000000∧-1000000000000≤c∧c≤1000000000000) (hb':-1000000000000≤b.gain∧b.gain≤1000000000000∧-1000000000000≤b.cost∧b.cost≤1000000000000) :
 Calls Tryz.prog 145 #[.agg #[.int .i64 g,.int .i64 c],.agg #[.int .i64 b.gain,.int .i64 b.cost],.slice A n cp,.slice A' n' cp'] w fun e w'=>e=.returned (.bool (betterB g c l b))∧Below w.heap.size w w':=by
 obtain⟨G,C,S⟩:=b;simp only at h' hb' ⊢;have b2:Below w.heap.size w ((w.alloc (.cells #[.int .i64 g,.int .i64 c] 231)).alloc (.cells #[.int .i64 G,.int .i64 C] 231)):=((Below.refl _ w).alloc (Nat.le_refl _) _).alloc (by simp) _;have HB:=hid b2
 have hR:betterB g c l ⟨G,C,S⟩=if g=G∧c=C then decide (cmpL l S<0) else decide (orL [G - g,c - C]<0):=by
  unfold betterB;simp only[orL_two]
  by_cases h1:g=G∧c=C
  · rw[if_pos h1,if_pos h1]
  · rw[if_neg h1,if_neg h1]
    split<;>rfl
 by_cases heq:g=G∧c=C
 · rw[if_pos heq] at hR
   obtain⟨rfl,rfl⟩:=heq;have HR:=hid hR;have HC:=hid (CompareL_c (c:=cp) (c':=cp') (h.below b2) (h'.below b2) hn hn');clear hR b2
   go_enter Tryz.func145,Tryz.ntmps145
   go_wp2_with (go_at_call 190;refine HC.out.mono ?_;rintro e w' ⟨rfl,rfl⟩)
   go_ret
   exact⟨ret_bool HR.out.symm,HB.out⟩
 · rw[if_neg heq] at hR
   have HR:=hid hR;have hw1:IntKind.i64.wrap (G - g)=G - g:=wi (by omega);have hw2:IntKind.i64.wrap (c - C)=c - C:=wi (by omega);have hcap:=rd_two ((w.alloc (.cells #[.int .i64 g,.int .i64 c] 231)).alloc (.cells #[.int .i64 G,.int .i64 C] 231)) (G - g) (c - C) (g:=w.heap.size+1+1) (by simp);have HC:=hid (Or_c (c:=2) hcap (by omega));have HB3:=hid (b2.alloc b2.size (.cells #[.int .i64 (G - g),.int .i64 (c - C)] 3));clear hR b2 hcap;have heqv:=fun W=>run_eql_bought g c G C W;rw[decide_eq_false heq] at heqv
   go_enter Tryz.func145,Tryz.ntmps145
   go_wp2_with (go_at_call 191;refine HC.out.mono ?_;rintro e w' ⟨rfl,rfl⟩)
   go_ret
   exact⟨ret_bool HR.out.symm,HB3.out⟩
theorem infoZ:(Tryz.prog.info? 3).map (fun i=>(i.zero,i.size,i.bytes))=some (some (.int .i64 0),1,8):=by kernel_rfl
theorem oneZ (r:Int):∀ u∈enc1 r,u.oneCell'=true:=by intro u hu;simp[enc1] at hu;subst hu;rfl
theorem clone_c {l:List Int}{A:Option Addr}{n c:Nat}{w:World}(h:Rd enc1 1 w A n l)(hn:n≤100000) :
 Calls Tryz.prog 98 #[.slice A n c] w fun e w'=>∃ v,e=.returned v∧w'.ownsRow w.heap.size 3 1 v n (l.flatMap enc1)∧Below w.heap.size w w':=by
 obtain⟨i0,hi0,hz0,hz1,hz2⟩:=info_parts infoZ;have HI:=hid hi0;have HZ0:=hid hz0;have HZ1:=hid hz1;have HZ2:=hid hz2;clear hi0 hz0 hz1 hz2;have q:∀(w:World) (a:Option Addr) (n c n' c':Nat),(binOp .eql 28 (.slice a n c) (.slice none n' c')).run Tryz.prog w=.ok (.bool a.isNone) w:=fun w a n c n' c'=>Lib.run_eql_slice_nil w _ _ a n c n' c' Tryz.underlying28
 rcases A with _ | ad
 · obtain⟨rfl,rfl⟩:=h.none_zero
   go_enter Tryz.func98,Tryz.ntmps98
   go_wp2_with fail
   go_ret
   exact⟨_,rfl,World.ownsRow_nil _ _ _ _,Below.refl _ _⟩
 · go_enter Tryz.func98,Tryz.ntmps98
   go_wp2_with (at_builtin;go_must (refine wpList_append_rd rfl _ _ 28 rfl w.heap.size 3 i0 (.int .i64 0) 1 8 Tryz.underlying28 HI.out HZ0.out HZ1.out HZ2.out rfl (by decide) _ _ _ rfl (own_empty w 3 1) enc1_len oneZ (some ad) n c l rfl (h.below ((Below.refl _ w).alloc (Nat.le_refl _) _)) (by unfold maxLen;omega) (by omega) (by simp) ?_;intro v1 w1 hown hgrow))
   have HB:=hid (((Below.refl _ w).alloc (Nat.le_refl _) _).grown hgrow (by simp) (fun g hg=>((own_empty w 3 1).lt g hg).1));rw[Nat.zero_add,List.nil_append] at hown;have HO:=hid hown;clear hown hgrow
   go_wp2_with fail
   go_ret
   exact⟨_,rfl,HO.out,HB.out⟩
theorem flat_enc1 (l:List Int):l.flatMap enc1=l.map fun n=>Value.int .i64 n:=by
 induction l with
 | nil=>rfl
 | cons a l ih=>simp only[List.flatMap_cons,ih,List.map_cons];rfl
theorem errV_big {v:Vly}(h:10<v.sls.length):errV v=3:=by simp[errV,h]
theorem errV_of {v:Vly}(h:v.sls.length≤10):errV v=if (inB v.pars.length 1 12 && allB parOk v.pars && allB (sliOk v.pars.length) v.sls && stepsOk v.s0 v.s1 v.s2)=true then 0 else 1:=by
 unfold errV;rw[if_neg (by omega)]
theorem checkV_c {v:Vly}{PA SA:Option Addr}{pn pc sn sc:Nat}{w:World}(h:RdV w PA pn SA sn v)(hpn:pn≤maxLen)(hsn:sn≤maxLen) :
 Calls Tryz.prog 137 #[.agg #[.slice PA pn pc,.slice SA sn sc,.int .i64 v.s0,.int .i64 v.s1,.int .i64 v.s2]] w fun e w'=>e=.returned (.int .i64 (errV v))∧Below w.heap.size w w':=by
 have HB:=hid (errV_big (v:=v));have HO:=hid (errV_of (v:=v));obtain⟨R,hR⟩:∃ R,R=errV v:=⟨_,rfl⟩;rw[← hR] at HB HO ⊢;clear hR;have HLP:=hid h.pars.len;have HLS:=hid h.sls.len;have HV:=hid h;obtain⟨pars,sls,s0,s1,s2⟩:=v;simp only at HB HO HLP HLS ⊢;clear h
 go_enter Tryz.func137,Tryz.ntmps137
 go_upto_region 1 with fail
 go_cut [3] (fun x wx=>x=.bool (stepsOk s0 s1 s2)∧wx=w.alloc (.cells #[.slice PA pn pc,.slice SA sn sc,.int .i64 s0,.int .i64 s1,.int .i64 s2] 39))
 case first =>
  by_cases h1:1≤s0
  · by_cases h2:s0<s1
    · by_cases h3:s1<s2
      · go_wp2_with fail
        go_meet
        exact⟨by simp[stepsOk,h1,h2,h3],rfl⟩
      · have h3':s2≤s1:=by omega
        go_wp2_with fail
        go_meet
        exact⟨by rw[show stepsOk s0 s1 s2=false by rw[← Bool.not_eq_true,stepsOk_iff];omega],rfl⟩
    · have h2':s1≤s0:=by omega
      go_wp2_with fail
      go_meet
      exact⟨by rw[show stepsOk s0 s1 s2=false by rw[← Bool.not_eq_true,stepsOk_iff];omega],rfl⟩
  · have h1':s0<1:=by omega
    go_wp2_with fail
    go_meet
    exact⟨by rw[show stepsOk s0 s1 s2=false by rw[← Bool.not_eq_true,stepsOk_iff];omega],rfl⟩
 case rest =>
  obtain⟨rfl,rfl⟩:=hcut;have hb0:Below w.heap.size w (w.alloc (.cells #[.slice PA pn pc,.slice SA sn sc,.int .i64 s0,.int .i64 s1,.int .i64 s2] 39)):=(Below.refl _ w).alloc (Nat.le_refl _) _;have HB0:=hid hb0;clear hb0
  by_cases h10:10<sn
  · have hRR:=HB.out (by rw[HLS.out];exact h10)
    have HR:=hid hRR;clear hRR
    have h10':(10:Int)<(sn:Int):=by omega
    go_wp2_with fail
    go_ret
    exact⟨ret_int HR.out.symm,HB0.out⟩
  · have hRR:=HO.out (by rw[HLS.out];omega)
    rw[HLP.out] at hRR
    have h10':(sn:Int)≤10:=by omega
    cases hin:inB (pn:Int) 1 12
    · rw[hin] at hRR
      simp only[Bool.false_and,Bool.false_eq_true,if_false] at hRR;have HR:=hid hRR;clear hRR
      go_wp2_with (go_at_call 139;refine(within_c _ _ _ _).mono ?_;rintro e w' ⟨rfl,rfl⟩;simp only[hin])
      go_ret
      exact⟨ret_int HR.out.symm,HB0.out⟩
    · have hin2:=inB_iff.1 hin
      have h12:pn≤12:=by omega
      have cp:=fun(W:World) (hW:Below w.heap.size w W)=>allPar_c (p:=parOk) (c:=pc) W (HV.out.pars.mono hW) hpn fun _ x W' _ _=>parcel_c x W'
      have cs:=fun(W:World) (hW:Below w.heap.size w W)=>allSli_c (p:=sliOk pn) (c:=sc) (.agg #[.slice PA pn pc,.slice SA sn sc,.int .i64 s0,.int .i64 s1,.int .i64 s2]) W (HV.out.sls.mono hW) hsn
       fun i x W' hx hW'=>slide_c PA SA pn pc sn sc s0 s1 s2 x W' ((HV.out.way i x hx).1.mono (hW.trans (hW'.mono hW.size))) (HV.out.way i x hx).2.1 h12
      have CP:=hid cp;have CS:=hid cs;clear cp cs;simp only at CP CS;rw[hin] at hRR;cases hp:allB parOk pars
      · rw[hp] at hRR
        simp only[Bool.and_false,Bool.false_and,Bool.false_eq_true,if_false] at hRR;have HR:=hid hRR;clear hRR
        go_wp2_with (go_at_call 139;refine(within_c _ _ _ _).mono ?_;rintro e w' ⟨rfl,rfl⟩;simp only[hin])
        refine(CP.out _ HB0.out).mono ?_;rintro e w1 ⟨rfl,hb1⟩;rw[hp]
        go_wp2_with fail
        go_ret
        exact⟨ret_int HR.out.symm,below_tr HB0.out hb1⟩
      · rw[hp] at hRR
        cases hs:allB (sliOk pn) sls
        · rw[hs] at hRR
          simp only[Bool.and_false,Bool.false_and,Bool.false_eq_true,if_false] at hRR;have HR:=hid hRR;clear hRR
          go_wp2_with (go_at_call 139;refine(within_c _ _ _ _).mono ?_;rintro e w' ⟨rfl,rfl⟩;simp only[hin])
          refine(CP.out _ HB0.out).mono ?_;rintro e w1 ⟨rfl,hb1⟩;rw[hp];have kb:=(Blk.new w 39 #[.slice PA pn pc,.slice SA sn sc,.int .i64 s0,.int .i64 s1,.int .i64 s2]).below hb1 (by simp);have x0:=kb.cell 0;have x1:=kb.cell 1;have x2:=kb.cell 2;have x3:=kb.cell 3;have x4:=kb.cell 4;simp at x0 x1 x2 x3 x4
          go_wp2_with fail
          refine(CS.out _ (below_tr HB0.out hb1)).mono ?_;rintro e w2 ⟨rfl,hb2⟩;rw[hs]
          go_wp2_with fail
          go_ret
          exact⟨ret_int HR.out.symm,below_tr (below_tr HB0.out hb1) hb2⟩
        · rw[hs] at hRR
          simp only[Bool.true_and] at hRR;have HR:=hid hRR;clear hRR;cases hst:stepsOk s0 s1 s2
          all_goals
           go_wp2_with (go_at_call 139;refine(within_c _ _ _ _).mono ?_;rintro e w' ⟨rfl,rfl⟩;simp only[hin])
           refine(CP.out _ HB0.out).mono ?_;rintro e w1 ⟨rfl,hb1⟩;rw[hp];have kb:=(Blk.new w 39 #[.slice PA pn pc,.slice SA sn sc,.int .i64 s0,.int .i64 s1,.int .i64 s2]).below hb1 (by simp);have x0:=kb.cell 0;have x1:=kb.cell 1;have x2:=kb.cell 2;have x3:=kb.cell 3;have x4:=kb.cell 4;simp at x0 x1 x2 x3 x4
           go_wp2_with fail
           refine(CS.out _ (below_tr HB0.out hb1)).mono ?_;rintro e w2 ⟨rfl,hb2⟩;rw[hs]
           go_wp2_with fail
           go_ret
           have hRR:=HR.out;rw[hst] at hRR;exact⟨ret_int (by rw[hRR];rfl),below_tr (below_tr HB0.out hb1) hb2⟩
end Go.Proofs.YtkhcliibilkefaaGreatDoor
