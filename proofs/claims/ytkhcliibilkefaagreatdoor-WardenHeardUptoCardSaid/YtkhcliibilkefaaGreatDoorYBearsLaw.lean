/- CONTRACT of water.check: a ground with days. -/
import Derived.Test.YtkhcliibilkefaaGreatDoorYGround2
set_option linter.unusedVariables false
set_option linter.unusedSimpArgs false
set_option maxRecDepth 100000
set_option maxHeartbeats 8000000
namespace Go.Proofs.YtkhcliibilkefaaGreatDoor
open Lib (hid)
open Go.RowKit Go.Proofs
attribute [local go_sem ↓] Go.wp_at_zero Go.wp_at_succ
theorem wcheck_c {C:List Cel}{A:Option Addr}{n c:Nat}(sn0 sn1 so0 so1 melt:Int){D:List Dy}{DA:Option Addr}{dn dc:Nat}{w:World}(h:Rd encCel 7 w A n C)(hn:n≤maxLen)(hd:Rd encDy 3 w DA dn D)(hdn:dn≤maxLen) :
 Calls Tryz.prog 129 #[.agg #[.slice A n c,.int .i64 sn0,.int .i64 sn1,.int .i64 so0,.int .i64 so1,.int .i64 melt],.slice DA dn dc] w fun e w'=>e=.returned (.int .i64 (faultW C sn0 sn1 so0 so1 melt D))∧Below w.heap.size w w':=by
 obtain⟨R,hR⟩:∃ R:Int,R=faultW C sn0 sn1 so0 so1 melt D:=⟨_,rfl⟩;rw[← hR];unfold faultW at hR;rw[hd.len] at hR;have hal:=(Below.refl w.heap.size w).alloc (Nat.le_refl _) (.cells #[.slice A n c,.int .i64 sn0,.int .i64 sn1,.int .i64 so0,.int .i64 so1,.int .i64 melt] 33);have hx:=Blk.new w 33 #[.slice A n c,.int .i64 sn0,.int .i64 sn1,.int .i64 so0,.int .i64 so1,.int .i64 melt];have hg:=CheckGround_c (c:=c) sn0 sn1 so0 so1 melt (h.below hal) hn;have HB:=hid hal;have HX:=hid hx;have HG:=hid hg;have HD:=hid (hd.below hal);clear hal hx hg h hn hd;cases hq:groundOk C sn0 sn1 so0 so1 melt
 · rw[hq,if_pos rfl] at hR
   rw[hq] at HG;subst hR
   go_enter Tryz.func129,Tryz.ntmps129
   go_upto_region 1 with fail
   revert HB HX HG HD;generalize (World.alloc w (.cells #[.slice A n c,.int .i64 sn0,.int .i64 sn1,.int .i64 so0,.int .i64 so1,.int .i64 melt] 33))=w1;intro HB HX HG HD;have x0:=HX.out.cell 0;have x1:=HX.out.cell 1;have x2:=HX.out.cell 2;have x3:=HX.out.cell 3;have x4:=HX.out.cell 4;have x5:=HX.out.cell 5;simp at x0 x1 x2 x3 x4 x5
   go_wp2_with fail
   go_at_call 96;refine(HG.out).mono ?_;rintro e w1 ⟨rfl,hb9⟩;replace HB:=hdT HB hb9;clear hb9 
   go_wp2_with fail
   go_ret
   exact⟨rfl,HB.out⟩
 · rw[hq,if_neg (by decide)] at hR
   rw[hq] at HG;unfold maxLen at hdn
   rcases Nat.lt_or_ge 30 dn with h30 | h30
   · rw[if_pos h30] at hR
     subst hR
     go_enter Tryz.func129,Tryz.ntmps129
     go_upto_region 1 with fail
     revert HB HX HG HD;generalize (World.alloc w (.cells #[.slice A n c,.int .i64 sn0,.int .i64 sn1,.int .i64 so0,.int .i64 so1,.int .i64 melt] 33))=w1;intro HB HX HG HD;have x0:=HX.out.cell 0;have x1:=HX.out.cell 1;have x2:=HX.out.cell 2;have x3:=HX.out.cell 3;have x4:=HX.out.cell 4;have x5:=HX.out.cell 5;simp at x0 x1 x2 x3 x4 x5
     go_wp2_with fail
     go_at_call 96;refine(HG.out).mono ?_;rintro e w1 ⟨rfl,hb9⟩;replace HB:=hdT HB hb9;clear hb9 
     go_wp2_with fail
     go_ret
     exact⟨rfl,HB.out⟩
   · rw[if_neg (by omega)] at hR
     cases ha:allB dayOk D
     all_goals
      rw[ha] at hR;simp only[if_true,if_false,Bool.false_eq_true] at hR;subst hR
      go_enter Tryz.func129,Tryz.ntmps129
      go_upto_region 1 with fail
      revert HB HX HG HD;generalize (World.alloc w (.cells #[.slice A n c,.int .i64 sn0,.int .i64 sn1,.int .i64 so0,.int .i64 so1,.int .i64 melt] 33))=w1;intro HB HX HG HD;have x0:=HX.out.cell 0;have x1:=HX.out.cell 1;have x2:=HX.out.cell 2;have x3:=HX.out.cell 3;have x4:=HX.out.cell 4;have x5:=HX.out.cell 5;simp at x0 x1 x2 x3 x4 x5
      go_wp2_with fail
      go_at_call 96;refine(HG.out).mono ?_;rintro e w1 ⟨rfl,hb9⟩;replace HB:=hdT HB hb9;replace HD:=hid (HD.out.below hb9);clear hb9 ;clear HG x0 x1 x2 x3 x4 x5 HX;have hc:=allDay_c (c:=dc) (p:=dayOk) w1 HD.out (by unfold maxLen;omega) (fun i x W hx hW=>dayValid_c x W);rw[ha] at hc;have HC:=hid hc;clear hc
      go_wp2_with fail
      go_at_call 170;refine(HC.out).mono ?_;rintro e w1 ⟨rfl,hb9⟩;replace HB:=hdT HB hb9;replace HD:=hid (HD.out.below hb9);clear hb9 
      go_wp2_with fail
      go_ret
      exact⟨rfl,HB.out⟩
end Go.Proofs.YtkhcliibilkefaaGreatDoor
namespace Go.Proofs.YtkhcliibilkefaaGreatDoor
open Lib (hid)
open Go.RowKit
theorem half_spec1 {P:Int→Bool}(hup:∀ a b,1≤a→a≤b→P a=true→P b=true):∀(f:Nat) (lo hi:Int),1≤lo→hi - lo≤f→lo≤hi →
 lo≤halfS P f lo hi∧halfS P f lo hi≤hi∧(halfS P f lo hi<hi→P (halfS P f lo hi)=true)∧∀ n,lo≤n→n<halfS P f lo hi→P n=false
 | 0,lo,hi,h1,h,hl=>by unfold halfS;exact⟨by omega,hl,fun hh=>by omega,fun n h1 h2=>by omega⟩
 | f+1,lo,hi,h0,h,hl=>by
  unfold halfS
  split
  · split
    · rename_i h1 h2
      obtain⟨a,b,c,d⟩:=half_spec1 hup f lo ((lo+hi) / 2) h0 (by omega) (by omega);refine⟨a,by omega,fun hh=>?_,d⟩
      by_cases he:halfS P f lo ((lo+hi) / 2)<(lo+hi) / 2
      · exact c he
      · rw[show halfS P f lo ((lo+hi) / 2)=(lo+hi) / 2 by omega];exact h2
    · rename_i h1 h2
      obtain⟨a,b,c,d⟩:=half_spec1 hup f ((lo+hi) / 2+1) hi (by omega) (by omega) (by omega);refine⟨by omega,b,c,fun n h3 h4=>?_⟩
      by_cases he:(lo+hi) / 2+1≤n
      · exact d n he h4
      · cases hp:P n
        · rfl
        · exact absurd (hup n _ (by omega) (by omega) hp) h2
  · exact⟨Int.le_refl _,hl,fun hh=>by omega,fun n h1 h2=>by omega⟩
theorem holdA_nn {l:List BedS}(h:∀ b∈l,bedOk b)(j:Nat):0≤holdA l j:=by
 unfold holdA
 split
 · rename_i b hb
   have:=h b (List.mem_of_getElem? hb);exact holds_nn this.2.2.1.1 this.2.2.2.1.1
 · exact Int.le_refl _
theorem halvW_at {l:List BedS}(h:∀ b∈l,bedOk b)(least:Nat):WorstAt (holdA l) (drivA l) l.length least (halvW l least):=by
 obtain⟨a,b,c,d⟩:=half_spec1 (P:=fun n=>lowB (holdA l) (drivA l) n l.length least) (fun x y hx hxy hp=>lowB_iff.2 ((lowB_iff.1 hp).up (holdA_nn h) (by omega) hxy)) 10001 1 10001 (by omega) (by omega) (by omega);refine⟨a,b,fun hn=>lowB_iff.1 (c (by unfold halvW at hn;omega)),fun k h1 h2 hl=>?_⟩;have:=d k h1 h2;rw[lowB_iff.2 hl] at this;cases this
theorem WorstAt.eq {H D:Nat→Int}{m least:Nat}{a b:Int}(ha:WorstAt H D m least a)(hb:WorstAt H D m least b):a=b:=by
 rcases Int.lt_trichotomy a b with h | h | h
 · exact absurd (ha.is (by have:=hb.hi;omega)) (hb.no a ha.lo h)
 · exact h
 · exact absurd (hb.is (by have:=ha.hi;omega)) (ha.no b hb.lo h)
theorem worstP_at {l:List BedS}(h:∀ b∈l,bedOk b){least:Nat}{n:Int}(hn:WorstAt (holdA l) (drivA l) l.length least n) :
 (n≤10000→worstP l least=some (n - 1))∧(¬ n≤10000→Lower (costS (fun _=>0) (drivA l) 1) l.length least→worstP l least=some 10000)∧(¬ n≤10000→¬ Lower (costS (fun _=>0) (drivA l) 1) l.length least→worstP l least=none):=by
 have e:halvW l least=n:=(halvW_at h least).eq hn;unfold worstP;rw[e];refine⟨fun h1=>by rw[if_pos h1],fun h1 h2=>by rw[if_neg h1,if_pos (lowB_iff.2 h2)],fun h1 h2=>by rw[if_neg h1,if_neg (fun h3=>h2 (lowB_iff.1 h3))]⟩
theorem parts_pre (c:UInt8)(t:List UInt8):∀ p:List UInt8,c ∉ p→partsP c (p++c::t)=p::partsP c t
 | [],_=>by simp[partsP]
 | x::p,h=>by
  simp only[List.mem_cons,not_or] at h;rw[List.cons_append,partsP,if_neg (fun e=>h.1 e.symm),parts_pre c t p h.2]
theorem parts_two (c:UInt8):∀(l:List UInt8) {p q:List UInt8} {ps:List (List UInt8)},partsP c l=p::q::ps→∃ t,l=p++c::t
 | [],_,_,_,h=>by simp[partsP] at h
 | x::l,p,q,ps,h=>by
  rw[partsP] at h
  split at h
  · rename_i hx
    subst hx
    injection h with h1 h2
    subst h1;exact⟨l,rfl⟩
  · cases hp:partsP c l with
    | nil=>exact absurd hp (parts_ne c l)
    | cons p' ps' =>
     rw[hp] at h
     injection h with h1 h2
     subst h1 h2;obtain⟨t,rfl⟩:=parts_two c l hp;exact⟨t,rfl⟩
def isW (s:List UInt8):Bool:=match parseP s with
 | .nums .weather _=>true
 | _=>false
def weathB:List UInt8:=[119,101,97,116,104,101,114,32]
def preW (s:List UInt8):Bool:=weathB.isPrefixOf s
theorem cmd_nums {p:List UInt8}{ps:List (List UInt8)}{wd:Wd}{l:List Int}(h:cmdOf (p::ps)=.nums wd l):wordOf p=some wd∧ps.length=wd.many∧numsP ps=some l:=by
 simp only[cmdOf] at h
 cases hw:wordOf p with
 | none=>rw[hw] at h;cases h
 | some v =>
  rw[hw] at h;cases v
  case hear =>
   simp only at h
   split at h<;>cases h
  all_goals
   simp only at h
   split at h
   · rename_i hn
     cases hp:numsP ps with
     | none=>rw[hp] at h;cases h
     | some l' =>
      rw[hp] at h;simp only[Cmd.nums.injEq] at h;obtain⟨rfl,rfl⟩:=h;exact⟨rfl,hn,rfl⟩
   · cases h
theorem word_name {p:List UInt8}{wd:Wd}(h:wordOf p=some wd):wd.name=p:=by
 unfold wordOf at h;have h1:=List.find?_some h;exact of_decide_eq_true (p:=wd.name=p) h1
theorem isW_iff {s:List UInt8}:isW s=true↔∃ l,parseP s=.nums .weather l:=by
 unfold isW
 constructor
 · intro h
   split at h
   · rename_i l hl;exact⟨l,hl⟩
   · cases h
 · rintro⟨l,hl⟩;rw[hl]
theorem isW_pre {s:List UInt8}(h:isW s=true):preW s=true:=by
 obtain⟨l,hl⟩:=isW_iff.1 h;unfold parseP at hl
 cases hp:partsP 32 s with
 | nil=>exact absurd hp (parts_ne 32 s)
 | cons p ps =>
  rw[hp] at hl;obtain⟨h1,h2,_⟩:=cmd_nums hl
  cases ps with
  | nil=>simp[Wd.many] at h2
  | cons q qs =>
   obtain⟨t,rfl⟩:=parts_two 32 s hp;obtain rfl:=word_name h1;unfold preW;rw[List.isPrefixOf_iff_prefix];exact⟨t,rfl⟩
theorem preW_isW {s:List UInt8}(h:parseP s≠.bad):preW s=isW s:=by
 cases hi:isW s with
 | true=>exact isW_pre hi
 | false =>
  cases hp:preW s with
  | false=>rfl
  | true =>
   unfold preW at hp;rw[List.isPrefixOf_iff_prefix] at hp;obtain⟨t,rfl⟩:=hp;have e:weathB++t=Wd.name .weather++32::t:=rfl
   have hq:partsP 32 (weathB++t)=Wd.name .weather::partsP 32 t:=by rw[e,parts_pre 32 t _ (by decide)]
   have hc:parseP (weathB++t)=if (partsP 32 t).length=3 then (match numsP (partsP 32 t) with | some l=>Cmd.nums .weather l | none=>.bad) else .bad:=by
    unfold parseP;rw[hq]
    rfl
   exfalso
   rw[hc] at h
   by_cases h3:(partsP 32 t).length=3
   · rw[if_pos h3] at h hc
     cases hn:numsP (partsP 32 t) with
     | none=>rw[hn] at h;exact h rfl
     | some l =>
      rw[hn] at hc;have:=isW_iff.2 ⟨l,hc⟩;rw[hi] at this;cases this
   · rw[if_neg h3] at h;exact h rfl
def weathI:Nat→List (List UInt8)→List Int→List Nat
 | i,s::l,e::es=>if isW s && decide (e=0) then i::weathI (i+1) l es else weathI (i+1) l es
 | _,_,_=>[]
section
variable (F:List UInt8→List Rdg)
theorem buySet_lv:∀(set:List Int) (b:Sess),(buySet b set).levels=b.levels
 | [],_=>rfl
 | i::l,b=>by
  have e:buySet b (i::l)=buySet (buyOne b i) l:=rfl;rw[e,buySet_lv l];unfold buyOne
  split<;>rfl
theorem ifV_lv {b t:Sess}(h:t.levels=b.levels):(ifV b t).1.levels=b.levels:=by
 unfold ifV
 split
 · rfl
 · exact h
theorem weather_lv (b:Sess)(m:Int)(l:List Int):(sWeather b m l).1.levels.length=b.levels.length+(if (sWeather b m l).2=0 then 1 else 0):=by
 unfold sWeather
 split
 · simp[refuse]
 · split
   · next h=>simp[refuse,h]
   · simp[done]
theorem word_lv (b:Sess)(m:Int){wd:Wd}(hw:wd≠.weather)(l:List Int):(sWord F b m wd l).1.levels=b.levels:=by
 cases wd<;>simp only[sWord,sBed,sLeast,sGround,sCell,sLink,sAlarm,sParcel,sSteps,sSlide,sWay,sEvid,sBuy]<;>(repeat' split)<;>first
  | rfl
  | exact ifV_lv rfl
  | exact buySet_lv _ _
  | exact absurd rfl hw
theorem hear_lv (b:Sess)(t:List UInt8):(sHear F b t).1.levels=b.levels:=by
 unfold sHear
 (repeat' split)<;>rfl
theorem step_lv (b:Sess)(m:Int)(s:List UInt8):(stepP F b m s).1.levels.length=b.levels.length+(if isW s && decide ((stepP F b m s).2=0) then 1 else 0):=by
 unfold stepP
 cases hp:parseP s with
 | bad =>
  have:isW s=false:=by unfold isW;rw[hp]
  simp[this,refuse]
 | text t =>
  have:isW s=false:=by unfold isW;rw[hp]
  simp only[this,Bool.false_and,Bool.false_eq_true,if_false,Nat.add_zero];rw[hear_lv]
 | nums wd l =>
  by_cases hw:wd=.weather
  · subst hw
    have:isW s=true:=isW_iff.2 ⟨l,hp⟩;simp only[this,Bool.true_and,decide_eq_true_eq];exact weather_lv b m l
  · have:isW s=false:=by
     cases hi:isW s with
     | false=>rfl
     | true =>
      obtain⟨l',hl'⟩:=isW_iff.1 hi;rw[hp] at hl';cases hl';exact absurd rfl hw
    simp only[this,Bool.false_and,Bool.false_eq_true,if_false,Nat.add_zero];rw[word_lv F b m hw]
theorem step_form {b:Sess}{m:Int}{s:List UInt8}(h:(stepP F b m s).2=0):parseP s≠.bad:=by
 intro hb;unfold stepP at h;rw[hb] at h;simp[refuse] at h
theorem run_lv (line more:Int):∀(l:List (List UInt8)) (b:Sess) (now:Int) (i:Nat),(runP F line more b now l).1.levels.length=b.levels.length+(weathI i l (runP F line more b now l).2).length
 | [],b,now,i=>by simp[runP,weathI]
 | s::l,b,now,i=>by
  rw[runP];simp only;rw[run_lv line more l _ _ (i+1),step_lv F b,weathI]
  split<;>simp<;>omega
theorem run_pre (line more:Int):∀(l:List (List UInt8)) (b:Sess) (now:Int) (k:Nat) (s:List UInt8),l[k]?=some s→(runP F line more b now l).2[k]?=some 0→preW s=isW s
 | [],_,_,_,_,h,_=>by simp at h
 | t::l,b,now,0,s,h,he=>by
  simp at h;subst h;rw[runP] at he;simp at he;exact preW_isW (step_form F he)
 | t::l,b,now,k+1,s,h,he=>by
  rw[runP] at he;exact run_pre line more l _ _ k s (by simpa using h) (by simpa using he)
end
theorem weathI_ge:∀(l:List (List UInt8)) (es:List Int) (i k:Nat),k∈weathI i l es→i≤k∧k<i+l.length
 | [],es,i,k,h=>by cases es<;>simp[weathI] at h
 | s::l,[],i,k,h=>by simp[weathI] at h
 | s::l,e::es,i,k,h=>by
  rw[weathI] at h
  split at h
  · rcases List.mem_cons.1 h with rfl | h
    · simp
    · have:=weathI_ge l es (i+1) k h
      simp;omega
  · have:=weathI_ge l es (i+1) k h
    simp;omega
theorem weathI_snoc:∀(l:List (List UInt8)) (es:List Int) (i:Nat) (s:List UInt8) (e:Int),es.length=l.length→weathI i (l++[s]) (es++[e])=weathI i l es++(if isW s && decide (e=0) then [i+l.length] else [])
 | [],[],i,s,e,_=>by simp[weathI]
 | [],_::_,i,s,e,h=>by simp at h
 | _::_,[],i,s,e,h=>by simp at h
 | t::l,f::es,i,s,e,h=>by
  rw[List.cons_append,List.cons_append,weathI,weathI_snoc l es (i+1) s e (by simpa using h),weathI]
  have e1:i+1+l.length=i+(t::l).length:=by simp;omega
  rw[e1]
  split<;>simp
theorem weathI_app:∀(l r:List (List UInt8)) (es fs:List Int) (i:Nat),es.length=l.length→weathI i (l++r) (es++fs)=weathI i l es++weathI (i+l.length) r fs
 | [],r,[],fs,i,_=>by simp[weathI]
 | [],_,_::_,_,_,h=>by simp at h
 | _::_,_,[],_,_,h=>by simp at h
 | t::l,r,f::es,fs,i,h=>by
  rw[List.cons_append,List.cons_append,weathI,weathI_app l r es fs (i+1) (by simpa using h),weathI]
  have e1:i+1+l.length=i+(t::l).length:=by simp;omega
  rw[e1]
  split<;>simp
theorem weathI_take {l:List (List UInt8)}{es:List Int}{j:Nat}{s:List UInt8}{e:Int}(hl:es.length=l.length)(hs:l[j]?=some s)(he:es[j]?=some e) :
 weathI 0 (l.take (j+1)) (es.take (j+1))=weathI 0 (l.take j) (es.take j)++(if isW s && decide (e=0) then [j] else []):=by
 have hj:=(List.getElem?_eq_some_iff.1 hs).1;rw[List.take_add_one,List.take_add_one,hs,he,Option.toList_some,Option.toList_some,weathI_snoc _ _ _ _ _ (by rw[List.length_take,List.length_take,hl])]
 have e1:0+(l.take j).length=j:=by rw[List.length_take];omega
 rw[e1]
theorem weathI_pre {l:List (List UInt8)}{es:List Int}(j:Nat)(hl:es.length=l.length):∃ t,weathI 0 l es=weathI 0 (l.take j) (es.take j)++t:=by
 have e:weathI 0 (l.take j++l.drop j) (es.take j++es.drop j)=_:=weathI_app (l.take j) (l.drop j) (es.take j) (es.drop j) 0 (by rw[List.length_take,List.length_take,hl]);rw[List.take_append_drop,List.take_append_drop] at e;exact⟨_,e⟩
def weathL (l:List (List UInt8))(es lv:List Int):List (Nat×Int):=(weathI 0 l es).zip lv
theorem weathL_step {l:List (List UInt8)}{es lv:List Int}{j:Nat}{s:List UInt8}{e:Int}(hl:es.length=l.length)(hlv:lv.length=(weathI 0 l es).length)(hs:l[j]?=some s)(he:es[j]?=some e)(hW:(isW s && decide (e=0))=true) :
 ∃ v,lv[(weathI 0 (l.take j) (es.take j)).length]?=some v∧(weathL l es lv).take ((weathI 0 (l.take j) (es.take j)).length+1)=(weathL l es lv).take ((weathI 0 (l.take j) (es.take j)).length)++[(j,v)] ∧
  (weathI 0 (l.take (j+1)) (es.take (j+1))).length=(weathI 0 (l.take j) (es.take j)).length+1:=by
 have h1:=weathI_take hl hs he;rw[if_pos hW] at h1;obtain⟨t,ht⟩:=weathI_pre (j+1) hl;rw[h1] at ht
 have hd:(weathI 0 (l.take j) (es.take j)).length<lv.length:=by rw[hlv,ht];simp
 refine⟨lv[(weathI 0 (l.take j) (es.take j)).length],List.getElem?_eq_getElem hd,?_,by rw[h1];simp⟩
 have hz:(weathL l es lv)[(weathI 0 (l.take j) (es.take j)).length]?=some (j,lv[(weathI 0 (l.take j) (es.take j)).length]):=by
  unfold weathL;rw[List.getElem?_zip_eq_some];refine⟨?_,List.getElem?_eq_getElem hd⟩;rw[ht,List.append_assoc,List.getElem?_append_right (Nat.le_refl _),Nat.sub_self]
  rfl
 rw[List.take_add_one,hz]
 rfl
theorem weathL_skip {l:List (List UInt8)}{es:List Int}{j:Nat}{s:List UInt8}{e:Int}(hl:es.length=l.length)(hs:l[j]?=some s)(he:es[j]?=some e)(hW:(isW s && decide (e=0))=false) :
 (weathI 0 (l.take (j+1)) (es.take (j+1))).length=(weathI 0 (l.take j) (es.take j)).length:=by
 rw[weathI_take hl hs he,hW];simp
structure SimD (b t:Sess):Prop where
 same:t={ b with days:=t.days,levels:=t.levels }
 days:t.days.length=b.days.length
 levels:t.levels.length=b.levels.length
theorem SimD.refl (b:Sess):SimD b b:=⟨rfl,rfl,rfl⟩
section
variable (F:List UInt8→List Rdg) {b t:Sess}
theorem SimD.mk' (b:Sess)(D:List Dy)(L:List Int)(hd:D.length=b.days.length)(hl:L.length=b.levels.length):SimD b { b with days:=D,levels:=L }:=⟨rfl,hd,hl⟩
theorem buySet_D (D:List Dy)(L:List Int):∀(set:List Int) (b:Sess),buySet { b with days:=D,levels:=L } set={ buySet b set with days:=D,levels:=L }∧(buySet b set).days=b.days∧(buySet b set).levels=b.levels
 | [],b=>⟨rfl,rfl,rfl⟩
 | i::l,b=>by
  have e:∀ c:Sess,buySet c (i::l)=buySet (buyOne c i) l:=fun _=>rfl
  have h1:buyOne { b with days:=D,levels:=L } i={ buyOne b i with days:=D,levels:=L }:=by
   unfold buyOne;dsimp only;cases b.pars[i.toNat]?<;>rfl
  have h2:(buyOne b i).days=b.days∧(buyOne b i).levels=b.levels:=by
   unfold buyOne;cases b.pars[i.toNat]?<;>exact⟨rfl,rfl⟩
  obtain⟨r1,r2,r3⟩:=buySet_D D L l (buyOne b i);rw[e,e,h1,r1];exact⟨rfl,r2.trans h2.1,r3.trans h2.2⟩
theorem ifV_D {c:Sess}{D:List Dy}{L:List Int}(hd:D.length=b.days.length)(hl:L.length=b.levels.length)(hcd:c.days=b.days)(hcl:c.levels=b.levels) :
 (ifV { b with days:=D,levels:=L } { c with days:=D,levels:=L }).2=(ifV b c).2∧SimD (ifV b c).1 (ifV { b with days:=D,levels:=L } { c with days:=D,levels:=L }).1:=by
 have e:errV ({ c with days:=D,levels:=L }:Sess).vly=errV c.vly:=rfl;unfold ifV;rw[e]
 split
 · exact⟨rfl,SimD.mk' b D L hd hl⟩
 · exact⟨rfl,SimD.mk' c D L (by rw[hd,hcd]) (by rw[hl,hcl])⟩
theorem word_D (h:SimD b t)(m m':Int){wd:Wd}(hw:wd≠.weather)(l:List Int):(sWord F t m' wd l).2=(sWord F b m wd l).2∧SimD (sWord F b m wd l).1 (sWord F t m' wd l).1:=by
 obtain⟨D,L,rfl,hd,hl⟩:∃ D L,t={ b with days:=D,levels:=L }∧D.length=b.days.length∧L.length=b.levels.length:=⟨t.days,t.levels,h.same,h.days,h.levels⟩;clear h;cases wd
 case weather=>exact absurd rfl hw
 case bed=>simp only[sWord,sBed];(repeat' split)<;>exact⟨rfl,rfl,hd,hl⟩
 case least=>simp only[sWord,sLeast];(repeat' split)<;>exact⟨rfl,rfl,hd,hl⟩
 case ground=>simp only[sWord,sGround,hd];(repeat' split)<;>exact⟨rfl,rfl,hd,hl⟩
 case cell=>simp only[sWord,sCell,hd];(repeat' split)<;>exact⟨rfl,rfl,hd,hl⟩
 case link=>simp only[sWord,sLink];(repeat' split)<;>exact⟨rfl,rfl,hd,hl⟩
 case alarm=>simp only[sWord,sAlarm];(repeat' split)<;>exact⟨rfl,rfl,hd,hl⟩
 case hear=>exact⟨rfl,rfl,hd,hl⟩
 case parcel=>simp only[sWord,sParcel];split;exact ifV_D (c:={ b with pars:=b.pars++[⟨nth l 0,nth l 1,nth l 2,decide (nth l 3=1)⟩] }) hd hl rfl rfl;exact⟨rfl,rfl,hd,hl⟩
 case steps=>simp only[sWord,sSteps];split;exact⟨rfl,rfl,hd,hl⟩;exact ifV_D (c:={ b with t0:=nth l 0,t1:=nth l 1,t2:=nth l 2 }) hd hl rfl rfl
 case slide=>simp only[sWord,sSlide];split;exact⟨rfl,rfl,hd,hl⟩;exact ifV_D (c:={ b with sls:=b.sls++[⟨[nth l 1],nth l 0,0,1⟩] }) hd hl rfl rfl
 case way=>simp only[sWord,sWay];split;exact ifV_D (c:={ b with sls:=b.sls.modify (nth l 0).toNat fun s=>wayTop s (nth l 1) }) hd hl rfl rfl;exact⟨rfl,rfl,hd,hl⟩
 case evidence =>
  have e:({ b with days:=D,levels:=L }:Sess).vly=b.vly:=rfl;simp only[sWord,sEvid,e]
  (repeat' split)<;>exact⟨rfl,rfl,hd,hl⟩
 case buy =>
  have e:({ b with days:=D,levels:=L }:Sess).vly=b.vly:=rfl;simp only[sWord,sBuy,e];obtain⟨r1,r2,r3⟩:=buySet_D D L (bestB (gainsL b.vly) (b.pars.map (·.price)) (nth l 0)).set b
  split
  · exact⟨rfl,rfl,hd,hl⟩
  · split
    · refine⟨rfl,?_⟩
      show SimD (buySet b _) (buySet _ _);rw[r1];exact SimD.mk' _ D L (by rw[hd,r2]) (by rw[hl,r3])
    · exact⟨rfl,rfl,hd,hl⟩
theorem hear_D (h:SimD b t)(x:List UInt8):(sHear F t x).2=(sHear F b x).2∧SimD (sHear F b x).1 (sHear F t x).1:=by
 obtain⟨D,L,rfl,hd,hl⟩:∃ D L,t={ b with days:=D,levels:=L }∧D.length=b.days.length∧L.length=b.levels.length:=⟨t.days,t.levels,h.same,h.days,h.levels⟩;unfold sHear;dsimp only
 cases wireP x with
 | none=>exact⟨rfl,rfl,hd,hl⟩
 | some w =>
  dsimp only
  (repeat' split)<;>exact⟨rfl,rfl,hd,hl⟩
theorem faultW_days {cells:List Cel}{sn0 sn1 so0 so1 melt:Int}{D D':List Dy}(hl:D'.length=D.length)(hd:∀ d∈D,dayOk d=true)(hd':∀ d∈D',dayOk d=true){x x':Dy}(hx:dayOk x'=dayOk x) :
 faultW cells sn0 sn1 so0 so1 melt (D'++[x'])=faultW cells sn0 sn1 so0 so1 melt (D++[x]):=by
 have h1:allB dayOk (D'++[x'])=allB dayOk (D++[x]):=by
  have e:∀(l:List Dy) (y:Dy),(∀ d∈l,dayOk d=true)→allB dayOk (l++[y])=dayOk y:=by
   intro l y hh;unfold allB;rw[List.all_append,List.all_eq_true.2 hh];simp
  rw[e D' x' hd',e D x hd,hx]
 unfold faultW;rw[h1,List.length_append,List.length_append,hl]
 rfl
theorem weather_D (h:SimD b t)(hb:SOk b)(ht:SOk t){m m':Int}{l:List Int}(hx:dayOk ⟨nth l 0,nth l 1+m',nth l 2⟩=dayOk ⟨nth l 0,nth l 1+m,nth l 2⟩) :
 (sWeather t m' l).2=(sWeather b m l).2∧SimD (sWeather b m l).1 (sWeather t m' l).1:=by
 have hbd:=hb.day;have htd:=ht.day;obtain⟨D,L,rfl,hd,hl⟩:∃ D L,t={ b with days:=D,levels:=L }∧D.length=b.days.length∧L.length=b.levels.length:=⟨t.days,t.levels,h.same,h.days,h.levels⟩;dsimp only at htd;have hf:=faultW_days (cells:=b.cells) (sn0:=b.sn0) (sn1:=b.sn1) (so0:=b.so0) (so1:=b.so1) (melt:=b.melt) hd hbd htd hx;unfold sWeather;dsimp only;rw[hf]
 split
 · exact⟨rfl,rfl,hd,hl⟩
 · split
   · exact⟨rfl,rfl,hd,hl⟩
   · refine⟨rfl,rfl,?_,?_⟩<;>simp[done,hd,hl]
theorem step_D (h:SimD b t)(hb:SOk b)(ht:SOk t){m m':Int}{s:List UInt8}(hx:∀ l,parseP s=.nums .weather l→dayOk ⟨nth l 0,nth l 1+m',nth l 2⟩=dayOk ⟨nth l 0,nth l 1+m,nth l 2⟩) :
 (stepP F t m' s).2=(stepP F b m s).2∧SimD (stepP F b m s).1 (stepP F t m' s).1:=by
 unfold stepP
 cases hp:parseP s with
 | bad=>exact⟨rfl,h⟩
 | text x=>exact hear_D F h x
 | nums wd l =>
  by_cases hw:wd=.weather
  · subst hw
    exact weather_D h hb ht (hx l hp)
  · exact word_D F h m m' hw l
end
def rainP (s:List UInt8):Int:=match parseP s with
 | .nums .weather l=>nth l 1
 | _=>0
theorem more_not {now line more:Int}(h:now≠line):moreAt now line more=0:=by unfold moreAt;rw[if_neg h]
theorem more_at (line more:Int):moreAt line line more=more:=by unfold moreAt;rw[if_pos rfl]
theorem more_zero (now line:Int):moreAt now line 0=0:=by unfold moreAt;split<;>rfl
section
variable (F:List UInt8→List Rdg) (hF:∀ {b:Sess} (m:Int) (s:List UInt8),SOk b→SOk (stepP F b m s).1)
include hF
set_option linter.unusedSectionVars false in
theorem day_more {b:Sess}{s:List UInt8}{l:List Int}{more:Int}(hb:SOk b)(hp:parseP s=.nums .weather l)(he:(stepP F b 0 s).2=0)(hm:0≤more∧more≤1000 - nth l 1) :
 dayOk ⟨nth l 0,nth l 1+more,nth l 2⟩=dayOk ⟨nth l 0,nth l 1+0,nth l 2⟩:=by
 have hd:dayOk ⟨nth l 0,nth l 1+0,nth l 2⟩=true:=by
  unfold stepP at he;rw[hp] at he;simp only[sWord,sWeather] at he
  split at he
  · simp[refuse] at he
  · split at he
    · next h2=>exact absurd he h2
    · next h2 =>
      have h3:=(faultW_zero.1 (Classical.not_not.1 h2)).2.2;exact h3 _ (by simp)
 rw[hd];rw[dayOk_iff] at hd ⊢;dsimp only at hd ⊢;omega
theorem run_D (line more:Int):∀(S:List (List UInt8)) (b t:Sess) (now:Int),SimD b t→SOk b→SOk t →
 (∀(k:Nat) (s:List UInt8),S[k]?=some s→now+k=line→(runP F (-1) 0 b now S).2[k]?=some 0→0≤more∧more≤1000 - rainP s)→(∀(k:Nat),now+k=line→(runP F (-1) 0 b now S).2[k]?=some 0∨S[k]?=none) →
 (runP F line more t now S).2=(runP F (-1) 0 b now S).2∧SimD (runP F (-1) 0 b now S).1 (runP F line more t now S).1
 | [],b,t,now,h,_,_,_,_=>⟨rfl,h⟩
 | s::S,b,t,now,h,hb,ht,hm,hacc=>by
  have hst:(stepP F t (moreAt now line more) s).2=(stepP F b (moreAt now (-1) 0) s).2∧SimD (stepP F b (moreAt now (-1) 0) s).1 (stepP F t (moreAt now line more) s).1:=by
   rw[more_zero];refine step_D F h hb ht fun l hl=>?_
   by_cases hn:now=line
   · subst hn
     rw[more_at]
     have he:(stepP F b 0 s).2=0:=by
      rcases hacc 0 (by simp) with h1 | h1
      · rw[runP,more_zero] at h1
        simpa using h1
      · simp at h1
     refine day_more F hF hb hl he ?_;have h2:=hm 0 s rfl (by simp) (by rw[runP,more_zero];simpa using he);unfold rainP at h2;rw[hl] at h2;exact h2
   · rw[more_not hn]
  obtain⟨h1,h2⟩:=run_D line more S _ _ (now+1) hst.2 (hF _ _ hb) (hF _ _ ht) (fun k x hx hk he=>hm (k+1) x (by simpa using hx) (by push_cast;omega) (by rw[runP];simpa using he))
   (fun k hk=>by
    rcases hacc (k+1) (by push_cast;omega) with h1 | h1
    · left;rw[runP] at h1;simpa using h1
    · right;simpa using h1)
  rw[runP,runP];exact⟨by simp only[h1,hst.1],h2⟩
end
section
variable (F:List UInt8→List Rdg)
theorem step_days (b:Sess)(m:Int)(s:List UInt8):∃ t,(stepP F b m s).1.days=b.days++t∧((isW s && decide ((stepP F b m s).2=0))=true→∃ d:Dy,t=[d]∧d.hi=rainP s+m)∧((isW s && decide ((stepP F b m s).2=0))=false→t=[]):=by
 by_cases hw:isW s=true
 · obtain⟨l,hl⟩:=isW_iff.1 hw
   rw[hw];simp only[Bool.true_and,decide_eq_true_eq,decide_eq_false_iff_not];unfold stepP rainP;rw[hl];simp only[sWord,sWeather]
   split
   · exact⟨[],by simp[refuse],fun h=>by simp[refuse] at h,fun _=>rfl⟩
   · split
     · next h2=>exact⟨[],by simp[refuse],fun h=>absurd h h2,fun _=>rfl⟩
     · exact⟨[_],rfl,fun _=>⟨_,rfl,rfl⟩,fun h=>absurd rfl h⟩
 · have hw2:isW s=false:=by simpa using hw
   rw[hw2];simp only[Bool.false_and,Bool.false_eq_true,false_implies,true_implies,true_and];refine⟨[],?_,rfl⟩;rw[List.append_nil];unfold stepP
   cases hp:parseP s with
   | bad=>rfl
   | text x =>
    simp only;unfold sHear
    (repeat' split)<;>rfl
   | nums wd l =>
    have hwd:wd≠.weather:=fun e=>hw (isW_iff.2 ⟨l,by rw[hp,e]⟩);simp only
    cases wd<;>simp only[sWord,sBed,sLeast,sGround,sCell,sLink,sAlarm,sParcel,sSteps,sSlide,sWay,sEvid,sBuy,ifV]<;>(repeat' split)<;>first
     | rfl
     | exact(buySet_D [] [] _ _).2.1
     | exact absurd rfl hwd
theorem run_days (line more:Int):∀(S:List (List UInt8)) (b:Sess) (now:Int),∃ t,(runP F line more b now S).1.days=b.days++t
 | [],b,now=>⟨[],by simp[runP]⟩
 | s::S,b,now=>by
  obtain⟨t1,h1,_⟩:=step_days F b (moreAt now line more) s;obtain⟨t2,h2⟩:=run_days line more S (stepP F b (moreAt now line more) s).1 (now+1);exact⟨t1++t2,by rw[runP];simp only;rw[h2,h1,List.append_assoc]⟩
theorem run_day:∀(S:List (List UInt8)) (b:Sess) (now:Int) (i k:Nat) (s:List UInt8),S[k]?=some s→isW s=true→(runP F (-1) 0 b now S).2[k]?=some 0 →
 ∃ d,(runP F (-1) 0 b now S).1.days[b.days.length+(weathI i (S.take k) ((runP F (-1) 0 b now S).2.take k)).length]?=some d∧d.hi=rainP s
 | [],b,now,i,k,s,h,_,_=>by simp at h
 | x::S,b,now,i,0,s,h,hw,he=>by
  simp at h;subst h;rw[runP] at he ⊢;simp only[List.getElem?_cons_zero,Option.some.injEq,more_zero] at he;simp only[more_zero];obtain⟨t,ht,hd,_⟩:=step_days F b 0 x;obtain⟨d,rfl,hdh⟩:=hd (by rw[hw,he];rfl);obtain⟨t3,ht3⟩:=run_days F (-1) 0 S (stepP F b 0 x).1 (now+1);rw[ht3,ht];refine⟨d,?_,by rw[hdh,Int.add_zero]⟩;rw[List.take_zero,List.take_zero];simp[weathI]
 | x::S,b,now,i,k+1,s,h,hw,he=>by
  rw[runP] at he ⊢;simp only[more_zero] at he ⊢
  have h1:S[k]?=some s:=by simpa using h
  have h2:(runP F (-1) 0 (stepP F b 0 x).1 (now+1) S).2[k]?=some 0:=by simpa using he
  obtain⟨d,hd,hr⟩:=run_day S (stepP F b 0 x).1 (now+1) (i+1) k s h1 hw h2;refine⟨d,?_,hr⟩
  have hlen:(stepP F b 0 x).1.days.length+(weathI (i+1) (S.take k) ((runP F (-1) 0 (stepP F b 0 x).1 (now+1) S).2.take k)).length=b.days.length+(weathI i ((x::S).take (k+1)) (((stepP F b 0 x).2::(runP F (-1) 0 (stepP F b 0 x).1 (now+1) S).2).take (k+1))).length:=by
   rw[List.take_succ_cons,List.take_succ_cons,weathI];obtain⟨t,ht,hdd,hnn⟩:=step_days F b 0 x
   by_cases hc:(isW x && decide ((stepP F b 0 x).2=0))=true
   · rw[if_pos hc]
     obtain⟨d9,rfl,_⟩:=hdd hc;rw[ht];simp;omega
   · rw[if_neg hc]
     rw[ht,hnn (by simpa using hc),List.append_nil]
  rw[← hlen];exact hd
end
def allLe:List Int→List Int→Bool
 | v::l,u::m=>decide (v≤u) && allLe l m
 | _,_=>true
def bsearchP (K:Int→Bool):Nat→Int→Int→Int
 | 0,lo,_=>lo
 | f+1,lo,hi=>if lo<hi then (if K ((lo+hi+1) / 2) then bsearchP K f ((lo+hi+1) / 2) hi else bsearchP K f lo ((lo+hi+1) / 2 - 1)) else lo
theorem allLe_iff:∀ {l m:List Int},l.length=m.length→(allLe l m=true↔∀(k:Nat) (v u:Int),l[k]?=some v→m[k]?=some u→v≤u)
 | [],[],_=>by simp[allLe]
 | [],_::_,h=>by simp at h
 | _::_,[],h=>by simp at h
 | v::l,u::m,h=>by
  rw[allLe,Bool.and_eq_true,decide_eq_true_eq,allLe_iff (by simpa using h)]
  constructor
  · rintro⟨h1,h2⟩ k x y hx hy
    cases k with
    | zero=>simp at hx hy;omega
    | succ k=>exact h2 k x y (by simpa using hx) (by simpa using hy)
  · intro h1
    exact⟨h1 0 v u rfl rfl,fun k x y hx hy=>h1 (k+1) x y (by simpa using hx) (by simpa using hy)⟩
end Go.Proofs.YtkhcliibilkefaaGreatDoor
