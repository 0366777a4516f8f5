/- PLAIN: a session with more rain on a day: the same lines are accepted; how much more a line bears. No program in sight. -/
import Derived.Test.YtkhcliibilkefaaGreatDoorYRunLaw
import Derived.Deep.Quiet
import Derived.BigQuiet
set_option linter.unusedVariables false
set_option linter.unusedSimpArgs false
set_option maxRecDepth 100000
set_option maxHeartbeats 8000000
namespace Go.Proofs.YtkhcliibilkefaaGreatDoor
open Lib (hid)
open Go.RowKit
structure SimD (b t:Sess):Prop where
 same:t={ b with days:=t.days,levels:=t.levels }
 days:t.days.length=b.days.length
 levels:t.levels.length=b.levels.length
theorem SimD.refl (b:Sess):SimD b b:=⟨rfl,rfl,rfl⟩
section
variable (F:List UInt8→List Rdg) {b t:Sess}
theorem SimD.mk' (b:Sess)(D:List Dy)(L:List Int)(hd:D.length=b.days.length)(hl:L.length=b.levels.length):SimD b { b with days:=D,levels:=L }:=⟨rfl,hd,hl⟩
theorem buySet_D (D:List Dy)(L:List Int):∀(set:List Int) (b:Sess),buySet { b with days:=D,levels:=L } set={ buySet b set with days:=D,levels:=L }∧(buySet b set).days=b.days∧(buySet b set).levels=b.levels
 | [],b=>⟨rfl,rfl,rfl⟩
 | i::l,b=>by
  have e:∀ c:Sess,buySet c (i::l)=buySet (buyOne c i) l:=fun _=>rfl
  have h1:buyOne { b with days:=D,levels:=L } i={ buyOne b i with days:=D,levels:=L }:=by
   unfold buyOne;dsimp only;cases b.pars[i.toNat]?<;>rfl
  have h2:(buyOne b i).days=b.days∧(buyOne b i).levels=b.levels:=by
   unfold buyOne;cases b.pars[i.toNat]?<;>exact⟨rfl,rfl⟩
  obtain⟨r1,r2,r3⟩:=buySet_D D L l (buyOne b i);rw[e,e,h1,r1];exact⟨rfl,r2.trans h2.1,r3.trans h2.2⟩
theorem ifV_D {c:Sess}{D:List Dy}{L:List Int}(hd:D.length=b.days.length)(hl:L.length=b.levels.length)(hcd:c.days=b.days)(hcl:c.levels=b.levels) :
 (ifV { b with days:=D,levels:=L } { c with days:=D,levels:=L }).2=(ifV b c).2∧SimD (ifV b c).1 (ifV { b with days:=D,levels:=L } { c with days:=D,levels:=L }).1:=by
 have e:errV ({ c with days:=D,levels:=L }:Sess).vly=errV c.vly:=rfl;unfold ifV;rw[e]
 split
 · exact⟨rfl,SimD.mk' b D L hd hl⟩
 · exact⟨rfl,SimD.mk' c D L (by rw[hd,hcd]) (by rw[hl,hcl])⟩
theorem word_D (h:SimD b t)(m m':Int){wd:Wd}(hw:wd≠.weather)(l:List Int):(sWord F t m' wd l).2=(sWord F b m wd l).2∧SimD (sWord F b m wd l).1 (sWord F t m' wd l).1:=by
 obtain⟨D,L,rfl,hd,hl⟩:∃ D L,t={ b with days:=D,levels:=L }∧D.length=b.days.length∧L.length=b.levels.length:=⟨t.days,t.levels,h.same,h.days,h.levels⟩;clear h;cases wd
 case weather=>exact absurd rfl hw
 case bed=>simp only[sWord,sBed];(repeat' split)<;>exact⟨rfl,rfl,hd,hl⟩
 case least=>simp only[sWord,sLeast];(repeat' split)<;>exact⟨rfl,rfl,hd,hl⟩
 case ground=>simp only[sWord,sGround,hd];(repeat' split)<;>exact⟨rfl,rfl,hd,hl⟩
 case cell=>simp only[sWord,sCell,hd];(repeat' split)<;>exact⟨rfl,rfl,hd,hl⟩
 case link=>simp only[sWord,sLink];(repeat' split)<;>exact⟨rfl,rfl,hd,hl⟩
 case alarm=>simp only[sWord,sAlarm];(repeat' split)<;>exact⟨rfl,rfl,hd,hl⟩
 case hear=>exact⟨rfl,rfl,hd,hl⟩
 case parcel=>simp only[sWord,sParcel];split;exact ifV_D (c:={ b with pars:=b.pars++[⟨nth l 0,nth l 1,nth l 2,decide (nth l 3=1)⟩] }) hd hl rfl rfl;exact⟨rfl,rfl,hd,hl⟩
 case steps=>simp only[sWord,sSteps];split;exact⟨rfl,rfl,hd,hl⟩;exact ifV_D (c:={ b with t0:=nth l 0,t1:=nth l 1,t2:=nth l 2 }) hd hl rfl rfl
 case slide=>simp only[sWord,sSlide];split;exact⟨rfl,rfl,hd,hl⟩;exact ifV_D (c:={ b with sls:=b.sls++[⟨[nth l 1],nth l 0,0,1⟩] }) hd hl rfl rfl
 case way=>simp only[sWord,sWay];split;exact ifV_D (c:={ b with sls:=b.sls.modify (nth l 0).toNat fun s=>wayTop s (nth l 1) }) hd hl rfl rfl;exact⟨rfl,rfl,hd,hl⟩
 case evidence =>
  have e:({ b with days:=D,levels:=L }:Sess).vly=b.vly:=rfl;simp only[sWord,sEvid,e]
  (repeat' split)<;>exact⟨rfl,rfl,hd,hl⟩
 case buy =>
  have e:({ b with days:=D,levels:=L }:Sess).vly=b.vly:=rfl;simp only[sWord,sBuy,e];obtain⟨r1,r2,r3⟩:=buySet_D D L (bestB (gainsL b.vly) (b.pars.map (·.price)) (nth l 0)).set b
  split
  · exact⟨rfl,rfl,hd,hl⟩
  · split
    · refine⟨rfl,?_⟩
      show SimD (buySet b _) (buySet _ _);rw[r1];exact SimD.mk' _ D L (by rw[hd,r2]) (by rw[hl,r3])
    · exact⟨rfl,rfl,hd,hl⟩
theorem hear_D (h:SimD b t)(x:List UInt8):(sHear F t x).2=(sHear F b x).2∧SimD (sHear F b x).1 (sHear F t x).1:=by
 obtain⟨D,L,rfl,hd,hl⟩:∃ D L,t={ b with days:=D,levels:=L }∧D.length=b.days.length∧L.length=b.levels.length:=⟨t.days,t.levels,h.same,h.days,h.levels⟩;unfold sHear;dsimp only
 cases wireP x with
 | none=>exact⟨rfl,rfl,hd,hl⟩
 | some w =>
  dsimp only
  (repeat' split)<;>exact⟨rfl,rfl,hd,hl⟩
theorem faultW_days {cells:List Cel}{sn0 sn1 so0 so1 melt:Int}{D D':List Dy}(hl:D'.length=D.length)(hd:∀ d∈D,dayOk d=true)(hd':∀ d∈D',dayOk d=true){x x':Dy}(hx:dayOk x'=dayOk x) :
 faultW cells sn0 sn1 so0 so1 melt (D'++[x'])=faultW cells sn0 sn1 so0 so1 melt (D++[x]):=by
 have h1:allB dayOk (D'++[x'])=allB dayOk (D++[x]):=by
  have e:∀(l:List Dy) (y:Dy),(∀ d∈l,dayOk d=true)→allB dayOk (l++[y])=dayOk y:=by
   intro l y hh;unfold allB;rw[List.all_append,List.all_eq_true.2 hh];simp
  rw[e D' x' hd',e D x hd,hx]
 unfold faultW;rw[h1,List.length_append,List.length_append,hl]
 rfl
theorem weather_D (h:SimD b t)(hb:SOk b)(ht:SOk t){m m':Int}{l:List Int}(hx:dayOk ⟨nth l 0,nth l 1+m',nth l 2⟩=dayOk ⟨nth l 0,nth l 1+m,nth l 2⟩) :
 (sWeather t m' l).2=(sWeather b m l).2∧SimD (sWeather b m l).1 (sWeather t m' l).1:=by
 have hbd:=hb.day;have htd:=ht.day;obtain⟨D,L,rfl,hd,hl⟩:∃ D L,t={ b with days:=D,levels:=L }∧D.length=b.days.length∧L.length=b.levels.length:=⟨t.days,t.levels,h.same,h.days,h.levels⟩;dsimp only at htd;have hf:=faultW_days (cells:=b.cells) (sn0:=b.sn0) (sn1:=b.sn1) (so0:=b.so0) (so1:=b.so1) (melt:=b.melt) hd hbd htd hx;unfold sWeather;dsimp only;rw[hf]
 split
 · exact⟨rfl,rfl,hd,hl⟩
 · split
   · exact⟨rfl,rfl,hd,hl⟩
   · refine⟨rfl,rfl,?_,?_⟩<;>simp[done,hd,hl]
theorem step_D (h:SimD b t)(hb:SOk b)(ht:SOk t){m m':Int}{s:List UInt8}(hx:∀ l,parseP s=.nums .weather l→dayOk ⟨nth l 0,nth l 1+m',nth l 2⟩=dayOk ⟨nth l 0,nth l 1+m,nth l 2⟩) :
 (stepP F t m' s).2=(stepP F b m s).2∧SimD (stepP F b m s).1 (stepP F t m' s).1:=by
 unfold stepP
 cases hp:parseP s with
 | bad=>exact⟨rfl,h⟩
 | text x=>exact hear_D F h x
 | nums wd l =>
  by_cases hw:wd=.weather
  · subst hw
    exact weather_D h hb ht (hx l hp)
  · exact word_D F h m m' hw l
end
def rainP (s:List UInt8):Int:=match parseP s with
 | .nums .weather l=>nth l 1
 | _=>0
theorem more_not {now line more:Int}(h:now≠line):moreAt now line more=0:=by unfold moreAt;rw[if_neg h]
theorem more_at (line more:Int):moreAt line line more=more:=by unfold moreAt;rw[if_pos rfl]
theorem more_zero (now line:Int):moreAt now line 0=0:=by unfold moreAt;split<;>rfl
section
variable (F:List UInt8→List Rdg) (hF:∀ {b:Sess} (m:Int) (s:List UInt8),SOk b→SOk (stepP F b m s).1)
include hF
set_option linter.unusedSectionVars false in
theorem day_more {b:Sess}{s:List UInt8}{l:List Int}{more:Int}(hb:SOk b)(hp:parseP s=.nums .weather l)(he:(stepP F b 0 s).2=0)(hm:0≤more∧more≤1000 - nth l 1) :
 dayOk ⟨nth l 0,nth l 1+more,nth l 2⟩=dayOk ⟨nth l 0,nth l 1+0,nth l 2⟩:=by
 have hd:dayOk ⟨nth l 0,nth l 1+0,nth l 2⟩=true:=by
  unfold stepP at he;rw[hp] at he;simp only[sWord,sWeather] at he
  split at he
  · simp[refuse] at he
  · split at he
    · next h2=>exact absurd he h2
    · next h2 =>
      have h3:=(faultW_zero.1 (Classical.not_not.1 h2)).2.2;exact h3 _ (by simp)
 rw[hd];rw[dayOk_iff] at hd ⊢;dsimp only at hd ⊢;omega
theorem run_D (line more:Int):∀(S:List (List UInt8)) (b t:Sess) (now:Int),SimD b t→SOk b→SOk t →
 (∀(k:Nat) (s:List UInt8),S[k]?=some s→now+k=line→(runP F (-1) 0 b now S).2[k]?=some 0→0≤more∧more≤1000 - rainP s)→(∀(k:Nat),now+k=line→(runP F (-1) 0 b now S).2[k]?=some 0∨S[k]?=none) →
 (runP F line more t now S).2=(runP F (-1) 0 b now S).2∧SimD (runP F (-1) 0 b now S).1 (runP F line more t now S).1
 | [],b,t,now,h,_,_,_,_=>⟨rfl,h⟩
 | s::S,b,t,now,h,hb,ht,hm,hacc=>by
  have hst:(stepP F t (moreAt now line more) s).2=(stepP F b (moreAt now (-1) 0) s).2∧SimD (stepP F b (moreAt now (-1) 0) s).1 (stepP F t (moreAt now line more) s).1:=by
   rw[more_zero];refine step_D F h hb ht fun l hl=>?_
   by_cases hn:now=line
   · subst hn
     rw[more_at]
     have he:(stepP F b 0 s).2=0:=by
      rcases hacc 0 (by simp) with h1 | h1
      · rw[runP,more_zero] at h1
        simpa using h1
      · simp at h1
     refine day_more F hF hb hl he ?_;have h2:=hm 0 s rfl (by simp) (by rw[runP,more_zero];simpa using he);unfold rainP at h2;rw[hl] at h2;exact h2
   · rw[more_not hn]
  obtain⟨h1,h2⟩:=run_D line more S _ _ (now+1) hst.2 (hF _ _ hb) (hF _ _ ht) (fun k x hx hk he=>hm (k+1) x (by simpa using hx) (by push_cast;omega) (by rw[runP];simpa using he))
   (fun k hk=>by
    rcases hacc (k+1) (by push_cast;omega) with h1 | h1
    · left;rw[runP] at h1;simpa using h1
    · right;simpa using h1)
  rw[runP,runP];exact⟨by simp only[h1,hst.1],h2⟩
end
section
variable (F:List UInt8→List Rdg)
theorem step_days (b:Sess)(m:Int)(s:List UInt8):∃ t,(stepP F b m s).1.days=b.days++t∧((isW s && decide ((stepP F b m s).2=0))=true→∃ d:Dy,t=[d]∧d.hi=rainP s+m)∧((isW s && decide ((stepP F b m s).2=0))=false→t=[]):=by
 by_cases hw:isW s=true
 · obtain⟨l,hl⟩:=isW_iff.1 hw
   rw[hw];simp only[Bool.true_and,decide_eq_true_eq,decide_eq_false_iff_not];unfold stepP rainP;rw[hl];simp only[sWord,sWeather]
   split
   · exact⟨[],by simp[refuse],fun h=>by simp[refuse] at h,fun _=>rfl⟩
   · split
     · next h2=>exact⟨[],by simp[refuse],fun h=>absurd h h2,fun _=>rfl⟩
     · exact⟨[_],rfl,fun _=>⟨_,rfl,rfl⟩,fun h=>absurd rfl h⟩
 · have hw2:isW s=false:=by simpa using hw
   rw[hw2];simp only[Bool.false_and,Bool.false_eq_true,false_implies,true_implies,true_and];refine⟨[],?_,rfl⟩;rw[List.append_nil];unfold stepP
   cases hp:parseP s with
   | bad=>rfl
   | text x =>
    simp only;unfold sHear
    (repeat' split)<;>rfl
   | nums wd l =>
    have hwd:wd≠.weather:=fun e=>hw (isW_iff.2 ⟨l,by rw[hp,e]⟩);simp only
    cases wd<;>simp only[sWord,sBed,sLeast,sGround,sCell,sLink,sAlarm,sParcel,sSteps,sSlide,sWay,sEvid,sBuy,ifV]<;>(repeat' split)<;>first
     | rfl
     | exact(buySet_D [] [] _ _).2.1
     | exact absurd rfl hwd
theorem run_days (line more:Int):∀(S:List (List UInt8)) (b:Sess) (now:Int),∃ t,(runP F line more b now S).1.days=b.days++t
 | [],b,now=>⟨[],by simp[runP]⟩
 | s::S,b,now=>by
  obtain⟨t1,h1,_⟩:=step_days F b (moreAt now line more) s;obtain⟨t2,h2⟩:=run_days line more S (stepP F b (moreAt now line more) s).1 (now+1);exact⟨t1++t2,by rw[runP];simp only;rw[h2,h1,List.append_assoc]⟩
theorem run_day:∀(S:List (List UInt8)) (b:Sess) (now:Int) (i k:Nat) (s:List UInt8),S[k]?=some s→isW s=true→(runP F (-1) 0 b now S).2[k]?=some 0 →
 ∃ d,(runP F (-1) 0 b now S).1.days[b.days.length+(weathI i (S.take k) ((runP F (-1) 0 b now S).2.take k)).length]?=some d∧d.hi=rainP s
 | [],b,now,i,k,s,h,_,_=>by simp at h
 | x::S,b,now,i,0,s,h,hw,he=>by
  simp at h;subst h;rw[runP] at he ⊢;simp only[List.getElem?_cons_zero,Option.some.injEq,more_zero] at he;simp only[more_zero];obtain⟨t,ht,hd,_⟩:=step_days F b 0 x;obtain⟨d,rfl,hdh⟩:=hd (by rw[hw,he];rfl);obtain⟨t3,ht3⟩:=run_days F (-1) 0 S (stepP F b 0 x).1 (now+1);rw[ht3,ht];refine⟨d,?_,by rw[hdh,Int.add_zero]⟩;rw[List.take_zero,List.take_zero];simp[weathI]
 | x::S,b,now,i,k+1,s,h,hw,he=>by
  rw[runP] at he ⊢;simp only[more_zero] at he ⊢
  have h1:S[k]?=some s:=by simpa using h
  have h2:(runP F (-1) 0 (stepP F b 0 x).1 (now+1) S).2[k]?=some 0:=by simpa using he
  obtain⟨d,hd,hr⟩:=run_day S (stepP F b 0 x).1 (now+1) (i+1) k s h1 hw h2;refine⟨d,?_,hr⟩
  have hlen:(stepP F b 0 x).1.days.length+(weathI (i+1) (S.take k) ((runP F (-1) 0 (stepP F b 0 x).1 (now+1) S).2.take k)).length=b.days.length+(weathI i ((x::S).take (k+1)) (((stepP F b 0 x).2::(runP F (-1) 0 (stepP F b 0 x).1 (now+1) S).2).take (k+1))).length:=by
   rw[List.take_succ_cons,List.take_succ_cons,weathI];obtain⟨t,ht,hdd,hnn⟩:=step_days F b 0 x
   by_cases hc:(isW x && decide ((stepP F b 0 x).2=0))=true
   · rw[if_pos hc]
     obtain⟨d9,rfl,_⟩:=hdd hc;rw[ht];simp;omega
   · rw[if_neg hc]
     rw[ht,hnn (by simpa using hc),List.append_nil]
  rw[← hlen];exact hd
end
def allLe:List Int→List Int→Bool
 | v::l,u::m=>decide (v≤u) && allLe l m
 | _,_=>true
def bsearchP (K:Int→Bool):Nat→Int→Int→Int
 | 0,lo,_=>lo
 | f+1,lo,hi=>if lo<hi then (if K ((lo+hi+1) / 2) then bsearchP K f ((lo+hi+1) / 2) hi else bsearchP K f lo ((lo+hi+1) / 2 - 1)) else lo
theorem allLe_iff:∀ {l m:List Int},l.length=m.length→(allLe l m=true↔∀(k:Nat) (v u:Int),l[k]?=some v→m[k]?=some u→v≤u)
 | [],[],_=>by simp[allLe]
 | [],_::_,h=>by simp at h
 | _::_,[],h=>by simp at h
 | v::l,u::m,h=>by
  rw[allLe,Bool.and_eq_true,decide_eq_true_eq,allLe_iff (by simpa using h)]
  constructor
  · rintro⟨h1,h2⟩ k x y hx hy
    cases k with
    | zero=>simp at hx hy;omega
    | succ k=>exact h2 k x y (by simpa using hx) (by simpa using hy)
  · intro h1
    exact⟨h1 0 v u rfl rfl,fun k x y hx hy=>h1 (k+1) x y (by simpa using hx) (by simpa using hy)⟩
def springB:List (List UInt8):=[[98,101,100,32,52,48,48,32,57,48,48,32,51,48,48,32,52,48,48,32,53,48,32,54,48,32,48,32,48],
 [98,101,100,32,51,48,48,32,49,48,48,48,32,51,48,48,32,52,48,48,32,53,48,32,54,48,32,48,32,50,48,48],
 [103,114,111,117,110,100,32,50,48,32,51,48,32,53,48,48,32,54,48,48,32,52],
 [99,101,108,108,32,49,48,48,32,49,50,48,32,52,48,48,32,53,48,32,50,48,48,32,45,49,32,48],
 [108,105,110,107,32,48,32,48],
 [97,108,97,114,109,32,54,56,48,32,57,48,48,32,49,50,48,48],
 [119,101,97,116,104,101,114,32,49,48,32,50,48,32,45,50],
 [119,101,97,116,104,101,114,32,52,48,32,54,48,32,53],
 [112,97,114,99,101,108,32,49,48,48,32,56,48,32,53,32,49],
 [112,97,114,99,101,108,32,50,48,48,32,49,53,48,32,49,48,32,49],
 [115,108,105,100,101,32,50,53,32,48],
 [119,97,121,32,48,32,49],
 [101,118,105,100,101,110,99,101,32,48,32,49,32,53],
 [98,117,121,32,49,48,48],
 [104,101,97,114,32,97,53,48,55,48,49,48,50,48,48,48,48,48,51,101,56,102,102,102,102,102,102,102,101,55,52,54,52,101,101,53,97],
 [104,101,97,114,32,97,53]]
theorem spring_vals:(runP Ga.readOf (-1) 0 begS 0 springB).2=[0,0,0,0,0,0,0,0,0,0,0,0,0,0,0,7]∧(runP Ga.readOf (-1) 0 begS 0 springB).1.levels=[2,2]∧(runP Ga.readOf (-1) 0 begS 0 springB).1.bought=[0] ∧
 (runP Ga.readOf (-1) 0 begS 0 springB).1.spent=80∧(runP Ga.readOf (-1) 0 begS 0 springB).1.rds.length=1:=by decide +kernel
theorem spring_bears:bsearchP (fun m=>allLe (runP Ga.readOf 7 m begS 0 springB).1.levels (runP Ga.readOf (-1) 0 begS 0 springB).1.levels) 1001 0 (1000 - rainP [119,101,97,116,104,101,114,32,52,48,32,54,48,32,53])=29:=by decide +kernel
theorem spring_isW:isW [119,101,97,116,104,101,114,32,52,48,32,54,48,32,53]=true:=by decide +kernel
theorem spring_book:bookW [[97],[]] 5=[123,97,97,98,122,122,121,97,97,97,108,100,125,97,10,123,97,97,97,122,122,122,97,97,97,108,100,125,10]:=by decide +kernel
def springL:List ByteArray:=[⟨#[98,101,100,32,52,48,48,32,57,48,48,32,51,48,48,32,52,48,48,32,53,48,32,54,48,32,48,32,48]⟩,
 ⟨#[98,101,100,32,51,48,48,32,49,48,48,48,32,51,48,48,32,52,48,48,32,53,48,32,54,48,32,48,32,50,48,48]⟩,
 ⟨#[103,114,111,117,110,100,32,50,48,32,51,48,32,53,48,48,32,54,48,48,32,52]⟩,
 ⟨#[99,101,108,108,32,49,48,48,32,49,50,48,32,52,48,48,32,53,48,32,50,48,48,32,45,49,32,48]⟩,
 ⟨#[108,105,110,107,32,48,32,48]⟩,
 ⟨#[97,108,97,114,109,32,54,56,48,32,57,48,48,32,49,50,48,48]⟩,
 ⟨#[119,101,97,116,104,101,114,32,49,48,32,50,48,32,45,50]⟩,
 ⟨#[119,101,97,116,104,101,114,32,52,48,32,54,48,32,53]⟩,
 ⟨#[112,97,114,99,101,108,32,49,48,48,32,56,48,32,53,32,49]⟩,
 ⟨#[112,97,114,99,101,108,32,50,48,48,32,49,53,48,32,49,48,32,49]⟩,
 ⟨#[115,108,105,100,101,32,50,53,32,48]⟩,
 ⟨#[119,97,121,32,48,32,49]⟩,
 ⟨#[101,118,105,100,101,110,99,101,32,48,32,49,32,53]⟩,
 ⟨#[98,117,121,32,49,48,48]⟩,
 ⟨#[104,101,97,114,32,97,53,48,55,48,49,48,50,48,48,48,48,48,51,101,56,102,102,102,102,102,102,102,101,55,52,54,52,101,101,53,97]⟩,
 ⟨#[104,101,97,114,32,97,53]⟩]
theorem springL_B:springL.map (·.data.toList)=springB:=rfl
theorem springL_small:springL.length=16∧∀ p∈springL,p.size≤300:=by decide +kernel
end Go.Proofs.YtkhcliibilkefaaGreatDoor
namespace Go.Proofs.YtkhcliibilkefaaGreatDoor
open Lib (hid)
open Go.RowKit Go.Proofs
theorem takeE_all {α:Type}{a b:List α}{n:Nat}(ha:a.length=n)(hb:b.length=n)(h:a.take n=b.take n):a=b:=by
 rwa [List.take_of_length_le (by omega),List.take_of_length_le (by omega)] at h
theorem neE_get {α:Type}{a b:List α}{k:Nat}{x y:α}(ha:a[k]?=some x)(hb:b[k]?=some y)(h:x≠y):a≠b:=by
 rintro rfl;rw[ha] at hb;cases hb;exact h rfl
theorem takeE_snoc {α:Type}{a b:List α}{k:Nat}{x:α}(ha:a[k]?=some x)(hb:b[k]?=some x)(h:a.take k=b.take k):a.take (k+1)=b.take (k+1):=by
 rw[List.take_add_one,List.take_add_one,ha,hb,h]
theorem wints_c {l l':List Int}{A A':Option Addr}{n c n' c':Nat}{w:World}(h:Rd enc1 1 w A n l)(h':Rd enc1 1 w A' n' l')(hn:n≤1000000000) :
 Calls Tryz.prog 23 #[.slice A n c,.slice A' n' c'] w fun e w'=>e=.returned (.bool (decide (l=l')))∧Below w.heap.size w w':=by
 have hl:=h.len;have hl':=h'.len;have HL:=hid hl;have HL':=hid hl';clear hl hl'
 by_cases hne:n=n'
 · subst hne
   have hb0:((n:Int) == (n:Int))=true:=by simp
   go_enter Tryz.func23,Tryz.ntmps23
   go_wp2_with fail
   go_loopw [5] (fun i wr=>∃ k:Nat,k≤n∧i=.int .i64 k∧Below w.heap.size w wr∧l.take k=l'.take k) (fun i _=>n - (intOf i).toNat)
   case atStart=>exact⟨0,Nat.zero_le _,rfl,Below.refl _ _,rfl⟩
   case round =>
    obtain⟨k,hk,rfl,hb,heq⟩:=hrel;have HE:=hid heq;clear heq
    by_cases hlt:k<n
    · obtain⟨b,o,x,hA,_,hx,h0⟩:=(h.below hb).at1 hlt
      subst hA;obtain⟨b',o',y,hA,_,hy,h1⟩:=(h'.below hb).at1 hlt;subst hA;have HX:=hid hx;have HY:=hid hy;clear hx hy;have HB:=hid hb;clear hb
      have hkn:(k:Int)<(n:Int):=by omega
      by_cases hxy:x=y
      · subst hxy
        have e1:(x == x)=true:=by simp
        have e2:(x != x)=false:=by simp
        go_wp2_with fail
        go_quiet (fail)
        go_wp2
        go_roundw
        case rel=>exact⟨k+1,by omega,by go_num,below_drewN HB.out _,takeE_snoc HX.out HY.out HE.out⟩
        case measure=>simp[intOf]<;>omega
      · have e1:(x == y)=false:=by simpa using hxy
        have e2:(x != y)=true:=by simpa using hxy
        have HNE:=hid hxy;clear hxy
        go_wp2_with fail
        go_quiet (fail)
        go_wp2
        go_ret
        exact⟨ret_bool (decide_eq_false (neE_get HX.out HY.out HNE.out)).symm,below_drewN HB.out _⟩
    · obtain rfl:k=n:=by omega
      go_wp2_with fail
      go_ret
      exact⟨ret_bool (decide_eq_true (takeE_all HL.out HL'.out HE.out)).symm,hb⟩
 · have hb0:((n:Int) == (n':Int))=false:=by simp;omega
   have hb1:((n:Int) != (n':Int))=true:=by simp;omega
   have HNE:=hid hne;clear hne
   go_enter Tryz.func23,Tryz.ntmps23
   go_wp2_with fail
   go_ret
   exact⟨ret_bool (decide_eq_false (fun e=>HNE.out (by rw[← HL.out,← HL'.out,e]))).symm,Below.refl _ _⟩
end Go.Proofs.YtkhcliibilkefaaGreatDoor
namespace Go.Proofs.YtkhcliibilkefaaGreatDoor
open Lib (hid)
open Go.RowKit
section
variable (F:List UInt8→List Rdg)
def Errs (b:Sess)(r:Sess×Int):Prop:=r.2≠0→r.1=b
theorem errs_refuse (b:Sess)(e:Int):Errs b (refuse b e):=fun _=>rfl
theorem errs_done (b t:Sess):Errs b (done t):=fun h=>absurd rfl h
theorem errs_ite {b:Sess}{c:Prop}[Decidable c]{x y:Sess×Int}(h1:Errs b x)(h2:Errs b y):Errs b (if c then x else y):=by split<;>assumption
theorem errs_ifV (b t:Sess):Errs b (ifV b t):=by unfold ifV;exact errs_ite (errs_refuse _ _) (errs_done _ _)
theorem step_err {b:Sess}{m:Int}{s:List UInt8}:Errs b (stepP F b m s):=by
 unfold stepP
 cases parseP s with
 | bad=>exact errs_refuse _ _
 | text t =>
  dsimp only[sHear]
  cases wireP t with
  | none=>exact errs_refuse _ _
  | some w=>exact errs_ite (errs_refuse _ _) (errs_ite (errs_refuse _ _) (errs_done _ _))
 | nums wd l =>
  cases wd<;>dsimp only[sWord,sBed,sLeast,sGround,sCell,sLink,sAlarm,sWeather,sParcel,sSteps,sSlide,sWay,sEvid,sBuy]<;>repeat (first | exact errs_refuse _ _ | exact errs_done _ _ | exact errs_ifV _ _ | refine errs_ite ?_ ?_)
theorem moreAt_zero (now line:Int):moreAt now line 0=0:=by unfold moreAt;split<;>rfl
def takenP:List (List UInt8)→List Int→List (List UInt8)
 | s::l,e::es=>if e=0 then s::takenP l es else takenP l es
 | _,_=>[]
theorem taken_snoc:∀ {l:List (List UInt8)} {es:List Int} (s:List UInt8) (e:Int),es.length=l.length→takenP (l++[s]) (es++[e])=takenP l es++(if e=0 then [s] else [])
 | [],[],s,e,_=>by simp[takenP]
 | [],_::_,s,e,h=>by simp at h
 | _::_,[],s,e,h=>by simp at h
 | t::l,f::es,s,e,h=>by
  rw[List.cons_append,List.cons_append,takenP,takenP,taken_snoc s e (by simpa using h)]
  split<;>simp
theorem taken_zero:∀ {l:List (List UInt8)} {es:List Int},es.length=l.length→(∀ e∈es,e=0)→takenP l es=l
 | [],[],_,_=>rfl
 | [],_::_,h,_=>by simp at h
 | _::_,[],h,_=>by simp at h
 | t::l,e::es,h,hz=>by
  rw[takenP,if_pos (hz e (by simp)),taken_zero (by simpa using h) fun x hx=>hz x (by simp[hx])]
theorem run_now (line line' now now':Int):∀(l:List (List UInt8)) (b:Sess),runP F line 0 b now l=runP F line' 0 b now' l:=by
 intro l
 induction l generalizing now now' with
 | nil=>intro b;rfl
 | cons s l ih =>
  intro b;rw[runP,runP,moreAt_zero,moreAt_zero,ih (now+1) (now'+1)]
theorem run_app (line:Int):∀(l r:List (List UInt8)) (b:Sess) (now:Int),runP F line 0 b now (l++r)=((runP F line 0 (runP F line 0 b now l).1 now r).1,(runP F line 0 b now l).2++(runP F line 0 (runP F line 0 b now l).1 now r).2)
 | [],r,b,now=>by simp[runP]
 | s::l,r,b,now=>by
  rw[List.cons_append,runP,runP];rw[run_app line l r,run_now F line line (now+1) now r]
  rfl
theorem run_taken (line:Int):∀(l:List (List UInt8)) (b:Sess) (now:Int),(runP F line 0 b now (takenP l (runP F line 0 b now l).2)).1=(runP F line 0 b now l).1∧∀ e∈(runP F line 0 b now (takenP l (runP F line 0 b now l).2)).2,e=0
 | [],b,now=>by simp[runP,takenP]
 | s::l,b,now=>by
  have e1:runP F line 0 b now (s::l)=((runP F line 0 (stepP F b 0 s).1 (now+1) l).1,(stepP F b 0 s).2::(runP F line 0 (stepP F b 0 s).1 (now+1) l).2):=by
   rw[runP,moreAt_zero]
  obtain⟨i1,i2⟩:=run_taken line l (stepP F b 0 s).1 (now+1);rw[e1];dsimp only;rw[takenP]
  split
  · next h =>
    rw[runP,moreAt_zero];dsimp only;refine⟨i1,fun e he=>?_⟩
    rcases List.mem_cons.1 he with rfl | he
    · exact h
    · exact i2 e he
  · next h =>
    have h2:=step_err F (b:=b) (m:=0) (s:=s) h;rw[run_now F line line now (now+1),← h2,h2];rw[h2] at i1 i2 ⊢;exact⟨i1,i2⟩
theorem runP_len' (line more:Int):∀(l:List (List UInt8)) (b:Sess) (now:Int),(runP F line more b now l).2.length=l.length
 | [],_,_=>rfl
 | t::l,b,now=>by rw[runP,List.length_cons,runP_len' line more l];rfl
def goesP (L more:List (List UInt8)):List (List UInt8):=L++takenP more (runP F (-1) 0 (runP F (-1) 0 begS 0 L).1 0 more).2
theorem goes_cut {l:List (List UInt8)}(h:∀ e∈(runP F (-1) 0 begS 0 l).2,e=0)(k:Nat):goesP F (l.take k) (l.drop k)=l:=by
 have e1:runP F (-1) 0 begS 0 (l.take k++l.drop k)=_:=run_app F (-1) (l.take k) (l.drop k) begS 0;rw[List.take_append_drop] at e1;rw[e1] at h;unfold goesP;rw[taken_zero (runP_len' F _ _ _ _ _),List.take_append_drop];intro e he;exact h e (List.mem_append.2 (.inr he))
end
theorem parts_book (l:List (List UInt8))(n:Nat):bookW l 5=bookW (l.take n) 5++bookW (l.drop n) ((l.take n).foldl chkW 5):=by
 rw[← book_app,List.take_append_drop]
theorem read_cut_book {l:List (List UInt8)}(hs:∀ s∈l,s.length≤300)(hl:l.length≤60):∀ {cut:Nat},cut≤(bookW l 5).length→∃ k,k≤l.length∧(readW 60 ((bookW l 5).take cut) 5).1=l.take k:=by
 have key:∀(n:Nat),n≤l.length→∀ cut,cut≤(bookW (l.take n) 5).length→∃ k,k≤l.length∧(readW 60 ((bookW l 5).take cut) 5).1=l.take k:=by
  intro n
  induction n with
  | zero =>
   intro _ cut hc;have h0:(bookW (l.take 0) 5).length=0:=rfl
   obtain rfl:cut=0:=by omega
   exact⟨0,Nat.zero_le _,by rw[List.take_zero,read_nil];rfl⟩
  | succ n ih =>
   intro hn cut hc
   by_cases h1:cut≤(bookW (l.take n) 5).length
   · exact ih (by omega) cut h1
   · have hp:l[n]?=some l[n]:=List.getElem?_eq_getElem (by omega)
     have h2:=book_len (c:=5) hp
     by_cases h3:cut=(bookW (l.take (n+1)) 5).length
     · refine⟨n+1,hn,?_⟩
       have e:=parts_book l (n+1);rw[e,h3,List.take_left];have:=stops_all (l:=l.take (n+1)) (fun s h=>hs s (List.mem_of_mem_take h)) (by rw[List.length_take];omega) 5;rw[this]
     · have h4:=stops_cut hs hl (c:=5) hp (k:=cut - (bookW (l.take n) 5).length) (by omega)
       rw[show(bookW (l.take n) 5).length+(cut - (bookW (l.take n) 5).length)=cut from by omega] at h4;exact⟨n,by omega,by rw[h4]⟩
 intro cut hc;exact key l.length (Nat.le_refl _) cut (by rw[List.take_length];exact hc)
end Go.Proofs.YtkhcliibilkefaaGreatDoor
