/- THE CONTRACT of zone.Zones. -/
import Derived.Test.YtkhcliibilkefaaGreatDoorZEnd
import Derived.Deep.RegionHeld3
import Derived.Deep.DeepCutAuto
import Derived.Test.YtkhcliibilkefaaGreatDoorKHeld
set_option linter.unusedVariables false
set_option linter.unusedSimpArgs false
set_option maxRecDepth 100000
set_option maxHeartbeats 8000000
namespace Go.Proofs.YtkhcliibilkefaaGreatDoor
open Lib (hid)
open Go.RowKit Go.Proofs
attribute [local go_sem ↓] Go.wp_at_zero Go.wp_at_succ
abbrev vA (PA:Option Addr) (pn pc:Nat) (SA:Option Addr) (sn sc:Nat) (v:Vly):Array Value:=#[.slice PA pn pc,.slice SA sn sc,.int .i64 v.s0,.int .i64 v.s1,.int .i64 v.s2]
def SV (w2:World)(g:Nat)(cs:Array Value)(W:World):Prop:=Below w2.heap.size w2 W∧Blk W g 39 cs
theorem SV.drew {w2:World}{g:Nat}{cs:Array Value}{W:World}(h:SV w2 g cs W):SV w2 g cs W.drew:=⟨h.1.drew,h.2⟩
theorem SV.below {w2:World}{g:Nat}{cs:Array Value}{W W':World}(h:SV w2 g cs W)(hb:Below W.heap.size W W'):SV w2 g cs W':=⟨below_tr h.1 hb,h.2.below hb h.2.lt⟩
theorem SV.cells {w2:World}{g:Nat}{PA SA:Option Addr}{pn pc sn sc:Nat}{v:Vly}{W:World}(h:SV w2 g (vA PA pn pc SA sn sc v) W) :
 W.cell? ⟨g,0,none⟩=some (.slice PA pn pc)∧W.cell? ⟨g,1,none⟩=some (.slice SA sn sc)∧W.cell? ⟨g,2,none⟩=some (.int .i64 v.s0)∧W.cell? ⟨g,3,none⟩=some (.int .i64 v.s1)∧W.cell? ⟨g,4,none⟩=some (.int .i64 v.s2):=by
 refine⟨?_,?_,?_,?_,?_⟩
 · rw[h.2.cell 0];rfl
 · rw[h.2.cell 1];rfl
 · rw[h.2.cell 2];rfl
 · rw[h.2.cell 3];rfl
 · rw[h.2.cell 4];rfl
theorem blk_drew {w:World}{g:Nat}{t:TypeId}{cs:Array Value}(h:Blk w g t cs):Blk w.drew g t cs:=h
def half (a b:List Int)(k:Nat):List Int:=a.take k++b.drop k
theorem half_len {a b:List Int}{k:Nat}(h:a.length=b.length):(half a b k).length=b.length:=by
 unfold half;rw[List.length_append,List.length_take,List.length_drop];omega
theorem half_get {a b:List Int}{k:Nat}(h:a.length=b.length)(hk:k<b.length):(half a b k)[k]?=b[k]?:=by
 unfold half;rw[List.getElem?_append_right (by rw[List.length_take];omega),List.length_take,List.getElem?_drop]
 congr 1;omega
theorem half_set {a b:List Int}{k:Nat}{x:Int}(h:a.length=b.length)(hx:a[k]?=some x):(half a b k).set k x=half a b (k+1):=by
 have hk:k<a.length:=lt_of_get hx;refine List.ext_getElem? fun i=>?_
 by_cases hi:i<b.length
 · rw[List.getElem?_set,half_len h]
   unfold half
   by_cases hki:k=i
   · subst hki
     simp only[if_true,hi];rw[List.getElem?_append_left (by rw[List.length_take];omega),List.getElem?_take,if_pos (by omega),hx]
   · rw[if_neg hki]
     rcases Nat.lt_or_ge i k with h1 | h1
     · rw[List.getElem?_append_left (by rw[List.length_take];omega),List.getElem?_append_left (by rw[List.length_take];omega),List.getElem?_take,List.getElem?_take,if_pos h1,if_pos (by omega)]
     · rw[List.getElem?_append_right (by rw[List.length_take];omega),List.getElem?_append_right (by rw[List.length_take];omega),List.length_take,List.length_take,List.getElem?_drop,List.getElem?_drop]
       congr 1;omega
 · rw[List.getElem?_eq_none (by rw[List.length_set,half_len h];omega),List.getElem?_eq_none (by rw[half_len h];omega)]
theorem half_zero {a b:List Int}:half a b 0=b:=by simp[half]
theorem half_all {a b:List Int}{k:Nat}(h:a.length=b.length)(hk:b.length=k):half a b k=a:=by
 unfold half;rw[List.take_of_length_le (by omega),List.drop_of_length_le (by omega),List.append_nil]
def gainsL (v:Vly):List Int:=(v.pars.zip (dangs v (endsT v true))).map fun x=>x.2 * x.1.people
theorem gainsL_len {v:Vly}:(gainsL v).length=v.pars.length:=by simp[gainsL,dangs_len]
theorem gainsL_get {v:Vly}{i:Nat}{p:Par}{d:Int}(hp:v.pars[i]?=some p)(hd:(dangs v (endsT v true))[i]?=some d):(gainsL v)[i]?=some (d * p.people):=by
 simp[gainsL,List.getElem?_zip_eq_some.2 (show _=some (p,d).1∧_=some (p,d).2 from⟨hp,hd⟩)]
theorem gainsL_bd {v:Vly}(hok:VOk v):∀ x∈gainsL v,0≤x∧x≤10000000:=by
 intro x hx;obtain⟨i,hi⟩:=List.getElem?_of_mem hx;have hil:=lt_of_get hi;rw[gainsL_len] at hil;have hp:=List.getElem?_eq_getElem hil;have hd:=List.getElem?_eq_getElem (show i<(dangs v (endsT v true)).length by rw[dangs_len];exact hil);rw[gainsL_get hp hd] at hi;have h1:=hok.parcel hp;have h2:=dangs_bd hok hd;cases hi
 constructor
 · exact Int.mul_nonneg h2.1 h1.2.2.1
 · calc _≤10000 * v.pars[i].people:=Int.mul_le_mul_of_nonneg_right h2.2 h1.2.2.1
    _≤10000 * 1000:=Int.mul_le_mul_of_nonneg_left h1.2.2.2 (by omega)
theorem gains_c {v:Vly}{PA SA:Option Addr}{pn pc sn sc:Nat}{w:World}(h:RdV w PA pn SA sn v)(hok:VOk v) :
 Calls Tryz.prog 143 #[.agg #[.slice PA pn pc,.slice SA sn sc,.int .i64 v.s0,.int .i64 v.s1,.int .i64 v.s2]] w
  fun e w'=>∃ g,e=.returned (.slice (some ⟨g,0,none⟩) pn pn)∧w.heap.size≤g∧Blk w' g 3 (intsA (gainsL v))∧Below w.heap.size w w':=by
 have hlp:=h.pars.len;have hls:=h.sls.len;have hpn:=hok.pn;have hsn:=hok.sn;have hb0:Below w.heap.size w (w.alloc (.cells (vA PA pn pc SA sn sc v) 39)):=(Below.refl _ w).alloc (Nat.le_refl _) _;have HB:=hid hb0;have HX:=hid (Blk.new w 39 (vA PA pn pc SA sn sc v));have HV:=hid h;have HOK:=hid hok;have HE:=hid (end_high_c (pc:=pc) (sc:=sc) (h.below hb0) (by omega));clear h hb0 hok;obtain⟨D,hD⟩:∃ D,D=dangs v (endsT v true):=⟨_,rfl⟩;obtain⟨G,hG⟩:∃ G,G=gainsL v:=⟨_,rfl⟩
 have hDl:D.length=pn:=by rw[hD,dangs_len,hlp]
 have hGl:G.length=D.length:=by rw[hG,gainsL_len,hlp,hDl]
 have HDG:=hid (fun(i:Nat) (p:Par) (d:Int) (hp:v.pars[i]?=some p) (hd:D[i]?=some d)=>show G[i]?=some (d * p.people) from by rw[hG];exact gainsL_get hp (by rw[← hD];exact hd));have HDB:=hid (fun(i:Nat) (d:Int) (hd:D[i]?=some d)=>dangs_bd HOK.out (tr:=endsT v true) (by rw[← hD];exact hd));have HDE:=hid hD;rw[← hG];clear hD hG
 go_enter Tryz.func143,Tryz.ntmps143
 go_wp2_with fail
 refine HE.out.mono ?_;rintro e w2 ⟨TA,tc,rfl,htc,hT,hb⟩;have HB2:=hid (below_tr HB.out hb);have HX2:=hid (HX.out.below hb (by simp));have HD:=hid (dangers_c (pc:=pc) (sc:=sc) (tc:=tc) HOK.out (endsT_fits HOK.out true) (HV.out.below HB2.out) hT);clear hb hT HX HB HE
 go_wp2_with fail
 refine HD.out.mono ?_;rintro e w3 ⟨g,rfl,hg,hblk,hb⟩;have HB3:=hid (below_tr HB2.out hb);have HX3:=hid (HX2.out.below hb (by have:=HX2.out.lt;omega));have HG:=hid hblk;rw[← HDE.out] at HG
 have hgw:w.heap.size<g:=by have:=HB2.out.size;have:=HX2.out.lt;omega
 have c0:=HX3.out.cell 0;simp at c0;clear hb hblk HD HX2 HB2
 go_wp2_with fail
 go_loopw [12] (fun i wr=>∃ k:Nat,k≤pn∧i=.int .i64 k∧Blk wr g 3 (intsA (half G D k))∧Below w.heap.size w wr) (fun i _=>pn - (intOf i).toNat)
 case atStart=>exact⟨0,Nat.zero_le _,rfl,by rw[half_zero];exact HG.out,HB3.out⟩
 case round =>
  obtain⟨k,hk,rfl,hblk,hb⟩:=hrel;have HK:=hid hblk;have HB4:=hid hb
  by_cases hlt:k<pn
  · obtain⟨b,o,p,hA,_,hp,p0,p1,p2,p3⟩:=((HV.out.below hb).pars).atP hlt
    subst hA;have hd:D[k]?=some (D[k]'(by omega)):=List.getElem?_eq_getElem (by omega);obtain⟨d,hdd⟩:∃ d,d=D[k]'(by omega):=⟨_,rfl⟩;rw[← hdd] at hd
    have hcell:wr.cell? ⟨g,k,none⟩=some (.int .i64 d):=by
     rw[hblk.cell k,intsA_get,half_get hGl (by omega),hd];rfl
    have hfz:=hblk.frozen k;have hgx:=HDG.out k p d hp hd;have hset:=half_set hGl hgx;have hdb:=HDB.out k d hd;have hpb:=HOK.out.parcel hp
    have hmul:0≤d * p.people∧d * p.people≤10000000:=by
     constructor
     · exact Int.mul_nonneg hdb.1 hpb.2.2.1
     · calc d * p.people≤10000 * p.people:=Int.mul_le_mul_of_nonneg_right hdb.2 hpb.2.2.1
        _≤10000 * 1000:=Int.mul_le_mul_of_nonneg_left hpb.2.2.2 (by omega)
    have hw1:IntKind.i64.wrap (d * p.people)=d * p.people:=wi (by omega);have HSET:=hid hset;have hglt:=hblk.lt;clear hblk hb hset hgx hp hd hdd;have hB5:=HK.out.set_ k (.int .i64 (d * p.people));rw[intsA_set,HSET.out] at hB5;have hbb:=HB4.out.setCell (p:=⟨g,k,none⟩) (Nat.le_of_lt hgw) (.int .i64 (d * p.people));have H5:=hid (blk_drew (hB5.alloc (.cells #[.int .i64 p.worth,.int .i64 p.price,.int .i64 p.people,.bool p.ins] 174)));have H6:=hid ((hbb.alloc hbb.size (.cells #[.int .i64 p.worth,.int .i64 p.price,.int .i64 p.people,.bool p.ins] 174)).drew)
    have hk0:(0:Int)≤(k:Int):=by omega
    have hkn:(k:Int)<(pn:Int):=by omega
    clear hB5 hbb
    go_wp2_with fail
    go_region
    all_goals
     go_wp2_with fail
     go_roundw
     case rel=>exact⟨k+1,by omega,by go_num,H5.out,H6.out⟩
     case measure=>simp[intOf]<;>omega
  · obtain rfl:k=pn:=by omega
    rw[half_all hGl hDl] at HK;clear hblk hb
    go_wp2_with fail
    go_ret
    exact⟨g,rfl,Nat.le_of_lt hgw,HK.out,HB4.out⟩
end Go.Proofs.YtkhcliibilkefaaGreatDoor
namespace Go.Proofs.YtkhcliibilkefaaGreatDoor
open Lib (hid)
open Go.RowKit
structure PSl where
 way:List Int
 rate:Int
 lo:Int
 hi:Int
 deriving DecidableEq
def PSl.sli (s:PSl):Sli:=⟨none,0,0,s.way,s.rate,s.lo,s.hi⟩
structure Sess where
 cols:List BedS
 least:Int
 links:List Int
 cells:List Cel
 sn0:Int
 sn1:Int
 so0:Int
 so1:Int
 melt:Int
 days:List Dy
 a0:Int
 a1:Int
 a2:Int
 levels:List Int
 pars:List Par
 sls:List PSl
 t0:Int
 t1:Int
 t2:Int
 spent:Int
 bought:List Int
 rds:List Rdg
def Sess.vly (b:Sess):Vly:=⟨b.pars,b.sls.map PSl.sli,b.t0,b.t1,b.t2⟩
def begS:Sess:=⟨[],1,[],[],0,0,0,0,0,[],1000,1200,1500,[],[],[],1,2,3,0,[],[]⟩
instance (b:BedS):Decidable (bedOk b):=by unfold bedOk;infer_instance
instance (n:Nat) (c:Cel):Decidable (celOk n c):=by unfold celOk;infer_instance
def slopeOk (cols:List BedS)(least:Int):Bool:=inB cols.length 1 12 && inB least 1 4 && allB (fun b=>decide (bedOk b)) cols
def noSelf (cells:List Cel):Bool:=allB (fun i=>decide ((celA cells i).to≠(i:Int))) (List.range cells.length)
def groundOk (cells:List Cel)(sn0 sn1 so0 so1 melt:Int):Bool :=
 inB cells.length 1 8 && allB (fun c=>decide (celOk cells.length c)) cells && upB sn0 sn1 100000 && upB so0 so1 1000 && inB melt 0 50 && noSelf cells
def dayOk (d:Dy):Bool:=upB d.lo d.hi 1000 && inB d.warm (-50) 50
def faultW (cells:List Cel)(sn0 sn1 so0 so1 melt:Int)(days:List Dy):Int :=
 if groundOk cells sn0 sn1 so0 so1 melt=false then 1 else if 30<days.length then 3 else if allB dayOk days then 0 else 1
def truthW (b:Sess)(high:Bool)(n:Nat):WaySt :=
 if high then daysW b.cells b.melt b.so1 (b.days.map (·.hi)) (b.days.map (·.warm)) ⟨b.cells.map (·.hi),b.sn1,0⟩ n
 else daysW b.cells b.melt b.so0 (b.days.map (·.lo)) (b.days.map (·.warm)) ⟨b.cells.map (·.lo),b.sn0,0⟩ n
def lowsS (b:Sess):List Int:=(truthW b false b.days.length).lv
def highsS (b:Sess):List Int:=(truthW b true b.days.length).lv
def wetB (b:Sess)(x:BedS)(c:Int):BedS:=if c=-1 then x else { x with w0:=min 100000 (lvA (lowsS b) c.toNat),w1:=min 100000 (lvA (highsS b) c.toNat) }
def wetS (b:Sess):List BedS:=List.zipWith (wetB b) b.cols b.links
def holdA (l:List BedS)(j:Nat):Int:=match l[j]? with | some b=>leastS b | none=>0
def drivA (l:List BedS)(j:Nat):Int:=match l[j]? with | some b=>b.drive | none=>0
def lowB (H D:Nat→Int)(n:Int)(m least:Nat):Bool:=(List.range m).any fun i=>(List.range m).any fun j=>decide (i≤j) && decide (i+least≤j+1) && decide (sumS (costS H D n) (j - i) i<0)
theorem lowB_iff {H D:Nat→Int}{n:Int}{m least:Nat}:lowB H D n m least=true↔Lower (costS H D n) m least:=by
 simp only[lowB,List.any_eq_true,List.mem_range,Bool.and_eq_true,decide_eq_true_eq,Lower]
 constructor
 · rintro⟨i,hi,j,hj,⟨h1,h2⟩,h3⟩;exact⟨i,j,h1,hj,h2,h3⟩
 · rintro⟨i,j,h1,hj,h2,h3⟩;exact⟨i,by omega,j,hj,⟨h1,h2⟩,h3⟩
def halvW (l:List BedS)(least:Nat):Int:=halfS (fun n=>lowB (holdA l) (drivA l) n l.length least) 10001 1 10001
def worstP (l:List BedS)(least:Nat):Option Int :=
 if halvW l least≤10000 then some (halvW l least - 1) else if lowB (fun _=>0) (drivA l) 1 l.length least then some 10000 else none
def levelN (b:Sess):Option Int→Int
 | none=>0
 | some f=>(if f<b.a0 then 1 else 0)+(if f<b.a1 then 1 else 0)+(if f<b.a2 then 1 else 0)
def levelP (b:Sess):Int:=levelN b (worstP (wetS b) b.least.toNat)
def nth (l:List Int)(i:Nat):Int:=l.getD i 0
def bedOf (l:List Int):BedS:=⟨nth l 0,nth l 1,nth l 2,nth l 3,nth l 4,nth l 5,nth l 6,nth l 7⟩
def celOf (l:List Int):Cel:=⟨nth l 0,nth l 1,nth l 2,nth l 3,nth l 4,nth l 5,nth l 6⟩
def refuse (b:Sess)(e:Int):Sess×Int:=(b,e)
def done (b:Sess):Sess×Int:=(b,0)
def sBed (b:Sess)(l:List Int):Sess×Int :=
 if 12≤b.cols.length then refuse b 3
 else if slopeOk (b.cols++[bedOf l]) b.least then done { b with cols:=b.cols++[bedOf l],links:=b.links++[-1] } else refuse b 1
def sLeast (b:Sess)(l:List Int):Sess×Int :=
 if b.cols.length=0 then refuse b 8 else if slopeOk b.cols (nth l 0) then done { b with least:=nth l 0 } else refuse b 1
def tried (cells:List Cel):List Cel:=if cells.length=0 then [⟨0,0,1,0,0,-1,0⟩] else cells
def sGround (b:Sess)(l:List Int):Sess×Int :=
 if b.days.length≠0 then refuse b 8
 else if groundOk (tried b.cells) (nth l 0) (nth l 1) (nth l 2) (nth l 3) (nth l 4) then done { b with sn0:=nth l 0,sn1:=nth l 1,so0:=nth l 2,so1:=nth l 3,melt:=nth l 4 } else refuse b 1
def sCell (b:Sess)(l:List Int):Sess×Int :=
 if b.days.length≠0 then refuse b 8
 else if groundOk (b.cells++[celOf l]) b.sn0 b.sn1 b.so0 b.so1 b.melt then done { b with cells:=b.cells++[celOf l] } else refuse b 1
def sLink (b:Sess)(l:List Int):Sess×Int :=
 if inB (nth l 0) 0 ((b.links.length:Int) - 1) && inB (nth l 1) 0 ((b.cells.length:Int) - 1) then done { b with links:=b.links.set (nth l 0).toNat (nth l 1) } else refuse b 2
def sAlarm (b:Sess)(l:List Int):Sess×Int :=
 if stepsOk (nth l 0) (nth l 1) (nth l 2) then done { b with a0:=nth l 0,a1:=nth l 1,a2:=nth l 2 } else refuse b 1
def wetDay (b:Sess)(d:Dy):Sess:={ b with days:=b.days++[d] }
def sWeather (b:Sess)(more:Int)(l:List Int):Sess×Int :=
 if b.cells.length=0∨b.cols.length=0 then refuse b 8
 else if faultW b.cells b.sn0 b.sn1 b.so0 b.so1 b.melt (b.days++[⟨nth l 0,nth l 1+more,nth l 2⟩])≠0 then refuse b (faultW b.cells b.sn0 b.sn1 b.so0 b.so1 b.melt (b.days++[⟨nth l 0,nth l 1+more,nth l 2⟩]))
 else done { b with days:=b.days++[⟨nth l 0,nth l 1+more,nth l 2⟩],levels:=b.levels++[levelP (wetDay b ⟨nth l 0,nth l 1+more,nth l 2⟩)] }
def ifV (b t:Sess):Sess×Int:=if errV t.vly≠0 then refuse b (errV t.vly) else done t
def sParcel (b:Sess)(l:List Int):Sess×Int :=
 if inB (nth l 3) 0 1 then ifV b { b with pars:=b.pars++[⟨nth l 0,nth l 1,nth l 2,decide (nth l 3=1)⟩] } else refuse b 2
def sSteps (b:Sess)(l:List Int):Sess×Int :=
 if b.pars.length=0 then refuse b 8 else ifV b { b with t0:=nth l 0,t1:=nth l 1,t2:=nth l 2 }
def sSlide (b:Sess)(l:List Int):Sess×Int :=
 if b.pars.length=0 then refuse b 8 else ifV b { b with sls:=b.sls++[⟨[nth l 1],nth l 0,0,1⟩] }
def wayTop (s:PSl)(x:Int):PSl:={ s with way:=s.way++[x],hi:=s.hi+1 }
def sWay (b:Sess)(l:List Int):Sess×Int :=
 if inB (nth l 0) 0 ((b.sls.length:Int) - 1) then ifV b { b with sls:=b.sls.modify (nth l 0).toNat fun s=>wayTop s (nth l 1) } else refuse b 2
def reachTo (s:PSl)(r:Int×Int):PSl:={ s with lo:=r.1,hi:=r.2 }
def sEvid (b:Sess)(l:List Int):Sess×Int :=
 if b.pars.length=0 then refuse b 8
 else if hearE b.vly [⟨nth l 0,nth l 1,nth l 2⟩]≠0 then refuse b (hearE b.vly [⟨nth l 0,nth l 1,nth l 2⟩])
 else done { b with sls:=List.zipWith reachTo b.sls (leftsL b.vly [⟨nth l 0,nth l 1,nth l 2⟩]) }
def insAt (l:List Int)(x:Int):List Int:=l.takeWhile (fun y=>decide (y<x))++(if x∈l then [] else [x])++l.dropWhile (fun y=>decide (y<x))
def buyOne (b:Sess)(i:Int):Sess:=match b.pars[i.toNat]? with
 | some p=>{ b with spent:=b.spent+p.price,pars:=b.pars.set i.toNat ⟨p.worth,0,0,false⟩,bought:=insAt b.bought i }
 | none=>b
def buySet (b:Sess)(set:List Int):Sess:=set.foldl buyOne b
def sBuy (b:Sess)(l:List Int):Sess×Int :=
 if b.pars.length=0 then refuse b 8
 else if inB (nth l 0) 0 100000000 then done (buySet b (bestB (gainsL b.vly) (b.pars.map (·.price)) (nth l 0)).set) else refuse b 2
def sHear (readF:List UInt8→List Rdg)(b:Sess)(t:List UInt8):Sess×Int:=match wireP t with
 | none=>refuse b 4
 | some w =>
  if (readF (w.map UInt8.ofNat)).length=0 then refuse b 7
  else if 200<b.rds.length+(readF (w.map UInt8.ofNat)).length then refuse b 3
  else done { b with rds:=b.rds++readF (w.map UInt8.ofNat) }
inductive Wd where
 | bed | least | ground | cell | link | alarm | weather | parcel | steps | slide | way | evidence | buy | hear
 deriving DecidableEq
def Wd.all:List Wd:=[.bed,.least,.ground,.cell,.link,.alarm,.weather,.parcel,.steps,.slide,.way,.evidence,.buy,.hear]
def Wd.many:Wd→Nat
 | .bed=>8 | .least=>1 | .ground=>5 | .cell=>7 | .link=>2 | .alarm=>3 | .weather=>3 | .parcel=>4 | .steps=>3 | .slide=>2 | .way=>2 | .evidence=>3 | .buy=>1 | .hear=>0
def Wd.name:Wd→List UInt8
 | .bed=>[98,101,100] | .least=>[108,101,97,115,116] | .ground=>[103,114,111,117,110,100] | .cell=>[99,101,108,108]
 | .link=>[108,105,110,107] | .alarm=>[97,108,97,114,109] | .weather=>[119,101,97,116,104,101,114] | .parcel=>[112,97,114,99,101,108]
 | .steps=>[115,116,101,112,115] | .slide=>[115,108,105,100,101] | .way=>[119,97,121] | .evidence=>[101,118,105,100,101,110,99,101]
 | .buy=>[98,117,121] | .hear=>[104,101,97,114]
def wordOf (s:List UInt8):Option Wd:=Wd.all.find? fun w=>decide (w.name=s)
def numsP:List (List UInt8)→Option (List Int)
 | []=>some []
 | s::l=>match wholeP s,numsP l with
  | some x,some r=>some (x::r)
  | _,_=>none
inductive Cmd where
 | bad
 | nums (w:Wd) (l:List Int)
 | text (t:List UInt8)
def cmdOf (parts:List (List UInt8)):Cmd:=match parts with
 | []=>.bad
 | p::ps=>match wordOf p with
  | none=>.bad
  | some .hear=>match ps with
   | [t]=>.text t
   | _=>.bad
  | some w=>if ps.length=w.many then match numsP ps with
   | some l=>.nums w l
   | none=>.bad
   else .bad
def parseP (s:List UInt8):Cmd:=cmdOf (partsP 32 s)
def sWord (readF:List UInt8→List Rdg)(b:Sess)(more:Int):Wd→List Int→Sess×Int
 | .bed,l=>sBed b l | .least,l=>sLeast b l | .ground,l=>sGround b l | .cell,l=>sCell b l | .link,l=>sLink b l | .alarm,l=>sAlarm b l
 | .weather,l=>sWeather b more l | .parcel,l=>sParcel b l | .steps,l=>sSteps b l | .slide,l=>sSlide b l | .way,l=>sWay b l | .evidence,l=>sEvid b l
 | .buy,l=>sBuy b l | .hear,_=>refuse b 4
def stepP (readF:List UInt8→List Rdg)(b:Sess)(more:Int)(s:List UInt8):Sess×Int:=match parseP s with
 | .bad=>refuse b 4
 | .nums w l=>sWord readF b more w l
 | .text t=>sHear readF b t
def moreAt (now line more:Int):Int:=if now=line then more else 0
def runP (readF:List UInt8→List Rdg)(line more:Int):Sess→Int→List (List UInt8)→Sess×List Int
 | b,_,[]=>(b,[])
 | b,now,s::l=>let r:=stepP readF b (moreAt now line more) s;let t:=runP readF line more r.1 (now+1) l;(t.1,r.2::t.2)
end Go.Proofs.YtkhcliibilkefaaGreatDoor
