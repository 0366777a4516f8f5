/- PLAIN: what holds of each state that a session comes to. No program in sight. -/
import Derived.Test.YtkhcliibilkefaaGreatDoorYSess
set_option linter.unusedVariables false
set_option linter.unusedSimpArgs false
set_option maxRecDepth 100000
set_option maxHeartbeats 8000000
namespace Go.Proofs.YtkhcliibilkefaaGreatDoor
open Lib (hid)
open Go.RowKit
def sumP (l:List Par):Int:=(l.map (·.price)).sum
def Asc (l:List Int):Prop:=l.Pairwise (· < ·)
structure SOk (b:Sess):Prop where
 least:1≤b.least∧b.least≤4
 colN:b.cols.length≤12
 bed:∀ x∈b.cols,bedOk x
 linkN:b.links.length=b.cols.length
 link:∀ c∈b.links,-1≤c∧c<b.cells.length
 cellN:b.cells.length≤8
 ground:groundOk (tried b.cells) b.sn0 b.sn1 b.so0 b.so1 b.melt=true
 dayN:b.days.length≤30
 day:∀ d∈b.days,dayOk d=true
 dayC:b.days.length≠0→b.cells.length≠0
 alarm:stepsOk b.a0 b.a1 b.a2=true
 levN:b.levels.length=b.days.length
 lev:∀ x∈b.levels,0≤x∧x≤3
 val:(b.pars.length=0∧b.sls.length=0)∨VOk b.vly
 steps:stepsOk b.t0 b.t1 b.t2=true
 spent:0≤b.spent∧b.spent+sumP b.pars≤100000 * b.pars.length
 price:∀ p∈b.pars,0≤p.price∧p.price≤100000
 parN:b.pars.length≤12
 asc:Asc b.bought
 bought:∀ x∈b.bought,0≤x∧x<b.pars.length
 rdsN:b.rds.length≤200
theorem slopeOk_iff {cols:List BedS}{least:Int}:slopeOk cols least=true↔(1≤cols.length∧cols.length≤12)∧(1≤least∧least≤4)∧∀ x∈cols,bedOk x:=by
 simp only[slopeOk,Bool.and_eq_true,inB_iff,allB,List.all_eq_true,decide_eq_true_eq]
 constructor
 · rintro⟨⟨h1,h2⟩,h3⟩;exact⟨⟨by omega,by omega⟩,h2,h3⟩
 · rintro⟨h1,h2,h3⟩;exact⟨⟨⟨by omega,by omega⟩,h2⟩,h3⟩
theorem noSelf_iff {cells:List Cel}:noSelf cells=true↔∀ i,i<cells.length→(celA cells i).to≠(i:Int):=by
 simp only[noSelf,allB,List.all_eq_true,decide_eq_true_eq,List.mem_range]
theorem groundOk_iff {cells:List Cel}{sn0 sn1 so0 so1 melt:Int}:groundOk cells sn0 sn1 so0 so1 melt=true ↔
 (1≤cells.length∧cells.length≤8)∧(∀ c∈cells,celOk cells.length c)∧(0≤sn0∧sn0≤sn1∧sn1≤100000)∧(0≤so0∧so0≤so1∧so1≤1000)∧(0≤melt∧melt≤50)∧∀ i,i<cells.length→(celA cells i).to≠(i:Int):=by
 unfold groundOk;simp only[Bool.and_eq_true,inB_iff,upB_iff,noSelf_iff];simp only[allB,List.all_eq_true,decide_eq_true_eq]
 constructor
 · rintro⟨⟨⟨⟨⟨h1,h2⟩,h3⟩,h4⟩,h5⟩,h6⟩;exact⟨⟨by omega,by omega⟩,h2,h3,h4,h5,h6⟩
 · rintro⟨h1,h2,h3,h4,h5,h6⟩;exact⟨⟨⟨⟨⟨⟨by omega,by omega⟩,h2⟩,h3⟩,h4⟩,h5⟩,h6⟩
theorem dayOk_iff {d:Dy}:dayOk d=true↔(0≤d.lo∧d.lo≤d.hi∧d.hi≤1000)∧-50≤d.warm∧d.warm≤50:=by
 simp only[dayOk,Bool.and_eq_true,upB_iff,inB_iff]
theorem faultW_zero {cells:List Cel}{sn0 sn1 so0 so1 melt:Int}{days:List Dy}:faultW cells sn0 sn1 so0 so1 melt days=0↔groundOk cells sn0 sn1 so0 so1 melt=true∧days.length≤30∧∀ d∈days,dayOk d=true:=by
 unfold faultW
 split
 · rename_i h;simp[h]
 · rename_i h
   simp only[Bool.not_eq_false] at h
   split
   · rename_i h2;constructor
     · intro h';cases h'
     · intro h';have:=h'.2.1;omega
   · rename_i h2
     split
     · rename_i h3
       simp only[allB,List.all_eq_true] at h3;exact⟨fun _=>⟨h,by omega,h3⟩,fun _=>rfl⟩
     · rename_i h3
       simp only[allB,List.all_eq_true] at h3
       constructor
       · intro h';cases h'
       · intro h';exact absurd h'.2.2 h3
theorem begS_ok:SOk begS:=by
 refine⟨by decide,by decide,?_,rfl,?_,by decide,by decide,by decide,?_,?_,by decide,rfl,?_,.inl ⟨rfl,rfl⟩,by decide,by decide,?_,by decide,List.Pairwise.nil,?_,by decide⟩<;>simp[begS]
theorem levelN_bd (b:Sess)(o:Option Int):0≤levelN b o∧levelN b o≤3:=by
 cases o with
 | none=>simp[levelN]
 | some f =>
  simp only[levelN]
  split<;>split<;>split<;>omega
theorem sumP_append (l m:List Par):sumP (l++m)=sumP l+sumP m:=by simp[sumP]
theorem sumP_nn {l:List Par}(h:∀ p∈l,0≤p.price):0≤sumP l:=by
 induction l with
 | nil=>simp[sumP]
 | cons p l ih =>
  have h1:=h p (by simp);have h2:=ih fun q hq=>h q (by simp[hq]);simp only[sumP,List.map_cons,List.sum_cons] at h2 ⊢;omega
theorem sumP_set {l:List Par}{i:Nat}{p q:Par}(h:l[i]?=some p):sumP (l.set i q)=sumP l - p.price+q.price:=by
 induction l generalizing i with
 | nil=>simp at h
 | cons x l ih =>
  cases i with
  | zero=>simp at h;subst h;simp[sumP];omega
  | succ i =>
   have:=ih (i:=i) (by simpa using h);simp only[sumP,List.set_cons_succ,List.map_cons,List.sum_cons] at this ⊢;omega
theorem mem_take_while {l:List Int}{x y:Int}(h:y∈l.takeWhile (fun z=>decide (z<x))):y<x:=by
 have:=List.all_takeWhile (p:=fun z=>decide (z<x)) (l:=l)
 simpa using List.all_eq_true.1 this y h
theorem insAt_mem {l:List Int}{x y:Int}:y∈insAt l x↔y=x∨y∈l:=by
 have e:=List.takeWhile_append_dropWhile (p:=fun z:Int=>decide (z<x)) (l:=l)
 have hl:y∈l↔y∈l.takeWhile (fun z=>decide (z<x))∨y∈l.dropWhile (fun z=>decide (z<x)):=by
  rw[← List.mem_append,e]
 unfold insAt;simp only[List.mem_append];rw[hl]
 by_cases hx:x∈l
 · rw[if_pos hx]
   constructor
   · rintro((h | h) | h)
     · exact .inr (.inl h)
     · cases h
     · exact .inr (.inr h)
   · rintro(rfl | h | h)
     · rcases hl.1 hx with h | h
       · exact .inl (.inl h)
       · exact .inr h
     · exact .inl (.inl h)
     · exact .inr h
 · rw[if_neg hx]
   simp only[List.mem_singleton]
   constructor
   · rintro((h | h) | h)
     · exact .inr (.inl h)
     · exact .inl h
     · exact .inr (.inr h)
   · rintro(rfl | h | h)
     · exact .inl (.inr rfl)
     · exact .inl (.inl h)
     · exact .inr h
theorem drop_while_ge {l:List Int}{x:Int}(h:Asc l):∀ y∈l.dropWhile (fun z=>decide (z<x)),x≤y:=by
 induction l with
 | nil=>simp
 | cons a l ih =>
  intro y hy;rw[List.dropWhile_cons] at hy
  split at hy
  · exact ih (List.Pairwise.of_cons h) y hy
  · rename_i ha
    simp only[decide_eq_true_eq,Int.not_lt] at ha
    rcases List.mem_cons.1 hy with rfl | hy
    · exact ha
    · have:=List.rel_of_pairwise_cons h hy
      omega
theorem insAt_asc {l:List Int}{x:Int}(h:Asc l):Asc (insAt l x):=by
 have e:=List.takeWhile_append_dropWhile (p:=fun z:Int=>decide (z<x)) (l:=l);have hd:=drop_while_ge (x:=x) h;unfold insAt
 by_cases hx:x∈l
 · rw[if_pos hx,List.append_nil,e];exact h
 · rw[if_neg hx]
   have h2:∀ y∈l.dropWhile (fun z=>decide (z<x)),x<y:=fun y hy=>by
    have h3:=hd y hy
    have h4:y≠x:=by
     rintro rfl;exact hx (by rw[← e];exact List.mem_append_right _ hy)
    omega
   have h5:Asc (l.takeWhile (fun z=>decide (z<x))++l.dropWhile (fun z=>decide (z<x))):=by rw[e];exact h
   unfold Asc at h5 ⊢;rw[List.pairwise_append] at h5;rw[List.append_assoc,List.pairwise_append];refine⟨h5.1,?_,?_⟩
   · rw[List.singleton_append,List.pairwise_cons]
     exact⟨h2,h5.2.1⟩
   · intro a ha c hc
     rcases List.mem_append.1 hc with hc | hc
     · obtain rfl:=List.mem_singleton.1 hc
       exact mem_take_while ha
     · exact h5.2.2 a ha c hc
theorem ifV_ok {b t:Sess}(hb:SOk b)(ht:errV t.vly=0→SOk t):SOk (ifV b t).1:=by
 unfold ifV
 split
 · exact hb
 · rename_i h;exact ht (Classical.not_not.1 h)
theorem sBed_ok {b:Sess}{l:List Int}(h:SOk b):SOk (sBed b l).1:=by
 unfold sBed
 split
 · exact h
 · split
   · rename_i h1 h2
     obtain⟨h3,h4,h5⟩:=slopeOk_iff.1 h2;refine { h with least:=h4,colN:=h3.2,bed:=h5,linkN:=?_,link:=?_,val:=h.val }
     · simp[done,h.linkN]
     · intro c hc
       simp only[done,List.mem_append,List.mem_singleton] at hc
       rcases hc with hc | rfl
       · exact h.link c hc
       · exact⟨by omega,by simp only[done];omega⟩
   · exact h
theorem sLeast_ok {b:Sess}{l:List Int}(h:SOk b):SOk (sLeast b l).1:=by
 unfold sLeast
 split
 · exact h
 · split
   · rename_i h1 h2
     obtain⟨h3,h4,h5⟩:=slopeOk_iff.1 h2;exact { h with least:=h4,val:=h.val }
   · exact h
theorem sGround_ok {b:Sess}{l:List Int}(h:SOk b):SOk (sGround b l).1:=by
 unfold sGround
 split
 · exact h
 · split
   · rename_i h1 h2
     exact { h with ground:=h2,val:=h.val }
   · exact h
theorem tried_of {C:List Cel}(h:C.length≠0):tried C=C:=by unfold tried;rw[if_neg h]
theorem sCell_ok {b:Sess}{l:List Int}(h:SOk b):SOk (sCell b l).1:=by
 unfold sCell
 split
 · exact h
 · split
   · rename_i h1 h2
     have h3:=(groundOk_iff.1 h2).1;refine { h with cellN:=h3.2,ground:=?_,dayC:=?_,link:=?_,val:=h.val }
     · intro c hc
       have:=h.link c hc;simp only[done,List.length_append,List.length_singleton];omega
     · rw[tried_of (by simp[done])];exact h2
     · intro _;simp[done]
   · exact h
theorem sLink_ok {b:Sess}{l:List Int}(h:SOk b):SOk (sLink b l).1:=by
 unfold sLink
 split
 · rename_i h1
   simp only[Bool.and_eq_true,inB_iff] at h1;refine { h with linkN:=?_,link:=?_,val:=h.val }
   · simp[done,h.linkN]
   · intro c hc
     rcases List.mem_or_eq_of_mem_set hc with hc | rfl
     · exact h.link c hc
     · simp only[done];omega
 · exact h
theorem sAlarm_ok {b:Sess}{l:List Int}(h:SOk b):SOk (sAlarm b l).1:=by
 unfold sAlarm
 split
 · rename_i h1;exact { h with alarm:=h1,val:=h.val }
 · exact h
theorem sWeather_ok {b:Sess}{l:List Int}{more:Int}(h:SOk b):SOk (sWeather b more l).1:=by
 unfold sWeather
 split
 · exact h
 · rename_i h1
   split
   · exact h
   · rename_i h2
     obtain⟨h3,h4,h5⟩:=faultW_zero.1 (Classical.not_not.1 h2);refine { h with dayN:=h4,day:=h5,dayC:=fun _ hc=>h1 (.inl hc),levN:=?_,lev:=?_,val:=h.val }
     · simp[done,h.levN]
     · intro x hx
       simp only[done,List.mem_append,List.mem_singleton] at hx
       rcases hx with hx | rfl
       · exact h.lev x hx
       · exact levelN_bd _ _
theorem sParcel_ok {b:Sess}{l:List Int}(h:SOk b):SOk (sParcel b l).1:=by
 unfold sParcel
 split
 · refine ifV_ok h fun hv=>?_
   have hv:=errV_zero.1 hv
   have hp:∀ p∈b.pars++[⟨nth l 0,nth l 1,nth l 2,decide (nth l 3=1)⟩],0≤p.price∧p.price≤100000:=fun p hp=>by
    obtain⟨i,hi⟩:=List.getElem?_of_mem hp;exact(hv.parcel hi).2.1
   have:=hp ⟨nth l 0,nth l 1,nth l 2,decide (nth l 3=1)⟩ (by simp);have hs:=h.spent;refine { h with val:=.inr hv,spent:=?_,price:=hp,parN:=?_,bought:=?_ }
   · simp only[sumP_append,List.length_append,List.length_singleton]
     simp only[sumP,List.map_cons,List.map_nil,List.sum_cons,List.sum_nil] at hs this ⊢;omega
   · have:=hv.pn;simpa[Sess.vly] using this.2
   · intro x hx
     have:=h.bought x hx;simp only[List.length_append,List.length_singleton];omega
 · exact h
theorem sSteps_ok {b:Sess}{l:List Int}(h:SOk b):SOk (sSteps b l).1:=by
 unfold sSteps
 split
 · exact h
 · refine ifV_ok h fun hv=>?_
   have hv:=errV_zero.1 hv;exact { h with val:=.inr hv,steps:=hv.steps }
theorem sSlide_ok {b:Sess}{l:List Int}(h:SOk b):SOk (sSlide b l).1:=by
 unfold sSlide
 split
 · exact h
 · refine ifV_ok h fun hv=>?_
   exact { h with val:=.inr (errV_zero.1 hv) }
theorem sWay_ok {b:Sess}{l:List Int}(h:SOk b):SOk (sWay b l).1:=by
 unfold sWay
 split
 · refine ifV_ok h fun hv=>?_
   exact { h with val:=.inr (errV_zero.1 hv) }
 · exact h
theorem VOk.reach {b:Sess}(h:VOk b.vly){R:List (Int×Int)}(hl:R.length=b.sls.length)(hR:∀(k:Nat) (s:PSl) (r:Int×Int),b.sls[k]?=some s→R[k]?=some r→0≤r.1∧r.1≤r.2∧r.2≤s.way.length) :
 VOk { b with sls:=List.zipWith reachTo b.sls R }.vly:=by
 refine⟨?_,h.pn,h.par,?_,h.steps⟩
 · have:=h.sn
   simp only[Sess.vly,List.length_map,List.length_zipWith] at this ⊢;omega
 · rw[allB_iff]
   intro k x hx;simp only[Sess.vly,List.getElem?_map,List.getElem?_zipWith,Option.map_eq_some_iff] at hx;obtain⟨y,hy,rfl⟩:=hx
   split at hy
   · rename_i s r hs hr
     obtain rfl:=Option.some.inj hy;have h1:=hR k s r hs hr;have h2:=h.slide (k:=k) (s:=s.sli) (by simp[Sess.vly,hs]);simp only[sliOk,Bool.and_eq_true,decide_eq_true_eq,inB_iff,upB_iff,wayOk_iff];exact⟨h2.1,⟨h2.2.1,h2.2.2.1⟩,h1⟩
   · cases hy
theorem leftsL_one {v:Vly}{e:Evd}{k:Nat}{s:Sli}{r:Int×Int}(hs:v.sls[k]?=some s)(hr:(leftsL v [e])[k]?=some r):s.lo≤r.1∧r.2≤s.hi:=by
 rw[leftsL_get hs] at hr;obtain rfl:=Option.some.inj hr;exact leftL_bd [e] k (s.lo,s.hi)
theorem sEvid_ok {b:Sess}{l:List Int}(h:SOk b):SOk (sEvid b l).1:=by
 unfold sEvid
 split
 · exact h
 · rename_i h1
   split
   · exact h
   · rename_i h2
     have h2:=Classical.not_not.1 h2;refine { h with val:=?_ }
     rcases h.val with h3 | h3
     · exact absurd h3.1 h1
     · refine .inr (h3.reach (by rw[leftsL_len];simp[Sess.vly]) fun k s r hs hr=>?_)
       have h4:=h3.slide (k:=k) (s:=s.sli) (by simp[Sess.vly,hs]);have h5:=leftsL_one (v:=b.vly) (k:=k) (s:=s.sli) (by simp[Sess.vly,hs]) hr
       have h6:r.1≤r.2:=by
        unfold hearE at h2
        split at h2
        · cases h2
        · split at h2
          · cases h2
          · split at h2
            · cases h2
            · rename_i _ _ h7
              simp only[Bool.not_eq_false] at h7;have:=allB_iff.1 h7 k r hr
              simpa[upR] using this
       have e1:s.sli.lo=s.lo:=rfl;have e2:s.sli.hi=s.hi:=rfl;have e3:s.sli.way=s.way:=rfl;rw[e1,e2] at h5;rw[e1,e2,e3] at h4;omega
theorem VOk.pars {b:Sess}{q:List Par}(h:VOk b.vly)(hl:q.length=b.pars.length)(hq:allB parOk q=true):VOk { b with pars:=q }.vly:=by
 refine⟨h.sn,?_,hq,?_,h.steps⟩
 · have:=h.pn;simp only[Sess.vly] at this ⊢;omega
 · have:=h.sli;simp only[Sess.vly] at this ⊢;rw[hl];exact this
theorem buyOne_ok {b:Sess}{i:Int}(h:SOk b)(hi:0≤i):SOk (buyOne b i):=by
 unfold buyOne
 split
 · rename_i p hp
   have hlt:=(List.getElem?_eq_some_iff.1 hp).1;have hm:=h.price p (List.mem_of_getElem? hp);have hs:=h.spent
   have hpr:∀ q∈b.pars.set i.toNat ⟨p.worth,0,0,false⟩,0≤q.price∧q.price≤100000:=fun q hq=>by
    rcases List.mem_or_eq_of_mem_set hq with hq | rfl
    · exact h.price q hq
    · simp
   refine { h with val:=?_,spent:=?_,price:=hpr,parN:=?_,asc:=insAt_asc h.asc,bought:=?_ }
   · rcases h.val with h3 | h3
     · have:=h3.1;omega
     · refine .inr (VOk.pars (b:=b) h3 (by simp) ?_)
       rw[allB_iff];intro k x hx
       rcases List.mem_or_eq_of_mem_set (List.mem_of_getElem? hx) with hq | rfl
       · obtain⟨j,hj⟩:=List.getElem?_of_mem hq
         exact allB_iff.1 h3.par j x hj
       · have h4:=(h3.parcel (i:=i.toNat) (p:=p) hp).1
         simp only[parOk,Bool.and_eq_true,inB_iff];omega
   · simp only[List.length_set,sumP_set hp]
     omega
   · simpa using h.parN
   · intro x hx
     simp only[List.length_set]
     rcases insAt_mem.1 hx with rfl | hx
     · omega
     · exact h.bought x hx
 · exact h
theorem buySet_ok:∀ {set:List Int} {b:Sess},SOk b→(∀ i∈set,0≤i)→SOk (buySet b set)
 | [],_,h,_=>h
 | i::set,b,h,hs=>buySet_ok (set:=set) (buyOne_ok h (hs i (by simp))) fun j hj=>hs j (by simp[hj])
theorem loopB_nn (gs ps:List Int)(B:Int):∀(k i:Nat) (g c:Int) (l:List Int) (st:Bst),(∀ x∈l,0≤x)→(∀ x∈st.set,0≤x)→∀ x∈(loopB gs ps B k i g c l st).set,0≤x
 | 0,_,_,_,_,_,_,h=>h
 | k+1,i,g,c,l,st,hl,h=>by
  have hl2:∀ x∈l++[(i:Int)],0≤x:=fun x hx=>by
   rcases List.mem_append.1 hx with hx | hx
   · exact hl x hx
   · obtain rfl:=List.mem_singleton.1 hx;omega
  have h2:∀ x∈(updB (g+gAt gs i) (c+gAt ps i) (l++[(i:Int)]) st).set,0≤x:=by
   unfold updB;split
   · exact hl2
   · exact h
  rw[loopB]
  split
  · exact loopB_nn gs ps B k _ _ _ _ _ hl h
  · exact loopB_nn gs ps B k _ _ _ _ _ hl (loopB_nn gs ps B k _ _ _ _ _ hl2 h2)
theorem bestB_nn (gs ps:List Int)(B:Int):∀ x∈(bestB gs ps B).set,0≤x:=by
 unfold bestB tryB
 split
 · simp
 · refine loopB_nn gs ps B _ _ _ _ _ _ (by simp) ?_
   unfold updB;split<;>simp
theorem sBuy_ok {b:Sess}{l:List Int}(h:SOk b):SOk (sBuy b l).1:=by
 unfold sBuy
 split
 · exact h
 · split
   · exact buySet_ok h (bestB_nn _ _ _)
   · exact h
theorem sHear_ok {F:List UInt8→List Rdg}{b:Sess}{t:List UInt8}(h:SOk b):SOk (sHear F b t).1:=by
 unfold sHear
 split
 · exact h
 · split
   · exact h
   · split
     · exact h
     · refine { h with rdsN:=?_,val:=h.val }
       simp only[done,List.length_append];omega
theorem stepP_ok {F:List UInt8→List Rdg}{b:Sess}{more:Int}{s:List UInt8}(h:SOk b):SOk (stepP F b more s).1:=by
 unfold stepP
 split
 · exact h
 · rename_i w l _
   cases w
   · exact sBed_ok h
   · exact sLeast_ok h
   · exact sGround_ok h
   · exact sCell_ok h
   · exact sLink_ok h
   · exact sAlarm_ok h
   · exact sWeather_ok h
   · exact sParcel_ok h
   · exact sSteps_ok h
   · exact sSlide_ok h
   · exact sWay_ok h
   · exact sEvid_ok h
   · exact sBuy_ok h
   · exact h
 · exact sHear_ok h
end Go.Proofs.YtkhcliibilkefaaGreatDoor
namespace Go.Proofs.YtkhcliibilkefaaGreatDoor
open Lib (hid)
open Go.RowKit Go.Proofs
def pslOf (s:Sli):PSl:=⟨s.way,s.rate,s.lo,s.hi⟩
structure SAd where
 co:Slc
 li:Slc
 ce:Slc
 da:Slc
 le:Slc
 pa:Slc
 sl:Slc
 bo:Slc
 rd:Slc
 CL:List ColR
 SL:List Sli
def slc0:Slc:=⟨none,0,0⟩
def ad0:SAd:=⟨slc0,slc0,slc0,slc0,slc0,slc0,slc0,slc0,slc0,[],[]⟩
def sessV (x:SAd)(b:Sess)(now line more:Int):Array Value:=#[.slice x.co.A x.co.n x.co.c,.int .i64 b.least,.slice x.li.A x.li.n x.li.c,.slice x.ce.A x.ce.n x.ce.c,.int .i64 b.sn0,.int .i64 b.sn1,.int .i64 b.so0,.int .i64 b.so1,.int .i64 b.melt,.slice x.da.A x.da.n x.da.c,.int .i64 b.a0,.int .i64 b.a1,.int .i64 b.a2,.slice x.le.A x.le.n x.le.c,.slice x.pa.A x.pa.n x.pa.c,.slice x.sl.A x.sl.n x.sl.c,.int .i64 b.t0,.int .i64 b.t1,.int .i64 b.t2,.int .i64 b.spent,.slice x.bo.A x.bo.n x.bo.c,.slice x.rd.A x.rd.n x.rd.c,.int .i64 now,.int .i64 line,.int .i64 more]
structure SRow (s:Nat) (w:World) {α:Type} (enc:α→List Value) (k:Nat) (x:Slc) (l:List α):Prop where
 rd:Rd enc k w x.A x.n l
 cap:x.n≤x.c
 far:∀ ad,x.A=some ad→ad.block≠s
abbrev FrS (s:Nat) (w w':World):Prop:=Fr (fun g=>g=s) w w'
theorem SRow.fr {s:Nat}{w w':World}{α:Type}{enc:α→List Value}{k:Nat}{x:Slc}{l:List α}(h:SRow s w enc k x l)(hf:FrS s w w'):SRow s w' enc k x l :=
 ⟨hf.rd h.rd fun ad e=>h.far ad e,h.cap,h.far⟩
theorem SRow.nil (s:Nat)(w:World){α:Type}(enc:α→List Value)(k:Nat):SRow s w enc k slc0 []:=⟨Rd.nil _ _ _ _,Nat.le_refl _,fun ad e=>by cases e⟩
theorem SRow.len {s:Nat}{w:World}{α:Type}{enc:α→List Value}{k:Nat}{x:Slc}{l:List α}(h:SRow s w enc k x l):l.length=x.n:=h.rd.len
structure SRows (w:World) (s:Nat) (x:SAd) (b:Sess):Prop where
 co:SRow s w encC 1 x.co x.CL
 col:x.CL.map (·.bed)=b.cols
 cbed:∀(i:Nat) (r:ColR),x.CL[i]?=some r→SRow s w encBed 8 ⟨r.A,1,r.c⟩ [r.bed]
 li:SRow s w enc1 1 x.li b.links
 ce:SRow s w encCel 7 x.ce b.cells
 da:SRow s w encDy 3 x.da b.days
 le:SRow s w enc1 1 x.le b.levels
 pa:SRow s w encP 4 x.pa b.pars
 sl:SRow s w encS 4 x.sl x.SL
 slc:x.SL.map pslOf=b.sls
 sway:∀(i:Nat) (y:Sli),x.SL[i]?=some y→SRow s w enc1 1 ⟨y.A,y.n,y.c⟩ y.way
 bo:SRow s w enc1 1 x.bo b.bought
 rd:SRow s w encR 4 x.rd b.rds
theorem SRows.fr {w w':World}{s:Nat}{x:SAd}{b:Sess}(h:SRows w s x b)(hf:FrS s w w'):SRows w' s x b :=
 ⟨h.co.fr hf,h.col,fun i r hr=>(h.cbed i r hr).fr hf,h.li.fr hf,h.ce.fr hf,h.da.fr hf,h.le.fr hf,h.pa.fr hf,h.sl.fr hf,h.slc,fun i y hy=>(h.sway i y hy).fr hf,h.bo.fr hf,h.rd.fr hf⟩
structure SAt (w:World) (s:Nat) (x:SAd) (b:Sess) (now line more:Int):Prop where
 blk:Blk w s 75 (sessV x b now line more)
 rows:SRows w s x b
theorem FrS.of_below {s:Nat}{w w':World}(h:Below w.heap.size w w'):FrS s w w':=Fr.of_below h _
theorem SAt.below {w w':World}{s:Nat}{x:SAd}{b:Sess}{now line more:Int}(h:SAt w s x b now line more)(hb:Below w.heap.size w w'):SAt w' s x b now line more :=
 ⟨h.blk.below hb h.blk.lt,h.rows.fr (FrS.of_below hb)⟩
theorem FrS.set {s i:Nat}{w w':World}(h:FrS s w w')(v:Value):FrS s w (w'.setCell ⟨s,i,none⟩ v):=Fr.setAt h (.inl rfl) v
theorem FrS.refl (s:Nat)(w:World):FrS s w w:=Fr.refl _ w
theorem FrS.trans {s:Nat}{a b c:World}(h:FrS s a b)(k:FrS s b c):FrS s a c:=Fr.trans h k
theorem FrS.tb {s:Nat}{a b c:World}(h:FrS s a b)(k:Below b.heap.size b c):FrS s a c:=Fr.trans h (FrS.of_below k)
theorem FrS.out {s n:Nat}{a b:World}(h:FrS s a b)(hn:n≤a.heap.size)(hs:n≤s):Below n a b:=h.below hn fun g e=>by omega
def refV (e:Int):Value:=.iface 122 (.agg #[.int .i64 e])
attribute [local go_sem ↓] Go.wp_at_zero Go.wp_at_succ
theorem wu {x:Int}(h:0≤x∧x<256):IntKind.u8.wrap x=x:=by
 simp[IntKind.wrap,IntKind.bits,IntKind.signed];omega
def str (l:List UInt8):Value:=.string ⟨l.toArray⟩
def u8V (x:UInt8):Value:=.int .u8 (x.toNat:Int)
def letC (r:Nat)(l:List UInt8)(z:Nat):Array Value:=(List.replicate r (Value.int .u8 0)++(l.map u8V++List.replicate z (Value.int .u8 0))).toArray
theorem letC_zero {k:Nat}(hk:k≤5):letC k [] (5 - k)=#[.int .u8 0,.int .u8 0,.int .u8 0,.int .u8 0,.int .u8 0]:=by
 have h:k=0∨k=1∨k=2∨k=3∨k=4∨k=5:=by omega
 rcases h with rfl | rfl | rfl | rfl | rfl | rfl<;>rfl
theorem letC_at (r:Nat)(l:List UInt8)(z:Nat):(letC (r+1) l z)[r]?=some (.int .u8 0):=by
 unfold letC;rw[List.getElem?_toArray,List.getElem?_append_left (by simp),List.getElem?_replicate,if_pos (by omega)]
theorem letC_set (r:Nat)(l:List UInt8)(z:Nat)(x:UInt8):(letC (r+1) l z).setIfInBounds r (u8V x)=letC r (x::l) z:=by
 unfold letC;rw[List.setIfInBounds_toArray,List.replicate_succ',List.append_assoc,List.set_append_right _ _ (by simp)];simp
theorem letC_get {l:List UInt8}{z j:Nat}(hj:j<l.length):(letC 0 l z)[j]?=some (.int .u8 (l[j].toNat:Int)):=by
 unfold letC;rw[List.getElem?_toArray,List.replicate_zero,List.nil_append,List.getElem?_append_left (by simpa using hj),List.getElem?_map,List.getElem?_eq_getElem hj]
 rfl
theorem letters_c (tu:Bool)(k n:Nat)(w:World)(hk:k≤5)(hn:n<4611686018427387904) :
 Calls Tryz.prog 69 #[.int .i64 n,.int .i64 k,.bool tu] w fun e w'=>e=.returned (str (letW tu k n))∧Below w.heap.size w w':=by
 have HB:=hid (Below.refl w.heap.size w)
 go_enter Tryz.func69,Tryz.ntmps69
 go_upto_region 2 with fail
 have hb9:=(Below.refl w.heap.size w).alloc (Nat.le_refl _) (.cells #[.int .u8 0,.int .u8 0,.int .u8 0,.int .u8 0,.int .u8 0] 150);have hn:=Blk.new w 150 #[.int .u8 0,.int .u8 0,.int .u8 0,.int .u8 0,.int .u8 0];replace HB:=hdT HB hb9;have HE:=hid hn;clear hb9 hn;revert HB HE;generalize (World.alloc w (.cells #[.int .u8 0,.int .u8 0,.int .u8 0,.int .u8 0,.int .u8 0] 150))=w1;intro HB HE
 have hE0:Blk w1 w.heap.size 150 (letC k [] (5 - k)):=by rw[letC_zero hk];exact HE.out
 have HE0:=hid hE0;clear hE0 HE
 go_wp2_with fail
 go_loopw [0,8] (fun nv iv wr=>∃(r m:Nat) (l:List UInt8),r≤k∧iv=.int .i64 ((r:Int) - 1)∧nv=.int .i64 m∧m<4611686018427387904∧letW tu k n=letW tu r m++l∧Blk wr w.heap.size 150 (letC r l (5 - k))∧Below w.heap.size w wr) (fun _ iv _=>(intOf iv+1).toNat)
 case atStart=>exact⟨k,n,[],Nat.le_refl _,rfl,rfl,hn,by simp,HE0.out,HB.out⟩
 case round =>
  obtain⟨r,m,l,hr,rfl,rfl,hm,heq,hblk,hb⟩:=hrel;have HEQ:=hid heq;have HBK:=hid hblk;have HBE:=hid hb;clear heq hblk hb HE0 HB
  rcases r with _ | r
  · have hlen:l.length=k:=by have:=congrArg List.length HEQ.out;simpa[let_len] using this.symm
    have hle:l=letW tu k n:=by have:=HEQ.out;simpa[letW] using this.symm
    have hcv:∀ W:World,W=wr→(convert 54 9 (.slice (some ⟨w.heap.size,0,none⟩) k 5)).run Tryz.prog W=.ok (str (letW tu k n)) W:=by
     rintro W rfl;rw[← hle,← hlen]
     exact run_convert_bytes_back (P:=Tryz.prog) W 54 9 5 ⟨w.heap.size,0,none⟩ 5 l Tryz.underlying54 Tryz.underlying5 Tryz.underlying9 (fun j hj=>by
      rw[Addr.add_mid,Nat.zero_add,HBK.out.cell]
      exact letC_get hj)
    have hcv:=hcv wr rfl
    have hk5:(k:Int)≤5:=by omega
    have hk0:(0:Int)≤(k:Int):=by omega
    clear hle hlen
    go_wp2_with fail
    go_ret
    exact⟨rfl,HBE.out⟩
  · obtain⟨q,hq⟩:∃ q,q=m / 26:=⟨_,rfl⟩
    obtain⟨d,hd⟩:∃ d,d=m % 26:=⟨_,rfl⟩
    have hq1:(m:Int).tdiv 26=(q:Int):=by rw[hq,Int.tdiv_eq_ediv_of_nonneg (by omega)];omega
    have hd1:(m:Int).tmod 26=(d:Int):=by rw[hd,Int.tmod_eq_emod_of_nonneg (by omega)];omega
    have hd26:d<26:=by omega
    have hqm:q<4611686018427387904:=by omega
    obtain⟨x,hx⟩:∃ x,x=digW (if tu=true then 25 - d else d):=⟨_,rfl⟩
    have hst:letW tu k n=letW tu r q++(x::l):=by rw[HEQ.out,letW,← hq,← hd,hx];simp
    have c0:=HBK.out.cell r;have f0:=HBK.out.frozen r;rw[letC_at] at c0
    have hi1:(r:Int)<5:=by omega
    have hi0:(0:Int)≤(r:Int):=by omega
    have hs2:=HBK.out.set_ r (u8V x);rw[letC_set] at hs2;have HS2:=hid hs2;have HST:=hid hst;have HQM:=hid hqm;have HX:=hid hx;clear hq hd hqm hst hs2 hx;cases tu
    · have hxn:IntKind.u8.wrap (97+(d:Int))=(x.toNat:Int):=by
       have h1:x.toNat=97+(d):=by rw[HX.out];simpa using dig_nat (d:=d) (by omega)
       rw[wu (by omega)];omega
      go_wp2_with fail
      clear hxn
      go_roundw
      case rel =>
       exact⟨r,q,x::l,by omega,by go_num,congrArg (Value.int .i64) (by unfold wrap64;have:=HQM.out;omega),HQM.out,HST.out,HS2.out,HBE.out.setCell (p:=⟨w.heap.size,r,none⟩) (Nat.le_refl _) _⟩
      case measure=>simp[intOf]<;>omega
    · have hxn:IntKind.u8.wrap (97+(25 - (d:Int)))=(x.toNat:Int):=by
       have h1:x.toNat=97+(25 - d):=by rw[HX.out];simpa using dig_nat (d:=25 - d) (by omega)
       rw[wu (by omega)];omega
      go_wp2_with fail
      clear hxn
      go_roundw
      case rel =>
       exact⟨r,q,x::l,by omega,by go_num,congrArg (Value.int .i64) (by unfold wrap64;have:=HQM.out;omega),HQM.out,HST.out,HS2.out,HBE.out.setCell (p:=⟨w.heap.size,r,none⟩) (Nat.le_refl _) _⟩
      case measure=>simp[intOf]<;>omega
theorem own_some {w:World}{base:Nat}{e:TypeId}{k n:Nat}{v:Value}{xs:List Value}(h:w.ownsRow base e k v n xs)(hn:0<n):∃ g c,v=.slice (some ⟨g,0,none⟩) n c∧base≤g∧g<w.heap.size∧∀ j,w.frozen? ⟨g,j,none⟩=false:=by
 rcases h.2 with ⟨_,h0⟩ | ⟨g,cap,cur,hv,hb,hg,_⟩
 · exfalso
   have:=h.1;rw[h0] at this;simp at this;omega
 · subst hv
   exact⟨g,cap,rfl,hb,(Array.getElem?_eq_some_iff.1 hg).1,fun j=>h.frozenAt j⟩
theorem step_append_rd {P:Program}{w:World}{ops:Array Oper}{o:Oper}{a:Act}{K:Act→World→Prop}{Q:Exit→Act→World→Prop}{E:Prop}(hgd:o.guard=none)(s x:Operand)(t:TypeId)
 (ho:o.op=.call { callee:=.builtin .append,args:=#[s,x],argTypes:=#[t,t] })
 (base:Nat) (e:TypeId) (i:TypeInfo) (z:Value) (size bytes:Nat) (ht:P.underlying t=some (.slice e)) (hi:P.info? e=some i) (hz:i.zero=some z)
 (hsize:i.size=size) (hby:i.bytes=bytes) (hzs:z.cells.size=size) (hsz:0<size)
 (v:Value) (n:Nat) (xs:List Value) (hs:a.eval s=v) (hown:w.ownsRow base e size v n xs)
 {α:Type} {enc:α→List Value} (hk:∀ x,(enc x).length=size) (h1:∀ x,∀ u∈enc x,u.oneCell'=true)
 (A:Option Addr) (m c:Nat) (l:List α) (hx:a.eval x=.slice A m c) (hr:Rd enc size w A m l)
 (h63:n+m≤maxLen) (hbytes:(n+m) * bytes≤140737488355328) (hbase:base≤w.heap.size)
 (h:∀ v' w',w'.ownsRow base e size v' (n+m) (xs++l.flatMap enc)→w.grownBy w' v.ownBlock→K (a.put o.dst v') w') :
 if Region.wanted o (yielded ops a.tmps)=true then Oper.wp P o a w K Q else E:=by
 rcases A with _ | ad
 · obtain⟨rfl,rfl⟩:=hr.none_zero
   have hrun:=run_append_nilc (P:=P) (w:=w) (ty:=o.type) ht hi hown c;exact step_append_run hgd s x t ho _ _ _ _ hs hx hrun (h v w (by simpa using hown) (World.grownBy.refl w _))
 · have hl:(l.flatMap enc).length=m * size:=by
    have:∀ l:List α,(l.flatMap enc).length=l.length * size:=fun l=>by
     induction l with
     | nil=>simp
     | cons x l ih=>rw[List.flatMap_cons,List.length_append,ih,hk,List.length_cons,Nat.add_mul,Nat.one_mul,Nat.add_comm]
    rw[this,hr.1]
   obtain⟨v',w',hrun,h2,h3,_,_⟩:=run_append_own_at (P:=P) w base t o.type e i z size bytes ht hi hz hsize hby hzs hsz v n xs hown ad m c (l.flatMap enc) hl (hr.news hk) (fun u hu=>by
    obtain⟨x,_,hx⟩:=List.mem_flatMap.1 hu
    exact h1 x u hx) h63 hbytes hbase
   exact step_append_run hgd s x t ho _ _ _ _ hs hx hrun (h v' w' h2 h3)
theorem Rd.of_blkE {α:Type}{enc:α→List Value}{k n:Nat}{w:World}{g:Nat}{t:TypeId}{cs:Array Value}{l:List α}(henc:∀ x,(enc x).length=k)(h:Blk w g t cs)(hc:l.flatMap enc=cs.toList)(hl:l.length=n):Rd enc k w (some ⟨g,0,none⟩) n l:=by
 refine⟨hl,fun _=>⟨g,0,rfl,h.lt,fun i x hx j u hu=>?_⟩⟩;have:=flatMap_get henc l i x j u hx hu;rw[hc,Array.getElem?_toList] at this;rw[Nat.zero_add,h.cell,this]
theorem own_rd {α:Type}{enc:α→List Value}{k n:Nat}{w:World}{base:Nat}{e:TypeId}{v:Value}{l:List α}(henc:∀ x,(enc x).length=k)(hk:0<k)(h:w.ownsRow base e k v n (l.flatMap enc))(hl:l.length=n)(hn:0<n) :
 ∃ g c,v=.slice (some ⟨g,0,none⟩) n c∧base≤g∧n≤c∧Rd enc k w (some ⟨g,0,none⟩) n l:=by
 obtain⟨g,c,rfl,hb,hlt,_⟩:=own_some h (by first | exact hn | exact Nat.mul_pos hn hk);obtain⟨A,c',e,hc⟩:=own_form h;cases e;exact⟨g,c,rfl,hb,hc,Rd.of_own henc h hl⟩
theorem own_low {w:World}{b b':Nat}{e:TypeId}{k n:Nat}{v:Value}{xs:List Value}(h:w.ownsRow b e k v n xs)(hb:b'≤b):w.ownsRow b' e k v n xs:=by
 refine⟨h.1,?_⟩
 rcases h.2 with h0 | ⟨g,cap,cur,hv,hbg,r⟩
 · exact .inl h0
 · exact .inr ⟨g,cap,cur,hv,Nat.le_trans hb hbg,r⟩
structure NewR (base:Nat) {α:Type} (enc:α→List Value) (k:Nat) (w:World) (A:Option Addr) (n c:Nat) (l:List α):Prop where
 rd:Rd enc k w A n l
 cap:n≤c
 new:∀ ad,A=some ad→base≤ad.block
theorem NewR.of_own {α:Type}{enc:α→List Value}{k n:Nat}{w:World}{base:Nat}{e:TypeId}{v:Value}{l:List α}(henc:∀ x,(enc x).length=k)(h:w.ownsRow base e k v n (l.flatMap enc))(hl:l.length=n) :
 ∃ A c,v=.slice A n c∧NewR base enc k w A n c l:=by
 rcases h.2 with ⟨rfl,h0⟩ | ⟨g,cap,cur,rfl,hbg,_,hc,_⟩
 · subst h0
   exact⟨none,0,rfl,Rd.of_own henc h hl,Nat.le_refl _,fun ad e=>by cases e⟩
 · exact⟨some ⟨g,0,none⟩,cap,rfl,Rd.of_own henc h hl,hc,fun ad e=>by cases e;exact hbg⟩
theorem ask_t (E:Int)(w:World):Calls Tryz.prog 54 #[.bool true,.int .i64 E] w fun e w'=>e=.returned (.tuple #[])∧Below w.heap.size w w':=by
 go_enter Tryz.func54,Tryz.ntmps54
 go_wp2
 go_end0
 exact⟨rfl,Below.refl _ _⟩
theorem ask_f (E:Int)(w:World):Calls Tryz.prog 54 #[.bool false,.int .i64 E] w fun e w'=>e=.panicked [{ v:=refV E,recovered:=false }]∧Below w.heap.size w w':=by
 go_enter Tryz.func54,Tryz.ntmps54
 go_wp2
 exact⟨rfl,rfl,Below.refl _ _⟩
theorem must_t (w:World):Calls Tryz.prog 93 #[.int .i64 0] w fun e w'=>e=.returned (.tuple #[])∧Below w.heap.size w w':=by
 go_enter Tryz.func93,Tryz.ntmps93
 go_wp2_with (go_at_call 54;refine(ask_t _ _).mono ?_;rintro e w' ⟨rfl,hb⟩)
 go_end0
 exact⟨rfl,hb⟩
theorem must_f {E:Int}(hE:E≠0)(w:World):Calls Tryz.prog 93 #[.int .i64 E] w fun e w'=>e=.panicked [{ v:=refV E,recovered:=false }]∧Below w.heap.size w w':=by
 have h1:(E == 0)=false:=by simpa using hE
 go_enter Tryz.func93,Tryz.ntmps93
 go_wp2_with (go_at_call 54;refine(ask_f _ _).mono ?_;rintro e w' ⟨rfl,hb⟩)
 exact⟨rfl,rfl,hb⟩
theorem wwithin_c (n lo hi:Int)(w:World) :
 Calls Tryz.prog 37 #[.int .i64 n,.int .i64 lo,.int .i64 hi] w fun e w'=>e=.returned (.bool (inB n lo hi))∧Below w.heap.size w w':=by
 by_cases h:lo≤n
 · go_enter Tryz.func37,Tryz.ntmps37
   go_wp2
   go_ret
   exact⟨ret_bool (by simp[inB,h]),Below.refl _ _⟩
 · have h':n<lo:=by omega
   go_enter Tryz.func37,Tryz.ntmps37
   go_wp2
   go_ret
   exact⟨ret_bool (inB_not.2 (.inl h')).symm,Below.refl _ _⟩
end Go.Proofs.YtkhcliibilkefaaGreatDoor
