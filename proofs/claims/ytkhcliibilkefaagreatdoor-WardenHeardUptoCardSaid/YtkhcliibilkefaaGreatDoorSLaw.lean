/- CONTRACTS of 'all' over a slice of zone.Slide with the function (zone.Valley).slide: written by mkallz.py. -/
import Derived.Test.YtkhcliibilkefaaGreatDoorZLeaf
import Derived.Deep.AppendLies
set_option linter.unusedVariables false
set_option linter.unusedSimpArgs false
set_option maxRecDepth 100000
set_option maxHeartbeats 8000000
namespace Go.Proofs.YtkhcliibilkefaaGreatDoor
open Lib (hid)
open Go.RowKit Go.Proofs
section
variable {p:Sli→Bool}
theorem allSli_1 (x:Sli)(B:Nat)(V:Value)(w:World)(_hBl:B<w.heap.size)(hB:w.cell? ⟨B,0,none⟩=some (.func (.func 184) #[V] #[]))
 (hp:∀ W:World,Below w.heap.size w W→Calls Tryz.prog 184 #[V,.agg #[.slice x.A x.n x.c,.int .i64 x.rate,.int .i64 x.lo,.int .i64 x.hi]] W fun e w'=>e=.returned (.bool (p x))∧Below W.heap.size W w') :
 Calls Tryz.prog 217 #[.agg #[.slice x.A x.n x.c,.int .i64 x.rate,.int .i64 x.lo,.int .i64 x.hi],.pointer (some ⟨B,0,none⟩)] w fun e w'=>e=.returned (.bool (!p x))∧Below w.heap.size w w':=by
 have hp':=hp (w.alloc (.cells #[.slice x.A x.n x.c,.int .i64 x.rate,.int .i64 x.lo,.int .i64 x.hi] 179)) ((Below.refl w.heap.size w).alloc (Nat.le_refl _) (.cells #[.slice x.A x.n x.c,.int .i64 x.rate,.int .i64 x.lo,.int .i64 x.hi] 179));have HP:=hid hp';clear hp hp'
 go_enter Tryz.func217,Tryz.ntmps217
 go_wp2_with (go_at_call 184;refine(HP.out).mono ?_;rintro e w' ⟨rfl,hb⟩)
 go_ret
 exact⟨rfl,((Below.refl _ _).alloc (Nat.le_refl _) _).trans (hb.mono (by simp))⟩
theorem idxSli_c {l:List (Sli)}{A:Option Addr}{n c:Nat}{B:Nat}(V:Value)(w:World)(h:Rd encS 4 w A n l)(hn:n≤maxLen)(hBl:B<w.heap.size)
 (hB:w.cell? ⟨B,0,none⟩=some (.func (.func 184) #[V] #[]))
 (hp:∀(i:Nat) (x:Sli) (W:World),l[i]?=some x→Below w.heap.size w W→Calls Tryz.prog 184 #[V,.agg #[.slice x.A x.n x.c,.int .i64 x.rate,.int .i64 x.lo,.int .i64 x.hi]] W fun e w'=>e=.returned (.bool (p x))∧Below W.heap.size W w') :
 Calls Tryz.prog 241 #[.slice A n c,.func (.func 217) #[] #[.pointer (some ⟨B,0,none⟩)]] w
  fun e w'=>(∃ r:Int,e=.returned (.int .i64 r)∧(!decide (r≥0))=allB p l)∧Below w.heap.size w w':=by
 unfold maxLen at hn;have HP:=hid hp;clear hp
 go_enter Tryz.func241,Tryz.ntmps241
 go_wp2_with fail
 go_loopw [5,8] (fun _ i wr=>∃ k:Nat,k≤n∧i=.int .i64 k∧Below w.heap.size w wr∧∀(j:Nat) (x:Sli),j<k→l[j]?=some x→p x=true) (fun _ i _=>n - (intOf i).toNat)
 case atStart=>exact⟨0,Nat.zero_le _,rfl,Below.refl _ _,fun j x hj=>absurd hj (by omega)⟩
 case round =>
  obtain⟨k,hk,rfl,hb,hall⟩:=hrel;have HA:=hid hall;clear hall
  by_cases hlt:k<n
  · obtain⟨b,o,x,rfl,hbl,hx,h0,h1,h2,h3⟩:=(h.below hb).atS hlt
    have hx1:=fun W (hW:Below wr.heap.size wr W)=>HP.out k x W hx (hb.trans (hW.mono hb.size));have HX1:=hid hx1;clear hx1;have HX:=hid hx;clear hx;have hB':=(hb.cell (p:=⟨B,0,none⟩) hBl).trans hB;have hBl':B<wr.heap.size:=Nat.lt_of_lt_of_le hBl hb.size;cases hm:p x
    all_goals
     have HM:=hid hm;clear hm
     go_wp2_with (go_at_call 217;refine(allSli_1 _ _ V _ hBl' hB' HX1.out).mono ?_;rintro e w' ⟨rfl,hb'⟩;simp only[HM.out])
    · go_ret
      exact⟨⟨k,rfl,by rw[(allB_not (p:=p) (l:=l)).2 ⟨k,x,HX.out,HM.out⟩];simp⟩,hb.trans (hb'.mono hb.size)⟩
    · go_roundw
      case rel=>exact⟨k+1,by omega,by go_num,hb.trans (hb'.mono hb.size),fun j y hj hy=>by
       rcases Nat.lt_or_ge j k with hjk | hjk
       · exact HA.out j y hjk hy
       · obtain rfl:j=k:=by omega
         rw[HX.out] at hy;cases hy;exact HM.out⟩
      case measure=>simp[intOf];omega
  · go_wp2
    go_ret
    refine⟨⟨-1,rfl,?_⟩,hb⟩;rw[(allB_iff (p:=p) (l:=l)).2 fun i x hx=>HA.out i x (by have:=(List.getElem?_eq_some_iff.1 hx).1;have:=h.len;omega) hx];simp
theorem containsSli_c {l:List (Sli)}{A:Option Addr}{n c:Nat}{B:Nat}(V:Value)(w:World)(h:Rd encS 4 w A n l)(hn:n≤maxLen)(hBl:B<w.heap.size)
 (hB:w.cell? ⟨B,0,none⟩=some (.func (.func 184) #[V] #[]))
 (hp:∀(i:Nat) (x:Sli) (W:World),l[i]?=some x→Below w.heap.size w W→Calls Tryz.prog 184 #[V,.agg #[.slice x.A x.n x.c,.int .i64 x.rate,.int .i64 x.lo,.int .i64 x.hi]] W fun e w'=>e=.returned (.bool (p x))∧Below W.heap.size W w') :
 Calls Tryz.prog 216 #[.slice A n c,.func (.func 217) #[] #[.pointer (some ⟨B,0,none⟩)]] w
  fun e w'=>e=.returned (.bool (!allB p l))∧Below w.heap.size w w':=by
 have hc:=idxSli_c (c:=c) V w h hn hBl hB hp;have HC:=hid hc;clear hc hp
 go_enter Tryz.func216,Tryz.ntmps216
 go_wp2_with (go_at_call 241;refine(HC.out).mono ?_;rintro e w' ⟨⟨r,rfl,hr⟩,hb⟩;have HR:=hid hr;clear hr)
 go_ret
 exact⟨ret_bool (by rw[← HR.out];simp),hb⟩
theorem allSli_c {l:List (Sli)}{A:Option Addr}{n c:Nat}(V:Value)(w:World)(h:Rd encS 4 w A n l)(hn:n≤maxLen)
 (hp:∀(i:Nat) (x:Sli) (W:World),l[i]?=some x→Below w.heap.size w W→Calls Tryz.prog 184 #[V,.agg #[.slice x.A x.n x.c,.int .i64 x.rate,.int .i64 x.lo,.int .i64 x.hi]] W fun e w'=>e=.returned (.bool (p x))∧Below W.heap.size W w') :
 Calls Tryz.prog 183 #[.slice A n c,.func (.func 184) #[V] #[]] w
  fun e w'=>e=.returned (.bool (allB p l))∧Below w.heap.size w w':=by
 have hbx:=(Below.refl w.heap.size w).alloc (Nat.le_refl _) (.cells #[.func (.func 184) #[V] #[]] 262);have hc:=containsSli_c (c:=c) (B:=w.heap.size) V (w.alloc (.cells #[.func (.func 184) #[V] #[]] 262)) (h.mono hbx) hn (by simp) (by simp) (fun i x W hx hW=>hp i x W hx (hbx.trans (hW.mono (by simp))));have HC:=hid hc;clear hc hp
 go_enter Tryz.func183,Tryz.ntmps183
 go_wp2_with (go_at_call 216;refine(HC.out).mono ?_;rintro e w' ⟨rfl,hb⟩)
 go_ret
 exact⟨ret_bool (by simp),((Below.refl _ _).alloc (Nat.le_refl _) _).trans (hb.mono (by simp))⟩
end
theorem infoRg:(Tryz.prog.info? 177).map (fun i=>(i.zero,i.size,i.bytes))=some (some (.agg #[.int .i64 0,.int .i64 0]),2,16):=by kernel_rfl
end Go.Proofs.YtkhcliibilkefaaGreatDoor
namespace Go.Proofs.YtkhcliibilkefaaGreatDoor
open Lib (hid)
open Go.RowKit
structure Evd where
 k:Int
 lo:Int
 hi:Int
 deriving DecidableEq
def encE (e:Evd):List Value:=[.int .i64 e.k,.int .i64 e.lo,.int .i64 e.hi]
theorem encE_len (e:Evd):(encE e).length=3:=rfl
def evOk (sn:Nat)(e:Evd):Bool:=inB e.k 0 ((sn:Int) - 1) && upB e.lo e.hi 12
def stepE (k:Int)(r:Int×Int)(e:Evd):Int×Int:=if e.k=k then (max r.1 e.lo,min r.2 e.hi) else r
def leftL (l:List Evd)(k:Int)(r:Int×Int):Int×Int:=l.foldl (stepE k) r
theorem leftL_snoc (l:List Evd)(e:Evd)(k:Int)(r:Int×Int):leftL (l++[e]) k r=stepE k (leftL l k r) e:=by simp[leftL,List.foldl_append]
def leftsL (v:Vly)(l:List Evd):List (Int×Int):=v.sls.mapIdx fun k s=>leftL l (k:Int) (s.lo,s.hi)
theorem leftsL_len (v:Vly)(l:List Evd):(leftsL v l).length=v.sls.length:=by simp[leftsL]
theorem leftsL_get {v:Vly}{l:List Evd}{k:Nat}{s:Sli}(h:v.sls[k]?=some s):(leftsL v l)[k]?=some (leftL l (k:Int) (s.lo,s.hi)):=by
 simp[leftsL,List.getElem?_mapIdx,h]
theorem leftsL_snoc {v:Vly}{l:List Evd}{e:Evd}{k:Nat}{r:Int×Int}(hk:e.k=(k:Int))(hr:(leftsL v l)[k]?=some r):leftsL v (l++[e])=(leftsL v l).set k (max r.1 e.lo,min r.2 e.hi):=by
 refine List.ext_getElem? fun i=>?_;rw[List.getElem?_set]
 by_cases hi:i<v.sls.length
 · have hs:=List.getElem?_eq_getElem hi
   rw[leftsL_get hs,leftL_snoc]
   by_cases hki:k=i
   · subst hki
     rw[leftsL_get hs] at hr;cases hr;rw[if_pos rfl,if_pos (by rw[leftsL_len];exact hi)];simp[stepE,hk]
   · rw[if_neg hki,leftsL_get hs]
     have:e.k≠(i:Int):=by omega
     simp[stepE,this]
 · rw[List.getElem?_eq_none (by rw[leftsL_len];omega)]
   split
   · rw[if_neg (by rw[leftsL_len];omega)]
   · rw[List.getElem?_eq_none (by rw[leftsL_len];omega)]
theorem leftL_bd (l:List Evd)(k:Int):∀(r:Int×Int),r.1≤(leftL l k r).1∧(leftL l k r).2≤r.2:=by
 induction l with
 | nil=>intro r;simp[leftL]
 | cons e l ih =>
  intro r;have h:=ih (stepE k r e)
  have h2:r.1≤(stepE k r e).1∧(stepE k r e).2≤r.2:=by unfold stepE;split<;>(try simp only)<;>omega
  show r.1≤(leftL l k (stepE k r e)).1∧(leftL l k (stepE k r e)).2≤r.2;omega
def upR (r:Int×Int):Bool:=decide (r.1≤r.2)
def hearE (v:Vly)(l:List Evd):Int:=if 20<l.length then 3 else if allB (evOk v.sls.length) l=false then 2 else if allB upR (leftsL v l)=false then 9 else 0
theorem hearE_odd {v:Vly}{l:List Evd}(h:¬ 20<l.length)(h2:allB (evOk v.sls.length) l=false):hearE v l=2:=by unfold hearE;rw[if_neg h,if_pos h2]
theorem hearE_fail {v:Vly}{l:List Evd}(h:¬ 20<l.length)(h2:allB (evOk v.sls.length) l=true)(h3:allB upR (leftsL v l)=false):hearE v l=9:=by
 unfold hearE;rw[if_neg h,if_neg (by rw[h2];simp),if_pos h3]
theorem hearE_ok {v:Vly}{l:List Evd}(h:¬ 20<l.length)(h2:allB (evOk v.sls.length) l=true)(h3:allB upR (leftsL v l)=true):hearE v l=0:=by
 unfold hearE;rw[if_neg h,if_neg (by rw[h2];simp),if_neg (by rw[h3];simp)]
end Go.Proofs.YtkhcliibilkefaaGreatDoor
namespace Go.Proofs.YtkhcliibilkefaaGreatDoor
open Lib (hid)
structure Cel where
 lo:Int
 hi:Int
 cap:Int
 keep:Int
 pass:Int
 to:Int
 pump:Int
 deriving DecidableEq
structure Dy where
 lo:Int
 hi:Int
 warm:Int
 deriving DecidableEq
def lvA (L:List Int)(i:Nat):Int:=L.getD i 0
def celA (C:List Cel)(i:Nat):Cel:=C.getD i ⟨0,0,1,0,0,-1,0⟩
def takenW (c:Cel)(l:Int):Int:=min l c.pump
def staysW (c:Cel)(l:Int):Int:=l - takenW c l
def onW (c:Cel)(l:Int):Int:=max 0 (staysW c l - c.keep) * c.pass / 1000
def nowW (C:List Cel)(L:List Int)(s:Int):Nat→Nat→Int
 | 0,_=>0
 | k+1,j=>nowW C L s k j+(if j=k then staysW (celA C k) (lvA L k) - onW (celA C k) (lvA L k)+s else 0)+(if (celA C k).to=(j:Int) then onW (celA C k) (lvA L k) else 0)
def leftW (C:List Cel)(L:List Int)(d s:Int):Nat→Int
 | 0=>0
 | k+1=>leftW C L d s k+((d - s)+takenW (celA C k) (lvA L k))+(if (celA C k).to=-1 then onW (celA C k) (lvA L k) else 0)
def overW (C:List Cel)(L:List Int)(s:Int):Nat→Int
 | 0=>0
 | k+1=>overW C L s k+max 0 (nowW C L s C.length k - (celA C k).cap)
def passW (C:List Cel)(L:List Int)(s:Int):List Int:=(List.range C.length).map fun j=>min (nowW C L s C.length j) (celA C j).cap
def fallW (melt snow rain warm:Int):Int×Int:=if warm≤0 then (0,snow+rain) else (rain+min snow (melt * warm),snow - min snow (melt * warm))
structure WaySt where
 lv:List Int
 snow:Int
 left:Int
def dayW (C:List Cel)(melt soak:Int)(st:WaySt)(rain warm:Int):WaySt :=
 let f:=fallW melt st.snow rain warm
 let s:=f.1 * soak / 1000
 ⟨passW C st.lv s,f.2,leftW C st.lv f.1 s C.length+overW C st.lv s C.length⟩
def daysW (C:List Cel)(melt soak:Int)(rain warm:List Int)(st:WaySt):Nat→WaySt
 | 0=>st
 | k+1=>dayW C melt soak (daysW C melt soak rain warm st k) (rain.getD k 0) (warm.getD k 0)
def celOk (n:Nat)(c:Cel):Prop:=(1≤c.cap∧c.cap≤100000)∧(0≤c.lo∧c.lo≤c.hi∧c.hi≤c.cap)∧(0≤c.keep∧c.keep≤c.cap)∧(0≤c.pass∧c.pass≤1000)∧(-1≤c.to∧c.to≤(n:Int) - 1)∧(0≤c.pump∧c.pump≤100000)
theorem celA_ok {n:Nat}{C:List Cel}(h:∀ c∈C,celOk n c)(i:Nat):celOk n (celA C i):=by
 unfold celA;rw[List.getD_eq_getElem?_getD]
 cases hc:C[i]? with
 | none=>exact⟨by decide,by decide,by decide,by decide,⟨by decide,by simp;omega⟩,by decide⟩
 | some c=>exact h c (List.mem_of_getElem? hc)
theorem stays_mono {c:Cel}{a b:Int}(h:a≤b):staysW c a≤staysW c b:=by unfold staysW takenW;omega
theorem stays_nn {c:Cel}{a:Int}:0≤staysW c a:=by unfold staysW takenW;omega
theorem on_nn {c:Cel}{a:Int}(hp:0≤c.pass):0≤onW c a:=by
 unfold onW;exact Int.ediv_nonneg (Int.mul_nonneg (by omega) hp) (by omega)
theorem on_mono {c:Cel}{a b:Int}(hp:0≤c.pass)(h:a≤b):onW c a≤onW c b:=by
 unfold onW;have:=stays_mono (c:=c) h;exact Int.ediv_le_ediv (by omega) (Int.mul_le_mul_of_nonneg_right (by omega) hp)
theorem keep_mono {c:Cel}{a b:Int}(hp:0≤c.pass∧c.pass≤1000)(h:a≤b):staysW c a - onW c a≤staysW c b - onW c b:=by
 have hs:=stays_mono (c:=c) h;unfold onW;obtain⟨x,hx⟩:∃ x,x=max 0 (staysW c a - c.keep):=⟨_,rfl⟩;obtain⟨y,hy⟩:∃ y,y=max 0 (staysW c b - c.keep):=⟨_,rfl⟩;rw[← hx,← hy]
 have hxy:0≤y - x∧y - x≤staysW c b - staysW c a:=by omega
 have h1:(y - x) * c.pass≤(y - x) * 1000:=Int.mul_le_mul_of_nonneg_left hp.2 hxy.1
 have h2:y * c.pass=x * c.pass+(y - x) * c.pass:=by rw[Int.sub_mul];omega
 omega
theorem on_le {c:Cel}{a:Int}(hk:0≤c.keep)(hp:0≤c.pass∧c.pass≤1000):onW c a≤staysW c a:=by
 have hs:=stays_nn (c:=c) (a:=a);unfold onW;obtain⟨x,hx⟩:∃ x,x=max 0 (staysW c a - c.keep):=⟨_,rfl⟩;rw[← hx];have h1:x * c.pass≤x * 1000:=Int.mul_le_mul_of_nonneg_left hp.2 (by omega);omega
def LeL (L M:List Int):Prop:=∀ i,lvA L i≤lvA M i
theorem now_mono {n:Nat}{C:List Cel}{L M:List Int}{s t:Int}(hC:∀ c∈C,celOk n c)(hL:LeL L M)(hs:s≤t):∀ k j,nowW C L s k j≤nowW C M t k j
 | 0,_=>Int.le_refl _
 | k+1,j=>by
  have ih:=now_mono hC hL hs k j;have hc:=celA_ok hC k;have h1:=keep_mono (c:=celA C k) hc.2.2.2.1 (hL k);have h2:=on_mono (c:=celA C k) hc.2.2.2.1.1 (hL k);unfold nowW
  split<;>split<;>omega
theorem now_nn {n:Nat}{C:List Cel}{L:List Int}{s:Int}(hC:∀ c∈C,celOk n c)(hs:0≤s):∀ k j,0≤nowW C L s k j
 | 0,_=>Int.le_refl _
 | k+1,j=>by
  have ih:=now_nn (L:=L) hC hs k j;have hc:=celA_ok hC k;have h1:=on_le (c:=celA C k) (a:=lvA L k) hc.2.2.1.1 hc.2.2.2.1;have h2:=on_nn (c:=celA C k) (a:=lvA L k) hc.2.2.2.1.1;unfold nowW
  split<;>split<;>omega
theorem lvA_pass {C:List Cel}{L:List Int}{s:Int}(i:Nat):lvA (passW C L s) i=if i<C.length then min (nowW C L s C.length i) (celA C i).cap else 0:=by
 unfold lvA passW;rw[List.getD_eq_getElem?_getD,List.getElem?_map]
 by_cases h:i<C.length
 · rw[List.getElem?_range h,if_pos h];rfl
 · rw[List.getElem?_eq_none (by simp;omega),if_neg h];rfl
theorem pass_mono {n:Nat}{C:List Cel}{L M:List Int}{s t:Int}(hC:∀ c∈C,celOk n c)(hL:LeL L M)(hs:s≤t):LeL (passW C L s) (passW C M t):=by
 intro i;rw[lvA_pass,lvA_pass];have:=now_mono hC hL hs C.length i
 split<;>omega
theorem soaks_mono {d e p q:Int}(hd:0≤d)(hde:d≤e)(hp:0≤p)(hpq:p≤q):d * p / 1000≤e * q / 1000 :=
 Int.ediv_le_ediv (by omega) (Int.le_trans (Int.mul_le_mul_of_nonneg_left hpq hd) (Int.mul_le_mul_of_nonneg_right hde (by omega)))
theorem fall_mono {m s t r q x:Int}(hs:s≤t)(hr:r≤q):(fallW m s r x).1≤(fallW m t q x).1∧(fallW m s r x).2≤(fallW m t q x).2:=by
 unfold fallW
 split
 · exact⟨Int.le_refl _,by simp;omega⟩
 · simp;constructor<;>omega
theorem fall_nn {m s r x:Int}(hm:0≤m)(hs:0≤s)(hr:0≤r):0≤(fallW m s r x).1∧0≤(fallW m s r x).2:=by
 unfold fallW
 split
 · simp;omega
 · rename_i h
   have:0≤m * x:=Int.mul_nonneg hm (by omega);simp;constructor<;>omega
theorem day_mono {n:Nat}{C:List Cel}{m p q r u x:Int}{a b:WaySt}(hC:∀ c∈C,celOk n c)(hm:0≤m)(hp:0≤p)(hpq:p≤q)(hr:0≤r)(hru:r≤u)(hl:LeL a.lv b.lv)(h0:0≤a.snow)(hs:a.snow≤b.snow) :
 LeL (dayW C m p a r x).lv (dayW C m q b u x).lv∧0≤(dayW C m p a r x).snow∧(dayW C m p a r x).snow≤(dayW C m q b u x).snow:=by
 have h1:=fall_mono (m:=m) (x:=x) hs hru;have h2:=fall_nn (x:=x) hm h0 hr;exact⟨pass_mono hC hl (soaks_mono h2.1 h1.1 hp hpq),h2.2,h1.2⟩
theorem getD_in {l:List Int}(h:∀ x∈l,0≤x)(k:Nat):0≤l.getD k 0:=by
 rw[List.getD_eq_getElem?_getD]
 cases hc:l[k]? with
 | none=>exact Int.le_refl _
 | some c=>exact h c (List.mem_of_getElem? hc)
theorem days_mono {n:Nat}{C:List Cel}{m p q:Int}{R U X:List Int}{a b:WaySt}(hC:∀ c∈C,celOk n c)(hm:0≤m)(hp:0≤p)(hpq:p≤q)(hR:∀ x∈R,0≤x)(hRU:LeL R U)(hl:LeL a.lv b.lv)(h0:0≤a.snow)(hs:a.snow≤b.snow):∀ k,
 LeL (daysW C m p R X a k).lv (daysW C m q U X b k).lv∧0≤(daysW C m p R X a k).snow∧(daysW C m p R X a k).snow≤(daysW C m q U X b k).snow
 | 0=>⟨hl,h0,hs⟩
 | k+1=>by
  have ih:=days_mono (X:=X) hC hm hp hpq hR hRU hl h0 hs k;exact day_mono hC hm hp hpq (getD_in hR k) (hRU k) ih.1 ih.2.1 ih.2.2
theorem pass_bd {n:Nat}{C:List Cel}{L:List Int}{s:Int}(hC:∀ c∈C,celOk n c)(hs:0≤s)(i:Nat):0≤lvA (passW C L s) i∧lvA (passW C L s) i≤100000:=by
 rw[lvA_pass];have h1:=now_nn (L:=L) hC hs C.length i;have h2:=(celA_ok hC i).1
 split<;>omega
theorem pass_len {C:List Cel}{L:List Int}{s:Int}:(passW C L s).length=C.length:=by simp[passW]
structure BedS where
 drive:Int
 normal:Int
 f0:Int
 f1:Int
 c0:Int
 c1:Int
 w0:Int
 w1:Int
 deriving DecidableEq
def bedOk (b:BedS):Prop:=(-100000≤b.drive∧b.drive≤100000)∧(0≤b.normal∧b.normal≤100000)∧(0≤b.f0∧b.f0≤b.f1∧b.f1≤2000)∧(0≤b.c0∧b.c0≤b.c1∧b.c1≤100000)∧(0≤b.w0∧b.w0≤b.w1∧b.w1≤100000)
def holdsS (b:BedS)(f c w:Int):Int:=max 0 (b.normal - w) * f / 1000+c
def leastS (b:BedS):Int:=holdsS b b.f0 b.c0 b.w1
theorem holds_nn {b:BedS}{f c w:Int}(hf:0≤f)(hc:0≤c):0≤holdsS b f c w:=by
 unfold holdsS;have:0≤max 0 (b.normal - w) * f / 1000:=Int.ediv_nonneg (Int.mul_nonneg (by omega) hf) (by omega);omega
theorem holds_bd {b:BedS}{f c w:Int}(hn:b.normal≤100000)(hw:0≤w)(hf:0≤f∧f≤2000)(hc:c≤100000):holdsS b f c w≤300000:=by
 unfold holdsS
 have h1:max 0 (b.normal - w) * f≤100000 * 2000:=by
  refine Int.le_trans (Int.mul_le_mul_of_nonneg_right (c:=f) (show max 0 (b.normal - w)≤100000 by omega) hf.1) (Int.mul_le_mul_of_nonneg_left hf.2 (by omega))
 omega
def sumS (P:Nat→Int):Nat→Nat→Int
 | 0,i=>P i
 | k+1,i=>P i+sumS P k (i+1)
theorem sum_lin (P Q:Nat→Int)(x y:Int):∀ k i,sumS (fun j=>x * P j - y * Q j) k i=x * sumS P k i - y * sumS Q k i
 | 0,_=>rfl
 | k+1,i=>by
  unfold sumS;rw[sum_lin P Q x y k (i+1),Int.mul_add,Int.mul_add];omega
theorem sum_nn {P:Nat→Int}(h:∀ j,0≤P j):∀ k i,0≤sumS P k i
 | 0,i=>h i
 | k+1,i=>by
  have:=sum_nn h k (i+1);have:=h i;unfold sumS;omega
theorem sum_bd {P:Nat→Int}{B:Int}(hB:∀ j,-B≤P j∧P j≤B):∀(k i:Nat),-(B * ((k:Int)+1))≤sumS P k i∧sumS P k i≤B * ((k:Int)+1)
 | 0,i=>by have:=hB i;simp[sumS];omega
 | k+1,i=>by
  have ih:=sum_bd hB k (i+1);have:=hB i
  have e:B * (((k+1:Nat):Int)+1)=B * ((k:Int)+1)+B:=by rw[show(((k+1:Nat):Int)+1)=((k:Int)+1)+1 by omega,Int.mul_add B _ 1];omega
  unfold sumS;rw[e];omega
def Lower (P:Nat→Int)(m least:Nat):Prop:=∃ i j,i≤j∧j<m∧i+least≤j+1∧sumS P (j - i) i<0
def costS (H D:Nat→Int)(n:Int):Nat→Int:=fun j=>1000 * H j - n * D j
theorem lower_iff {H D:Nat→Int}{n:Int}{m least:Nat}:Lower (costS H D n) m least↔∃ i j,i≤j∧j<m∧i+least≤j+1∧1000 * sumS H (j - i) i<n * sumS D (j - i) i:=by
 constructor
 · rintro⟨i,j,h1,h2,h3,h4⟩
   exact⟨i,j,h1,h2,h3,by rw[show costS H D n=fun j=>1000 * H j - n * D j from rfl,sum_lin] at h4;omega⟩
 · rintro⟨i,j,h1,h2,h3,h4⟩
   exact⟨i,j,h1,h2,h3,by rw[show costS H D n=fun j=>1000 * H j - n * D j from rfl,sum_lin];omega⟩
def FacS (H D:Nat→Int)(m least:Nat)(q:Int):Prop:=∃ i j,i≤j∧j<m∧i+least≤j+1∧1≤sumS D (j - i) i∧q=1000 * sumS H (j - i) i / sumS D (j - i) i
theorem lower_fac {H D:Nat→Int}(hH:∀ j,0≤H j){n:Int}(hn:0≤n){m least:Nat}:Lower (costS H D n) m least↔∃ q,FacS H D m least q∧q<n:=by
 rw[lower_iff]
 constructor
 · rintro⟨i,j,h1,h2,h3,h4⟩
   have hh:=sum_nn hH (j - i) i
   have hd:1≤sumS D (j - i) i:=by
    refine Classical.byContradiction fun hc=>?_;have:n * sumS D (j - i) i≤0:=Int.mul_nonpos_of_nonneg_of_nonpos hn (by omega);omega
   exact⟨_,⟨i,j,h1,h2,h3,hd,rfl⟩,Int.ediv_lt_of_lt_mul (by omega) h4⟩
 · rintro⟨q,⟨i,j,h1,h2,h3,hd,rfl⟩,h4⟩
   exact⟨i,j,h1,h2,h3,Int.lt_mul_of_ediv_lt (by omega) h4⟩
def halfS (P:Int→Bool):Nat→Int→Int→Int
 | 0,lo,_=>lo
 | f+1,lo,hi=>if lo<hi then (if P ((lo+hi) / 2) then halfS P f lo ((lo+hi) / 2) else halfS P f ((lo+hi) / 2+1) hi) else lo
structure WorstAt (H D:Nat→Int) (m least:Nat) (n:Int):Prop where
 lo:1≤n
 hi:n≤10001
 is:n≤10000→Lower (costS H D n) m least
 no:∀ k,1≤k→k<n→¬ Lower (costS H D k) m least
theorem Lower.up {H D:Nat→Int}(hH:∀ j,0≤H j){m least:Nat}{a b:Int}(ha:0≤a)(hab:a≤b)(h:Lower (costS H D a) m least):Lower (costS H D b) m least:=by
 obtain⟨q,hq,hl⟩:=(lower_fac hH ha).1 h;exact(lower_fac hH (by omega)).2 ⟨q,hq,by omega⟩
theorem WorstAt.step {H D:Nat→Int}(hH:∀ j,0≤H j){m least:Nat}{n:Int}(hn:¬ Lower (costS H D n) m least):∀ k,1≤k→k<n+1→¬ Lower (costS H D k) m least:=by
 intro k hk hkn hlow;exact hn (hlow.up hH (by omega) (by omega))
end Go.Proofs.YtkhcliibilkefaaGreatDoor
