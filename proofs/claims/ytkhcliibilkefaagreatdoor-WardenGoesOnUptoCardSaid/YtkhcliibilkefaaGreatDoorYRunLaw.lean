/- MEMORY of water.Levels: two ways, the rows of ranges, their boxes. -/
import Derived.Test.YtkhcliibilkefaaGreatDoorYAfter
import Derived.Test.YtkhcliibilkefaaGreatDoorYChoice
set_option linter.unusedVariables false
set_option linter.unusedSimpArgs false
set_option maxRecDepth 100000
set_option maxHeartbeats 8000000
namespace Go.Proofs.YtkhcliibilkefaaGreatDoor
open Lib (hid)
open Go.RowKit Go.Proofs
theorem Blk.ne {W:World}{g g':Nat}{t t':TypeId}{cs cs':Array Value}(h:Blk W g t cs)(h':Blk W g' t' cs')(hne:t≠t'):g≠g':=by
 rintro rfl;have e:=(show W.heap[g]?=_ from h).symm.trans (show W.heap[g]?=_ from h')
 injection e with e
 injection e with _ e
 exact hne e
def rngA (n:Nat)(f:Nat→Int×Int):Array Value:=((List.range n).flatMap fun i=>[Value.int .i64 (f i).1,Value.int .i64 (f i).2]).toArray
theorem rngA_list (f:Nat→Int×Int):∀ n,(List.range n).flatMap (fun i=>[Value.int .i64 (f i).1,Value.int .i64 (f i).2])=((List.range n).map f).flatMap enc2
 | 0=>rfl
 | n+1=>by rw[List.range_succ,List.flatMap_append,rngA_list f n,List.map_append,List.flatMap_append];rfl
theorem rngA_size (n:Nat)(f:Nat→Int×Int):(rngA n f).size=n * 2:=by
 unfold rngA;rw[List.size_toArray,rngA_list]
 induction n with
 | zero=>rfl
 | succ n ih=>rw[List.range_succ,List.map_append,List.flatMap_append,List.length_append,ih];simp[enc2];omega
theorem rngA_get {n:Nat}{f:Nat→Int×Int}{i:Nat}(hi:i<n):(rngA n f)[i * 2]?=some (.int .i64 (f i).1)∧(rngA n f)[i * 2+1]?=some (.int .i64 (f i).2):=by
 have hx:((List.range n).map f)[i]?=some (f i):=by simp[hi]
 unfold rngA;rw[List.getElem?_toArray,List.getElem?_toArray,rngA_list];have h0:=flatMap_get enc2_len ((List.range n).map f) i (f i) 0 _ hx rfl;have h1:=flatMap_get enc2_len ((List.range n).map f) i (f i) 1 _ hx rfl;exact⟨by simpa using h0,by simpa using h1⟩
def updL (f:Nat→Int×Int)(i:Nat)(a:Int):Nat→Int×Int:=fun j=>if j=i then (a,(f j).2) else f j
def updH (f:Nat→Int×Int)(i:Nat)(a:Int):Nat→Int×Int:=fun j=>if j=i then ((f j).1,a) else f j
theorem rngA_ext {n:Nat}{f g:Nat→Int×Int}(h:∀ i,i<n→f i=g i):rngA n f=rngA n g:=by
 unfold rngA;rw[rngA_list,rngA_list]
 congr 2
 apply List.map_congr_left
 intro i hi;exact h i (List.mem_range.1 hi)
theorem rngA_at {n:Nat}{f:Nat→Int×Int}{j:Nat}:(rngA n f)[j]?=if j<n * 2 then (if j % 2=0 then some (.int .i64 (f (j / 2)).1) else some (.int .i64 (f (j / 2)).2)) else none:=by
 by_cases hj:j<n * 2
 · rw[if_pos hj]
   have h:=rngA_get (f:=f) (i:=j / 2) (n:=n) (by omega)
   rcases Nat.mod_two_eq_zero_or_one j with e | e
   · rw[if_pos e,← h.1];congr 1;omega
   · rw[if_neg (by omega),← h.2];congr 1;omega
 · rw[if_neg hj]
   exact Array.getElem?_eq_none (by rw[rngA_size];omega)
theorem rngA_setL {n:Nat}{f:Nat→Int×Int}{i:Nat}(a:Int):(rngA n f).setIfInBounds (i * 2) (.int .i64 a)=rngA n (updL f i a):=by
 apply Array.ext_getElem?
 intro j;rw[Array.getElem?_setIfInBounds,rngA_at,rngA_at,rngA_size]
 by_cases hij:i * 2=j
 · subst hij
   rw[if_pos rfl]
   by_cases hb:i * 2<n * 2
   · rw[if_pos hb,if_pos hb,if_pos (by omega)]
     simp[updL]
   · rw[if_neg hb,if_neg hb]
 · rw[if_neg hij]
   by_cases hb:j<n * 2
   · rw[if_pos hb,if_pos hb]
     rcases Nat.mod_two_eq_zero_or_one j with e | e
     · rw[if_pos e,if_pos e]
       have:¬ j / 2=i:=by omega
       simp[updL,this]
     · rw[if_neg (by omega),if_neg (by omega)]
       unfold updL;split<;>rfl
   · rw[if_neg hb,if_neg hb]
theorem rngA_setH {n:Nat}{f:Nat→Int×Int}{i:Nat}(a:Int):(rngA n f).setIfInBounds (i * 2+1) (.int .i64 a)=rngA n (updH f i a):=by
 apply Array.ext_getElem?
 intro j;rw[Array.getElem?_setIfInBounds,rngA_at,rngA_at,rngA_size]
 by_cases hij:i * 2+1=j
 · subst hij
   rw[if_pos rfl]
   by_cases hb:i * 2+1<n * 2
   · have h2:(i * 2+1) / 2=i:=by omega
     rw[if_pos hb,if_pos hb,if_neg (by omega),h2];simp[updH]
   · rw[if_neg hb,if_neg hb]
 · rw[if_neg hij]
   by_cases hb:j<n * 2
   · rw[if_pos hb,if_pos hb]
     rcases Nat.mod_two_eq_zero_or_one j with e | e
     · rw[if_pos e,if_pos e]
       unfold updH;split<;>rfl
     · rw[if_neg (by omega),if_neg (by omega)]
       have:¬ j / 2=i:=by omega
       simp[updH,this]
   · rw[if_neg hb,if_neg hb]
theorem rngA_rd {w:World}{g n:Nat}{f:Nat→Int×Int}(h:Blk w g 31 (rngA n f)):Rd enc2 2 w (some ⟨g,0,none⟩) n ((List.range n).map f) :=
 Rd.of_blkE enc2_len h (by unfold rngA;rw[rngA_list]) (by simp)
theorem infoRw:(Tryz.prog.info? 31).map (fun i=>(i.zero,i.size,i.bytes))=some (some (.agg #[.int .i64 0,.int .i64 0]),2,16):=by kernel_rfl
theorem mk_rng (n:Nat)(hn:n≤1000)(W:World):(Instr.makeSlice 168 (.int .i64 (n:Int)) (.int .i64 (n:Int))).run Tryz.prog W=.ok (.slice (some ⟨W.heap.size,0,none⟩) n n) (W.alloc (.cells (rngA n fun _=>(0,0)) 31)):=by
 obtain⟨i,h0,hz0,hz1,hz2⟩:=info_parts infoRw;have:=run_make (P:=Tryz.prog) W 168 31 i _ Tryz.underlying168 h0 hz0 .i64 .i64 n n (by omega) (by omega) (by rw[hz2];omega) (by omega);rw[hz1] at this
 have e:madeCells (Value.agg #[.int .i64 0,.int .i64 0]).cells ((n:Int).toNat * 2)=rngA n fun _=>(0,0):=by
  apply Array.ext_getElem?
  intro j;rw[rngA_at];simp only[madeCells]
  by_cases h:j<n * 2
  · rw[if_pos h]
    rcases Nat.mod_two_eq_zero_or_one j with e | e<;>simp[h,Value.cells,Array.getElem?_range,e]
  · simp[h,Array.getElem?_range]
 rw[e] at this
 simpa using this
structure LvC where
 E0:WE
 E1:WE
 w:World
 base:Nat
 W0:Nat
 W1:Nat
 P0:Nat
 P1:Nat
 Bo:Nat
 Bs:Nat
 Bg:Nat
def LvC.n (K:LvC):Nat:=K.E0.CS.n
def LvC.Ad (K:LvC)(ad:Addr):Prop:=(K.E0.CS.A=some ad∧0<K.E0.CS.n)∨(K.E0.DS.A=some ad∧0<K.E0.DS.n)∨(K.E0.RN.A=some ad∧0<K.E0.RN.n)∨(K.E1.CS.A=some ad∧0<K.E1.CS.n)∨(K.E1.DS.A=some ad∧0<K.E1.DS.n)∨(K.E1.RN.A=some ad∧0<K.E1.RN.n)
def LvC.Act (K:LvC)(g:Nat):Prop:=g=K.W0∨g=K.W1∨g=K.Bo∨g=K.Bs∨K.base≤g
structure LvC.Ok (K:LvC):Prop where
 h0:K.E0.Ok
 h1:K.E1.Ok
 cn:K.E1.CS.n=K.E0.CS.n
 dn:K.E1.DS.n=K.E0.DS.n
 lo:K.w.heap.size≤K.W0∧K.w.heap.size≤K.W1∧K.w.heap.size≤K.Bo∧K.w.heap.size≤K.Bs∧K.w.heap.size≤K.base
 hi:K.W0<K.base∧K.W1<K.base∧K.P0<K.base∧K.P1<K.base∧K.Bo<K.base∧K.Bs<K.base∧K.Bg<K.base
 w01:K.W0≠K.W1
 ad:∀ ad,K.Ad ad→¬ K.Act ad.block
structure LvA (K:LvC) (Bx Wx:Nat) (gs:List Nat) (F:Nat→Nat→Int×Int) (v vb vs vsb:Value) (k m:Nat) (s0 s1:WaySt) (W:World):Prop where
 b0:K.E0.blk W K.W0 s0
 b1:K.E1.blk W K.W1 s1
 r0:K.E0.Rds W
 r1:K.E1.Rds W
 p0:Blk W K.P0 207 #[.pointer (some ⟨K.W0,0,none⟩)]
 p1:Blk W K.P1 207 #[.pointer (some ⟨K.W1,0,none⟩)]
 bx:Blk W Bx 207 #[.pointer (some ⟨Wx,0,none⟩)]
 bo:Blk W K.Bo 167 #[vb]
 bs:Blk W K.Bs 168 #[vsb]
 bg:Blk W K.Bg 33 #[.slice K.E0.CS.A K.E0.CS.n K.E0.CS.c,.int .i64 K.E0.sn0,.int .i64 K.E0.sn1,.int .i64 K.E0.so0,.int .i64 K.E0.so1,.int .i64 K.E0.melt]
 own:W.ownsRow K.base 168 1 v k (gs.flatMap fun g=>[Value.slice (some ⟨g,0,none⟩) K.n K.n])
 ows:∃ xs,W.ownsRow K.base 31 2 vs m xs∧∀ x∈xs,∃ a,x=Value.int .i64 a
 len:gs.length=k
 rows:∀(j g:Nat),gs[j]?=some g→Blk W g 31 (rngA K.n (F j))∧K.base≤g∧vs.ownBlock≠some g
 inj:∀(i j g:Nat),gs[i]?=some g→gs[j]?=some g→i=j
 bel:Below K.w.heap.size K.w W
 sz:K.base≤W.heap.size
theorem rds_fr {E:WE}{W W':World}{Z:Nat→Prop}(hf:Fr Z W W')(h:E.Rds W)(hc:∀ ad,E.CS.A=some ad∧0<E.CS.n→¬ Z ad.block)(hd:∀ ad,E.DS.A=some ad∧0<E.DS.n→¬ Z ad.block)(hr:∀ ad,E.RN.A=some ad∧0<E.RN.n→¬ Z ad.block):E.Rds W' :=
 ⟨frz hf h.c fun ad e=>(Nat.eq_zero_or_pos _).imp id fun h0=>hc ad ⟨e,h0⟩,frz hf h.d fun ad e=>(Nat.eq_zero_or_pos _).imp id fun h0=>hd ad ⟨e,h0⟩,frz hf h.r fun ad e=>(Nat.eq_zero_or_pos _).imp id fun h0=>hr ad ⟨e,h0⟩⟩
section
variable {g0 cq:Nat} {K:LvC} {Bx Wx:Nat} {gs:List Nat} {F:Nat→Nat→Int×Int} {v vb vs vsb:Value} {k m:Nat} {s0 s1:WaySt} {W W':World}
theorem LvA.upd (ok:K.Ok)(h:LvA K Bx Wx gs F v vb vs vsb k m s0 s1 W){Z:Nat→Prop}(hf:Fr Z W W')(hz:∀ g,Z g→K.Act g)
 {Bx' Wx':Nat} {gs':List Nat} {F':Nat→Nat→Int×Int} {v' vb' vs' vsb':Value} {k' m':Nat} {s0' s1':WaySt}
 (b0:K.E0.blk W' K.W0 s0') (b1:K.E1.blk W' K.W1 s1') (bx:Blk W' Bx' 207 #[.pointer (some ⟨Wx',0,none⟩)]) (bo:Blk W' K.Bo 167 #[vb']) (bs:Blk W' K.Bs 168 #[vsb'])
 (own:W'.ownsRow K.base 168 1 v' k' (gs'.flatMap fun g=>[Value.slice (some ⟨g,0,none⟩) K.n K.n])) (ows:∃ xs,W'.ownsRow K.base 31 2 vs' m' xs∧∀ x∈xs,∃ a,x=Value.int .i64 a) (len:gs'.length=k')
 (rows:∀(j g:Nat),gs'[j]?=some g→Blk W' g 31 (rngA K.n (F' j))∧K.base≤g∧vs'.ownBlock≠some g) (inj:∀(i j g:Nat),gs'[i]?=some g→gs'[j]?=some g→i=j) :
 LvA K Bx' Wx' gs' F' v' vb' vs' vsb' k' m' s0' s1' W':=by
 have hp:∀ g t cs,Blk W g t cs→t=207∨t=33→g<K.base→¬ Z g:=by
  intro g t cs hb ht hg hZ
  rcases hz g hZ with rfl | rfl | rfl | rfl | h5
  · rcases ht with rfl | rfl<;>exact hb.ne h.b0 (by decide) rfl
  · rcases ht with rfl | rfl<;>exact hb.ne h.b1 (by decide) rfl
  · rcases ht with rfl | rfl<;>exact hb.ne h.bo (by decide) rfl
  · rcases ht with rfl | rfl<;>exact hb.ne h.bs (by decide) rfl
  · omega
 have hlo:=ok.lo;have hhi:=ok.hi
 refine⟨b0,b1,rds_fr hf h.r0 (fun ad e hZ=>ok.ad ad (.inl e) (hz _ hZ)) (fun ad e hZ=>ok.ad ad (.inr (.inl e)) (hz _ hZ)) (fun ad e hZ=>ok.ad ad (.inr (.inr (.inl e))) (hz _ hZ)),
  rds_fr hf h.r1 (fun ad e hZ=>ok.ad ad (.inr (.inr (.inr (.inl e)))) (hz _ hZ)) (fun ad e hZ=>ok.ad ad (.inr (.inr (.inr (.inr (.inl e))))) (hz _ hZ)) (fun ad e hZ=>ok.ad ad (.inr (.inr (.inr (.inr (.inr e))))) (hz _ hZ)),
  hf.blk h.p0 (hp _ _ _ h.p0 (.inl rfl) hhi.2.2.1),hf.blk h.p1 (hp _ _ _ h.p1 (.inl rfl) hhi.2.2.2.1),bx,bo,bs,hf.blk h.bg (hp _ _ _ h.bg (.inr rfl) hhi.2.2.2.2.2.2),own,ows,len,rows,inj,
  h.bel.trans (hf.below h.bel.size fun g hZ=>by rcases hz g hZ with rfl | rfl | rfl | rfl | h5<;>omega),Nat.le_trans h.sz hf.size⟩
theorem LvA.keep (h:LvA K Bx Wx gs F v vb vs vsb k m s0 s1 W){Z:Nat→Prop}(hf:Fr Z W W')(hz:∀ g,Z g→∀ cs t,W.heap[g]?≠some (.cells cs t (0,0)))(hb:∀ g,Z g→K.w.heap.size≤g)(hrd:∀ ad,K.Ad ad→¬ Z ad.block):LvA K Bx Wx gs F v vb vs vsb k m s0 s1 W':=by
 have hk:∀ {g:Nat} {t:TypeId} {cs:Array Value},Blk W g t cs→Blk W' g t cs:=fun hb=>hf.blk hb fun hZ=>hz _ hZ _ _ hb
 have ho:∀ {b:Nat} {e:TypeId} {k n:Nat} {v:Value} {xs:List Value},W.ownsRow b e k v n xs→W'.ownsRow b e k v n xs:=fun h=>hf.row h fun g hg hZ=>by
  obtain⟨cur,hc⟩:=own_ty h hg;exact hz g hZ _ _ hc
 refine⟨hk h.b0,hk h.b1,rds_fr hf h.r0 (fun ad e=>hrd ad (.inl e)) (fun ad e=>hrd ad (.inr (.inl e))) (fun ad e=>hrd ad (.inr (.inr (.inl e)))),
  rds_fr hf h.r1 (fun ad e=>hrd ad (.inr (.inr (.inr (.inl e))))) (fun ad e=>hrd ad (.inr (.inr (.inr (.inr (.inl e)))))) (fun ad e=>hrd ad (.inr (.inr (.inr (.inr (.inr e)))))),hk h.p0,hk h.p1,hk h.bx,hk h.bo,hk h.bs,hk h.bg,ho h.own,?_,h.len,fun j g hg=>?_,h.inj,h.bel.trans (hf.below h.bel.size hb),Nat.le_trans h.sz hf.size⟩
 · obtain⟨xs,h1,h2⟩:=h.ows;exact⟨xs,ho h1,h2⟩
 · obtain⟨h1,h2,h3⟩:=h.rows j g hg;exact⟨hk h1,h2,h3⟩
theorem LvA.below (h:LvA K Bx Wx gs F v vb vs vsb k m s0 s1 W)(hb:Below W.heap.size W W'):LvA K Bx Wx gs F v vb vs vsb k m s0 s1 W' :=
 h.keep (Fr.of_below hb fun _=>False) (fun _ h=>h.elim) (fun _ h=>h.elim) (fun _ _ h=>h.elim)
theorem fr_put {W:World}(l:Nat)(o:Obj):Fr (fun g=>g=l) W (W.putObj l o):=⟨rfl,rfl,rfl,by simp,fun g _ hg=>World.putObj_heap_other (fun e=>hg (by first | exact e | exact e.symm))⟩
theorem LvA.put (ok:K.Ok)(h:LvA K Bx Wx gs F v vb vs vsb k m s0 s1 W){l:Nat}{o o':Obj}(hl:K.base≤l)(hq:W.heap[l]?=some o')(hc:o'.isCells=false):LvA K Bx Wx gs F v vb vs vsb k m s0 s1 (W.putObj l o) :=
 h.keep (fr_put l o) (fun g e cs t h9=>by subst e;rw[hq] at h9;cases h9;cases hc) (fun g e=>by subst e;exact Nat.le_trans ok.lo.2.2.2.2 hl) (fun ad ha e=>ok.ad ad ha (by rw[e];exact .inr (.inr (.inr (.inr hl)))))
theorem LvA.turn0 (ok:K.Ok)(h:LvA K Bx Wx gs F v vb vs vsb k m s0 s1 W){s0':WaySt}(hb:K.E0.blk W' K.W0 s0')(hf:Fr (fun g=>g=K.W0) W W'):LvA K Bx Wx gs F v vb vs vsb k m s0' s1 W':=by
 obtain⟨xs,hx,hx2⟩:=h.ows
 exact h.upd ok hf (fun g e=>.inl e) hb (hf.blk h.b1 fun e=>ok.w01 e.symm) (hf.blk h.bx (h.bx.ne h.b0 (by decide))) (hf.blk h.bo (h.bo.ne h.b0 (by decide))) (hf.blk h.bs (h.bs.ne h.b0 (by decide)))
  (hf.row h.own fun g hg e=>by subst e;exact own_blk_ne h.own h.b0 (by decide) hg) ⟨xs,hf.row hx fun g hg e=>by subst e;exact own_blk_ne hx h.b0 (by decide) hg,hx2⟩ h.len
  (fun j g hg=>by obtain⟨h1,h2,h3⟩:=h.rows j g hg;exact⟨hf.blk h1 (h1.ne h.b0 (by decide)),h2,h3⟩) h.inj
theorem LvA.turn1 (ok:K.Ok)(h:LvA K Bx Wx gs F v vb vs vsb k m s0 s1 W){s1':WaySt}(hb:K.E1.blk W' K.W1 s1')(hf:Fr (fun g=>g=K.W1) W W'):LvA K Bx Wx gs F v vb vs vsb k m s0 s1' W':=by
 obtain⟨xs,hx,hx2⟩:=h.ows
 exact h.upd ok hf (fun g e=>.inr (.inl e)) (hf.blk h.b0 ok.w01) hb (hf.blk h.bx (h.bx.ne h.b1 (by decide))) (hf.blk h.bo (h.bo.ne h.b1 (by decide))) (hf.blk h.bs (h.bs.ne h.b1 (by decide)))
  (hf.row h.own fun g hg e=>by subst e;exact own_blk_ne h.own h.b1 (by decide) hg) ⟨xs,hf.row hx fun g hg e=>by subst e;exact own_blk_ne hx h.b1 (by decide) hg,hx2⟩ h.len
  (fun j g hg=>by obtain⟨h1,h2,h3⟩:=h.rows j g hg;exact⟨hf.blk h1 (h1.ne h.b1 (by decide)),h2,h3⟩) h.inj
theorem fr_set (g i:Nat)(W:World)(u:Value):Fr (fun q=>q=g) W (W.setCell ⟨g,i,none⟩ u):=Fr.setAt (E:=fun q=>q=g) (Fr.refl _ W) (p:=⟨g,i,none⟩) (.inl rfl) u
theorem LvA.setBo (ok:K.Ok)(h:LvA K Bx Wx gs F v vb vs vsb k m s0 s1 W)(u:Value):LvA K Bx Wx gs F v u vs vsb k m s0 s1 (W.setCell ⟨K.Bo,0,none⟩ u):=by
 obtain⟨xs,hx,hx2⟩:=h.ows;have hf:=fr_set K.Bo 0 W u
 exact h.upd ok hf (fun g e=>.inr (.inr (.inl e))) (hf.blk h.b0 (h.b0.ne h.bo (by decide))) (hf.blk h.b1 (h.b1.ne h.bo (by decide))) (hf.blk h.bx (h.bx.ne h.bo (by decide))) (by simpa using h.bo.set_ 0 u) (hf.blk h.bs (h.bs.ne h.bo (by decide)))
  (hf.row h.own fun g hg e=>by subst e;exact own_blk_ne h.own h.bo (by decide) hg) ⟨xs,hf.row hx fun g hg e=>by subst e;exact own_blk_ne hx h.bo (by decide) hg,hx2⟩ h.len
  (fun j g hg=>by obtain⟨h1,h2,h3⟩:=h.rows j g hg;exact⟨hf.blk h1 (h1.ne h.bo (by decide)),h2,h3⟩) h.inj
theorem LvA.setBs (ok:K.Ok)(h:LvA K Bx Wx gs F v vb vs vsb k m s0 s1 W)(u:Value):LvA K Bx Wx gs F v vb vs u k m s0 s1 (W.setCell ⟨K.Bs,0,none⟩ u):=by
 obtain⟨xs,hx,hx2⟩:=h.ows;have hf:=fr_set K.Bs 0 W u;have hhi:=ok.hi
 exact h.upd ok hf (fun g e=>.inr (.inr (.inr (.inl e)))) (hf.blk h.b0 (h.b0.ne h.bs (by decide))) (hf.blk h.b1 (h.b1.ne h.bs (by decide))) (hf.blk h.bx (h.bx.ne h.bs (by decide))) (hf.blk h.bo (h.bo.ne h.bs (by decide))) (by simpa using h.bs.set_ 0 u)
  (hf.row h.own fun g hg e=>by subst e;have:=(h.own.lt _ hg).1;omega) ⟨xs,hf.row hx fun g hg e=>by subst e;exact own_blk_ne hx h.bs (by decide) hg,hx2⟩ h.len
  (fun j g hg=>by obtain⟨h1,h2,h3⟩:=h.rows j g hg;exact⟨hf.blk h1 (h1.ne h.bs (by decide)),h2,h3⟩) h.inj
theorem LvA.rowset (ok:K.Ok)(h:LvA K Bx Wx gs F v vb vs vsb k m s0 s1 W){g i:Nat}{cs:Array Value}(hg:K.base≤g)(hb:Blk W g 31 cs)(hn:∀ j:Nat,gs[j]?≠some g)(hv:vs.ownBlock≠some g)(u:Value):LvA K Bx Wx gs F v vb vs vsb k m s0 s1 (W.setCell ⟨g,i,none⟩ u):=by
 obtain⟨xs,hx,hx2⟩:=h.ows;have hf:=fr_set g i W u;have hhi:=ok.hi
 exact h.upd ok hf (fun q e=>.inr (.inr (.inr (.inr (by omega))))) (hf.blk h.b0 (by omega)) (hf.blk h.b1 (by omega)) (hf.blk h.bx (h.bx.ne hb (by decide))) (hf.blk h.bo (by omega)) (hf.blk h.bs (by omega))
  (hf.row h.own fun q hq e=>by subst e;exact own_blk_ne h.own hb (by decide) hq) ⟨xs,hf.row hx fun q hq e=>by subst e;exact hv hq,hx2⟩ h.len
  (fun j q hq=>by obtain⟨h1,h2,h3⟩:=h.rows j q hq;exact⟨hf.blk h1 (fun e=>hn j (by rw[hq,e])),h2,h3⟩) h.inj
theorem LvA.rowput (ok:K.Ok)(h:LvA K Bx Wx gs F v vb vs vsb k m s0 s1 W){d g i:Nat}(hd:gs[d]?=some g)(a:Int):LvA K Bx Wx gs (fun j=>if j=d then updH (F j) i a else F j) v vb vs vsb k m s0 s1 (W.setCell ⟨g,i * 2+1,none⟩ (.int .i64 a)):=by
 obtain⟨xs,hx,hx2⟩:=h.ows;obtain⟨hb,hg,hv⟩:=h.rows d g hd;have hf:=fr_set g (i * 2+1) W (.int .i64 a);have hhi:=ok.hi
 refine h.upd ok hf (fun q e=>.inr (.inr (.inr (.inr (by omega))))) (hf.blk h.b0 (by omega)) (hf.blk h.b1 (by omega)) (hf.blk h.bx (h.bx.ne hb (by decide))) (hf.blk h.bo (by omega)) (hf.blk h.bs (by omega))
  (hf.row h.own fun q hq e=>by subst e;exact own_blk_ne h.own hb (by decide) hq) ⟨xs,hf.row hx fun q hq e=>by subst e;exact hv hq,hx2⟩ h.len (fun j q hq=>?_) h.inj
 obtain⟨h1,h2,h3⟩:=h.rows j q hq
 by_cases hj:j=d
 · subst hj
   rw[hd] at hq;obtain rfl:=Option.some.inj hq;refine⟨?_,h2,h3⟩;have:=hb.set_ (i * 2+1) (.int .i64 a);rw[rngA_setH] at this
   simpa using this
 · refine⟨?_,h2,h3⟩
   simp only[if_neg hj];exact hf.blk h1 (fun e=>hj (h.inj j d g (by rw[hq,e]) hd))
theorem LvA.snowput (ok:K.Ok)(h:LvA K Bx Wx gs F v vb (.slice (some ⟨g0,0,none⟩) m cq) vsb k m s0 s1 W){i:Nat}(hi:i<m * 2)(a:Int):LvA K Bx Wx gs F v vb (.slice (some ⟨g0,0,none⟩) m cq) vsb k m s0 s1 (W.setCell ⟨g0,i,none⟩ (.int .i64 a)):=by
 obtain⟨xs,hx,hx2⟩:=h.ows;have hg:=(hx.lt g0 rfl).1;have hf:=fr_set g0 i W (.int .i64 a);have hhi:=ok.hi;have hne:∀ {q:Nat} {t:TypeId} {cs:Array Value},Blk W q t cs→t≠31→q≠g0:=fun hb ht e=>own_blk_ne hx hb (fun e2=>ht e2.symm) (by rw[e];rfl)
 refine h.upd ok hf (fun q e=>.inr (.inr (.inr (.inr (by omega))))) (hf.blk h.b0 (by omega)) (hf.blk h.b1 (by omega)) (hf.blk h.bx (hne h.bx (by decide))) (hf.blk h.bo (by omega)) (hf.blk h.bs (by omega))
  (hf.row h.own fun q hq e=>by subst e;exact own_own_ne hx h.own (by decide) rfl hq) ⟨xs.set i (.int .i64 a),?_,fun x hx3=>?_⟩ h.len
  (fun j q hq=>by obtain⟨h1,h2,h3⟩:=h.rows j q hq;exact⟨hf.blk h1 (fun e=>h3 (by rw[e];rfl)),h2,h3⟩) h.inj
 · refine⟨by rw[List.length_set];exact hx.1,?_⟩
   rcases hx.2 with ⟨h0,_⟩ | ⟨g',cap,cur,hv,hb,hg,h1,h2,h3,h4⟩
   · cases h0
   · cases hv
     refine .inr ⟨g0,cq,cur.setIfInBounds i (.int .i64 a),rfl,hb,Blk.set_ (show Blk W g0 _ cur from hg) i _,h1,h2,by simpa using h3,?_⟩;rw[Array.toList_setIfInBounds,List.take_set,h4]
 · rcases List.mem_or_eq_of_mem_set hx3 with h5 | rfl
   · exact hx2 x h5
   · exact⟨a,rfl⟩
theorem LvA.growV (ok:K.Ok)(h:LvA K Bx Wx gs F v vb vs vsb k m s0 s1 W){g:Nat}{f:Nat→Int×Int}(hb:Blk W g 31 (rngA K.n f))(hg:K.base≤g)(hn:∀ j:Nat,gs[j]?≠some g)(hv:vs.ownBlock≠some g){v':Value}
 (hown:W'.ownsRow K.base 168 1 v' (k+1) ((gs++[g]).flatMap fun g=>[Value.slice (some ⟨g,0,none⟩) K.n K.n])) (hgr:W.grownBy W' v.ownBlock) :
 LvA K Bx Wx (gs++[g]) (fun j=>if j=k then f else F j) v' vb vs vsb (k+1) m s0 s1 W':=by
 obtain⟨xs,hx,hx2⟩:=h.ows;have hf:Fr (fun q=>v.ownBlock=some q) W W':=Fr.of_grown hgr fun q e _=>e;have kb:∀ {q:Nat} {t:TypeId} {cs:Array Value},Blk W q t cs→t≠168→Blk W' q t cs:=fun hb ht=>hf.blk hb fun e=>own_blk_ne h.own hb (fun e'=>ht e'.symm) e;have hlen:=h.len
 refine h.upd ok hf (fun q e=>.inr (.inr (.inr (.inr (h.own.lt q e).1)))) (kb h.b0 (by decide)) (kb h.b1 (by decide)) (kb h.bx (by decide)) (kb h.bo (by decide)) (hf.blk h.bs fun e=>by have:=(h.own.lt _ e).1;have:=ok.hi;omega) hown
  ⟨xs,hf.row hx fun q hq e=>own_own_ne hx h.own (by decide) hq e,hx2⟩ (by simp[h.len]) (fun j q hq=>?_) (fun i j q hi hj=>?_)
 · rcases Nat.lt_or_ge j gs.length with hj | hj
   · rw[List.getElem?_append_left hj] at hq
     obtain⟨h1,h2,h3⟩:=h.rows j q hq;exact⟨by rw[if_neg (by omega)];exact kb h1 (by decide),h2,h3⟩
   · rw[List.getElem?_append_right hj] at hq
     have hj0:j - gs.length=0:=by have:=(List.getElem?_eq_some_iff.1 hq).1;simp at this;omega
     rw[hj0] at hq
     obtain rfl:g=q:=by simpa using hq
     exact⟨by rw[if_pos (by omega)];exact kb hb (by decide),hg,hv⟩
 · have hi':=hi;have hj':=hj
   rcases Nat.lt_or_ge i gs.length with h1 | h1<;>rcases Nat.lt_or_ge j gs.length with h2 | h2
   · rw[List.getElem?_append_left h1] at hi;rw[List.getElem?_append_left h2] at hj;exact h.inj i j q hi hj
   · rw[List.getElem?_append_left h1] at hi;rw[List.getElem?_append_right h2] at hj
     have hj0:j - gs.length=0:=by have:=(List.getElem?_eq_some_iff.1 hj).1;simp at this;omega
     rw[hj0] at hj
     obtain rfl:g=q:=by simpa using hj
     exact absurd hi (hn i)
   · rw[List.getElem?_append_right h1] at hi;rw[List.getElem?_append_left h2] at hj
     have hj0:i - gs.length=0:=by have:=(List.getElem?_eq_some_iff.1 hi).1;simp at this;omega
     rw[hj0] at hi
     obtain rfl:g=q:=by simpa using hi
     exact absurd hj (hn j)
   · have:=(List.getElem?_eq_some_iff.1 hi').1;have:=(List.getElem?_eq_some_iff.1 hj').1
     simp at *;omega
theorem LvA.growS (ok:K.Ok)(h:LvA K Bx Wx gs F v vb vs vsb k m s0 s1 W){gg c:Nat}{xs:List Value}{a b:Int}(hx:W.ownsRow K.base 31 2 vs m xs)(hx2:∀ x∈xs,∃ a,x=Value.int .i64 a)
 (hown:W'.ownsRow K.base 31 2 (.slice (some ⟨gg,0,none⟩) (m+1) c) (m+1) (xs++[.int .i64 a,.int .i64 b])) (hgr:W.grownBy W' vs.ownBlock) (hat:vs.ownBlock=some gg∨gg=W.heap.size) :
 LvA K Bx Wx gs F v vb (.slice (some ⟨gg,0,none⟩) (m+1) c) vsb k (m+1) s0 s1 W':=by
 have hf:Fr (fun q=>vs.ownBlock=some q) W W':=Fr.of_grown hgr fun q e _=>e;have kb:∀ {q:Nat} {t:TypeId} {cs:Array Value},Blk W q t cs→t≠31→Blk W' q t cs:=fun hb ht=>hf.blk hb fun e=>own_blk_ne hx hb (fun e'=>ht e'.symm) e
 refine h.upd ok hf (fun q e=>.inr (.inr (.inr (.inr (hx.lt q e).1)))) (kb h.b0 (by decide)) (kb h.b1 (by decide)) (kb h.bx (by decide)) (kb h.bo (by decide)) (kb h.bs (by decide)) (hf.row h.own fun q hq e=>own_own_ne h.own hx (by decide) hq e)
  ⟨_,hown,fun x hx3=>?_⟩ h.len (fun j q hq=>?_) h.inj
 · rcases List.mem_append.1 hx3 with h5 | h5
   · exact hx2 x h5
   · simp at h5;rcases h5 with rfl | rfl
     · exact⟨a,rfl⟩
     · exact⟨b,rfl⟩
 · obtain⟨h1,h2,h3⟩:=h.rows j q hq
   refine⟨hf.blk h1 h3,h2,?_⟩;intro e
   obtain rfl:gg=q:=by simpa[Value.ownBlock] using e
   rcases hat with e | e
   · exact h3 e
   · have:=h1.lt;omega
theorem LvA.congr (h:LvA K Bx Wx gs F v vb vs vsb k m s0 s1 W){F':Nat→Nat→Int×Int}(hF:∀ d i,i<K.n→F d i=F' d i):LvA K Bx Wx gs F' v vb vs vsb k m s0 s1 W :=
 ⟨h.b0,h.b1,h.r0,h.r1,h.p0,h.p1,h.bx,h.bo,h.bs,h.bg,h.own,h.ows,h.len,fun j g hg=>by obtain⟨h1,h2,h3⟩:=h.rows j g hg;exact⟨by rw[← rngA_ext (hF j)];exact h1,h2,h3⟩,h.inj,h.bel,h.sz⟩
theorem LvA.rdv (h:LvA K Bx Wx gs F (.slice (some ⟨g0,0,none⟩) k cq) vb vs vsb k m s0 s1 W):Rd (fun q:Nat=>[Value.slice (some ⟨q,0,none⟩) K.n K.n]) 1 W (some ⟨g0,0,none⟩) k gs :=
 Rd.of_own (fun _=>rfl) h.own h.len
theorem LvA.at_ (h:LvA K Bx Wx gs F (.slice (some ⟨g0,0,none⟩) k cq) vb vs vsb k m s0 s1 W){j g:Nat}(hg:gs[j]?=some g):W.cell? ⟨g0,j,none⟩=some (.slice (some ⟨g,0,none⟩) K.n K.n):=by
 obtain⟨b,o,x,e,_,hx,hc⟩:=h.rdv.at_ (i:=j) (by rw[← h.len];exact(List.getElem?_eq_some_iff.1 hg).1);cases e;have:=Option.some.inj (hg.symm.trans hx);subst this;have:=hc 0 _ rfl
 simpa using this
theorem LvA.snow_at (h:LvA K Bx Wx gs F v vb (.slice (some ⟨g0,0,none⟩) m cq) vsb k m s0 s1 W){i:Nat}(hi:i<m * 2):(∃ a,W.cell? ⟨g0,i,none⟩=some (.int .i64 a))∧W.frozen? ⟨g0,i,none⟩=false:=by
 obtain⟨xs,hx,hx2⟩:=h.ows;refine⟨?_,hx.frozenAt i⟩;have hl:=hx.1
 rcases hx.2 with ⟨h0,_⟩ | ⟨g',cap,cur,hv,hb,hg,h1,h2,h3,h4⟩
 · cases h0
 · cases hv
   have hxi:xs[i]?=some (xs[i]'(by omega)):=List.getElem?_eq_getElem (by omega);obtain⟨a,ha⟩:=hx2 _ (List.mem_of_getElem? hxi);refine⟨a,?_⟩;rw[(show Blk W g0 _ cur from hg).cell i,← Array.getElem?_toList,← ha,← hxi,← h4,List.getElem?_take,if_pos hi]
end
attribute [local go_sem ↓] Go.wp_at_zero Go.wp_at_succ
theorem wcheck_c {C:List Cel}{A:Option Addr}{n c:Nat}(sn0 sn1 so0 so1 melt:Int){D:List Dy}{DA:Option Addr}{dn dc:Nat}{w:World}(h:Rd encCel 7 w A n C)(hn:n≤maxLen)(hd:Rd encDy 3 w DA dn D)(hdn:dn≤maxLen) :
 Calls Tryz.prog 129 #[.agg #[.slice A n c,.int .i64 sn0,.int .i64 sn1,.int .i64 so0,.int .i64 so1,.int .i64 melt],.slice DA dn dc] w fun e w'=>e=.returned (.int .i64 (faultW C sn0 sn1 so0 so1 melt D))∧Below w.heap.size w w':=by
 obtain⟨R,hR⟩:∃ R:Int,R=faultW C sn0 sn1 so0 so1 melt D:=⟨_,rfl⟩;rw[← hR];unfold faultW at hR;rw[hd.len] at hR;have hal:=(Below.refl w.heap.size w).alloc (Nat.le_refl _) (.cells #[.slice A n c,.int .i64 sn0,.int .i64 sn1,.int .i64 so0,.int .i64 so1,.int .i64 melt] 33);have hx:=Blk.new w 33 #[.slice A n c,.int .i64 sn0,.int .i64 sn1,.int .i64 so0,.int .i64 so1,.int .i64 melt];have hg:=CheckGround_c (c:=c) sn0 sn1 so0 so1 melt (h.below hal) hn;have HB:=hid hal;have HX:=hid hx;have HG:=hid hg;have HD:=hid (hd.below hal);clear hal hx hg h hn hd;cases hq:groundOk C sn0 sn1 so0 so1 melt
 · rw[hq,if_pos rfl] at hR
   rw[hq] at HG;subst hR
   go_enter Tryz.func129,Tryz.ntmps129
   go_upto_region 1 with fail
   revert HB HX HG HD;generalize (World.alloc w (.cells #[.slice A n c,.int .i64 sn0,.int .i64 sn1,.int .i64 so0,.int .i64 so1,.int .i64 melt] 33))=w1;intro HB HX HG HD;have x0:=HX.out.cell 0;have x1:=HX.out.cell 1;have x2:=HX.out.cell 2;have x3:=HX.out.cell 3;have x4:=HX.out.cell 4;have x5:=HX.out.cell 5;simp at x0 x1 x2 x3 x4 x5
   go_wp2_with fail
   go_at_call 96;refine(HG.out).mono ?_;rintro e w1 ⟨rfl,hb9⟩;replace HB:=hdT HB hb9;clear hb9 
   go_wp2_with fail
   go_ret
   exact⟨rfl,HB.out⟩
 · rw[hq,if_neg (by decide)] at hR
   rw[hq] at HG;unfold maxLen at hdn
   rcases Nat.lt_or_ge 30 dn with h30 | h30
   · rw[if_pos h30] at hR
     subst hR
     go_enter Tryz.func129,Tryz.ntmps129
     go_upto_region 1 with fail
     revert HB HX HG HD;generalize (World.alloc w (.cells #[.slice A n c,.int .i64 sn0,.int .i64 sn1,.int .i64 so0,.int .i64 so1,.int .i64 melt] 33))=w1;intro HB HX HG HD;have x0:=HX.out.cell 0;have x1:=HX.out.cell 1;have x2:=HX.out.cell 2;have x3:=HX.out.cell 3;have x4:=HX.out.cell 4;have x5:=HX.out.cell 5;simp at x0 x1 x2 x3 x4 x5
     go_wp2_with fail
     go_at_call 96;refine(HG.out).mono ?_;rintro e w1 ⟨rfl,hb9⟩;replace HB:=hdT HB hb9;clear hb9 
     go_wp2_with fail
     go_ret
     exact⟨rfl,HB.out⟩
   · rw[if_neg (by omega)] at hR
     cases ha:allB dayOk D
     all_goals
      rw[ha] at hR;simp only[if_true,if_false,Bool.false_eq_true] at hR;subst hR
      go_enter Tryz.func129,Tryz.ntmps129
      go_upto_region 1 with fail
      revert HB HX HG HD;generalize (World.alloc w (.cells #[.slice A n c,.int .i64 sn0,.int .i64 sn1,.int .i64 so0,.int .i64 so1,.int .i64 melt] 33))=w1;intro HB HX HG HD;have x0:=HX.out.cell 0;have x1:=HX.out.cell 1;have x2:=HX.out.cell 2;have x3:=HX.out.cell 3;have x4:=HX.out.cell 4;have x5:=HX.out.cell 5;simp at x0 x1 x2 x3 x4 x5
      go_wp2_with fail
      go_at_call 96;refine(HG.out).mono ?_;rintro e w1 ⟨rfl,hb9⟩;replace HB:=hdT HB hb9;replace HD:=hid (HD.out.below hb9);clear hb9 ;clear HG x0 x1 x2 x3 x4 x5 HX;have hc:=allDay_c (c:=dc) (p:=dayOk) w1 HD.out (by unfold maxLen;omega) (fun i x W hx hW=>dayValid_c x W);rw[ha] at hc;have HC:=hid hc;clear hc
      go_wp2_with fail
      go_at_call 170;refine(HC.out).mono ?_;rintro e w1 ⟨rfl,hb9⟩;replace HB:=hdT HB hb9;replace HD:=hid (HD.out.below hb9);clear hb9 
      go_wp2_with fail
      go_ret
      exact⟨rfl,HB.out⟩
end Go.Proofs.YtkhcliibilkefaaGreatDoor
namespace Go.Proofs.YtkhcliibilkefaaGreatDoor
open Lib (hid)
open Go.RowKit
theorem half_spec1 {P:Int→Bool}(hup:∀ a b,1≤a→a≤b→P a=true→P b=true):∀(f:Nat) (lo hi:Int),1≤lo→hi - lo≤f→lo≤hi →
 lo≤halfS P f lo hi∧halfS P f lo hi≤hi∧(halfS P f lo hi<hi→P (halfS P f lo hi)=true)∧∀ n,lo≤n→n<halfS P f lo hi→P n=false
 | 0,lo,hi,h1,h,hl=>by unfold halfS;exact⟨by omega,hl,fun hh=>by omega,fun n h1 h2=>by omega⟩
 | f+1,lo,hi,h0,h,hl=>by
  unfold halfS
  split
  · split
    · rename_i h1 h2
      obtain⟨a,b,c,d⟩:=half_spec1 hup f lo ((lo+hi) / 2) h0 (by omega) (by omega);refine⟨a,by omega,fun hh=>?_,d⟩
      by_cases he:halfS P f lo ((lo+hi) / 2)<(lo+hi) / 2
      · exact c he
      · rw[show halfS P f lo ((lo+hi) / 2)=(lo+hi) / 2 by omega];exact h2
    · rename_i h1 h2
      obtain⟨a,b,c,d⟩:=half_spec1 hup f ((lo+hi) / 2+1) hi (by omega) (by omega) (by omega);refine⟨by omega,b,c,fun n h3 h4=>?_⟩
      by_cases he:(lo+hi) / 2+1≤n
      · exact d n he h4
      · cases hp:P n
        · rfl
        · exact absurd (hup n _ (by omega) (by omega) hp) h2
  · exact⟨Int.le_refl _,hl,fun hh=>by omega,fun n h1 h2=>by omega⟩
theorem holdA_nn {l:List BedS}(h:∀ b∈l,bedOk b)(j:Nat):0≤holdA l j:=by
 unfold holdA
 split
 · rename_i b hb
   have:=h b (List.mem_of_getElem? hb);exact holds_nn this.2.2.1.1 this.2.2.2.1.1
 · exact Int.le_refl _
theorem halvW_at {l:List BedS}(h:∀ b∈l,bedOk b)(least:Nat):WorstAt (holdA l) (drivA l) l.length least (halvW l least):=by
 obtain⟨a,b,c,d⟩:=half_spec1 (P:=fun n=>lowB (holdA l) (drivA l) n l.length least) (fun x y hx hxy hp=>lowB_iff.2 ((lowB_iff.1 hp).up (holdA_nn h) (by omega) hxy)) 10001 1 10001 (by omega) (by omega) (by omega);refine⟨a,b,fun hn=>lowB_iff.1 (c (by unfold halvW at hn;omega)),fun k h1 h2 hl=>?_⟩;have:=d k h1 h2;rw[lowB_iff.2 hl] at this;cases this
theorem WorstAt.eq {H D:Nat→Int}{m least:Nat}{a b:Int}(ha:WorstAt H D m least a)(hb:WorstAt H D m least b):a=b:=by
 rcases Int.lt_trichotomy a b with h | h | h
 · exact absurd (ha.is (by have:=hb.hi;omega)) (hb.no a ha.lo h)
 · exact h
 · exact absurd (hb.is (by have:=ha.hi;omega)) (ha.no b hb.lo h)
theorem worstP_at {l:List BedS}(h:∀ b∈l,bedOk b){least:Nat}{n:Int}(hn:WorstAt (holdA l) (drivA l) l.length least n) :
 (n≤10000→worstP l least=some (n - 1))∧(¬ n≤10000→Lower (costS (fun _=>0) (drivA l) 1) l.length least→worstP l least=some 10000)∧(¬ n≤10000→¬ Lower (costS (fun _=>0) (drivA l) 1) l.length least→worstP l least=none):=by
 have e:halvW l least=n:=(halvW_at h least).eq hn;unfold worstP;rw[e];refine⟨fun h1=>by rw[if_pos h1],fun h1 h2=>by rw[if_neg h1,if_pos (lowB_iff.2 h2)],fun h1 h2=>by rw[if_neg h1,if_neg (fun h3=>h2 (lowB_iff.1 h3))]⟩
theorem parts_pre (c:UInt8)(t:List UInt8):∀ p:List UInt8,c ∉ p→partsP c (p++c::t)=p::partsP c t
 | [],_=>by simp[partsP]
 | x::p,h=>by
  simp only[List.mem_cons,not_or] at h;rw[List.cons_append,partsP,if_neg (fun e=>h.1 e.symm),parts_pre c t p h.2]
theorem parts_two (c:UInt8):∀(l:List UInt8) {p q:List UInt8} {ps:List (List UInt8)},partsP c l=p::q::ps→∃ t,l=p++c::t
 | [],_,_,_,h=>by simp[partsP] at h
 | x::l,p,q,ps,h=>by
  rw[partsP] at h
  split at h
  · rename_i hx
    subst hx
    injection h with h1 h2
    subst h1;exact⟨l,rfl⟩
  · cases hp:partsP c l with
    | nil=>exact absurd hp (parts_ne c l)
    | cons p' ps' =>
     rw[hp] at h
     injection h with h1 h2
     subst h1 h2;obtain⟨t,rfl⟩:=parts_two c l hp;exact⟨t,rfl⟩
def isW (s:List UInt8):Bool:=match parseP s with
 | .nums .weather _=>true
 | _=>false
def weathB:List UInt8:=[119,101,97,116,104,101,114,32]
def preW (s:List UInt8):Bool:=weathB.isPrefixOf s
theorem cmd_nums {p:List UInt8}{ps:List (List UInt8)}{wd:Wd}{l:List Int}(h:cmdOf (p::ps)=.nums wd l):wordOf p=some wd∧ps.length=wd.many∧numsP ps=some l:=by
 simp only[cmdOf] at h
 cases hw:wordOf p with
 | none=>rw[hw] at h;cases h
 | some v =>
  rw[hw] at h;cases v
  case hear =>
   simp only at h
   split at h<;>cases h
  all_goals
   simp only at h
   split at h
   · rename_i hn
     cases hp:numsP ps with
     | none=>rw[hp] at h;cases h
     | some l' =>
      rw[hp] at h;simp only[Cmd.nums.injEq] at h;obtain⟨rfl,rfl⟩:=h;exact⟨rfl,hn,rfl⟩
   · cases h
theorem word_name {p:List UInt8}{wd:Wd}(h:wordOf p=some wd):wd.name=p:=by
 unfold wordOf at h;have h1:=List.find?_some h;exact of_decide_eq_true (p:=wd.name=p) h1
theorem isW_iff {s:List UInt8}:isW s=true↔∃ l,parseP s=.nums .weather l:=by
 unfold isW
 constructor
 · intro h
   split at h
   · rename_i l hl;exact⟨l,hl⟩
   · cases h
 · rintro⟨l,hl⟩;rw[hl]
theorem isW_pre {s:List UInt8}(h:isW s=true):preW s=true:=by
 obtain⟨l,hl⟩:=isW_iff.1 h;unfold parseP at hl
 cases hp:partsP 32 s with
 | nil=>exact absurd hp (parts_ne 32 s)
 | cons p ps =>
  rw[hp] at hl;obtain⟨h1,h2,_⟩:=cmd_nums hl
  cases ps with
  | nil=>simp[Wd.many] at h2
  | cons q qs =>
   obtain⟨t,rfl⟩:=parts_two 32 s hp;obtain rfl:=word_name h1;unfold preW;rw[List.isPrefixOf_iff_prefix];exact⟨t,rfl⟩
theorem preW_isW {s:List UInt8}(h:parseP s≠.bad):preW s=isW s:=by
 cases hi:isW s with
 | true=>exact isW_pre hi
 | false =>
  cases hp:preW s with
  | false=>rfl
  | true =>
   unfold preW at hp;rw[List.isPrefixOf_iff_prefix] at hp;obtain⟨t,rfl⟩:=hp;have e:weathB++t=Wd.name .weather++32::t:=rfl
   have hq:partsP 32 (weathB++t)=Wd.name .weather::partsP 32 t:=by rw[e,parts_pre 32 t _ (by decide)]
   have hc:parseP (weathB++t)=if (partsP 32 t).length=3 then (match numsP (partsP 32 t) with | some l=>Cmd.nums .weather l | none=>.bad) else .bad:=by
    unfold parseP;rw[hq]
    rfl
   exfalso
   rw[hc] at h
   by_cases h3:(partsP 32 t).length=3
   · rw[if_pos h3] at h hc
     cases hn:numsP (partsP 32 t) with
     | none=>rw[hn] at h;exact h rfl
     | some l =>
      rw[hn] at hc;have:=isW_iff.2 ⟨l,hc⟩;rw[hi] at this;cases this
   · rw[if_neg h3] at h;exact h rfl
def weathI:Nat→List (List UInt8)→List Int→List Nat
 | i,s::l,e::es=>if isW s && decide (e=0) then i::weathI (i+1) l es else weathI (i+1) l es
 | _,_,_=>[]
section
variable (F:List UInt8→List Rdg)
theorem buySet_lv:∀(set:List Int) (b:Sess),(buySet b set).levels=b.levels
 | [],_=>rfl
 | i::l,b=>by
  have e:buySet b (i::l)=buySet (buyOne b i) l:=rfl;rw[e,buySet_lv l];unfold buyOne
  split<;>rfl
theorem ifV_lv {b t:Sess}(h:t.levels=b.levels):(ifV b t).1.levels=b.levels:=by
 unfold ifV
 split
 · rfl
 · exact h
theorem weather_lv (b:Sess)(m:Int)(l:List Int):(sWeather b m l).1.levels.length=b.levels.length+(if (sWeather b m l).2=0 then 1 else 0):=by
 unfold sWeather
 split
 · simp[refuse]
 · split
   · next h=>simp[refuse,h]
   · simp[done]
theorem word_lv (b:Sess)(m:Int){wd:Wd}(hw:wd≠.weather)(l:List Int):(sWord F b m wd l).1.levels=b.levels:=by
 cases wd<;>simp only[sWord,sBed,sLeast,sGround,sCell,sLink,sAlarm,sParcel,sSteps,sSlide,sWay,sEvid,sBuy]<;>(repeat' split)<;>first
  | rfl
  | exact ifV_lv rfl
  | exact buySet_lv _ _
  | exact absurd rfl hw
theorem hear_lv (b:Sess)(t:List UInt8):(sHear F b t).1.levels=b.levels:=by
 unfold sHear
 (repeat' split)<;>rfl
theorem step_lv (b:Sess)(m:Int)(s:List UInt8):(stepP F b m s).1.levels.length=b.levels.length+(if isW s && decide ((stepP F b m s).2=0) then 1 else 0):=by
 unfold stepP
 cases hp:parseP s with
 | bad =>
  have:isW s=false:=by unfold isW;rw[hp]
  simp[this,refuse]
 | text t =>
  have:isW s=false:=by unfold isW;rw[hp]
  simp only[this,Bool.false_and,Bool.false_eq_true,if_false,Nat.add_zero];rw[hear_lv]
 | nums wd l =>
  by_cases hw:wd=.weather
  · subst hw
    have:isW s=true:=isW_iff.2 ⟨l,hp⟩;simp only[this,Bool.true_and,decide_eq_true_eq];exact weather_lv b m l
  · have:isW s=false:=by
     cases hi:isW s with
     | false=>rfl
     | true =>
      obtain⟨l',hl'⟩:=isW_iff.1 hi;rw[hp] at hl';cases hl';exact absurd rfl hw
    simp only[this,Bool.false_and,Bool.false_eq_true,if_false,Nat.add_zero];rw[word_lv F b m hw]
theorem step_form {b:Sess}{m:Int}{s:List UInt8}(h:(stepP F b m s).2=0):parseP s≠.bad:=by
 intro hb;unfold stepP at h;rw[hb] at h;simp[refuse] at h
theorem run_lv (line more:Int):∀(l:List (List UInt8)) (b:Sess) (now:Int) (i:Nat),(runP F line more b now l).1.levels.length=b.levels.length+(weathI i l (runP F line more b now l).2).length
 | [],b,now,i=>by simp[runP,weathI]
 | s::l,b,now,i=>by
  rw[runP];simp only;rw[run_lv line more l _ _ (i+1),step_lv F b,weathI]
  split<;>simp<;>omega
theorem run_pre (line more:Int):∀(l:List (List UInt8)) (b:Sess) (now:Int) (k:Nat) (s:List UInt8),l[k]?=some s→(runP F line more b now l).2[k]?=some 0→preW s=isW s
 | [],_,_,_,_,h,_=>by simp at h
 | t::l,b,now,0,s,h,he=>by
  simp at h;subst h;rw[runP] at he;simp at he;exact preW_isW (step_form F he)
 | t::l,b,now,k+1,s,h,he=>by
  rw[runP] at he;exact run_pre line more l _ _ k s (by simpa using h) (by simpa using he)
end
theorem weathI_ge:∀(l:List (List UInt8)) (es:List Int) (i k:Nat),k∈weathI i l es→i≤k∧k<i+l.length
 | [],es,i,k,h=>by cases es<;>simp[weathI] at h
 | s::l,[],i,k,h=>by simp[weathI] at h
 | s::l,e::es,i,k,h=>by
  rw[weathI] at h
  split at h
  · rcases List.mem_cons.1 h with rfl | h
    · simp
    · have:=weathI_ge l es (i+1) k h
      simp;omega
  · have:=weathI_ge l es (i+1) k h
    simp;omega
theorem weathI_snoc:∀(l:List (List UInt8)) (es:List Int) (i:Nat) (s:List UInt8) (e:Int),es.length=l.length→weathI i (l++[s]) (es++[e])=weathI i l es++(if isW s && decide (e=0) then [i+l.length] else [])
 | [],[],i,s,e,_=>by simp[weathI]
 | [],_::_,i,s,e,h=>by simp at h
 | _::_,[],i,s,e,h=>by simp at h
 | t::l,f::es,i,s,e,h=>by
  rw[List.cons_append,List.cons_append,weathI,weathI_snoc l es (i+1) s e (by simpa using h),weathI]
  have e1:i+1+l.length=i+(t::l).length:=by simp;omega
  rw[e1]
  split<;>simp
theorem weathI_app:∀(l r:List (List UInt8)) (es fs:List Int) (i:Nat),es.length=l.length→weathI i (l++r) (es++fs)=weathI i l es++weathI (i+l.length) r fs
 | [],r,[],fs,i,_=>by simp[weathI]
 | [],_,_::_,_,_,h=>by simp at h
 | _::_,_,[],_,_,h=>by simp at h
 | t::l,r,f::es,fs,i,h=>by
  rw[List.cons_append,List.cons_append,weathI,weathI_app l r es fs (i+1) (by simpa using h),weathI]
  have e1:i+1+l.length=i+(t::l).length:=by simp;omega
  rw[e1]
  split<;>simp
theorem weathI_take {l:List (List UInt8)}{es:List Int}{j:Nat}{s:List UInt8}{e:Int}(hl:es.length=l.length)(hs:l[j]?=some s)(he:es[j]?=some e) :
 weathI 0 (l.take (j+1)) (es.take (j+1))=weathI 0 (l.take j) (es.take j)++(if isW s && decide (e=0) then [j] else []):=by
 have hj:=(List.getElem?_eq_some_iff.1 hs).1;rw[List.take_add_one,List.take_add_one,hs,he,Option.toList_some,Option.toList_some,weathI_snoc _ _ _ _ _ (by rw[List.length_take,List.length_take,hl])]
 have e1:0+(l.take j).length=j:=by rw[List.length_take];omega
 rw[e1]
theorem weathI_pre {l:List (List UInt8)}{es:List Int}(j:Nat)(hl:es.length=l.length):∃ t,weathI 0 l es=weathI 0 (l.take j) (es.take j)++t:=by
 have e:weathI 0 (l.take j++l.drop j) (es.take j++es.drop j)=_:=weathI_app (l.take j) (l.drop j) (es.take j) (es.drop j) 0 (by rw[List.length_take,List.length_take,hl]);rw[List.take_append_drop,List.take_append_drop] at e;exact⟨_,e⟩
def weathL (l:List (List UInt8))(es lv:List Int):List (Nat×Int):=(weathI 0 l es).zip lv
theorem weathL_step {l:List (List UInt8)}{es lv:List Int}{j:Nat}{s:List UInt8}{e:Int}(hl:es.length=l.length)(hlv:lv.length=(weathI 0 l es).length)(hs:l[j]?=some s)(he:es[j]?=some e)(hW:(isW s && decide (e=0))=true) :
 ∃ v,lv[(weathI 0 (l.take j) (es.take j)).length]?=some v∧(weathL l es lv).take ((weathI 0 (l.take j) (es.take j)).length+1)=(weathL l es lv).take ((weathI 0 (l.take j) (es.take j)).length)++[(j,v)] ∧
  (weathI 0 (l.take (j+1)) (es.take (j+1))).length=(weathI 0 (l.take j) (es.take j)).length+1:=by
 have h1:=weathI_take hl hs he;rw[if_pos hW] at h1;obtain⟨t,ht⟩:=weathI_pre (j+1) hl;rw[h1] at ht
 have hd:(weathI 0 (l.take j) (es.take j)).length<lv.length:=by rw[hlv,ht];simp
 refine⟨lv[(weathI 0 (l.take j) (es.take j)).length],List.getElem?_eq_getElem hd,?_,by rw[h1];simp⟩
 have hz:(weathL l es lv)[(weathI 0 (l.take j) (es.take j)).length]?=some (j,lv[(weathI 0 (l.take j) (es.take j)).length]):=by
  unfold weathL;rw[List.getElem?_zip_eq_some];refine⟨?_,List.getElem?_eq_getElem hd⟩;rw[ht,List.append_assoc,List.getElem?_append_right (Nat.le_refl _),Nat.sub_self]
  rfl
 rw[List.take_add_one,hz]
 rfl
theorem weathL_skip {l:List (List UInt8)}{es:List Int}{j:Nat}{s:List UInt8}{e:Int}(hl:es.length=l.length)(hs:l[j]?=some s)(he:es[j]?=some e)(hW:(isW s && decide (e=0))=false) :
 (weathI 0 (l.take (j+1)) (es.take (j+1))).length=(weathI 0 (l.take j) (es.take j)).length:=by
 rw[weathI_take hl hs he,hW];simp
end Go.Proofs.YtkhcliibilkefaaGreatDoor
