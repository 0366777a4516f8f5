/- MEMORY of water.Levels: two ways, the rows of ranges, their boxes. -/
import Derived.Test.YtkhcliibilkefaaGreatDoorYAfter
import Derived.Test.YtkhcliibilkefaaGreatDoorYChoice
set_option linter.unusedVariables false
set_option linter.unusedSimpArgs false
set_option maxRecDepth 100000
set_option maxHeartbeats 8000000
namespace Go.Proofs.YtkhcliibilkefaaGreatDoor
open Go.RowKit Go.Proofs
theorem Blk.ne {W:World}{g g':Nat}{t t':TypeId}{cs cs':Array Value}(h:Blk W g t cs)(h':Blk W g' t' cs')(hne:t≠t'):g≠g':=by
 rintro rfl;have e:=(show W.heap[g]?=_ from h).symm.trans (show W.heap[g]?=_ from h')
 injection e with e
 injection e with _ e
 exact hne e
def rngA (n:Nat)(f:Nat→Int×Int):Array Value:=((List.range n).flatMap fun i=>[Value.int .i64 (f i).1,Value.int .i64 (f i).2]).toArray
theorem rngA_list (f:Nat→Int×Int):∀ n,(List.range n).flatMap (fun i=>[Value.int .i64 (f i).1,Value.int .i64 (f i).2])=((List.range n).map f).flatMap enc2
 | 0=>rfl
 | n+1=>by rw[List.range_succ,List.flatMap_append,rngA_list f n,List.map_append,List.flatMap_append];rfl
theorem rngA_size (n:Nat)(f:Nat→Int×Int):(rngA n f).size=n * 2:=by
 unfold rngA;rw[List.size_toArray,rngA_list]
 induction n with
 | zero=>rfl
 | succ n ih=>rw[List.range_succ,List.map_append,List.flatMap_append,List.length_append,ih];simp[enc2];omega
theorem rngA_get {n:Nat}{f:Nat→Int×Int}{i:Nat}(hi:i<n):(rngA n f)[i * 2]?=some (.int .i64 (f i).1)∧(rngA n f)[i * 2+1]?=some (.int .i64 (f i).2):=by
 have hx:((List.range n).map f)[i]?=some (f i):=by simp[hi]
 unfold rngA;rw[List.getElem?_toArray,List.getElem?_toArray,rngA_list];have h0:=flatMap_get enc2_len ((List.range n).map f) i (f i) 0 _ hx rfl;have h1:=flatMap_get enc2_len ((List.range n).map f) i (f i) 1 _ hx rfl;exact⟨by simpa using h0,by simpa using h1⟩
def updL (f:Nat→Int×Int)(i:Nat)(a:Int):Nat→Int×Int:=fun j=>if j=i then (a,(f j).2) else f j
def updH (f:Nat→Int×Int)(i:Nat)(a:Int):Nat→Int×Int:=fun j=>if j=i then ((f j).1,a) else f j
theorem rngA_ext {n:Nat}{f g:Nat→Int×Int}(h:∀ i,i<n→f i=g i):rngA n f=rngA n g:=by
 unfold rngA;rw[rngA_list,rngA_list]
 congr 2
 apply List.map_congr_left
 intro i hi;exact h i (List.mem_range.1 hi)
theorem rngA_at {n:Nat}{f:Nat→Int×Int}{j:Nat}:(rngA n f)[j]?=if j<n * 2 then (if j % 2=0 then some (.int .i64 (f (j / 2)).1) else some (.int .i64 (f (j / 2)).2)) else none:=by
 by_cases hj:j<n * 2
 · rw[if_pos hj]
   have h:=rngA_get (f:=f) (i:=j / 2) (n:=n) (by omega)
   rcases Nat.mod_two_eq_zero_or_one j with e | e
   · rw[if_pos e,← h.1];congr 1;omega
   · rw[if_neg (by omega),← h.2];congr 1;omega
 · rw[if_neg hj]
   exact Array.getElem?_eq_none (by rw[rngA_size];omega)
theorem rngA_setL {n:Nat}{f:Nat→Int×Int}{i:Nat}(a:Int):(rngA n f).setIfInBounds (i * 2) (.int .i64 a)=rngA n (updL f i a):=by
 apply Array.ext_getElem?
 intro j;rw[Array.getElem?_setIfInBounds,rngA_at,rngA_at,rngA_size]
 by_cases hij:i * 2=j
 · subst hij
   rw[if_pos rfl]
   by_cases hb:i * 2<n * 2
   · rw[if_pos hb,if_pos hb,if_pos (by omega)]
     simp[updL]
   · rw[if_neg hb,if_neg hb]
 · rw[if_neg hij]
   by_cases hb:j<n * 2
   · rw[if_pos hb,if_pos hb]
     rcases Nat.mod_two_eq_zero_or_one j with e | e
     · rw[if_pos e,if_pos e]
       have:¬ j / 2=i:=by omega
       simp[updL,this]
     · rw[if_neg (by omega),if_neg (by omega)]
       unfold updL;split<;>rfl
   · rw[if_neg hb,if_neg hb]
theorem rngA_setH {n:Nat}{f:Nat→Int×Int}{i:Nat}(a:Int):(rngA n f).setIfInBounds (i * 2+1) (.int .i64 a)=rngA n (updH f i a):=by
 apply Array.ext_getElem?
 intro j;rw[Array.getElem?_setIfInBounds,rngA_at,rngA_at,rngA_size]
 by_cases hij:i * 2+1=j
 · subst hij
   rw[if_pos rfl]
   by_cases hb:i * 2+1<n * 2
   · have h2:(i * 2+1) / 2=i:=by omega
     rw[if_pos hb,if_pos hb,if_neg (by omega),h2];simp[updH]
   · rw[if_neg hb,if_neg hb]
 · rw[if_neg hij]
   by_cases hb:j<n * 2
   · rw[if_pos hb,if_pos hb]
     rcases Nat.mod_two_eq_zero_or_one j with e | e
     · rw[if_pos e,if_pos e]
       unfold updH;split<;>rfl
     · rw[if_neg (by omega),if_neg (by omega)]
       have:¬ j / 2=i:=by omega
       simp[updH,this]
   · rw[if_neg hb,if_neg hb]
theorem rngA_rd {w:World}{g n:Nat}{f:Nat→Int×Int}(h:Blk w g 31 (rngA n f)):Rd enc2 2 w (some ⟨g,0,none⟩) n ((List.range n).map f) :=
 Rd.of_blkE enc2_len h (by unfold rngA;rw[rngA_list]) (by simp)
theorem infoRw:(Tryz.prog.info? 31).map (fun i=>(i.zero,i.size,i.bytes))=some (some (.agg #[.int .i64 0,.int .i64 0]),2,16):=by kernel_rfl
theorem mk_rng (n:Nat)(hn:n≤1000)(W:World):(Instr.makeSlice 168 (.int .i64 (n:Int)) (.int .i64 (n:Int))).run Tryz.prog W=.ok (.slice (some ⟨W.heap.size,0,none⟩) n n) (W.alloc (.cells (rngA n fun _=>(0,0)) 31)):=by
 obtain⟨i,h0,hz0,hz1,hz2⟩:=info_parts infoRw;have:=run_make (P:=Tryz.prog) W 168 31 i _ Tryz.underlying168 h0 hz0 .i64 .i64 n n (by omega) (by omega) (by rw[hz2];omega) (by omega);rw[hz1] at this
 have e:madeCells (Value.agg #[.int .i64 0,.int .i64 0]).cells ((n:Int).toNat * 2)=rngA n fun _=>(0,0):=by
  apply Array.ext_getElem?
  intro j;rw[rngA_at];simp only[madeCells]
  by_cases h:j<n * 2
  · rw[if_pos h]
    rcases Nat.mod_two_eq_zero_or_one j with e | e<;>simp[h,Value.cells,Array.getElem?_range,e]
  · simp[h,Array.getElem?_range]
 rw[e] at this
 simpa using this
structure LvC where
 E0:WE
 E1:WE
 w:World
 base:Nat
 W0:Nat
 W1:Nat
 P0:Nat
 P1:Nat
 Bo:Nat
 Bs:Nat
 Bg:Nat
def LvC.n (K:LvC):Nat:=K.E0.CS.n
def LvC.Ad (K:LvC)(ad:Addr):Prop:=(K.E0.CS.A=some ad∧0<K.E0.CS.n)∨(K.E0.DS.A=some ad∧0<K.E0.DS.n)∨(K.E0.RN.A=some ad∧0<K.E0.RN.n)∨(K.E1.CS.A=some ad∧0<K.E1.CS.n)∨(K.E1.DS.A=some ad∧0<K.E1.DS.n)∨(K.E1.RN.A=some ad∧0<K.E1.RN.n)
def LvC.Act (K:LvC)(g:Nat):Prop:=g=K.W0∨g=K.W1∨g=K.Bo∨g=K.Bs∨K.base≤g
structure LvC.Ok (K:LvC):Prop where
 h0:K.E0.Ok
 h1:K.E1.Ok
 cn:K.E1.CS.n=K.E0.CS.n
 dn:K.E1.DS.n=K.E0.DS.n
 lo:K.w.heap.size≤K.W0∧K.w.heap.size≤K.W1∧K.w.heap.size≤K.Bo∧K.w.heap.size≤K.Bs∧K.w.heap.size≤K.base
 hi:K.W0<K.base∧K.W1<K.base∧K.P0<K.base∧K.P1<K.base∧K.Bo<K.base∧K.Bs<K.base∧K.Bg<K.base
 w01:K.W0≠K.W1
 ad:∀ ad,K.Ad ad→¬ K.Act ad.block
structure LvA (K:LvC) (Bx Wx:Nat) (gs:List Nat) (F:Nat→Nat→Int×Int) (v vb vs vsb:Value) (k m:Nat) (s0 s1:WaySt) (W:World):Prop where
 b0:K.E0.blk W K.W0 s0
 b1:K.E1.blk W K.W1 s1
 r0:K.E0.Rds W
 r1:K.E1.Rds W
 p0:Blk W K.P0 207 #[.pointer (some ⟨K.W0,0,none⟩)]
 p1:Blk W K.P1 207 #[.pointer (some ⟨K.W1,0,none⟩)]
 bx:Blk W Bx 207 #[.pointer (some ⟨Wx,0,none⟩)]
 bo:Blk W K.Bo 167 #[vb]
 bs:Blk W K.Bs 168 #[vsb]
 bg:Blk W K.Bg 33 #[.slice K.E0.CS.A K.E0.CS.n K.E0.CS.c,.int .i64 K.E0.sn0,.int .i64 K.E0.sn1,.int .i64 K.E0.so0,.int .i64 K.E0.so1,.int .i64 K.E0.melt]
 own:W.ownsRow K.base 168 1 v k (gs.flatMap fun g=>[Value.slice (some ⟨g,0,none⟩) K.n K.n])
 ows:∃ xs,W.ownsRow K.base 31 2 vs m xs∧∀ x∈xs,∃ a,x=Value.int .i64 a
 len:gs.length=k
 rows:∀(j g:Nat),gs[j]?=some g→Blk W g 31 (rngA K.n (F j))∧K.base≤g∧vs.ownBlock≠some g
 inj:∀(i j g:Nat),gs[i]?=some g→gs[j]?=some g→i=j
 bel:Below K.w.heap.size K.w W
 sz:K.base≤W.heap.size
theorem rds_fr {E:WE}{W W':World}{Z:Nat→Prop}(hf:Fr Z W W')(h:E.Rds W)(hc:∀ ad,E.CS.A=some ad∧0<E.CS.n→¬ Z ad.block)(hd:∀ ad,E.DS.A=some ad∧0<E.DS.n→¬ Z ad.block)(hr:∀ ad,E.RN.A=some ad∧0<E.RN.n→¬ Z ad.block):E.Rds W' :=
 ⟨frz hf h.c fun ad e=>(Nat.eq_zero_or_pos _).imp id fun h0=>hc ad ⟨e,h0⟩,frz hf h.d fun ad e=>(Nat.eq_zero_or_pos _).imp id fun h0=>hd ad ⟨e,h0⟩,frz hf h.r fun ad e=>(Nat.eq_zero_or_pos _).imp id fun h0=>hr ad ⟨e,h0⟩⟩
section
variable {g0 cq:Nat} {K:LvC} {Bx Wx:Nat} {gs:List Nat} {F:Nat→Nat→Int×Int} {v vb vs vsb:Value} {k m:Nat} {s0 s1:WaySt} {W W':World}
theorem LvA.upd (ok:K.Ok)(h:LvA K Bx Wx gs F v vb vs vsb k m s0 s1 W){Z:Nat→Prop}(hf:Fr Z W W')(hz:∀ g,Z g→K.Act g)
 {Bx' Wx':Nat} {gs':List Nat} {F':Nat→Nat→Int×Int} {v' vb' vs' vsb':Value} {k' m':Nat} {s0' s1':WaySt}
 (b0:K.E0.blk W' K.W0 s0') (b1:K.E1.blk W' K.W1 s1') (bx:Blk W' Bx' 207 #[.pointer (some ⟨Wx',0,none⟩)]) (bo:Blk W' K.Bo 167 #[vb']) (bs:Blk W' K.Bs 168 #[vsb'])
 (own:W'.ownsRow K.base 168 1 v' k' (gs'.flatMap fun g=>[Value.slice (some ⟨g,0,none⟩) K.n K.n])) (ows:∃ xs,W'.ownsRow K.base 31 2 vs' m' xs∧∀ x∈xs,∃ a,x=Value.int .i64 a) (len:gs'.length=k')
 (rows:∀(j g:Nat),gs'[j]?=some g→Blk W' g 31 (rngA K.n (F' j))∧K.base≤g∧vs'.ownBlock≠some g) (inj:∀(i j g:Nat),gs'[i]?=some g→gs'[j]?=some g→i=j) :
 LvA K Bx' Wx' gs' F' v' vb' vs' vsb' k' m' s0' s1' W':=by
 have hp:∀ g t cs,Blk W g t cs→t=207∨t=33→g<K.base→¬ Z g:=by
  intro g t cs hb ht hg hZ
  rcases hz g hZ with rfl | rfl | rfl | rfl | h5
  · rcases ht with rfl | rfl<;>exact hb.ne h.b0 (by decide) rfl
  · rcases ht with rfl | rfl<;>exact hb.ne h.b1 (by decide) rfl
  · rcases ht with rfl | rfl<;>exact hb.ne h.bo (by decide) rfl
  · rcases ht with rfl | rfl<;>exact hb.ne h.bs (by decide) rfl
  · omega
 have hlo:=ok.lo;have hhi:=ok.hi
 refine⟨b0,b1,rds_fr hf h.r0 (fun ad e hZ=>ok.ad ad (.inl e) (hz _ hZ)) (fun ad e hZ=>ok.ad ad (.inr (.inl e)) (hz _ hZ)) (fun ad e hZ=>ok.ad ad (.inr (.inr (.inl e))) (hz _ hZ)),
  rds_fr hf h.r1 (fun ad e hZ=>ok.ad ad (.inr (.inr (.inr (.inl e)))) (hz _ hZ)) (fun ad e hZ=>ok.ad ad (.inr (.inr (.inr (.inr (.inl e))))) (hz _ hZ)) (fun ad e hZ=>ok.ad ad (.inr (.inr (.inr (.inr (.inr e))))) (hz _ hZ)),
  hf.blk h.p0 (hp _ _ _ h.p0 (.inl rfl) hhi.2.2.1),hf.blk h.p1 (hp _ _ _ h.p1 (.inl rfl) hhi.2.2.2.1),bx,bo,bs,hf.blk h.bg (hp _ _ _ h.bg (.inr rfl) hhi.2.2.2.2.2.2),own,ows,len,rows,inj,
  h.bel.trans (hf.below h.bel.size fun g hZ=>by rcases hz g hZ with rfl | rfl | rfl | rfl | h5<;>omega),Nat.le_trans h.sz hf.size⟩
theorem LvA.keep (h:LvA K Bx Wx gs F v vb vs vsb k m s0 s1 W){Z:Nat→Prop}(hf:Fr Z W W')(hz:∀ g,Z g→∀ cs t,W.heap[g]?≠some (.cells cs t (0,0)))(hb:∀ g,Z g→K.w.heap.size≤g)(hrd:∀ ad,K.Ad ad→¬ Z ad.block):LvA K Bx Wx gs F v vb vs vsb k m s0 s1 W':=by
 have hk:∀ {g:Nat} {t:TypeId} {cs:Array Value},Blk W g t cs→Blk W' g t cs:=fun hb=>hf.blk hb fun hZ=>hz _ hZ _ _ hb
 have ho:∀ {b:Nat} {e:TypeId} {k n:Nat} {v:Value} {xs:List Value},W.ownsRow b e k v n xs→W'.ownsRow b e k v n xs:=fun h=>hf.row h fun g hg hZ=>by
  obtain⟨cur,hc⟩:=own_ty h hg;exact hz g hZ _ _ hc
 refine⟨hk h.b0,hk h.b1,rds_fr hf h.r0 (fun ad e=>hrd ad (.inl e)) (fun ad e=>hrd ad (.inr (.inl e))) (fun ad e=>hrd ad (.inr (.inr (.inl e)))),
  rds_fr hf h.r1 (fun ad e=>hrd ad (.inr (.inr (.inr (.inl e))))) (fun ad e=>hrd ad (.inr (.inr (.inr (.inr (.inl e)))))) (fun ad e=>hrd ad (.inr (.inr (.inr (.inr (.inr e)))))),hk h.p0,hk h.p1,hk h.bx,hk h.bo,hk h.bs,hk h.bg,ho h.own,?_,h.len,fun j g hg=>?_,h.inj,h.bel.trans (hf.below h.bel.size hb),Nat.le_trans h.sz hf.size⟩
 · obtain⟨xs,h1,h2⟩:=h.ows;exact⟨xs,ho h1,h2⟩
 · obtain⟨h1,h2,h3⟩:=h.rows j g hg;exact⟨hk h1,h2,h3⟩
theorem LvA.below (h:LvA K Bx Wx gs F v vb vs vsb k m s0 s1 W)(hb:Below W.heap.size W W'):LvA K Bx Wx gs F v vb vs vsb k m s0 s1 W' :=
 h.keep (Fr.of_below hb fun _=>False) (fun _ h=>h.elim) (fun _ h=>h.elim) (fun _ _ h=>h.elim)
theorem fr_put {W:World}(l:Nat)(o:Obj):Fr (fun g=>g=l) W (W.putObj l o):=⟨rfl,rfl,rfl,by simp,fun g _ hg=>World.putObj_heap_other (fun e=>hg (by first | exact e | exact e.symm))⟩
theorem LvA.put (ok:K.Ok)(h:LvA K Bx Wx gs F v vb vs vsb k m s0 s1 W){l:Nat}{o o':Obj}(hl:K.base≤l)(hq:W.heap[l]?=some o')(hc:o'.isCells=false):LvA K Bx Wx gs F v vb vs vsb k m s0 s1 (W.putObj l o) :=
 h.keep (fr_put l o) (fun g e cs t h9=>by subst e;rw[hq] at h9;cases h9;cases hc) (fun g e=>by subst e;exact Nat.le_trans ok.lo.2.2.2.2 hl) (fun ad ha e=>ok.ad ad ha (by rw[e];exact .inr (.inr (.inr (.inr hl)))))
theorem LvA.turn0 (ok:K.Ok)(h:LvA K Bx Wx gs F v vb vs vsb k m s0 s1 W){s0':WaySt}(hb:K.E0.blk W' K.W0 s0')(hf:Fr (fun g=>g=K.W0) W W'):LvA K Bx Wx gs F v vb vs vsb k m s0' s1 W':=by
 obtain⟨xs,hx,hx2⟩:=h.ows
 exact h.upd ok hf (fun g e=>.inl e) hb (hf.blk h.b1 fun e=>ok.w01 e.symm) (hf.blk h.bx (h.bx.ne h.b0 (by decide))) (hf.blk h.bo (h.bo.ne h.b0 (by decide))) (hf.blk h.bs (h.bs.ne h.b0 (by decide)))
  (hf.row h.own fun g hg e=>by subst e;exact own_blk_ne h.own h.b0 (by decide) hg) ⟨xs,hf.row hx fun g hg e=>by subst e;exact own_blk_ne hx h.b0 (by decide) hg,hx2⟩ h.len
  (fun j g hg=>by obtain⟨h1,h2,h3⟩:=h.rows j g hg;exact⟨hf.blk h1 (h1.ne h.b0 (by decide)),h2,h3⟩) h.inj
theorem LvA.turn1 (ok:K.Ok)(h:LvA K Bx Wx gs F v vb vs vsb k m s0 s1 W){s1':WaySt}(hb:K.E1.blk W' K.W1 s1')(hf:Fr (fun g=>g=K.W1) W W'):LvA K Bx Wx gs F v vb vs vsb k m s0 s1' W':=by
 obtain⟨xs,hx,hx2⟩:=h.ows
 exact h.upd ok hf (fun g e=>.inr (.inl e)) (hf.blk h.b0 ok.w01) hb (hf.blk h.bx (h.bx.ne h.b1 (by decide))) (hf.blk h.bo (h.bo.ne h.b1 (by decide))) (hf.blk h.bs (h.bs.ne h.b1 (by decide)))
  (hf.row h.own fun g hg e=>by subst e;exact own_blk_ne h.own h.b1 (by decide) hg) ⟨xs,hf.row hx fun g hg e=>by subst e;exact own_blk_ne hx h.b1 (by decide) hg,hx2⟩ h.len
  (fun j g hg=>by obtain⟨h1,h2,h3⟩:=h.rows j g hg;exact⟨hf.blk h1 (h1.ne h.b1 (by decide)),h2,h3⟩) h.inj
theorem fr_set (g i:Nat)(W:World)(u:Value):Fr (fun q=>q=g) W (W.setCell ⟨g,i,none⟩ u):=Fr.setAt (E:=fun q=>q=g) (Fr.refl _ W) (p:=⟨g,i,none⟩) (.inl rfl) u
theorem LvA.setBo (ok:K.Ok)(h:LvA K Bx Wx gs F v vb vs vsb k m s0 s1 W)(u:Value):LvA K Bx Wx gs F v u vs vsb k m s0 s1 (W.setCell ⟨K.Bo,0,none⟩ u):=by
 obtain⟨xs,hx,hx2⟩:=h.ows;have hf:=fr_set K.Bo 0 W u
 exact h.upd ok hf (fun g e=>.inr (.inr (.inl e))) (hf.blk h.b0 (h.b0.ne h.bo (by decide))) (hf.blk h.b1 (h.b1.ne h.bo (by decide))) (hf.blk h.bx (h.bx.ne h.bo (by decide))) (by simpa using h.bo.set_ 0 u) (hf.blk h.bs (h.bs.ne h.bo (by decide)))
  (hf.row h.own fun g hg e=>by subst e;exact own_blk_ne h.own h.bo (by decide) hg) ⟨xs,hf.row hx fun g hg e=>by subst e;exact own_blk_ne hx h.bo (by decide) hg,hx2⟩ h.len
  (fun j g hg=>by obtain⟨h1,h2,h3⟩:=h.rows j g hg;exact⟨hf.blk h1 (h1.ne h.bo (by decide)),h2,h3⟩) h.inj
theorem LvA.setBs (ok:K.Ok)(h:LvA K Bx Wx gs F v vb vs vsb k m s0 s1 W)(u:Value):LvA K Bx Wx gs F v vb vs u k m s0 s1 (W.setCell ⟨K.Bs,0,none⟩ u):=by
 obtain⟨xs,hx,hx2⟩:=h.ows;have hf:=fr_set K.Bs 0 W u;have hhi:=ok.hi
 exact h.upd ok hf (fun g e=>.inr (.inr (.inr (.inl e)))) (hf.blk h.b0 (h.b0.ne h.bs (by decide))) (hf.blk h.b1 (h.b1.ne h.bs (by decide))) (hf.blk h.bx (h.bx.ne h.bs (by decide))) (hf.blk h.bo (h.bo.ne h.bs (by decide))) (by simpa using h.bs.set_ 0 u)
  (hf.row h.own fun g hg e=>by subst e;have:=(h.own.lt _ hg).1;omega) ⟨xs,hf.row hx fun g hg e=>by subst e;exact own_blk_ne hx h.bs (by decide) hg,hx2⟩ h.len
  (fun j g hg=>by obtain⟨h1,h2,h3⟩:=h.rows j g hg;exact⟨hf.blk h1 (h1.ne h.bs (by decide)),h2,h3⟩) h.inj
theorem LvA.rowset (ok:K.Ok)(h:LvA K Bx Wx gs F v vb vs vsb k m s0 s1 W){g i:Nat}{cs:Array Value}(hg:K.base≤g)(hb:Blk W g 31 cs)(hn:∀ j:Nat,gs[j]?≠some g)(hv:vs.ownBlock≠some g)(u:Value):LvA K Bx Wx gs F v vb vs vsb k m s0 s1 (W.setCell ⟨g,i,none⟩ u):=by
 obtain⟨xs,hx,hx2⟩:=h.ows;have hf:=fr_set g i W u;have hhi:=ok.hi
 exact h.upd ok hf (fun q e=>.inr (.inr (.inr (.inr (by omega))))) (hf.blk h.b0 (by omega)) (hf.blk h.b1 (by omega)) (hf.blk h.bx (h.bx.ne hb (by decide))) (hf.blk h.bo (by omega)) (hf.blk h.bs (by omega))
  (hf.row h.own fun q hq e=>by subst e;exact own_blk_ne h.own hb (by decide) hq) ⟨xs,hf.row hx fun q hq e=>by subst e;exact hv hq,hx2⟩ h.len
  (fun j q hq=>by obtain⟨h1,h2,h3⟩:=h.rows j q hq;exact⟨hf.blk h1 (fun e=>hn j (by rw[hq,e])),h2,h3⟩) h.inj
theorem LvA.rowput (ok:K.Ok)(h:LvA K Bx Wx gs F v vb vs vsb k m s0 s1 W){d g i:Nat}(hd:gs[d]?=some g)(a:Int):LvA K Bx Wx gs (fun j=>if j=d then updH (F j) i a else F j) v vb vs vsb k m s0 s1 (W.setCell ⟨g,i * 2+1,none⟩ (.int .i64 a)):=by
 obtain⟨xs,hx,hx2⟩:=h.ows;obtain⟨hb,hg,hv⟩:=h.rows d g hd;have hf:=fr_set g (i * 2+1) W (.int .i64 a);have hhi:=ok.hi
 refine h.upd ok hf (fun q e=>.inr (.inr (.inr (.inr (by omega))))) (hf.blk h.b0 (by omega)) (hf.blk h.b1 (by omega)) (hf.blk h.bx (h.bx.ne hb (by decide))) (hf.blk h.bo (by omega)) (hf.blk h.bs (by omega))
  (hf.row h.own fun q hq e=>by subst e;exact own_blk_ne h.own hb (by decide) hq) ⟨xs,hf.row hx fun q hq e=>by subst e;exact hv hq,hx2⟩ h.len (fun j q hq=>?_) h.inj
 obtain⟨h1,h2,h3⟩:=h.rows j q hq
 by_cases hj:j=d
 · subst hj
   rw[hd] at hq;obtain rfl:=Option.some.inj hq;refine⟨?_,h2,h3⟩;have:=hb.set_ (i * 2+1) (.int .i64 a);rw[rngA_setH] at this
   simpa using this
 · refine⟨?_,h2,h3⟩
   simp only[if_neg hj];exact hf.blk h1 (fun e=>hj (h.inj j d g (by rw[hq,e]) hd))
theorem LvA.snowput (ok:K.Ok)(h:LvA K Bx Wx gs F v vb (.slice (some ⟨g0,0,none⟩) m cq) vsb k m s0 s1 W){i:Nat}(hi:i<m * 2)(a:Int):LvA K Bx Wx gs F v vb (.slice (some ⟨g0,0,none⟩) m cq) vsb k m s0 s1 (W.setCell ⟨g0,i,none⟩ (.int .i64 a)):=by
 obtain⟨xs,hx,hx2⟩:=h.ows;have hg:=(hx.lt g0 rfl).1;have hf:=fr_set g0 i W (.int .i64 a);have hhi:=ok.hi;have hne:∀ {q:Nat} {t:TypeId} {cs:Array Value},Blk W q t cs→t≠31→q≠g0:=fun hb ht e=>own_blk_ne hx hb (fun e2=>ht e2.symm) (by rw[e];rfl)
 refine h.upd ok hf (fun q e=>.inr (.inr (.inr (.inr (by omega))))) (hf.blk h.b0 (by omega)) (hf.blk h.b1 (by omega)) (hf.blk h.bx (hne h.bx (by decide))) (hf.blk h.bo (by omega)) (hf.blk h.bs (by omega))
  (hf.row h.own fun q hq e=>by subst e;exact own_own_ne hx h.own (by decide) rfl hq) ⟨xs.set i (.int .i64 a),?_,fun x hx3=>?_⟩ h.len
  (fun j q hq=>by obtain⟨h1,h2,h3⟩:=h.rows j q hq;exact⟨hf.blk h1 (fun e=>h3 (by rw[e];rfl)),h2,h3⟩) h.inj
 · refine⟨by rw[List.length_set];exact hx.1,?_⟩
   rcases hx.2 with ⟨h0,_⟩ | ⟨g',cap,cur,hv,hb,hg,h1,h2,h3,h4⟩
   · cases h0
   · cases hv
     refine .inr ⟨g0,cq,cur.setIfInBounds i (.int .i64 a),rfl,hb,Blk.set_ (show Blk W g0 _ cur from hg) i _,h1,h2,by simpa using h3,?_⟩;rw[Array.toList_setIfInBounds,List.take_set,h4]
 · rcases List.mem_or_eq_of_mem_set hx3 with h5 | rfl
   · exact hx2 x h5
   · exact⟨a,rfl⟩
theorem LvA.growV (ok:K.Ok)(h:LvA K Bx Wx gs F v vb vs vsb k m s0 s1 W){g:Nat}{f:Nat→Int×Int}(hb:Blk W g 31 (rngA K.n f))(hg:K.base≤g)(hn:∀ j:Nat,gs[j]?≠some g)(hv:vs.ownBlock≠some g){v':Value}
 (hown:W'.ownsRow K.base 168 1 v' (k+1) ((gs++[g]).flatMap fun g=>[Value.slice (some ⟨g,0,none⟩) K.n K.n])) (hgr:W.grownBy W' v.ownBlock) :
 LvA K Bx Wx (gs++[g]) (fun j=>if j=k then f else F j) v' vb vs vsb (k+1) m s0 s1 W':=by
 obtain⟨xs,hx,hx2⟩:=h.ows;have hf:Fr (fun q=>v.ownBlock=some q) W W':=Fr.of_grown hgr fun q e _=>e;have kb:∀ {q:Nat} {t:TypeId} {cs:Array Value},Blk W q t cs→t≠168→Blk W' q t cs:=fun hb ht=>hf.blk hb fun e=>own_blk_ne h.own hb (fun e'=>ht e'.symm) e;have hlen:=h.len
 refine h.upd ok hf (fun q e=>.inr (.inr (.inr (.inr (h.own.lt q e).1)))) (kb h.b0 (by decide)) (kb h.b1 (by decide)) (kb h.bx (by decide)) (kb h.bo (by decide)) (hf.blk h.bs fun e=>by have:=(h.own.lt _ e).1;have:=ok.hi;omega) hown
  ⟨xs,hf.row hx fun q hq e=>own_own_ne hx h.own (by decide) hq e,hx2⟩ (by simp[h.len]) (fun j q hq=>?_) (fun i j q hi hj=>?_)
 · rcases Nat.lt_or_ge j gs.length with hj | hj
   · rw[List.getElem?_append_left hj] at hq
     obtain⟨h1,h2,h3⟩:=h.rows j q hq;exact⟨by rw[if_neg (by omega)];exact kb h1 (by decide),h2,h3⟩
   · rw[List.getElem?_append_right hj] at hq
     have hj0:j - gs.length=0:=by have:=(List.getElem?_eq_some_iff.1 hq).1;simp at this;omega
     rw[hj0] at hq
     obtain rfl:g=q:=by simpa using hq
     exact⟨by rw[if_pos (by omega)];exact kb hb (by decide),hg,hv⟩
 · have hi':=hi;have hj':=hj
   rcases Nat.lt_or_ge i gs.length with h1 | h1<;>rcases Nat.lt_or_ge j gs.length with h2 | h2
   · rw[List.getElem?_append_left h1] at hi;rw[List.getElem?_append_left h2] at hj;exact h.inj i j q hi hj
   · rw[List.getElem?_append_left h1] at hi;rw[List.getElem?_append_right h2] at hj
     have hj0:j - gs.length=0:=by have:=(List.getElem?_eq_some_iff.1 hj).1;simp at this;omega
     rw[hj0] at hj
     obtain rfl:g=q:=by simpa using hj
     exact absurd hi (hn i)
   · rw[List.getElem?_append_right h1] at hi;rw[List.getElem?_append_left h2] at hj
     have hj0:i - gs.length=0:=by have:=(List.getElem?_eq_some_iff.1 hi).1;simp at this;omega
     rw[hj0] at hi
     obtain rfl:g=q:=by simpa using hi
     exact absurd hj (hn j)
   · have:=(List.getElem?_eq_some_iff.1 hi').1;have:=(List.getElem?_eq_some_iff.1 hj').1
     simp at *;omega
theorem LvA.growS (ok:K.Ok)(h:LvA K Bx Wx gs F v vb vs vsb k m s0 s1 W){gg c:Nat}{xs:List Value}{a b:Int}(hx:W.ownsRow K.base 31 2 vs m xs)(hx2:∀ x∈xs,∃ a,x=Value.int .i64 a)
 (hown:W'.ownsRow K.base 31 2 (.slice (some ⟨gg,0,none⟩) (m+1) c) (m+1) (xs++[.int .i64 a,.int .i64 b])) (hgr:W.grownBy W' vs.ownBlock) (hat:vs.ownBlock=some gg∨gg=W.heap.size) :
 LvA K Bx Wx gs F v vb (.slice (some ⟨gg,0,none⟩) (m+1) c) vsb k (m+1) s0 s1 W':=by
 have hf:Fr (fun q=>vs.ownBlock=some q) W W':=Fr.of_grown hgr fun q e _=>e;have kb:∀ {q:Nat} {t:TypeId} {cs:Array Value},Blk W q t cs→t≠31→Blk W' q t cs:=fun hb ht=>hf.blk hb fun e=>own_blk_ne hx hb (fun e'=>ht e'.symm) e
 refine h.upd ok hf (fun q e=>.inr (.inr (.inr (.inr (hx.lt q e).1)))) (kb h.b0 (by decide)) (kb h.b1 (by decide)) (kb h.bx (by decide)) (kb h.bo (by decide)) (kb h.bs (by decide)) (hf.row h.own fun q hq e=>own_own_ne h.own hx (by decide) hq e)
  ⟨_,hown,fun x hx3=>?_⟩ h.len (fun j q hq=>?_) h.inj
 · rcases List.mem_append.1 hx3 with h5 | h5
   · exact hx2 x h5
   · simp at h5;rcases h5 with rfl | rfl
     · exact⟨a,rfl⟩
     · exact⟨b,rfl⟩
 · obtain⟨h1,h2,h3⟩:=h.rows j q hq
   refine⟨hf.blk h1 h3,h2,?_⟩;intro e
   obtain rfl:gg=q:=by simpa[Value.ownBlock] using e
   rcases hat with e | e
   · exact h3 e
   · have:=h1.lt;omega
theorem LvA.congr (h:LvA K Bx Wx gs F v vb vs vsb k m s0 s1 W){F':Nat→Nat→Int×Int}(hF:∀ d i,i<K.n→F d i=F' d i):LvA K Bx Wx gs F' v vb vs vsb k m s0 s1 W :=
 ⟨h.b0,h.b1,h.r0,h.r1,h.p0,h.p1,h.bx,h.bo,h.bs,h.bg,h.own,h.ows,h.len,fun j g hg=>by obtain⟨h1,h2,h3⟩:=h.rows j g hg;exact⟨by rw[← rngA_ext (hF j)];exact h1,h2,h3⟩,h.inj,h.bel,h.sz⟩
theorem LvA.rdv (h:LvA K Bx Wx gs F (.slice (some ⟨g0,0,none⟩) k cq) vb vs vsb k m s0 s1 W):Rd (fun q:Nat=>[Value.slice (some ⟨q,0,none⟩) K.n K.n]) 1 W (some ⟨g0,0,none⟩) k gs :=
 Rd.of_own (fun _=>rfl) h.own h.len
theorem LvA.at_ (h:LvA K Bx Wx gs F (.slice (some ⟨g0,0,none⟩) k cq) vb vs vsb k m s0 s1 W){j g:Nat}(hg:gs[j]?=some g):W.cell? ⟨g0,j,none⟩=some (.slice (some ⟨g,0,none⟩) K.n K.n):=by
 obtain⟨b,o,x,e,_,hx,hc⟩:=h.rdv.at_ (i:=j) (by rw[← h.len];exact(List.getElem?_eq_some_iff.1 hg).1);cases e;have:=Option.some.inj (hg.symm.trans hx);subst this;have:=hc 0 _ rfl
 simpa using this
theorem LvA.snow_at (h:LvA K Bx Wx gs F v vb (.slice (some ⟨g0,0,none⟩) m cq) vsb k m s0 s1 W){i:Nat}(hi:i<m * 2):(∃ a,W.cell? ⟨g0,i,none⟩=some (.int .i64 a))∧W.frozen? ⟨g0,i,none⟩=false:=by
 obtain⟨xs,hx,hx2⟩:=h.ows;refine⟨?_,hx.frozenAt i⟩;have hl:=hx.1
 rcases hx.2 with ⟨h0,_⟩ | ⟨g',cap,cur,hv,hb,hg,h1,h2,h3,h4⟩
 · cases h0
 · cases hv
   have hxi:xs[i]?=some (xs[i]'(by omega)):=List.getElem?_eq_getElem (by omega);obtain⟨a,ha⟩:=hx2 _ (List.mem_of_getElem? hxi);refine⟨a,?_⟩;rw[(show Blk W g0 _ cur from hg).cell i,← Array.getElem?_toList,← ha,← hxi,← h4,List.getElem?_take,if_pos hi]
end
end Go.Proofs.YtkhcliibilkefaaGreatDoor
