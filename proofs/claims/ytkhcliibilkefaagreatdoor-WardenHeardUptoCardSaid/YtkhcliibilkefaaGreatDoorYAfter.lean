/- CONTRACT of water.begin: the way ahead of all days. -/
import Derived.Test.YtkhcliibilkefaaGreatDoorYPass
import Derived.Laws.CopyOwn
import Derived.RangeFuncNested
import Derived.RangeFuncCalls
import Derived.RangeFuncLeaves
import Derived.Shelf.RegionOpen
import Derived.OwnWalkIn
import Derived.TacticsInMore
import Derived.LoopNIn
import Derived.LoopIn
set_option linter.unusedVariables false
set_option linter.unusedSimpArgs false
set_option maxRecDepth 100000
set_option maxHeartbeats 8000000
namespace Go.Proofs.YtkhcliibilkefaaGreatDoor
open Lib (hid)
open Go.RowKit Go.Proofs
attribute [local go_sem ↓] Go.wp_at_zero Go.wp_at_succ
theorem way_splice {CS DS LV RN:Slc}{sn0 sn1 so0 so1 melt tsn tso snow left:Int}{L:List Int}(hl:L.length≤8) :
 (splice (wayC CS sn0 sn1 so0 so1 melt DS tsn tso LV RN (fun _=>0) snow left).toList 11 (L.map fun n=>Value.int .i64 n)).toArray=wayC CS sn0 sn1 so0 so1 melt DS tsn tso LV RN (lvA L) snow left:=by
 match L,hl with
 | [],_=>rfl
 | [_],_=>rfl
 | [_,_],_=>rfl
 | [_,_,_],_=>rfl
 | [_,_,_,_],_=>rfl
 | [_,_,_,_,_],_=>rfl
 | [_,_,_,_,_,_],_=>rfl
 | [_,_,_,_,_,_,_],_=>rfl
 | [_,_,_,_,_,_,_,_],_=>rfl
 | _::_::_::_::_::_::_::_::_::_,h=>simp at h
theorem infoI1:(Tryz.prog.info? 3).map (·.size)=some 1:=by kernel_rfl
theorem begin_c {CS DS LV RN:Slc}{sn0 sn1 so0 so1 melt tsn tso:Int}{L:List Int}{w:World}(hl:Rd enc1 1 w LV.A LV.n L)(hn:LV.n≤8) :
 Calls Tryz.prog 130 #[.agg #[CS.v,.int .i64 sn0,.int .i64 sn1,.int .i64 so0,.int .i64 so1,.int .i64 melt],DS.v,.agg #[.int .i64 tsn,.int .i64 tso,LV.v,RN.v]] w fun e w' =>
  ∃ g,e=.returned (.pointer (some ⟨g,0,none⟩))∧w.heap.size≤g∧Blk w' g 219 (wayC CS sn0 sn1 so0 so1 melt DS tsn tso LV RN (lvA L) tsn 0)∧Below w.heap.size w w':=by
 have hlen:=hl.len;have HSP:=hid (way_splice (CS:=CS) (DS:=DS) (LV:=LV) (RN:=RN) (sn0:=sn0) (sn1:=sn1) (so0:=so0) (so1:=so1) (melt:=melt) (tsn:=tsn) (tso:=tso) (snow:=tsn) (left:=0) (L:=L) (by omega));obtain⟨w1,hw1⟩:∃ w1,w1=(((w.alloc (.cells #[CS.v,.int .i64 sn0,.int .i64 sn1,.int .i64 so0,.int .i64 so1,.int .i64 melt] 33)).alloc (.cells #[.int .i64 tsn,.int .i64 tso,LV.v,RN.v] 210)).alloc (.cells (wayC CS sn0 sn1 so0 so1 melt DS tsn tso LV RN (fun _=>0) tsn 0) 219)):=⟨_,rfl⟩
 have hb1:Below w.heap.size w w1:=by rw[hw1];exact(((Below.refl _ _).alloc (Nat.le_refl _) _).alloc (by simp) _).alloc (by simp;omega) _
 have hT:Blk w1 (w.heap.size+1) 210 #[.int .i64 tsn,.int .i64 tso,LV.v,RN.v]:=by
  rw[hw1];have:=Blk.new (w.alloc (.cells #[CS.v,.int .i64 sn0,.int .i64 sn1,.int .i64 so0,.int .i64 so1,.int .i64 melt] 33)) 210 #[.int .i64 tsn,.int .i64 tso,LV.v,RN.v];simp only[World.size_alloc] at this;exact this.alloc _
 have hW:Blk w1 (w.heap.size+1+1) 219 (wayC CS sn0 sn1 so0 so1 melt DS tsn tso LV RN (fun _=>0) tsn 0):=by
  rw[hw1];have:=Blk.new ((w.alloc (.cells #[CS.v,.int .i64 sn0,.int .i64 sn1,.int .i64 so0,.int .i64 so1,.int .i64 melt] 33)).alloc (.cells #[.int .i64 tsn,.int .i64 tso,LV.v,RN.v] 210)) 219 (wayC CS sn0 sn1 so0 so1 melt DS tsn tso LV RN (fun _=>0) tsn 0);simp only[World.size_alloc] at this;exact this
 have hl1:=hl.below hb1;obtain⟨CA,cn,cc⟩:=CS;obtain⟨DA,dn,dc⟩:=DS;obtain⟨LA,ln,lc⟩:=LV;obtain⟨RA,rn,rc⟩:=RN;dsimp only[Slc.v] at hl hn hlen hl1 hT hw1 ⊢;have t2:=hT.cell 2;simp at t2;have HT:=hid t2;have HW:=hid hW;have HL:=hid hl1;have HB:=hid hb1;have HW1:=hid hw1;clear t2 hT hW hl hl1 hb1 hw1
 go_enter Tryz.func130,Tryz.ntmps130
 go_upto_region 2 with fail
 have hfold:∀ P:World→Prop,P w1→P (((w.alloc (.cells #[.slice CA cn cc,.int .i64 sn0,.int .i64 sn1,.int .i64 so0,.int .i64 so1,.int .i64 melt] 33)).alloc (.cells #[.int .i64 tsn,.int .i64 tso,.slice LA ln lc,.slice RA rn rc] 210)).alloc (.cells #[.slice CA cn cc,.int .i64 sn0,.int .i64 sn1,.int .i64 so0,.int .i64 so1,.int .i64 melt,.slice DA dn dc,.int .i64 tsn,.int .i64 tso,.slice LA ln lc,.slice RA rn rc,.int .i64 0,.int .i64 0,.int .i64 0,.int .i64 0,.int .i64 0,.int .i64 0,.int .i64 0,.int .i64 0,.int .i64 tsn,.int .i64 0] 219)):=fun P h=>by rw[HW1.out] at h;exact h
 refine hfold _ ?_;clear hfold;have t2:=HT.out;refine wp_region_till [6] (fun U=>U.cell? ⟨w.heap.size+1,2,none⟩=some (.slice LA ln lc)) (by kernel_rfl) (by exact t2) (fun hHeld=>?_);have hb9:=(Below.refl w1.heap.size w1).drew;replace HW:=hdB HW hb9;replace HL:=hid (HL.out.below hb9);replace HB:=hdT HB hb9;clear hb9;revert hHeld HW HL HB;generalize w1.drew=w0;intro hHeld HW HL HB;refine tk 3 0 ?_;refine tk 2 1 ?_;refine tk 1 2 ?_;refine tk 0 3 ?_;refine tk 1 4 ?_;refine tk 0 5 ?_;refine ar [6] (al (fun K hK=>?_) an)
 have hcs:(L.map fun n=>Value.int .i64 n).length=Nat.min ln 8:=by rw[List.length_map];simp only[Nat.min_def];split<;>omega
 refine step_copy_splice rfl _ _ _ _ rfl 3 Tryz.underlying28 infoI1 (some ⟨w.heap.size+1+1,11,none⟩) LA 8 8 ln lc (by rfl) (by rfl) (w.heap.size+1+1) 11 (wayC ⟨CA,cn,cc⟩ sn0 sn1 so0 so1 melt ⟨DA,dn,dc⟩ tsn tso ⟨LA,ln,lc⟩ ⟨RA,rn,rc⟩ (fun _=>0) tsn 0).toList 219 (by rw[Array.toArray_toList];exact HW.out) (L.map fun n=>Value.int .i64 n) hcs ?_ ?_ ?_ w.heap.size w HB.out (by omega) ?_
 · intro hp
   rw[List.length_map] at hp;obtain⟨lb,lo,rfl,hlb,hlc⟩:=HL.out.2 (by omega);refine⟨rfl,_,rfl,fun j v hv=>?_⟩;rw[List.getElem?_map] at hv
   cases hx:L[j]? with
   | none=>rw[hx] at hv;cases hv
   | some x =>
    rw[hx] at hv;cases hv;have h0:=hlc j x hx 0 _ rfl;simp only[Nat.mul_one,Nat.add_zero] at h0;unfold Addr.add
    split
    · rename_i hj;subst hj;exact h0
    · exact h0
 · rw[List.length_map];simp[wayC];omega
 · intro v hv
   obtain⟨x,_,rfl⟩:=List.mem_map.1 hv
   rfl
 intro w9 hg9 hb9;(try clear hHeld);refine hK.out _ _ ?_;clear hK K;refine pt ?_;refine td ?_;have hg:=hg9.out;rw[HSP.out] at hg
 go_wp2_with fail
 go_ret
 exact⟨_,rfl,by omega,hg,hb9⟩
end Go.Proofs.YtkhcliibilkefaaGreatDoor
namespace Go.Proofs.YtkhcliibilkefaaGreatDoor
open Lib (hid)
open Go.RowKit Go.Proofs
def BookT (l D:Nat)(r:Loop)(W:World):Prop:=W.heap[l]?=some (.loop r)∧W.heap[D]?=some (.deferred (some []))
def turnPost (B:Nat)(I:World→Prop)(W:World):Exit→Act→World→Prop
 | .normal,_,W'=>KeepsFrom B W W'∧I W'
 | _,_,_=>False
structure Minds (B:Nat) (I:Nat→World→Prop):Prop where
 put:∀ k W l o o',I k W→B≤l→W.heap[l]?=some o'→o'.isCells=false→I k (W.putObj l o)
 alloc:∀ k W o,I k W→I k (W.alloc o)
def IterT (F:Fence)(n:Nat)(P:Program)(gf:Nat)(lb:Array Value)(encs:Nat→Array Value)(N:Nat)(T:World→World→Prop)(w:World)(I J:Nat→World→Prop):Prop :=
 ∀(l:Nat) (B:World→Prop),(∀ W W',B W→T W W'→B W') →
  (∀ k W,k<N→J k W→B W→YieldAt F (n - 1) P l (encs k) W fun e W'=>e=.returned (.bool true)∧I (k+1) W'∧B W') →
  ∀ W,Below w.heap.size w W→I 0 W→B W→CallsIn F n P gf (#[.func (.yield l) #[] #[]]++lb) W fun e W'=>(∃ v,e=.returned v)∧I N W'∧B W'
theorem wpIn_range_turns {F:Fence}{n:Nat}{P:Program}{g:Operand}{ps:Array Tmp}{assign body:Code}{Q:Exit→Act→World→Prop}{a:Act}{w:World}
 (hro:F.round=none) (h1:1≤n) {gf:Nat} {lb:Array Value} (hg:a.eval g=.func (.func gf) #[] lb) (hFg:F.fn gf) (eg:∀ args w,(callFunc gf args).run P w=.ok (.enter gf args) w)
 {encs:Nat→Array Value} {N:Nat} {T:World→World→Prop} {I J:Nat→World→Prop} (hit:IterT F (n - 1) P gf lb encs N T w I J)
 (hps:∀ k,(encs k).size=ps.size) (hT:∀ W W' k o,T W W'→w.heap.size≤k→W.heap[k]?=some o→W'.heap[k]?=some o)
 (hI:Minds w.heap.size I) (hJ:Minds w.heap.size J) (h0:I 0 w) (a₁:Nat→Act)
 (hassign:∀(l k:Nat) (W:World) (K:Act→World→Prop),K (a₁ k) W →
  assign.wpIn (F.inRound l) (n - 1 - 1) P (Exit.then K (fun _ _ _=>False)) { tmps:=(ps.zip (encs k)).foldl (fun t (p,v)=>t.setIfInBounds p v) a.tmps,defers:=[] } W)
 (hbody:∀(l k:Nat) (W:World),w.heap.size≤l→J k W→k<N→body.wpIn (F.inRound l) (n - 1 - 1) P (turnPost w.heap.size (I (k+1)) W) (a₁ k) W)
 (hdone:∀(D:Nat) (W:World),w.heap.size≤D→I N W→W.heap[D]?=some (.deferred (some []))→Q .normal { a with defers:={ target:=.collected D,args:=#[] }::a.defers } W) :
 (Code.rangeFunc g ps assign body).wpIn F n P Q a w:=by
 refine wpIn_rangeFunc fun fn hfn=>?_;rw[hro]
 let D:=w.heap.size
 let l:=w.heap.size+1
 let r:LoopState→Option Code→Loop:=fun st pe=>{ state:=st,pending:=pe,fn,tmps:=a.tmps,params:=ps,assign,body,defers:=w.heap.size }
 obtain⟨V,hV⟩:∃ V,V=(w.alloc (.deferred (some []))).alloc (.loop (r .ready none)):=⟨_,rfl⟩
 have hbV:Below w.heap.size w V:=by rw[hV];exact((Below.refl _ w).alloc (Nat.le_refl _) _).alloc (by simp) _
 have hIV:I 0 V:=by rw[hV];exact hI.alloc _ _ _ (hI.alloc _ _ _ h0)
 have hB:BookT l D (r .ready none) V:=by
  constructor
  · rw[hV]
    have:=World.alloc_heap_new (w.alloc (.deferred (some []))) (.loop (r .ready none))
    rwa [World.size_alloc] at this
  · rw[hV]
    exact(Below.heap_alloc _ _ _ (by simp[D])).trans (World.alloc_heap_new w _)
 refine⟨l,[{ target:=.collected w.heap.size,args:=#[] }],V,{ target:=.fn (.func gf) lb,args:=#[.func (.yield l) #[] #[]] },V,gf,#[.func (.yield l) #[] #[]]++lb,V,?_,?_,?_,?_,fun _=>h1,?_⟩
 · rw[hV];exact run_enterLoop_outer _ _ _ _ _
 · simp only[resolve,hg];simp[go_sem]
 · intro f' hf'
   simp[Target.leads] at hf';subst hf';exact hFg
 · simp[invoke,go_sem,eg]
 · refine(hit l (BookT l D (r .ready none)) (fun W W' hb ht=>⟨hT _ _ _ _ ht (by simp[l]) hb.1,hT _ _ _ _ ht (Nat.le_refl _) hb.2⟩) ?_ V hbV hIV hB).mono ?_
   · rintro k W hk hj ⟨hl,hd⟩
     have hlt:l<W.heap.size:=(Array.getElem?_eq_some_iff.1 hl).1;refine⟨fn,_,assign,body,run_yield (P:=P) (args:=encs k) hl (hps k),roundIn_of_wpIn hfn (hassign l k W _ ⟨_,run_beginRound hl rfl,?_⟩)⟩;have hlb:(W.putObj l (.loop { r .ready none with state:=.busy })).heap[l]?=some (.loop { r .ready none with state:=.busy }):=World.putObj_heap_same hlt;have hdb:(W.putObj l (.loop { r .ready none with state:=.busy })).heap[D]?=some (.deferred (some [])):=(World.putObj_heap_other (by simp[l,D])).trans hd;refine wpIn_mono (hbody l k _ (by simp[l]) (hJ.put _ _ _ _ _ hj (by simp[l]) hl rfl) hk) ?_;rintro e a3 W3 hp
     cases e with
     | normal =>
      obtain⟨hk3,hi3⟩:=hp;have hl3:=hk3.same _ _ (by simp[l]) hlb rfl;have hd3:=hk3.same _ _ (Nat.le_refl _) hdb rfl;refine⟨_,_,run_endRound (P:=P) none hl3,rfl,hI.put _ _ _ _ _ hi3 (by simp[l]) hl3 rfl,World.putObj_heap_same (Array.getElem?_eq_some_iff.1 hl3).1,(World.putObj_heap_other (by simp[l,D])).trans hd3⟩
     | _=>exact hp.elim
   · rintro e W2 ⟨⟨v,rfl⟩,hi,hl,hd⟩
     exact⟨none,_,run_endLoop (P:=P) hl (by simp[r]),hdone _ _ (Nat.le_refl _) (hI.put _ _ _ _ _ hi (by simp[l]) hl rfl) ((World.putObj_heap_other (by simp[l,D])).trans hd)⟩
structure WE where
 CS:Slc
 DS:Slc
 LV:Slc
 RN:Slc
 sn0:Int
 sn1:Int
 so0:Int
 so1:Int
 melt:Int
 tsn:Int
 tso:Int
 C:List Cel
 D:List Dy
 rain:List Int
 L0:List Int
def WE.warm (E:WE):List Int:=E.D.map (·.warm)
def WE.st (E:WE)(k:Nat):WaySt:=daysW E.C E.melt E.tso E.rain E.warm ⟨E.L0,E.tsn,0⟩ k
def WE.down (E:WE)(k:Nat):Int:=(fallW E.melt (E.st k).snow (E.rain.getD k 0) (E.warm.getD k 0)).1
def WE.cells (E:WE)(s:WaySt):Array Value:=wayC E.CS E.sn0 E.sn1 E.so0 E.so1 E.melt E.DS E.tsn E.tso E.LV E.RN (lvA s.lv) s.snow s.left
def WE.blk (E:WE)(W:World)(W0:Nat)(s:WaySt):Prop:=Blk W W0 219 (E.cells s)
structure WE.Rds (E:WE) (W:World):Prop where
 c:Rd encCel 7 W E.CS.A E.CS.n E.C
 d:Rd encDy 3 W E.DS.A E.DS.n E.D
 r:Rd enc1 1 W E.RN.A E.RN.n E.rain
theorem WE.Rds.below {E:WE}{W W':World}(h:E.Rds W)(hb:Below W.heap.size W W'):E.Rds W':=⟨h.c.below hb,h.d.below hb,h.r.below hb⟩
structure WE.Ne (E:WE) (W0:Nat):Prop where
 c:∀ ad,E.CS.A=some ad→ad.block≠W0
 d:∀ ad,E.DS.A=some ad→ad.block≠W0
 r:∀ ad,E.RN.A=some ad→ad.block≠W0
theorem WE.Rds.fr {E:WE}{W W':World}{W0:Nat}(h:E.Rds W)(hn:E.Ne W0)(hf:Fr (fun g=>g=W0) W W'):E.Rds W':=⟨hf.rd h.c hn.c,hf.rd h.d hn.d,hf.rd h.r hn.r⟩
theorem WE.Rds.ne {E:WE}{W:World}(h:E.Rds W){W0:Nat}(hW:W.heap.size≤W0)(hc:0<E.CS.n)(hd:E.DS.n=0→E.DS.A=none)(hr:E.RN.n=0→E.RN.A=none):E.Ne W0:=by
 refine⟨fun ad e=>?_,fun ad e=>?_,fun ad e=>?_⟩
 · obtain⟨b,o,e',hlt,_⟩:=h.c.2 hc
   rw[e] at e';cases e';dsimp only;omega
 · rcases Nat.eq_zero_or_pos E.DS.n with h0 | h0
   · rw[hd h0] at e;cases e
   · obtain⟨b,o,e',hlt,_⟩:=h.d.2 h0
     rw[e] at e';cases e';dsimp only;omega
 · rcases Nat.eq_zero_or_pos E.RN.n with h0 | h0
   · rw[hr h0] at e;cases e
   · obtain⟨b,o,e',hlt,_⟩:=h.r.2 h0
     rw[e] at e';cases e';dsimp only;omega
structure WE.Ok (E:WE):Prop where
 cel:∀ c∈E.C,celOk E.CS.n c
 n:1≤E.CS.n∧E.CS.n≤8
 clen:E.C.length=E.CS.n
 melt:0≤E.melt∧E.melt≤50
 tso:0≤E.tso∧E.tso≤1000
 tsn:0≤E.tsn∧E.tsn≤100000
 lv:LvB E.L0
 llen:E.L0.length=E.CS.n
 dlen:E.D.length=E.DS.n
 dn:E.DS.n≤30
 rlen:E.rain.length=E.DS.n
 rn:E.RN.n=E.DS.n
 warm:∀ d∈E.D,-50≤d.warm∧d.warm≤50
 rain:∀ r∈E.rain,0≤r∧r≤1000
theorem WE.st_succ (E:WE)(k:Nat):E.st (k+1)=dayW E.C E.melt E.tso (E.st k) (E.rain.getD k 0) (E.warm.getD k 0):=rfl
theorem getD_in2 {l:List Int}{a b:Int}(h0:a≤0∧0≤b)(h:∀ x∈l,a≤x∧x≤b)(k:Nat):a≤l.getD k 0∧l.getD k 0≤b:=by
 rw[List.getD_eq_getElem?_getD]
 cases hc:l[k]? with
 | none=>exact h0
 | some c=>exact h c (List.mem_of_getElem? hc)
theorem fall_bd {m s r x:Int}(hm:0≤m∧m≤50)(hs:0≤s)(hr:0≤r∧r≤1000)(hx:-50≤x∧x≤50) :
 (0≤(fallW m s r x).1∧(fallW m s r x).1≤3500)∧0≤(fallW m s r x).2∧(fallW m s r x).2≤s+1000:=by
 unfold fallW
 split
 · simp;omega
 · rename_i h
   have h1:0≤m * x:=Int.mul_nonneg hm.1 (by omega);have h2:m * x≤2500:=Int.le_trans (Int.mul_le_mul hm.2 hx.2 (by omega) (by omega:(0:Int)≤50)) (by decide);simp;omega
theorem WE.bd {E:WE}(h:E.Ok):∀ k:Nat,LvB (E.st k).lv∧(E.st k).lv.length=E.CS.n∧0≤(E.st k).snow∧(E.st k).snow≤100000+(k:Int) * 1000
 | 0=>⟨h.lv,h.llen,h.tsn.1,by have:=h.tsn.2;simpa[WE.st,daysW] using this⟩
 | k+1=>by
  obtain⟨h1,h2,h3,h4⟩:=WE.bd h k;have hr:=getD_in2 (a:=0) (b:=1000) (by omega) h.rain k
  have hw:=getD_in2 (l:=E.warm) (a:=-50) (b:=50) (by omega) (fun x hx=>by
   obtain⟨d,hd,rfl⟩:=List.mem_map.1 hx
   exact h.warm d hd) k
  have hf:=fall_bd h.melt h3 hr hw;rw[WE.st_succ];refine⟨fun i=>?_,?_,hf.2.1,?_⟩
  · exact pass_bd h.cel (Int.ediv_nonneg (Int.mul_nonneg hf.1.1 h.tso.1) (by omega)) i
  · exact(pass_len).trans h.clen
  · have:=hf.2.2
    show(fallW _ _ _ _).2≤_;omega
theorem WE.down_bd {E:WE}(h:E.Ok)(k:Nat):0≤E.down k∧E.down k≤3500:=by
 obtain⟨h1,h2,h3,h4⟩:=WE.bd h k;have hr:=getD_in2 (a:=0) (b:=1000) (by omega) h.rain k
 have hw:=getD_in2 (l:=E.warm) (a:=-50) (b:=50) (by omega) (fun x hx=>by
  obtain⟨d,hd,rfl⟩:=List.mem_map.1 hx
  exact h.warm d hd) k
 exact(fall_bd h.melt h3 hr hw).1
theorem WE.st_pass (E:WE)(k:Nat)(hc:E.C.length=E.CS.n):E.st (k+1)=⟨passW E.C (E.st k).lv (E.down k * E.tso / 1000),(fallW E.melt (E.st k).snow (E.rain.getD k 0) (E.warm.getD k 0)).2,leftW E.C (E.st k).lv (E.down k) (E.down k * E.tso / 1000) E.C.length+overW E.C (E.st k).lv (E.down k * E.tso / 1000) E.C.length⟩:=rfl
end Go.Proofs.YtkhcliibilkefaaGreatDoor
namespace Go.Proofs.YtkhcliibilkefaaGreatDoor
open Lib (hid)
open Go.RowKit Go.Proofs Go.Shelf
attribute [local go_sem] Oper.semAt_some
attribute [local go_sem ↓] Go.wp_at_zero Go.wp_at_succ
theorem after_c (W0:Nat)(w:World) :
 Calls Tryz.prog 134 #[.pointer (some ⟨W0,0,none⟩)] w fun e w'=>e=.returned (.func (.func 174) #[] #[.pointer (some ⟨w.heap.size,0,none⟩)])∧w'=w.alloc (.cells #[.pointer (some ⟨W0,0,none⟩)] 207):=by
 go_enter Tryz.func134,Tryz.ntmps134
 go_wp2
 go_ret
 exact⟨rfl,rfl⟩
def WE.encs (E:WE)(k:Nat):Array Value:=#[.int .i64 (k:Int),.int .i64 (E.down k)]
theorem after_iter {E:WE}(hE:E.Ok){W0 Bx:Nat}(hne:E.Ne W0){I J:Nat→World→Prop}
 (hI:∀ k W,I k W→E.blk W W0 (E.st k)∧E.Rds W∧Blk W Bx 207 #[.pointer (some ⟨W0,0,none⟩)]) (hB:Bx≠W0)
 (hst:∀ k W W',k<E.DS.n→I k W→E.blk W' W0 (E.st (k+1))→Fr (fun g=>g=W0) W W'→J k W') {n:Nat} (hn:3≤n) (w:World) :
 IterT Fence.wide n Tryz.prog 174 #[.pointer (some ⟨Bx,0,none⟩)] E.encs E.DS.n (Fr fun g=>g=W0) w I J:=by
 intro l B hBT hY W hW h0 hb0
 have h1:1≤n:=by omega
 refine callsIn_of_wp Tryz.func174 rfl trivial ?_ rfl;simp only[Tryz.ntmps174,List.size_toArray,List.length_cons,List.length_nil,Nat.reduceAdd,Nat.reduceSub,Array.replicate_succ,Array.replicate_zero,List.push_toArray,List.append_toArray,List.nil_append,List.cons_append];have hbd:=WE.bd hE;have HE:=hid hE;have HY:=hid hY;have HI:=hid hI;have HST:=hid hst;have HBT:=hid hBT;have HNE:=hid hne;have HBD:=hid hbd;have HB:=hid hB;have hdn:=hE.dn;obtain⟨hk0,hr0,hx0⟩:=hI 0 W h0;have c0:=hx0.cell 0;have c6:=hk0.cell 6;simp[WE.cells,wayC,Slc.v] at c0 c6;clear hY hE hI hst hBT hne hbd hk0 hr0 hx0
 gi_wp2
 gi_loopw [3,4,10] (fun _ _ i wr=>∃ j:Nat,j≤E.DS.n∧i=.int .i64 (j:Int)∧I j wr∧B wr) (fun _ _ i _=>E.DS.n - (intOf i).toNat)
 case atStart=>exact⟨0,Nat.zero_le _,by rfl,h0,hb0⟩
 case round =>
  obtain⟨j,hj,rfl,hij,hbj⟩:=hrel;clear c0 c6 h0 hb0
  by_cases hlt:j<E.DS.n
  · obtain⟨hk0,hr0,hx0⟩:=HI.out j wr hij
    obtain⟨b1,b2,b3,b4⟩:=HBD.out j;have hE:=HE.out;have c0:=hx0.cell 0;simp at c0;obtain⟨d,hd⟩:∃ d,E.D[j]?=some d:=⟨_,List.getElem?_eq_getElem (by rw[hE.dlen];exact hlt)⟩;obtain⟨r,hr⟩:∃ r,E.rain[j]?=some r:=⟨_,List.getElem?_eq_getElem (by rw[hE.rlen];exact hlt)⟩;have hdw:=hE.warm d (List.mem_of_getElem? hd);have hrr:=hE.rain r (List.mem_of_getElem? hr)
    have e1:E.warm.getD j 0=d.warm:=by unfold WE.warm;rw[List.getD_eq_getElem?_getD,List.getElem?_map,hd];rfl
    have e2:E.rain.getD j 0=r:=by rw[List.getD_eq_getElem?_getD,hr];rfl
    have hfc:=fall_c (i:=j) (show Blk wr W0 _ (wayC E.CS E.sn0 E.sn1 E.so0 E.so1 E.melt E.DS E.tsn E.tso E.LV E.RN (lvA (E.st j).lv) (E.st j).snow (E.st j).left) from hk0) hr0.d hr0.r hd hr (by omega) (by omega) (by omega) hE.melt (by omega);rw[← e1,← e2] at hfc;obtain⟨dw,hdw9⟩:∃ dw,dw=E.down j:=⟨_,rfl⟩;obtain⟨sn,hsn9⟩:∃ sn,sn=(fallW E.melt (E.st j).snow (E.rain.getD j 0) (E.warm.getD j 0)).2:=⟨_,rfl⟩;rw[← hsn9,show(fallW E.melt (E.st j).snow (E.rain.getD j 0) (E.warm.getD j 0)).1=dw from hdw9.symm] at hfc;have HFC:=hid hfc;have hdb:=WE.down_bd hE j;rw[← hdw9] at hdb
    have hpc:=fun(w2:World) (hb2:Blk w2 W0 219 (wayC E.CS E.sn0 E.sn1 E.so0 E.so1 E.melt E.DS E.tsn E.tso E.LV E.RN (lvA (E.st j).lv) sn (E.st j).left)) (hf2:Fr (fun g=>g=W0) wr w2) =>
     pass_c (down:=dw) hb2 (hf2.rd hr0.c HNE.out.c) HNE.out.c hE.cel hE.n b1 b2 ⟨hdb.1,by omega⟩ hE.tso
    have hsp:=WE.st_pass E j hE.clen;rw[← hsn9,← hdw9] at hsp;have HSP:=hid hsp;have HDW:=hid hdw9;have HPC:=hid hpc;have HR0:=hid hr0;have HX0:=hid hx0;have HIJ:=hid hij;have HBJ:=hid hbj;clear hfc hpc hr0 hx0 hk0 b1 b2 b3 b4 hd hr hdw hrr e1 e2 hdb hij hbj hE hdw9 hsn9 hsp
    have h2:1≤n - 1:=by omega
    gi_wp2_with (first
     | (refine⟨trivial,?_⟩;gi_at_call 175;refine(callsIn_wide.2 HFC.out).mono ?_;rintro e w2 ⟨rfl,hb2,hf2⟩;have c9:=(Fr.blk hf2 HX0.out HB.out).cell 0;simp at c9;have HB2:=hid hb2;have HF2:=hid hf2;clear hb2 hf2)
     | (refine⟨trivial,?_⟩;gi_at_call 176;refine(callsIn_wide.2 (HPC.out _ HB2.out HF2.out)).mono ?_;rintro e w3 ⟨⟨v3,rfl⟩,hb3,hf3⟩;have HB3:=hid hb3;have HF3:=hid (HF2.out.trans hf3);clear hb3 hf3;obtain⟨fn,tmps,assign,body,hy,hR⟩:=HY.out j w3 hlt (HST.out j wr w3 hlt HIJ.out (by unfold WE.blk WE.cells;rw[HSP.out];exact HB3.out) HF3.out) (HBT.out wr w3 HBJ.out HF3.out);dsimp only[WE.encs] at hy;rw[← HDW.out] at hy;have HR:=hid hR;clear hR))
    refine HR.out.mono ?_;rintro e W3 ⟨rfl,hI3,hB3⟩
    gi_wp2
    go_roundw
    case rel=>exact⟨j+1,by omega,by go_num,hI3,hB3⟩
    case measure=>simp[intOf]<;>omega
  · obtain rfl:j=E.DS.n:=by omega
    gi_wp2
    go_end0
    exact⟨⟨_,rfl⟩,hij,hbj⟩
end Go.Proofs.YtkhcliibilkefaaGreatDoor
