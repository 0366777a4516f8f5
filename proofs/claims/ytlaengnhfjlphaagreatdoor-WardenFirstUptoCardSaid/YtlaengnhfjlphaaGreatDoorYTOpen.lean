/- THE CONTRACT of Reading.record: the sixteen bytes of a reading. -/
import Derived.Test.YtlaengnhfjlphaaGreatDoorPut
import Derived.Deep.MidRow
import Derived.Laws.BitsAllLaws
import Derived.ChangeKeysEq
import Derived.BigQuiet
import Derived.Deep.QuietTactic
import Derived.StillTail
import Derived.Deep.RegionHeld3
import Derived.Deep.AppendLies
import Derived.Deep.DrawnRows
import Derived.Laws.StructEq
import Derived.Maps.AppendAt
import Derived.Test.YtlaengnhfjlphaaGreatDoorZRound
import Derived.OrdersIn
import Derived.OwnWalkIn
import Derived.RangeFuncCalls
import Derived.Deep.Slices
import Derived.Deep.Fields
import Derived.ChangeSame
import Derived.OpenShut
set_option linter.unusedVariables false
set_option linter.unusedSimpArgs false
set_option maxRecDepth 100000
set_option maxHeartbeats 8000000
namespace Go.Proofs.YtlaengnhfjlphaaGreatDoor.Ga
open Lib (hid)
open Go.RowKit Go.Proofs
theorem below_setCells (cs:List Value):∀(o:Nat) (w':World) {B g:Nat} {w:World},Below B w w'→B≤g→Below B w (w'.setCells g o cs):=by
 induction cs with
 | nil=>intro o w' B g w h hg;exact h
 | cons v cs ih=>intro o w' B g w h hg;exact ih _ _ (h.setCell (p:=⟨g,o,none⟩) hg v) hg
theorem results_cell {fn:Func}{p:Tmp}{ty:TypeId}(h:fn.results=#[.cell p ty])(tmps:Array Value)(P:Program)(w:World) :
 (results fn tmps).run P w=(do loadVar ty (← asAddr (tmps.getD p undef))).run P w:=by
 simp only[results,h];simp
theorem results_ptr {ty:TypeId}{u v:Value}{a:Addr}{P:Program}{w:World}(hu:u=.pointer (some a))(hl:(loadVar ty a).run P w=.ok v w) :
 (do loadVar ty (← asAddr u):Sem Value).run P w=.ok v w:=by
 subst hu;simp only[asAddr,Sem.run_bind,Sem.run_pure,Result.andThen_ok,hl]
def zero16:List UInt8:=List.replicate 16 0
def cellsB (l:List UInt8):Array Value:=(l.map (fun(b:UInt8)=>Value.int .u8 (b.toNat:Int))).toArray
structure RecSt (w0 w:World) (r:Rdg) (done:List UInt8) (i:Nat):Prop where
 par:Blk w w0.heap.size 168 #[.int .i64 r.ins,.int .i64 r.num,.int .i64 r.tim,.int .i64 r.val]
 res:Blk w (w0.heap.size+1) 252 (cellsB zero16)
 wri:∃ bs:List UInt8,bs.length=16∧bs.take i=done∧Blk w (w0.heap.size+1+1) 307 (w17 bs i)
 below:Below w0.heap.size w0 w
theorem RecSt.cells {w0 w:World}{r:Rdg}{done:List UInt8}{i:Nat}(h:RecSt w0 w r done i) :
 w.cell? ⟨w0.heap.size,0,none⟩=some (.int .i64 r.ins)∧w.cell? ⟨w0.heap.size,1,none⟩=some (.int .i64 r.num)∧w.cell? ⟨w0.heap.size,2,none⟩=some (.int .i64 r.tim)∧w.cell? ⟨w0.heap.size,3,none⟩=some (.int .i64 r.val):=by
 refine⟨?_,?_,?_,?_⟩ <;> rw[h.par.cell] <;> rfl
theorem put_st {w0 w:World}{r:Rdg}{done:List UInt8}{i:Nat}(h:RecSt w0 w r done i)(n:Int)(m:Nat)(mi:Int)(hmi:mi=(m:Int))(hm:i+m≤16)(h4:m≤4) :
 Calls Tryz.prog 234 #[.pointer (some ⟨w0.heap.size+1+1,0,none⟩),.int .i64 n,.int .i64 mi] w fun e w'=>e=.returned (.tuple #[])∧RecSt w0 w' r (done++beB n m) (i+m):=by
 subst hmi;obtain⟨bs,hl,ht,hb⟩:=h.wri;refine(put_c _ i m n bs w hb hl hm h4).mono fun e w' ⟨he,⟨bs',hl',ht',hb'⟩,hg⟩=>⟨he,?_,?_,⟨bs',hl',by rw[ht',ht],hb'⟩,?_⟩
 · exact h.par.grown hg (by simp;omega)
 · exact h.res.grown hg (by simp)
 · exact h.below.grown hg h.below.size (fun k hk=>by cases hk;omega)
theorem record_c (r:Rdg)(w:World) :
 Calls Tryz.prog 209 #[.agg #[.int .i64 r.ins,.int .i64 r.num,.int .i64 r.tim,.int .i64 r.val]] w fun e w'=>e=.returned (.agg (cellsB (recB r)))∧Below w.heap.size w w':=by
 go_enter Tryz.func209,Tryz.ntmps209
 go_wp2_with fail
 obtain⟨W,hW⟩:∃ W:World,W=((w.alloc (.cells #[.int .i64 r.ins,.int .i64 r.num,.int .i64 r.tim,.int .i64 r.val] 168)).alloc (.cells (cellsB zero16) 252)).alloc (.cells (w17 zero16 0) 307):=⟨_,rfl⟩
 have st0:RecSt w W r [] 0:=by
  subst hW;refine⟨?_,?_,⟨zero16,rfl,rfl,?_⟩,?_⟩
  · exact((Blk.new w _ _).alloc _).alloc _
  · have:=(Blk.new (w.alloc (.cells #[.int .i64 r.ins,.int .i64 r.num,.int .i64 r.tim,.int .i64 r.val] 168)) 252 (cellsB zero16)).alloc (.cells (w17 zero16 0) 307)
    simpa using this
  · have:=Blk.new ((w.alloc (.cells #[.int .i64 r.ins,.int .i64 r.num,.int .i64 r.tim,.int .i64 r.val] 168)).alloc (.cells (cellsB zero16) 252)) 307 (w17 zero16 0)
    simpa using this
  · exact(((Below.refl _ _).alloc (Nat.le_refl _) _).alloc (by simp) _).alloc (by simp;omega) _
 have hWW:W=((w.alloc (.cells #[.int .i64 r.ins,.int .i64 r.num,.int .i64 r.tim,.int .i64 r.val] 168)).alloc (.cells #[.int .u8 0,.int .u8 0,.int .u8 0,.int .u8 0,.int .u8 0,.int .u8 0,.int .u8 0,.int .u8 0,.int .u8 0,.int .u8 0,.int .u8 0,.int .u8 0,.int .u8 0,.int .u8 0,.int .u8 0,.int .u8 0] 252)).alloc (.cells #[.int .u8 0,.int .u8 0,.int .u8 0,.int .u8 0,.int .u8 0,.int .u8 0,.int .u8 0,.int .u8 0,.int .u8 0,.int .u8 0,.int .u8 0,.int .u8 0,.int .u8 0,.int .u8 0,.int .u8 0,.int .u8 0,.int .i64 0] 307):=hW;rw[← hWW];clear hWW hW;refine(put_st st0 165 1 1 rfl (by omega) (by omega)).mono ?_;rintro e w1 ⟨rfl,st1⟩;obtain⟨c0,c1,c2,c3⟩:=st1.cells
 go_wp2_with fail
 refine(put_st st1 _ 1 1 rfl (by omega) (by omega)).mono ?_;rintro e w2 ⟨rfl,st2⟩;obtain⟨c0,c1,c2,c3⟩:=st2.cells
 go_wp2_with fail
 refine(put_st st2 _ 2 2 rfl (by omega) (by omega)).mono ?_;rintro e w3 ⟨rfl,st3⟩;obtain⟨c0,c1,c2,c3⟩:=st3.cells
 go_wp2_with fail
 refine(put_st st3 _ 4 4 rfl (by omega) (by omega)).mono ?_;rintro e w4 ⟨rfl,st4⟩;obtain⟨c0,c1,c2,c3⟩:=st4.cells
 go_wp2_with fail
 refine(put_st st4 _ 4 4 rfl (by omega) (by omega)).mono ?_;rintro e w5 ⟨rfl,st5⟩;obtain⟨c0,c1,c2,c3⟩:=st5.cells;have hpre:[]++beB 165 1++beB r.ins 1++beB r.num 2++beB r.tim 4++beB r.val 4=preB r:=rfl;rw[hpre] at st5;clear hpre;obtain⟨bs,hl,ht,hbk⟩:=st5.wri
 have hbyte:∀ k:Nat,k < 12→∃ b:UInt8,(preB r)[k]?=some b∧w5.cell? ⟨w.heap.size+1+1,k,none⟩=some (.int .u8 (b.toNat:Int)):=by
  intro k hk
  have h1:(preB r)[k]?=some (bs[k]'(by omega)):=by
   rw[← ht,List.getElem?_take_of_lt (by omega)];exact List.getElem?_eq_getElem _
  exact⟨_,h1,by rw[hbk.cell];exact w17_byte _⟩
 have HB:=hid hbyte;clear hbyte hl ht hbk
 go_wp2_with fail
 go_loop [5,35] (fun cv i=>∃(k:Nat) (c:Int),k≤12∧i=.int .i64 k∧cv=.int .i64 c∧0≤c∧c < 16777213∧c=ck ((preB r).take k)) (fun _ i=>12 - (intOf i).toNat)
 case atStart=>exact⟨0,1,by omega,rfl,rfl,by omega,by omega,rfl⟩
 case round =>
  obtain⟨k,c,hk,rfl,rfl,hc0,hc1,hce⟩:=hrel;have HC:=hid hce;clear hce
  by_cases hlt:k < 12
  · obtain⟨b,hb,hcell⟩:=HB.out k hlt
    have HX:=hid hb;clear hb
    have hb1:(b.toNat:Int)≤255:=by have:=b.toNat_lt;omega
    have hb0:(0:Int)≤(b.toNat:Int):=by omega
    go_wp2
    go_round
    case rel=>exact⟨k+1,(257 * c+(b.toNat:Int)+1) % 16777213,by omega,by go_num,rfl,Int.emod_nonneg _ (by omega),Int.emod_lt_of_pos _ (by omega),by
     rw[List.take_add_one,HX.out,HC.out];exact(ck_snoc _ _).symm⟩
    case measure=>simp[intOf] <;> omega
  · obtain rfl:k=12:=by omega
    have hce:c=ck (preB r):=by rw[HC.out,List.take_of_length_le (by rw[preB_len];exact Nat.le_refl _)]
    have HCE:=hid hce;clear hce HC HB
    go_wp2_with fail
    refine(put_st st5 c 3 3 rfl (by omega) (by omega)).mono ?_;rintro e w6 ⟨rfl,st6⟩
    go_wp2_with fail
    refine(put_st st6 90 1 1 rfl (by omega) (by omega)).mono ?_;rintro e w7 ⟨rfl,st7⟩;obtain⟨cs,hcs⟩:∃ cs:List Value,cs=(cellsB (recB r)).toList:=⟨_,rfl⟩
    have hlen:cs.length=16:=by rw[hcs];simp[cellsB,recB_len]
    have hrange:w7.rangeAt (w.heap.size+1+1) 0 cs:=by
     obtain⟨bs,hl,ht,hbk⟩:=st7.wri;intro j v hv
     have hbs:bs=recB r:=by
      have h16:bs.take 16=bs:=List.take_of_length_le (by omega);rw[← h16];have:bs.take (0+1+1+2+4+4+3+1)=bs.take 16:=rfl;rw[← this,ht,HCE.out]
      rfl
     rw[hcs,hbs.symm] at hv
     have hj:j < bs.length:=by have:=(List.getElem?_eq_some_iff.1 hv).1;simpa[cellsB] using this
     rw[Nat.zero_add,hbk.cell,w17_byte hj];simp[cellsB,hj] at hv;rw[hv]
    have hthere:w7.there (w.heap.size+1) 0 cs.toArray.size:=by
     intro j hj
     have hj16:j < 16:=by simpa[hlen] using hj
     rw[Nat.zero_add];refine⟨?_,st7.res.frozen j⟩;rw[st7.res.cell];simp[cellsB,zero16,hj16]
    have hone:cs.toArray.all (·.oneCell')=true:=by
     rw[hcs];simp[cellsB];intros;rfl
    have hsz1:(Tryz.prog.info? 252).map (·.size)=some cs.length:=by rw[hlen];kernel_rfl
    have hsz2:(Tryz.prog.info? 252).map (·.size)=some cs.toArray.size:=by rw[List.size_toArray];exact hsz1
    have H1:=hid hrange;have H2:=hid hthere;have H3:=hid hone;have H4:=hid hsz1;have H5:=hid hsz2;have H6:=hid hcs;have H7:=hid hlen;clear hrange hthere hone hsz1 hsz2 hcs hlen
    go_wp2_with (first | (refine wpList_load_mid rfl 252 (.tmp 54) rfl (w.heap.size+1+1) 0 rfl cs _ H1.out Tryz.underlying252 rfl H4.out ?_) | (refine wpList_store_mid rfl 252 (.tmp 2) (.tmp 55) rfl (w.heap.size+1) 0 cs.toArray rfl rfl H2.out H5.out H3.out ?_))
    have hld:∀ K:Nat,(loadVar 252 ⟨w.heap.size+1,0,none⟩).run Tryz.prog (w7.setCells (w.heap.size+1) 0 cs)=.ok (.agg cs.toArray) (w7.setCells (w.heap.size+1) 0 cs):=fun _ =>
     run_loadVar_mid _ _ _ _ cs _ (World.rangeAt_setCells_same w7 (w.heap.size+1) 0 cs (by simpa using H2.out)) Tryz.underlying252 rfl H4.out
    refine bodyPost_ret (v:=.agg cs.toArray) ?_ rfl ⟨by rw[H6.out],?_⟩
    · rw[results_cell Tryz.results209]
      exact results_ptr rfl (hld 0)
    · exact below_setCells _ _ _ st7.below (by omega)
def numB (l:List UInt8):Int:=l.foldl (fun(n:Int) (b:UInt8)=>256 * n+(b.toNat:Int)) 0
theorem numB_snoc (l:List UInt8)(b:UInt8):numB (l++[b])=256 * numB l+(b.toNat:Int):=by simp[numB]
theorem numB_bd_aux:∀(l:List UInt8) (n:Int),0≤n→0≤l.foldl (fun(n:Int) (b:UInt8)=>256 * n+(b.toNat:Int)) n∧l.foldl (fun(n:Int) (b:UInt8)=>256 * n+(b.toNat:Int)) n < (n+1) * 256 ^ l.length
 | [],n,h=>⟨h,by simp;omega⟩
 | b :: l,n,h=>by
  have hb:=b.toNat_lt;have:=numB_bd_aux l (256 * n+(b.toNat:Int)) (by omega);simp only[List.foldl_cons,List.length_cons];refine⟨this.1,Int.lt_of_lt_of_le this.2 ?_⟩;rw[Int.pow_succ,Int.mul_comm (256 ^ l.length:Int) 256,← Int.mul_assoc];exact Int.mul_le_mul_of_nonneg_right (by omega) (Int.le_of_lt (Int.pow_pos (by omega)))
theorem numB_bd (l:List UInt8):0≤numB l∧numB l < 256 ^ l.length:=by
 have:=numB_bd_aux l 0 (by omega)
 simpa[numB] using this
theorem ofInt_i64 (a:Nat)(ha:a < 9223372036854775808):(BitVec.ofInt 64 (a:Int)).toNat=a:=by
 rw[BitVec.ofInt_natCast,BitVec.toNat_ofNat];exact Nat.mod_eq_of_lt (by omega)
theorem i64_or_nat (a b:Nat)(ha:a < 9223372036854775808)(hb:b < 9223372036854775808):bits .or .i64 (a:Int) (b:Int)=((a ||| b:Nat):Int):=by
 have hx:a ||| b < 2 ^ 63:=Nat.or_lt_two_pow (by omega) (by omega)
 show IntKind.i64.wrap ((BitVec.ofInt 64 (a:Int) ||| BitVec.ofInt 64 (b:Int)).toNat:Int)=_;rw[BitVec.toNat_or,ofInt_i64 a ha,ofInt_i64 b hb,IntKind.wrap_i64];omega
theorem or_byte (n b:Int)(h0:0≤n)(h1:n < 16777216)(hb0:0≤b)(hb1:b < 256):bits .or .i64 (n * 256) b=256 * n+b:=by
 obtain⟨m,rfl⟩:=Int.eq_ofNat_of_zero_le h0;obtain⟨c,rfl⟩:=Int.eq_ofNat_of_zero_le hb0
 have e:((m:Int) * 256)=((m * 256:Nat):Int):=by simp
 rw[e,i64_or_nat _ _ (by omega) (by omega)];have:=Nat.shiftLeft_add_eq_or_of_lt (b:=c) (i:=8) (by omega) m;rw[Nat.shiftLeft_eq] at this;rw[← this];simp;omega
theorem number_c {l:List UInt8}{A:Option Addr}{n c:Nat}{w:World}(h:Rd encB 1 w A n l)(hn:n≤4) :
 Calls Tryz.prog 207 #[.slice A n c] w fun e w'=>e=.returned (.int .i64 (numB l))∧w=w':=by
 have hl:=h.len;have HL:=hid hl;clear hl
 go_enter Tryz.func207,Tryz.ntmps207
 go_wp2_with fail
 go_loop [2,7] (fun v i=>∃(k:Nat) (m:Int),k≤n∧i=.int .i64 k∧v=.int .i64 m∧m=numB (l.take k)) (fun _ i=>n - (intOf i).toNat)
 case atStart=>exact⟨0,0,Nat.zero_le _,rfl,rfl,rfl⟩
 case round =>
  obtain⟨k,m,hk,rfl,rfl,hm⟩:=hrel;have HM:=hid hm;clear hm
  by_cases hlt:k < n
  · obtain⟨b,o,x,hA,_,hx,h0⟩:=h.atB hlt
    subst hA;have HX:=hid hx;clear hx
    have hx1:(x.toNat:Int) < 256:=by have:=x.toNat_lt;omega
    have hx0:(0:Int)≤(x.toNat:Int):=by omega
    have hbd:0≤m∧m < 16777216:=by
     rw[HM.out];have h1:=numB_bd (l.take k)
     have h2:(l.take k).length≤3:=by rw[List.length_take];omega
     have h3:(256:Int) ^ (l.take k).length≤256 ^ 3:=by
      have:=Nat.pow_le_pow_right (n:=256) (by omega) h2
      exact_mod_cast this
     omega
    have w1:IntKind.i64.wrap (m * 256)=m * 256:=wi (by omega);have w2:=or_byte m (x.toNat:Int) hbd.1 hbd.2 hx0 hx1
    go_wp2
    go_round
    case rel=>exact⟨k+1,256 * m+(x.toNat:Int),by omega,by go_num,rfl,by rw[List.take_add_one,HX.out,HM.out];exact(numB_snoc _ _).symm⟩
    case measure=>simp[intOf] <;> omega
  · obtain rfl:k=n:=by omega
    go_wp2
    go_ret
    exact⟨ret_int (by rw[HM.out,List.take_of_length_le (by rw[HL.out];exact Nat.le_refl _)]),rfl⟩
theorem run_eqItems_bytes {P:Program}{e:TypeId}(he:P.underlying e=some (.int .u8))(hs:P.cellsOf e=1)(d:Nat)(a b:List UInt8)(W:World):∀(is:List Nat),(∀ i∈is,i < a.length∧i < b.length) →
 (Op.eqItems (d+1) e (P.cellsOf e) (cellsB a) (cellsB b) is).run P W=.ok (is.all fun i=>a[i]? == b[i]?) W
 | [],_=>by simp[Op.eqItems]
 | i :: is,h=>by
  have hi:=h i (by simp);have ih:=run_eqItems_bytes he hs d a b W is (fun j hj=>h j (by simp[hj]))
  have hag:(isAgg e).run P W=.ok false W:=by unfold isAgg;simp[run_underlying he]
  have p1:(part e (cellsB a) (i * P.cellsOf e)).run P W=.ok (.int .u8 ((a[i]'hi.1).toNat:Int)) W:=by
   rw[hs];simp[part,hag,cellsB,hi.1]
  have p2:(part e (cellsB b) (i * P.cellsOf e)).run P W=.ok (.int .u8 ((b[i]'hi.2).toNat:Int)) W:=by
   rw[hs];simp[part,hag,cellsB,hi.2]
  have p3:(Op.equalIn (d+1) e (.int .u8 ((a[i]'hi.1).toNat:Int)) (.int .u8 ((b[i]'hi.2).toNat:Int))).run P W=.ok (a[i]? == b[i]?) W:=by
   simp[Op.equalIn,run_underlying he,hi.1,hi.2];rw[Bool.eq_iff_iff];simp;exact⟨fun h=>UInt8.toNat_inj.1 (by omega),fun h=>by rw[h]⟩
  simp only[Op.eqItems,Sem.run_bind,p1,p2,p3,Result.andThen_ok];cases hab:(a[i]? == b[i]?)
  · simp[hab]
  · simp[hab,ih]
theorem all_range_eq (a b:List UInt8)(n:Nat)(ha:a.length=n)(hb:b.length=n):((List.range n).all fun i=>a[i]? == b[i]?)=decide (a=b):=by
 rw[Bool.eq_iff_iff];simp only[List.all_eq_true,List.mem_range,beq_iff_eq,decide_eq_true_eq]
 constructor
 · intro h
   apply List.ext_getElem?
   intro i
   rcases Nat.lt_or_ge i n with hi | hi
   · exact h i hi
   · rw[List.getElem?_eq_none (by omega),List.getElem?_eq_none (by omega)]
 · rintro rfl i _;rfl
theorem info8:∃ i,Tryz.prog.info? 5=some i:=by
 obtain⟨i0,hi,_⟩:=info_parts (show(Tryz.prog.info? 5).map (fun i=>(i.zero,i.size,i.bytes))=some (some (.int .u8 0),1,1) by kernel_rfl);exact⟨i0,hi⟩
theorem run_eql_rec (a b:List UInt8)(ha:a.length=16)(hb:b.length=16)(W:World) :
 (binOp .eql 252 (.agg (cellsB a)) (.agg (cellsB b))).run Tryz.prog W=.ok (.bool (decide (a=b))) W:=by
 obtain⟨i8,hi8⟩:=info8;have h1:=run_equalIn_array (P:=Tryz.prog) W 9999 (cellsB a) (cellsB b) Tryz.underlying252 hi8;have h2:=run_eqItems_bytes (P:=Tryz.prog) Tryz.underlying5 (by kernel_rfl) 9998 a b W (List.range 16) (fun i hi=>by simp at hi;omega);simp only[binOp];simp[Op.equal,Op.maxDepth];rw[h1,h2,all_range_eq a b 16 ha hb];simp
def inB (n lo hi:Int):Bool:=decide (lo≤n) && decide (n≤hi)
theorem inB_iff {n lo hi:Int}:inB n lo hi=true↔lo≤n∧n≤hi:=by simp[inB]
theorem inB_not {n lo hi:Int}:inB n lo hi=false↔n < lo∨hi < n:=by
 rw[← Bool.not_eq_true,inB_iff];omega
theorem within_c (n lo hi:Int)(w:World) :
 Calls Tryz.prog 231 #[.int .i64 n,.int .i64 lo,.int .i64 hi] w fun e w'=>e=.returned (.bool (inB n lo hi))∧w=w':=by
 by_cases h:lo≤n
 · go_enter Tryz.func231,Tryz.ntmps231
   go_wp2
   go_ret
   exact⟨ret_bool (by simp[inB,h]),rfl⟩
 · have h':n < lo:=by omega
   go_enter Tryz.func231,Tryz.ntmps231
   go_wp2
   go_ret
   exact⟨ret_bool (inB_not.2 (.inl h')).symm,rfl⟩
theorem tick_c (n:Int)(w:World) :
 Calls Tryz.prog 232 #[.int .i64 n] w fun e w'=>e=.returned (.bool (inB n 0 1000000000))∧w=w':=by
 go_enter Tryz.func232,Tryz.ntmps232
 go_wp2_with (go_at_call 231;refine(within_c _ _ _ _).mono ?_;rintro e w' ⟨rfl,rfl⟩)
 go_ret
 exact⟨rfl,rfl⟩
theorem signal_c (n:Int)(w:World) :
 Calls Tryz.prog 233 #[.int .i64 n] w fun e w'=>e=.returned (.bool (inB n (-1000000000) 1000000000))∧w=w':=by
 go_enter Tryz.func233,Tryz.ntmps233
 go_wp2_with (go_at_call 231;refine(within_c _ _ _ _).mono ?_;rintro e w' ⟨rfl,rfl⟩)
 go_ret
 exact⟨rfl,rfl⟩
def allB {α:Type}(p:α→Bool)(l:List α):Bool:=l.all p
theorem allB_iff {α:Type}{p:α→Bool}{l:List α}:allB p l=true↔∀(i:Nat) (x:α),l[i]?=some x→p x=true:=by
 simp only[allB,List.all_eq_true]
 constructor
 · intro h i x hx;exact h x (List.mem_of_getElem? hx)
 · intro h x hx;obtain⟨i,hi⟩:=List.getElem?_of_mem hx;exact h i x hi
theorem allB_not {α:Type}{p:α→Bool}{l:List α}:allB p l=false↔∃(i:Nat) (x:α),l[i]?=some x∧p x=false:=by
 rw[← Bool.not_eq_true,allB_iff]
 constructor
 · intro h
   exact Classical.byContradiction fun hn=>h fun i x hx=>by
    cases hp:p x with
    | true=>rfl
    | false=>exact absurd ⟨i,x,hx,hp⟩ hn
 · rintro⟨i,x,hx,hp⟩ h
   rw[h i x hx] at hp;cases hp
section
variable {p:Rdg→Bool}
end
section
variable {p:Lst→Bool}
end
section
variable {p:Lst→Bool}
end
def validB (r:Rdg):Bool:=inB r.ins 0 255 && inB r.num 0 65535 && inB r.tim 0 1000000000 && inB r.val (-1000000000) 1000000000
theorem valid_c (r:Rdg)(w:World) :
 Calls Tryz.prog 208 #[.agg #[.int .i64 r.ins,.int .i64 r.num,.int .i64 r.tim,.int .i64 r.val]] w fun e w'=>e=.returned (.bool (validB r))∧Below w.heap.size w w':=by
 have hv:validB r=(inB r.ins 0 255 && inB r.num 0 65535 && inB r.tim 0 1000000000 && inB r.val (-1000000000) 1000000000):=rfl;cases h1:inB r.ins 0 255
 · have hm:validB r=false:=by rw[hv,h1];rfl
   have HM:=hid hm;clear hm hv
   go_enter Tryz.func208,Tryz.ntmps208
   go_wp2_with (first | (go_at_call 231;refine(within_c _ _ _ _).mono ?_;rintro e w' ⟨rfl,rfl⟩) | (go_at_call 232;refine(tick_c _ _).mono ?_;rintro e w' ⟨rfl,rfl⟩) | (go_at_call 233;refine(signal_c _ _).mono ?_;rintro e w' ⟨rfl,rfl⟩))
   go_ret
   exact⟨ret_bool HM.out.symm,(Below.refl _ _).alloc (Nat.le_refl _) _⟩
 · cases h2:inB r.num 0 65535
   · have hm:validB r=false:=by rw[hv,h1,h2];rfl
     have HM:=hid hm;clear hm hv
     go_enter Tryz.func208,Tryz.ntmps208
     go_wp2_with (first | (go_at_call 231;refine(within_c _ _ _ _).mono ?_;rintro e w' ⟨rfl,rfl⟩) | (go_at_call 232;refine(tick_c _ _).mono ?_;rintro e w' ⟨rfl,rfl⟩) | (go_at_call 233;refine(signal_c _ _).mono ?_;rintro e w' ⟨rfl,rfl⟩))
     go_ret
     exact⟨ret_bool HM.out.symm,(Below.refl _ _).alloc (Nat.le_refl _) _⟩
   · cases h3:inB r.tim 0 1000000000
     · have hm:validB r=false:=by rw[hv,h1,h2,h3];rfl
       have HM:=hid hm;clear hm hv
       go_enter Tryz.func208,Tryz.ntmps208
       go_wp2_with (first | (go_at_call 231;refine(within_c _ _ _ _).mono ?_;rintro e w' ⟨rfl,rfl⟩) | (go_at_call 232;refine(tick_c _ _).mono ?_;rintro e w' ⟨rfl,rfl⟩) | (go_at_call 233;refine(signal_c _ _).mono ?_;rintro e w' ⟨rfl,rfl⟩))
       go_ret
       exact⟨ret_bool HM.out.symm,(Below.refl _ _).alloc (Nat.le_refl _) _⟩
     · have hm:validB r=inB r.val (-1000000000) 1000000000:=by rw[hv,h1,h2,h3];rfl
       have HM:=hid hm;clear hm hv
       go_enter Tryz.func208,Tryz.ntmps208
       go_wp2_with (first | (go_at_call 231;refine(within_c _ _ _ _).mono ?_;rintro e w' ⟨rfl,rfl⟩) | (go_at_call 232;refine(tick_c _ _).mono ?_;rintro e w' ⟨rfl,rfl⟩) | (go_at_call 233;refine(signal_c _ _).mono ?_;rintro e w' ⟨rfl,rfl⟩))
       go_ret
       exact⟨ret_bool HM.out.symm,(Below.refl _ _).alloc (Nat.le_refl _) _⟩
def RdLL (w:World)(A:Option Addr)(n:Nat)(ls:List Lst):Prop:=Rd encL 1 w A n ls∧∀(i:Nat) (x:Lst),ls[i]?=some x→Rd encR 4 w x.A x.n x.l∧x.n≤maxLen∧x.n≤x.c
theorem RdLL.below {w w':World}{A:Option Addr}{n:Nat}{ls:List Lst}(h:RdLL w A n ls)(hb:Below w.heap.size w w'):RdLL w' A n ls :=
 ⟨h.1.mono hb,fun i x hx=>⟨(h.2 i x hx).1.mono hb,(h.2 i x hx).2⟩⟩
end Go.Proofs.YtlaengnhfjlphaaGreatDoor.Ga
namespace Go.Proofs.YtlaengnhfjlphaaGreatDoor.Ga
open Lib (hid)
open Go.RowKit
def Ext (w0:World):Type:={ W:World // Below w0.heap.size w0 W }
instance (w0:World):Nonempty (Ext w0):=⟨⟨w0,Below.refl _ _⟩⟩
def Ext.w {w0:World}(p:Ext w0):World:=p.1
theorem Ext.below {w0:World}(p:Ext w0):Below w0.heap.size w0 p.w:=p.2
@[go_sem] theorem Ext.cell {w0:World} (p:Ext w0) {b o:Nat} (h:b < w0.heap.size):p.w.cell? ⟨b,o,none⟩=w0.cell? ⟨b,o,none⟩:=p.below.cell (p:=⟨b,o,none⟩) h
@[go_sem] theorem Ext.ex {w0:World} (p:Ext w0):(∃ q:Ext w0,p.w=q.w)=True:=by simp only[eq_iff_iff,iff_true];exact⟨p,rfl⟩
section
variable {P:Program} {ops:Array Oper} {md:Region.Mode} {C:World→Prop}
end
end Go.Proofs.YtlaengnhfjlphaaGreatDoor.Ga
namespace Go.Proofs.YtlaengnhfjlphaaGreatDoor.Ga
open Lib (hid)
def markB (x:Int × Int):Bool:=inB x.1 0 1000000000 && inB x.2 0 1000000000
def Rising (l:List (Int × Int))(m:Nat):Prop:=∀(i:Nat) (x y:Int × Int),i < m→l[i]?=some x→l[i+1]?=some y→x.1 < y.1∧x.2 < y.2
def MarksOk (l:List (Int × Int)):Prop:=1≤l.length∧l.length≤10∧allB markB l=true∧Rising l (l.length - 1)
open Classical in
theorem Rising.zero (l:List (Int × Int)):Rising l 0:=fun i _ _ hi=>absurd hi (by omega)
theorem Rising.le {l:List (Int × Int)}{m:Nat}(h:Rising l m)(hm:l.length≤m+1):Rising l (l.length - 1):=fun i x y hi hx hy=>h i x y (by omega) hx hy
theorem Rising.succ {l:List (Int × Int)}{m:Nat}{x y:Int × Int}(h:Rising l m)(hx:l[m]?=some x)(hy:l[m+1]?=some y)(h1:x.1 < y.1)(h2:x.2 < y.2):Rising l (m+1):=by
 intro i u v hi hu hv
 rcases Nat.lt_or_ge i m with h' | h'
 · exact h i u v h' hu hv
 · obtain rfl:i=m:=by omega
   rw[hx] at hu;rw[hy] at hv;cases hu;cases hv;exact⟨h1,h2⟩
theorem lt_of_get {α:Type}{l:List α}{i:Nat}{x:α}(hx:l[i]?=some x):i < l.length:=(List.getElem?_eq_some_iff.1 hx).1
theorem get_of_lt {α:Type}{l:List α}{i:Nat}(h:i < l.length):∃ x,l[i]?=some x:=⟨_,List.getElem?_eq_getElem h⟩
theorem MarksOk.step {l:List (Int × Int)}(h:MarksOk l){i:Nat}{x y:Int × Int}(hx:l[i]?=some x)(hy:l[i+1]?=some y):x.1 < y.1∧x.2 < y.2 :=
 h.2.2.2 i x y (by have:=lt_of_get hy;omega) hx hy
theorem MarksOk.mono {l:List (Int × Int)}(h:MarksOk l){i:Nat}:∀ {j:Nat} {x y:Int × Int},i < j→l[i]?=some x→l[j]?=some y→x.1 < y.1∧x.2 < y.2:=by
 intro j
 induction j with
 | zero=>intro x y hij;omega
 | succ j ih =>
  intro x y hij hx hy;obtain⟨z,hz⟩:=get_of_lt (l:=l) (i:=j) (by have:=lt_of_get hy;omega);have h1:=h.step hz hy
  rcases Nat.lt_or_ge i j with h' | h'
  · have:=ih h' hx hz;omega
  · obtain rfl:i=j:=by omega
    rw[hx] at hz;cases hz;exact h1
def IsTime (l:List (Int × Int))(clock v:Int):Prop :=
 (∀ x,l[0]?=some x→clock≤x.1→v=x.2+clock - x.1)∧(∀ x,l[l.length - 1]?=some x→x.1≤clock→v=x.2+clock - x.1) ∧
 ∀(i:Nat) (x y:Int × Int),l[i]?=some x→l[i+1]?=some y→x.1≤clock→clock < y.1→v=x.2+(clock - x.1) * (y.2 - x.2) / (y.1 - x.1)
theorem IsTime.at_ {l:List (Int × Int)}{clock v:Int}(h:IsTime l clock v){i:Nat}{x:Int × Int}(hx:l[i]?=some x)(hlo:i=0∨x.1≤clock)(hhi:∀ y,l[i+1]?=some y→clock < y.1) :
 (clock≤x.1∨i=l.length - 1→v=x.2+clock - x.1)∧∀ y,l[i+1]?=some y→x.1 < clock→v=x.2+(clock - x.1) * (y.2 - x.2) / (y.1 - x.1):=by
 have hi:=lt_of_get hx
 constructor
 · intro hc
   by_cases hlast:i=l.length - 1
   · by_cases h1:x.1≤clock
     · exact h.2.1 x (by rw[← hlast];exact hx) h1
     · have h0:i=0:=by omega
       subst h0;exact h.1 x hx (by omega)
   · obtain⟨y,hy⟩:=get_of_lt (l:=l) (i:=i+1) (by omega)
     have h3:=hhi y hy
     by_cases h1:x.1≤clock
     · have h4:=h.2.2 i x y hx hy h1 h3
       have:clock - x.1=0:=by omega
       rw[h4,this,Int.zero_mul,Int.zero_ediv];omega
     · have h0:i=0:=by omega
       subst h0;exact h.1 x hx (by omega)
 · intro y hy hlt
   exact h.2.2 i x y hx hy (by omega) (hhi y hy)
open Go.RowKit Go.Proofs
def ptB (x:Int × Int):Bool:=inB x.1 0 1000000000 && inB x.2 (-1000000000) 1000000000
open Go.RowKit Go.Proofs
section
variable {p:Int × Int→Bool}
end
open Go.RowKit Go.Proofs
def SerUp (l:List (Int × Int))(m:Nat):Prop:=∀(i:Nat) (x y:Int × Int),i < m→l[i]?=some x→l[i+1]?=some y→x.1 < y.1
structure SerOk (l:List (Int × Int)):Prop where
 len:l.length≤60
 pts:allB ptB l=true
 up:SerUp l (l.length - 1)
theorem SerOk.pt {l:List (Int × Int)}(h:SerOk l){i:Nat}{x:Int × Int}(hx:l[i]?=some x):ptB x=true:=allB_iff.1 h.pts i x hx
theorem SerOk.step {l:List (Int × Int)}(h:SerOk l){i:Nat}{x y:Int × Int}(hx:l[i]?=some x)(hy:l[i+1]?=some y):x.1 < y.1 :=
 h.up i x y (by have:=lt_of_get hy;omega) hx hy
theorem SerOk.mono {l:List (Int × Int)}(h:SerOk l){i:Nat}:∀ {j:Nat} {x y:Int × Int},i < j→l[i]?=some x→l[j]?=some y→x.1 < y.1:=by
 intro j
 induction j with
 | zero=>intro x y hij;omega
 | succ j ih =>
  intro x y hij hx hy;obtain⟨z,hz⟩:=get_of_lt (l:=l) (i:=j) (by have:=lt_of_get hy;omega);have h1:=h.step hz hy
  rcases Nat.lt_or_ge i j with h' | h'
  · have:=ih h' hx hz;omega
  · obtain rfl:i=j:=by omega
    rw[hx] at hz;cases hz;exact h1
open Go.RowKit Go.Proofs
attribute [local go_sem ↓] Go.wp_at_zero Go.wp_at_succ
open Go.RowKit Go.Proofs
open Go.RowKit Go.Proofs
theorem infoRdg:(Tryz.prog.info? 168).map (fun i=>(i.zero,i.size,i.bytes))=some (some (.agg #[.int .i64 0,.int .i64 0,.int .i64 0,.int .i64 0]),4,32):=by kernel_rfl
end Go.Proofs.YtlaengnhfjlphaaGreatDoor.Ga
namespace Go.Proofs.YtlaengnhfjlphaaGreatDoor
open Lib (hid)
open Go.RowKit Go.Proofs
def OnlyN (Q:Exit→Act→World→Prop):Exit→Act→World→Prop
 | .normal,a,w=>Q .normal a w
 | _,_,_=>False
def noDefer (ops:Array Oper):Bool:=ops.toList.all fun o=>match o.op with | .defer _=>false | _=>true
theorem noDefer_at {ops:Array Oper}(h:noDefer ops=true){i:Nat}{o:Oper}(ho:ops[i]?=some o):∀ c,o.op≠.defer c:=by
 intro c e;unfold noDefer at h;rw[List.all_eq_true] at h;have:=h o (List.mem_of_getElem? (i:=i) (by simpa using ho));rw[e] at this;cases this
section
variable {n:Nat} {P:Program} {Q:Exit→Act→World→Prop}
theorem wpIn_of_wp {l:Nat}{o:Oper}{a:Act}{w:World}{K:Act→World→Prop}(hd:∀ c,o.op≠.defer c)(h:o.wp P a w K (OnlyN Q)):o.wpIn (Fence.wide.inRound l) n P a w K Q:=by
 unfold Oper.wp at h;unfold Oper.wpIn;refine⟨fun f _=>trivial,?_⟩;rw[Oper.semAt_plain _ _ _ hd];generalize (execOp a.eval o).run P w=r at *
 cases r with
 | ok x w' =>
  cases x <;> simp only[Oper.uponIn,Oper.upon] at h ⊢
  · exact h
  · exact h
  · refine⟨fun hh=>(by cases hh),CallsIn.inRound l (callsIn_wide.2 (Calls.mono h fun e w'' he=>?_))⟩
    cases e with
    | returned v=>exact he
    | panicked chain=>exact he.elim
    | outgrown=>obtain⟨_,_,he⟩:=he;exact he.elim
  · exact h
  · exact⟨fun hh=>(by cases hh),fun c cs _=>let ⟨v,w2,k,s⟩:=h c cs;⟨v,w2,k,stepsIn_wide.2 s⟩⟩
 | halt x w'=>cases x <;> simp only[Oper.uponIn,Oper.upon] at h ⊢ <;> exact h.elim
theorem wpOpIn_of_wpOp {l:Nat}{ops:Array Oper}(hd:noDefer ops=true){i:Nat}{K K':Act→World→Prop}(hK:∀ a w,K a w→K' a w){a:Act}{w:World}(h:wpOp P ops (OnlyN Q) i K a w):wpOpIn (Fence.wide.inRound l) n P ops Q i K' a w:=by
 unfold wpOp at h;unfold wpOpIn
 cases ho:ops[i]? with
 | none=>simp only[ho] at h ⊢;exact hK _ _ h
 | some o =>
  simp only[ho] at h ⊢
  split at h
  · rename_i hw
    rw[if_pos hw]
    rcases h with h | ⟨_,_,_,h⟩
    · exact Oper.wpIn_mono hK (wpIn_of_wp (noDefer_at hd ho) h)
    · exact h.elim
  · rename_i hw
    rw[if_neg hw];exact⟨fun f _=>trivial,hK _ _ h⟩
theorem wpAnyIn_of_wpAny {l:Nat}{ops:Array Oper}(hd:noDefer ops=true){md:Region.Mode}:∀(fuel:Nat) (listed:Array Bool) (a:Act) (w:World),wpAny P md ops (OnlyN Q) fuel listed a w→wpAnyIn (Fence.wide.inRound l) n P md ops Q fuel listed a w
 | 0,listed,a,w,h=>h
 | fuel+1,listed,a,w,h=>⟨h.1,fun i hi=>wpOpIn_of_wpOp hd (fun a w h=>wpAnyIn_of_wpAny hd fuel _ a w h) (h.2 i hi)⟩
end
end Go.Proofs.YtlaengnhfjlphaaGreatDoor
namespace Go.Proofs.YtlaengnhfjlphaaGreatDoor
open Lib (hid)
theorem book_app:∀(l r:List (List UInt8)) (c:Nat),bookW (l++r) c=bookW l c++bookW r (l.foldl chkW c)
 | [],_,_=>rfl
 | s :: l,r,c=>by rw[List.cons_append,bookW,book_app l r,bookW,List.append_assoc];rfl
theorem fold_lt:∀(l:List (List UInt8)) {c:Nat},c < 11881357→l.foldl chkW c < 11881357
 | [],_,h=>h
 | s :: l,_,h=>fold_lt l (chk_lt h s)
theorem book_succ {l:List (List UInt8)}{n c:Nat}{s:List UInt8}(h:l[n]?=some s):bookW (l.take (n+1)) c=bookW (l.take n) c++recW s ((l.take n).foldl chkW c):=by
 rw[List.take_add_one,h,Option.toList_some,book_app,bookW,bookW,List.append_nil]
section
variable {l:List (List UInt8)} (hs:∀ s∈l,s.length≤300) (hl:l.length≤60)
include hs hl
end
open Go.RowKit Go.Proofs Go.ChangeShapes Go.WideShapes Go.Deep
theorem list_choice {α:Type}{P:Nat→α→Prop}:∀(n:Nat),(∀ i,i < n→∃ x,P i x)→∃ l:List α,l.length=n∧∀(i:Nat) (x:α),l[i]?=some x→P i x
 | 0,_=>⟨[],rfl,fun i x h=>by simp at h⟩
 | n+1,h=>by
  obtain⟨l,hl,hp⟩:=list_choice n (fun i hi=>h i (by omega));obtain⟨x,hx⟩:=h n (by omega);refine⟨l++[x],by simp[hl],fun i y hy=>?_⟩
  rcases Nat.lt_or_ge i n with h' | h'
  · rw[List.getElem?_append_left (by omega)] at hy;exact hp i y hy
  · rw[List.getElem?_append_right (by omega)] at hy
    have:i=n:=by
     have:=(List.getElem?_eq_some_iff.1 hy).1;simp at this;omega
    subst this;simp[hl] at hy;subst hy;exact hx
section
variable {H:Type} {enc:TypeId × Value→H} {P:Program} {w:World} {base:Nat} {spare:Nat→Bool} {held:Bool}
theorem rd_gen {α:Type}{en:α→List Value}{k:Nat}{Q:α→Prop}{t e:TypeId}(ht:P.underlying t=some (.slice e))(hC:P.cellsOf e=k)(hk:0 < k)
 (hel:∀(fuel:Nat) (cs:List Value) (x:DataW H × List MemPlace),DataW.trod enc P w base spare held fuel e cs=some x→∃ a,en a=cs∧Q a) {fuel:Nat} {cs:List Value} {x:DataW H × List MemPlace}
 (h:DataW.trod enc P w base spare held fuel t cs=some x):∃ A len cap l,cs=[.slice A len cap]∧Rd en k w A len l∧len≤cap∧cap≤maxLen∧∀ a∈l,Q a:=by
 rcases open_slice ht h with h0 | ⟨a,len,cap,m,n,D,Pl,hcs,hb,hl,hm,hmm,hx,hi⟩
 · exact⟨none,0,0,[],h0.1,Rd.nil _ _ _ _,Nat.le_refl _,Nat.zero_le _,fun x hx=>by cases hx⟩
 · have hlm:len≤m:=by rw[hmm];split <;> omega
   obtain⟨l,hll,hp⟩:=list_choice (P:=fun i (x:α)=>Q x∧(en x).length=k∧∀ j,j < k→w.cell? (a.add (i * k+j))=(en x)[j]?) len (fun i him=>by
    obtain⟨cs',hc,ht'⟩:=hi i (by omega);obtain⟨x,hex,hq⟩:=hel _ _ _ ht';rw[hC] at hc;obtain⟨_,hcl,hat⟩:=World.cells?_some hc;refine⟨x,hq,by rw[hex,hcl],fun j hj=>?_⟩;have:=hat j hj;rw[Go.Deep.add_add] at this
    rw[hex];exact this)
   refine⟨some a,len,cap,l,hcs,⟨hll,fun hn=>?_⟩,hl,hm,fun x hx=>?_⟩
   · obtain⟨x0,hx0⟩:∃ x,l[0]?=some x:=⟨_,List.getElem?_eq_getElem (by omega)⟩
     obtain⟨_,hl0,hc⟩:=hp 0 x0 hx0;obtain⟨b,off,spot⟩:=a;have hc0:=hc 0 hk;rw[List.getElem?_eq_getElem (by omega)] at hc0
     have hsp:spot=none:=by simpa[Addr.add] using World.cell?_spot hc0
     subst hsp;refine⟨b,off,rfl,?_,fun i x hx j v hv=>?_⟩
     · simp only[Nat.zero_mul,Nat.add_zero,Addr.add,if_true] at hc0
       exact World.block_lt_of_cell? w _ hc0
     · obtain⟨_,hlx,hc⟩:=hp i x hx
       have hj:j < k:=by have:=(List.getElem?_eq_some_iff.1 hv).1;omega
       have:=hc j hj
       have hadd:(⟨b,off,none⟩:Addr).add (i * k+j)=⟨b,off+(i * k+j),none⟩:=by unfold Addr.add;split <;> simp_all
       rw[hadd,← Nat.add_assoc,hv] at this;exact this
   · obtain⟨i,hix⟩:=List.getElem?_of_mem hx
     exact(hp i x hix).1
end
section
variable {H:Type} {enc:TypeId × Value→H} {w:World} {base:Nat} {spare:Nat→Bool} {held:Bool}
end
section
variable {H:Type} {enc:TypeId × Value→H} {P:Program} {w:World} {base:Nat} {spare:Nat→Bool} {held:Bool}
end
end Go.Proofs.YtlaengnhfjlphaaGreatDoor
