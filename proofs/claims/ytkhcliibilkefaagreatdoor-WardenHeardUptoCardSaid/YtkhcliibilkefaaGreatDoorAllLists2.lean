/- THE CONTRACT of gauge.number: the number of some bytes; and '==' of two records. -/
import Derived.Test.YtkhcliibilkefaaGreatDoorRecord
import Derived.Laws.BitsAllLaws
import Derived.ChangeKeysEq
set_option linter.unusedVariables false
set_option linter.unusedSimpArgs false
set_option maxRecDepth 100000
set_option maxHeartbeats 8000000
namespace Go.Proofs.YtkhcliibilkefaaGreatDoor.Ga
open Lib (hid)
open Go.RowKit Go.Proofs
def numB (l:List UInt8):Int:=l.foldl (fun(n:Int) (b:UInt8)=>256 * n+(b.toNat:Int)) 0
theorem numB_snoc (l:List UInt8)(b:UInt8):numB (l++[b])=256 * numB l+(b.toNat:Int):=by simp[numB]
theorem numB_bd_aux:∀(l:List UInt8) (n:Int),0≤n→0≤l.foldl (fun(n:Int) (b:UInt8)=>256 * n+(b.toNat:Int)) n∧l.foldl (fun(n:Int) (b:UInt8)=>256 * n+(b.toNat:Int)) n<(n+1) * 256 ^ l.length
 | [],n,h=>⟨h,by simp;omega⟩
 | b::l,n,h=>by
  have hb:=b.toNat_lt;have:=numB_bd_aux l (256 * n+(b.toNat:Int)) (by omega);simp only[List.foldl_cons,List.length_cons];refine⟨this.1,Int.lt_of_lt_of_le this.2 ?_⟩;rw[Int.pow_succ,Int.mul_comm (256 ^ l.length:Int) 256,← Int.mul_assoc];exact Int.mul_le_mul_of_nonneg_right (by omega) (Int.le_of_lt (Int.pow_pos (by omega)))
theorem numB_bd (l:List UInt8):0≤numB l∧numB l<256 ^ l.length:=by
 have:=numB_bd_aux l 0 (by omega)
 simpa[numB] using this
theorem ofInt_i64 (a:Nat)(ha:a<9223372036854775808):(BitVec.ofInt 64 (a:Int)).toNat=a:=by
 rw[BitVec.ofInt_natCast,BitVec.toNat_ofNat];exact Nat.mod_eq_of_lt (by omega)
theorem i64_or_nat (a b:Nat)(ha:a<9223372036854775808)(hb:b<9223372036854775808):bits .or .i64 (a:Int) (b:Int)=((a ||| b:Nat):Int):=by
 have hx:a ||| b<2 ^ 63:=Nat.or_lt_two_pow (by omega) (by omega)
 show IntKind.i64.wrap ((BitVec.ofInt 64 (a:Int) ||| BitVec.ofInt 64 (b:Int)).toNat:Int)=_;rw[BitVec.toNat_or,ofInt_i64 a ha,ofInt_i64 b hb,IntKind.wrap_i64];omega
theorem or_byte (n b:Int)(h0:0≤n)(h1:n<16777216)(hb0:0≤b)(hb1:b<256):bits .or .i64 (n * 256) b=256 * n+b:=by
 obtain⟨m,rfl⟩:=Int.eq_ofNat_of_zero_le h0;obtain⟨c,rfl⟩:=Int.eq_ofNat_of_zero_le hb0
 have e:((m:Int) * 256)=((m * 256:Nat):Int):=by simp
 rw[e,i64_or_nat _ _ (by omega) (by omega)];have:=Nat.shiftLeft_add_eq_or_of_lt (b:=c) (i:=8) (by omega) m;rw[Nat.shiftLeft_eq] at this;rw[← this];simp;omega
theorem number_c {l:List UInt8}{A:Option Addr}{n c:Nat}{w:World}(h:Rd encB 1 w A n l)(hn:n≤4) :
 Calls Tryz.prog 60 #[.slice A n c] w fun e w'=>e=.returned (.int .i64 (numB l))∧w=w':=by
 have hl:=h.len;have HL:=hid hl;clear hl
 go_enter Tryz.func60,Tryz.ntmps60
 go_wp2_with fail
 go_loop [2,7] (fun v i=>∃(k:Nat) (m:Int),k≤n∧i=.int .i64 k∧v=.int .i64 m∧m=numB (l.take k)) (fun _ i=>n - (intOf i).toNat)
 case atStart=>exact⟨0,0,Nat.zero_le _,rfl,rfl,rfl⟩
 case round =>
  obtain⟨k,m,hk,rfl,rfl,hm⟩:=hrel;have HM:=hid hm;clear hm
  by_cases hlt:k<n
  · obtain⟨b,o,x,hA,_,hx,h0⟩:=h.atB hlt
    subst hA;have HX:=hid hx;clear hx
    have hx1:(x.toNat:Int)<256:=by have:=x.toNat_lt;omega
    have hx0:(0:Int)≤(x.toNat:Int):=by omega
    have hbd:0≤m∧m<16777216:=by
     rw[HM.out];have h1:=numB_bd (l.take k)
     have h2:(l.take k).length≤3:=by rw[List.length_take];omega
     have h3:(256:Int) ^ (l.take k).length≤256 ^ 3:=by
      have:=Nat.pow_le_pow_right (n:=256) (by omega) h2
      exact_mod_cast this
     omega
    have w1:IntKind.i64.wrap (m * 256)=m * 256:=wi (by omega);have w2:=or_byte m (x.toNat:Int) hbd.1 hbd.2 hx0 hx1
    go_wp2
    go_round
    case rel=>exact⟨k+1,256 * m+(x.toNat:Int),by omega,by go_num,rfl,by rw[List.take_add_one,HX.out,HM.out];exact(numB_snoc _ _).symm⟩
    case measure=>simp[intOf]<;>omega
  · obtain rfl:k=n:=by omega
    go_wp2
    go_ret
    exact⟨ret_int (by rw[HM.out,List.take_of_length_le (by rw[HL.out];exact Nat.le_refl _)]),rfl⟩
theorem run_eqItems_bytes {P:Program}{e:TypeId}(he:P.underlying e=some (.int .u8))(hs:P.cellsOf e=1)(d:Nat)(a b:List UInt8)(W:World):∀(is:List Nat),(∀ i∈is,i<a.length∧i<b.length) →
 (Op.eqItems (d+1) e (P.cellsOf e) (cellsB a) (cellsB b) is).run P W=.ok (is.all fun i=>a[i]? == b[i]?) W
 | [],_=>by simp[Op.eqItems]
 | i::is,h=>by
  have hi:=h i (by simp);have ih:=run_eqItems_bytes he hs d a b W is (fun j hj=>h j (by simp[hj]))
  have hag:(isAgg e).run P W=.ok false W:=by unfold isAgg;simp[run_underlying he]
  have p1:(part e (cellsB a) (i * P.cellsOf e)).run P W=.ok (.int .u8 ((a[i]'hi.1).toNat:Int)) W:=by
   rw[hs];simp[part,hag,cellsB,hi.1]
  have p2:(part e (cellsB b) (i * P.cellsOf e)).run P W=.ok (.int .u8 ((b[i]'hi.2).toNat:Int)) W:=by
   rw[hs];simp[part,hag,cellsB,hi.2]
  have p3:(Op.equalIn (d+1) e (.int .u8 ((a[i]'hi.1).toNat:Int)) (.int .u8 ((b[i]'hi.2).toNat:Int))).run P W=.ok (a[i]? == b[i]?) W:=by
   simp[Op.equalIn,run_underlying he,hi.1,hi.2];rw[Bool.eq_iff_iff];simp;exact⟨fun h=>UInt8.toNat_inj.1 (by omega),fun h=>by rw[h]⟩
  simp only[Op.eqItems,Sem.run_bind,p1,p2,p3,Result.andThen_ok];cases hab:(a[i]? == b[i]?)
  · simp[hab]
  · simp[hab,ih]
theorem all_range_eq (a b:List UInt8)(n:Nat)(ha:a.length=n)(hb:b.length=n):((List.range n).all fun i=>a[i]? == b[i]?)=decide (a=b):=by
 rw[Bool.eq_iff_iff];simp only[List.all_eq_true,List.mem_range,beq_iff_eq,decide_eq_true_eq]
 constructor
 · intro h
   apply List.ext_getElem?
   intro i
   rcases Nat.lt_or_ge i n with hi | hi
   · exact h i hi
   · rw[List.getElem?_eq_none (by omega),List.getElem?_eq_none (by omega)]
 · rintro rfl i _;rfl
theorem info8:∃ i,Tryz.prog.info? 5=some i:=by
 obtain⟨i0,hi,_⟩:=info_parts (show(Tryz.prog.info? 5).map (fun i=>(i.zero,i.size,i.bytes))=some (some (.int .u8 0),1,1) by kernel_rfl);exact⟨i0,hi⟩
theorem run_eql_rec (a b:List UInt8)(ha:a.length=16)(hb:b.length=16)(W:World) :
 (binOp .eql 92 (.agg (cellsB a)) (.agg (cellsB b))).run Tryz.prog W=.ok (.bool (decide (a=b))) W:=by
 obtain⟨i8,hi8⟩:=info8;have h1:=run_equalIn_array (P:=Tryz.prog) W 9999 (cellsB a) (cellsB b) Tryz.underlying92 hi8;have h2:=run_eqItems_bytes (P:=Tryz.prog) Tryz.underlying5 (by kernel_rfl) 9998 a b W (List.range 16) (fun i hi=>by simp at hi;omega);simp only[binOp];simp[Op.equal,Op.maxDepth];rw[h1,h2,all_range_eq a b 16 ha hb];simp
def inB (n lo hi:Int):Bool:=decide (lo≤n) && decide (n≤hi)
theorem inB_iff {n lo hi:Int}:inB n lo hi=true↔lo≤n∧n≤hi:=by simp[inB]
theorem inB_not {n lo hi:Int}:inB n lo hi=false↔n<lo∨hi<n:=by
 rw[← Bool.not_eq_true,inB_iff];omega
theorem within_c (n lo hi:Int)(w:World) :
 Calls Tryz.prog 65 #[.int .i64 n,.int .i64 lo,.int .i64 hi] w fun e w'=>e=.returned (.bool (inB n lo hi))∧w=w':=by
 by_cases h:lo≤n
 · go_enter Tryz.func65,Tryz.ntmps65
   go_wp2
   go_ret
   exact⟨ret_bool (by simp[inB,h]),rfl⟩
 · have h':n<lo:=by omega
   go_enter Tryz.func65,Tryz.ntmps65
   go_wp2
   go_ret
   exact⟨ret_bool (inB_not.2 (.inl h')).symm,rfl⟩
theorem tick_c (n:Int)(w:World) :
 Calls Tryz.prog 66 #[.int .i64 n] w fun e w'=>e=.returned (.bool (inB n 0 1000000000))∧w=w':=by
 go_enter Tryz.func66,Tryz.ntmps66
 go_wp2_with (go_at_call 65;refine(within_c _ _ _ _).mono ?_;rintro e w' ⟨rfl,rfl⟩)
 go_ret
 exact⟨rfl,rfl⟩
theorem signal_c (n:Int)(w:World) :
 Calls Tryz.prog 67 #[.int .i64 n] w fun e w'=>e=.returned (.bool (inB n (-1000000000) 1000000000))∧w=w':=by
 go_enter Tryz.func67,Tryz.ntmps67
 go_wp2_with (go_at_call 65;refine(within_c _ _ _ _).mono ?_;rintro e w' ⟨rfl,rfl⟩)
 go_ret
 exact⟨rfl,rfl⟩
def allB {α:Type}(p:α→Bool)(l:List α):Bool:=l.all p
theorem allB_iff {α:Type}{p:α→Bool}{l:List α}:allB p l=true↔∀(i:Nat) (x:α),l[i]?=some x→p x=true:=by
 simp only[allB,List.all_eq_true]
 constructor
 · intro h i x hx;exact h x (List.mem_of_getElem? hx)
 · intro h x hx;obtain⟨i,hi⟩:=List.getElem?_of_mem hx;exact h i x hi
theorem allB_not {α:Type}{p:α→Bool}{l:List α}:allB p l=false↔∃(i:Nat) (x:α),l[i]?=some x∧p x=false:=by
 rw[← Bool.not_eq_true,allB_iff]
 constructor
 · intro h
   exact Classical.byContradiction fun hn=>h fun i x hx=>by
    cases hp:p x with
    | true=>rfl
    | false=>exact absurd ⟨i,x,hx,hp⟩ hn
 · rintro⟨i,x,hx,hp⟩ h
   rw[h i x hx] at hp;cases hp
section
variable {p:Rdg→Bool}
theorem allReading_1 (x:Rdg)(B:Nat)(w:World)(_hBl:B<w.heap.size)(hB:w.cell? ⟨B,0,none⟩=some (.func (.func 48) #[] #[]))
 (hp:∀ W:World,Below w.heap.size w W→Calls Tryz.prog 48 #[.agg #[.int .i64 x.ins,.int .i64 x.num,.int .i64 x.tim,.int .i64 x.val]] W fun e w'=>e=.returned (.bool (p x))∧Below W.heap.size W w') :
 Calls Tryz.prog 64 #[.agg #[.int .i64 x.ins,.int .i64 x.num,.int .i64 x.tim,.int .i64 x.val],.pointer (some ⟨B,0,none⟩)] w fun e w'=>e=.returned (.bool (!p x))∧Below w.heap.size w w':=by
 have hp':=hp (w.alloc (.cells #[.int .i64 x.ins,.int .i64 x.num,.int .i64 x.tim,.int .i64 x.val] 86)) ((Below.refl w.heap.size w).alloc (Nat.le_refl _) (.cells #[.int .i64 x.ins,.int .i64 x.num,.int .i64 x.tim,.int .i64 x.val] 86));have HP:=hid hp';clear hp hp'
 go_enter Tryz.func64,Tryz.ntmps64
 go_wp2_with (go_at_call 48;refine(HP.out).mono ?_;rintro e w' ⟨rfl,hb⟩)
 go_ret
 exact⟨rfl,((Below.refl _ _).alloc (Nat.le_refl _) _).trans (hb.mono (by simp))⟩
theorem idxReading_c {l:List (Rdg)}{A:Option Addr}{n c:Nat}{B:Nat}(w:World)(h:Rd encR 4 w A n l)(hn:n≤maxLen)(hBl:B<w.heap.size)
 (hB:w.cell? ⟨B,0,none⟩=some (.func (.func 48) #[] #[]))
 (hp:∀(i:Nat) (x:Rdg) (W:World),l[i]?=some x→Below w.heap.size w W→Calls Tryz.prog 48 #[.agg #[.int .i64 x.ins,.int .i64 x.num,.int .i64 x.tim,.int .i64 x.val]] W fun e w'=>e=.returned (.bool (p x))∧Below W.heap.size W w') :
 Calls Tryz.prog 88 #[.slice A n c,.func (.func 64) #[] #[.pointer (some ⟨B,0,none⟩)]] w
  fun e w'=>(∃ r:Int,e=.returned (.int .i64 r)∧(!decide (r≥0))=allB p l)∧Below w.heap.size w w':=by
 unfold maxLen at hn;have HP:=hid hp;clear hp
 go_enter Tryz.func88,Tryz.ntmps88
 go_wp2_with fail
 go_loopw [5,8] (fun _ i wr=>∃ k:Nat,k≤n∧i=.int .i64 k∧Below w.heap.size w wr∧∀(j:Nat) (x:Rdg),j<k→l[j]?=some x→p x=true) (fun _ i _=>n - (intOf i).toNat)
 case atStart=>exact⟨0,Nat.zero_le _,rfl,Below.refl _ _,fun j x hj=>absurd hj (by omega)⟩
 case round =>
  obtain⟨k,hk,rfl,hb,hall⟩:=hrel;have HA:=hid hall;clear hall
  by_cases hlt:k<n
  · obtain⟨b,o,x,rfl,hbl,hx,h0,h1,h2,h3⟩:=(h.below hb).at4 hlt
    have hx1:=fun W (hW:Below wr.heap.size wr W)=>HP.out k x W hx (hb.trans (hW.mono hb.size));have HX1:=hid hx1;clear hx1;have HX:=hid hx;clear hx;have hB':=(hb.cell (p:=⟨B,0,none⟩) hBl).trans hB;have hBl':B<wr.heap.size:=Nat.lt_of_lt_of_le hBl hb.size;cases hm:p x
    all_goals
     have HM:=hid hm;clear hm
     go_wp2_with (go_at_call 64;refine(allReading_1 _ _ _ hBl' hB' HX1.out).mono ?_;rintro e w' ⟨rfl,hb'⟩;simp only[HM.out])
    · go_ret
      exact⟨⟨k,rfl,by rw[(allB_not (p:=p) (l:=l)).2 ⟨k,x,HX.out,HM.out⟩];simp⟩,hb.trans (hb'.mono hb.size)⟩
    · go_roundw
      case rel=>exact⟨k+1,by omega,by go_num,hb.trans (hb'.mono hb.size),fun j y hj hy=>by
       rcases Nat.lt_or_ge j k with hjk | hjk
       · exact HA.out j y hjk hy
       · obtain rfl:j=k:=by omega
         rw[HX.out] at hy;cases hy;exact HM.out⟩
      case measure=>simp[intOf];omega
  · go_wp2
    go_ret
    refine⟨⟨-1,rfl,?_⟩,hb⟩;rw[(allB_iff (p:=p) (l:=l)).2 fun i x hx=>HA.out i x (by have:=(List.getElem?_eq_some_iff.1 hx).1;have:=h.len;omega) hx];simp
theorem containsReading_c {l:List (Rdg)}{A:Option Addr}{n c:Nat}{B:Nat}(w:World)(h:Rd encR 4 w A n l)(hn:n≤maxLen)(hBl:B<w.heap.size)
 (hB:w.cell? ⟨B,0,none⟩=some (.func (.func 48) #[] #[]))
 (hp:∀(i:Nat) (x:Rdg) (W:World),l[i]?=some x→Below w.heap.size w W→Calls Tryz.prog 48 #[.agg #[.int .i64 x.ins,.int .i64 x.num,.int .i64 x.tim,.int .i64 x.val]] W fun e w'=>e=.returned (.bool (p x))∧Below W.heap.size W w') :
 Calls Tryz.prog 63 #[.slice A n c,.func (.func 64) #[] #[.pointer (some ⟨B,0,none⟩)]] w
  fun e w'=>e=.returned (.bool (!allB p l))∧Below w.heap.size w w':=by
 have hc:=idxReading_c (c:=c) w h hn hBl hB hp;have HC:=hid hc;clear hc hp
 go_enter Tryz.func63,Tryz.ntmps63
 go_wp2_with (go_at_call 88;refine(HC.out).mono ?_;rintro e w' ⟨⟨r,rfl,hr⟩,hb⟩;have HR:=hid hr;clear hr)
 go_ret
 exact⟨ret_bool (by rw[← HR.out];simp),hb⟩
theorem allReading_c {l:List (Rdg)}{A:Option Addr}{n c:Nat}(w:World)(h:Rd encR 4 w A n l)(hn:n≤maxLen)
 (hp:∀(i:Nat) (x:Rdg) (W:World),l[i]?=some x→Below w.heap.size w W→Calls Tryz.prog 48 #[.agg #[.int .i64 x.ins,.int .i64 x.num,.int .i64 x.tim,.int .i64 x.val]] W fun e w'=>e=.returned (.bool (p x))∧Below W.heap.size W w') :
 Calls Tryz.prog 47 #[.slice A n c,.func (.func 48) #[] #[]] w
  fun e w'=>e=.returned (.bool (allB p l))∧Below w.heap.size w w':=by
 have hbx:=(Below.refl w.heap.size w).alloc (Nat.le_refl _) (.cells #[.func (.func 48) #[] #[]] 114);have hc:=containsReading_c (c:=c) (B:=w.heap.size) (w.alloc (.cells #[.func (.func 48) #[] #[]] 114)) (h.mono hbx) hn (by simp) (by simp) (fun i x W hx hW=>hp i x W hx (hbx.trans (hW.mono (by simp))));have HC:=hid hc;clear hc hp
 go_enter Tryz.func47,Tryz.ntmps47
 go_wp2_with (go_at_call 63;refine(HC.out).mono ?_;rintro e w' ⟨rfl,hb⟩)
 go_ret
 exact⟨ret_bool (by simp),((Below.refl _ _).alloc (Nat.le_refl _) _).trans (hb.mono (by simp))⟩
end
section
variable {p:Lst→Bool}
theorem allLists1_1 (x:Lst)(B:Nat)(w:World)(_hBl:B<w.heap.size)(hB:w.cell? ⟨B,0,none⟩=some (.func (.func 45) #[] #[]))
 (hp:∀ W:World,Below w.heap.size w W→Calls Tryz.prog 45 #[.slice x.A x.n x.c] W fun e w'=>e=.returned (.bool (p x))∧Below W.heap.size W w') :
 Calls Tryz.prog 62 #[.slice x.A x.n x.c,.pointer (some ⟨B,0,none⟩)] w fun e w'=>e=.returned (.bool (!p x))∧Below w.heap.size w w':=by
 have hp':=hp w (Below.refl _ _);have HP:=hid hp';clear hp hp'
 go_enter Tryz.func62,Tryz.ntmps62
 go_wp2_with (go_at_call 45;refine(HP.out).mono ?_;rintro e w' ⟨rfl,hb⟩)
 go_ret
 exact⟨rfl,hb⟩
theorem idxLists1_c {l:List (Lst)}{A:Option Addr}{n c:Nat}{B:Nat}(w:World)(h:Rd encL 1 w A n l)(hn:n≤maxLen)(hBl:B<w.heap.size)
 (hB:w.cell? ⟨B,0,none⟩=some (.func (.func 45) #[] #[]))
 (hp:∀(i:Nat) (x:Lst) (W:World),l[i]?=some x→Below w.heap.size w W→Calls Tryz.prog 45 #[.slice x.A x.n x.c] W fun e w'=>e=.returned (.bool (p x))∧Below W.heap.size W w') :
 Calls Tryz.prog 87 #[.slice A n c,.func (.func 62) #[] #[.pointer (some ⟨B,0,none⟩)]] w
  fun e w'=>(∃ r:Int,e=.returned (.int .i64 r)∧(!decide (r≥0))=allB p l)∧Below w.heap.size w w':=by
 unfold maxLen at hn;have HP:=hid hp;clear hp
 go_enter Tryz.func87,Tryz.ntmps87
 go_wp2_with fail
 go_loopw [5,8] (fun _ i wr=>∃ k:Nat,k≤n∧i=.int .i64 k∧Below w.heap.size w wr∧∀(j:Nat) (x:Lst),j<k→l[j]?=some x→p x=true) (fun _ i _=>n - (intOf i).toNat)
 case atStart=>exact⟨0,Nat.zero_le _,rfl,Below.refl _ _,fun j x hj=>absurd hj (by omega)⟩
 case round =>
  obtain⟨k,hk,rfl,hb,hall⟩:=hrel;have HA:=hid hall;clear hall
  by_cases hlt:k<n
  · obtain⟨b,o,x,rfl,hbl,hx,h0⟩:=(h.below hb).atL hlt
    have hx1:=fun W (hW:Below wr.heap.size wr W)=>HP.out k x W hx (hb.trans (hW.mono hb.size));have HX1:=hid hx1;clear hx1;have HX:=hid hx;clear hx;have hB':=(hb.cell (p:=⟨B,0,none⟩) hBl).trans hB;have hBl':B<wr.heap.size:=Nat.lt_of_lt_of_le hBl hb.size;cases hm:p x
    all_goals
     have HM:=hid hm;clear hm
     go_wp2_with (go_at_call 62;refine(allLists1_1 _ _ _ hBl' hB' HX1.out).mono ?_;rintro e w' ⟨rfl,hb'⟩;simp only[HM.out])
    · go_ret
      exact⟨⟨k,rfl,by rw[(allB_not (p:=p) (l:=l)).2 ⟨k,x,HX.out,HM.out⟩];simp⟩,hb.trans (hb'.mono hb.size)⟩
    · go_roundw
      case rel=>exact⟨k+1,by omega,by go_num,hb.trans (hb'.mono hb.size),fun j y hj hy=>by
       rcases Nat.lt_or_ge j k with hjk | hjk
       · exact HA.out j y hjk hy
       · obtain rfl:j=k:=by omega
         rw[HX.out] at hy;cases hy;exact HM.out⟩
      case measure=>simp[intOf];omega
  · go_wp2
    go_ret
    refine⟨⟨-1,rfl,?_⟩,hb⟩;rw[(allB_iff (p:=p) (l:=l)).2 fun i x hx=>HA.out i x (by have:=(List.getElem?_eq_some_iff.1 hx).1;have:=h.len;omega) hx];simp
theorem containsLists1_c {l:List (Lst)}{A:Option Addr}{n c:Nat}{B:Nat}(w:World)(h:Rd encL 1 w A n l)(hn:n≤maxLen)(hBl:B<w.heap.size)
 (hB:w.cell? ⟨B,0,none⟩=some (.func (.func 45) #[] #[]))
 (hp:∀(i:Nat) (x:Lst) (W:World),l[i]?=some x→Below w.heap.size w W→Calls Tryz.prog 45 #[.slice x.A x.n x.c] W fun e w'=>e=.returned (.bool (p x))∧Below W.heap.size W w') :
 Calls Tryz.prog 61 #[.slice A n c,.func (.func 62) #[] #[.pointer (some ⟨B,0,none⟩)]] w
  fun e w'=>e=.returned (.bool (!allB p l))∧Below w.heap.size w w':=by
 have hc:=idxLists1_c (c:=c) w h hn hBl hB hp;have HC:=hid hc;clear hc hp
 go_enter Tryz.func61,Tryz.ntmps61
 go_wp2_with (go_at_call 87;refine(HC.out).mono ?_;rintro e w' ⟨⟨r,rfl,hr⟩,hb⟩;have HR:=hid hr;clear hr)
 go_ret
 exact⟨ret_bool (by rw[← HR.out];simp),hb⟩
theorem allLists1_c {l:List (Lst)}{A:Option Addr}{n c:Nat}(w:World)(h:Rd encL 1 w A n l)(hn:n≤maxLen)
 (hp:∀(i:Nat) (x:Lst) (W:World),l[i]?=some x→Below w.heap.size w W→Calls Tryz.prog 45 #[.slice x.A x.n x.c] W fun e w'=>e=.returned (.bool (p x))∧Below W.heap.size W w') :
 Calls Tryz.prog 44 #[.slice A n c,.func (.func 45) #[] #[]] w
  fun e w'=>e=.returned (.bool (allB p l))∧Below w.heap.size w w':=by
 have hbx:=(Below.refl w.heap.size w).alloc (Nat.le_refl _) (.cells #[.func (.func 45) #[] #[]] 112);have hc:=containsLists1_c (c:=c) (B:=w.heap.size) (w.alloc (.cells #[.func (.func 45) #[] #[]] 112)) (h.mono hbx) hn (by simp) (by simp) (fun i x W hx hW=>hp i x W hx (hbx.trans (hW.mono (by simp))));have HC:=hid hc;clear hc hp
 go_enter Tryz.func44,Tryz.ntmps44
 go_wp2_with (go_at_call 61;refine(HC.out).mono ?_;rintro e w' ⟨rfl,hb⟩)
 go_ret
 exact⟨ret_bool (by simp),((Below.refl _ _).alloc (Nat.le_refl _) _).trans (hb.mono (by simp))⟩
end
section
variable {p:Lst→Bool}
theorem allLists2_1 (x:Lst)(B:Nat)(w:World)(_hBl:B<w.heap.size)(hB:w.cell? ⟨B,0,none⟩=some (.func (.func 46) #[] #[]))
 (hp:∀ W:World,Below w.heap.size w W→Calls Tryz.prog 46 #[.slice x.A x.n x.c] W fun e w'=>e=.returned (.bool (p x))∧Below W.heap.size W w') :
 Calls Tryz.prog 62 #[.slice x.A x.n x.c,.pointer (some ⟨B,0,none⟩)] w fun e w'=>e=.returned (.bool (!p x))∧Below w.heap.size w w':=by
 have hp':=hp w (Below.refl _ _);have HP:=hid hp';clear hp hp'
 go_enter Tryz.func62,Tryz.ntmps62
 go_wp2_with (go_at_call 46;refine(HP.out).mono ?_;rintro e w' ⟨rfl,hb⟩)
 go_ret
 exact⟨rfl,hb⟩
theorem idxLists2_c {l:List (Lst)}{A:Option Addr}{n c:Nat}{B:Nat}(w:World)(h:Rd encL 1 w A n l)(hn:n≤maxLen)(hBl:B<w.heap.size)
 (hB:w.cell? ⟨B,0,none⟩=some (.func (.func 46) #[] #[]))
 (hp:∀(i:Nat) (x:Lst) (W:World),l[i]?=some x→Below w.heap.size w W→Calls Tryz.prog 46 #[.slice x.A x.n x.c] W fun e w'=>e=.returned (.bool (p x))∧Below W.heap.size W w') :
 Calls Tryz.prog 87 #[.slice A n c,.func (.func 62) #[] #[.pointer (some ⟨B,0,none⟩)]] w
  fun e w'=>(∃ r:Int,e=.returned (.int .i64 r)∧(!decide (r≥0))=allB p l)∧Below w.heap.size w w':=by
 unfold maxLen at hn;have HP:=hid hp;clear hp
 go_enter Tryz.func87,Tryz.ntmps87
 go_wp2_with fail
 go_loopw [5,8] (fun _ i wr=>∃ k:Nat,k≤n∧i=.int .i64 k∧Below w.heap.size w wr∧∀(j:Nat) (x:Lst),j<k→l[j]?=some x→p x=true) (fun _ i _=>n - (intOf i).toNat)
 case atStart=>exact⟨0,Nat.zero_le _,rfl,Below.refl _ _,fun j x hj=>absurd hj (by omega)⟩
 case round =>
  obtain⟨k,hk,rfl,hb,hall⟩:=hrel;have HA:=hid hall;clear hall
  by_cases hlt:k<n
  · obtain⟨b,o,x,rfl,hbl,hx,h0⟩:=(h.below hb).atL hlt
    have hx1:=fun W (hW:Below wr.heap.size wr W)=>HP.out k x W hx (hb.trans (hW.mono hb.size));have HX1:=hid hx1;clear hx1;have HX:=hid hx;clear hx;have hB':=(hb.cell (p:=⟨B,0,none⟩) hBl).trans hB;have hBl':B<wr.heap.size:=Nat.lt_of_lt_of_le hBl hb.size;cases hm:p x
    all_goals
     have HM:=hid hm;clear hm
     go_wp2_with (go_at_call 62;refine(allLists2_1 _ _ _ hBl' hB' HX1.out).mono ?_;rintro e w' ⟨rfl,hb'⟩;simp only[HM.out])
    · go_ret
      exact⟨⟨k,rfl,by rw[(allB_not (p:=p) (l:=l)).2 ⟨k,x,HX.out,HM.out⟩];simp⟩,hb.trans (hb'.mono hb.size)⟩
    · go_roundw
      case rel=>exact⟨k+1,by omega,by go_num,hb.trans (hb'.mono hb.size),fun j y hj hy=>by
       rcases Nat.lt_or_ge j k with hjk | hjk
       · exact HA.out j y hjk hy
       · obtain rfl:j=k:=by omega
         rw[HX.out] at hy;cases hy;exact HM.out⟩
      case measure=>simp[intOf];omega
  · go_wp2
    go_ret
    refine⟨⟨-1,rfl,?_⟩,hb⟩;rw[(allB_iff (p:=p) (l:=l)).2 fun i x hx=>HA.out i x (by have:=(List.getElem?_eq_some_iff.1 hx).1;have:=h.len;omega) hx];simp
theorem containsLists2_c {l:List (Lst)}{A:Option Addr}{n c:Nat}{B:Nat}(w:World)(h:Rd encL 1 w A n l)(hn:n≤maxLen)(hBl:B<w.heap.size)
 (hB:w.cell? ⟨B,0,none⟩=some (.func (.func 46) #[] #[]))
 (hp:∀(i:Nat) (x:Lst) (W:World),l[i]?=some x→Below w.heap.size w W→Calls Tryz.prog 46 #[.slice x.A x.n x.c] W fun e w'=>e=.returned (.bool (p x))∧Below W.heap.size W w') :
 Calls Tryz.prog 61 #[.slice A n c,.func (.func 62) #[] #[.pointer (some ⟨B,0,none⟩)]] w
  fun e w'=>e=.returned (.bool (!allB p l))∧Below w.heap.size w w':=by
 have hc:=idxLists2_c (c:=c) w h hn hBl hB hp;have HC:=hid hc;clear hc hp
 go_enter Tryz.func61,Tryz.ntmps61
 go_wp2_with (go_at_call 87;refine(HC.out).mono ?_;rintro e w' ⟨⟨r,rfl,hr⟩,hb⟩;have HR:=hid hr;clear hr)
 go_ret
 exact⟨ret_bool (by rw[← HR.out];simp),hb⟩
theorem allLists2_c {l:List (Lst)}{A:Option Addr}{n c:Nat}(w:World)(h:Rd encL 1 w A n l)(hn:n≤maxLen)
 (hp:∀(i:Nat) (x:Lst) (W:World),l[i]?=some x→Below w.heap.size w W→Calls Tryz.prog 46 #[.slice x.A x.n x.c] W fun e w'=>e=.returned (.bool (p x))∧Below W.heap.size W w') :
 Calls Tryz.prog 44 #[.slice A n c,.func (.func 46) #[] #[]] w
  fun e w'=>e=.returned (.bool (allB p l))∧Below w.heap.size w w':=by
 have hbx:=(Below.refl w.heap.size w).alloc (Nat.le_refl _) (.cells #[.func (.func 46) #[] #[]] 112);have hc:=containsLists2_c (c:=c) (B:=w.heap.size) (w.alloc (.cells #[.func (.func 46) #[] #[]] 112)) (h.mono hbx) hn (by simp) (by simp) (fun i x W hx hW=>hp i x W hx (hbx.trans (hW.mono (by simp))));have HC:=hid hc;clear hc hp
 go_enter Tryz.func44,Tryz.ntmps44
 go_wp2_with (go_at_call 61;refine(HC.out).mono ?_;rintro e w' ⟨rfl,hb⟩)
 go_ret
 exact⟨ret_bool (by simp),((Below.refl _ _).alloc (Nat.le_refl _) _).trans (hb.mono (by simp))⟩
end
end Go.Proofs.YtkhcliibilkefaaGreatDoor.Ga
