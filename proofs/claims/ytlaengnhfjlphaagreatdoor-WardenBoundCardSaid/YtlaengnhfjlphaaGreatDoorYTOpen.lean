/- THE CONTRACT of gauge.number: the number of some bytes; and '==' of two records. -/
import Derived.Test.YtlaengnhfjlphaaGreatDoorRecord
import Derived.Laws.BitsAllLaws
import Derived.ChangeKeysEq
import Derived.BigQuiet
import Derived.Deep.QuietTactic
import Derived.StillTail
import Derived.Deep.RegionHeld3
import Derived.Deep.AppendLies
import Derived.Deep.DrawnRows
import Derived.Laws.StructEq
import Derived.Maps.AppendAt
import Derived.Test.YtlaengnhfjlphaaGreatDoorZRound
import Derived.OrdersIn
import Derived.OwnWalkIn
import Derived.RangeFuncCalls
import Derived.Deep.Slices
import Derived.Deep.Fields
import Derived.ChangeSame
import Derived.OpenShut
set_option linter.unusedVariables false
set_option linter.unusedSimpArgs false
set_option maxRecDepth 100000
set_option maxHeartbeats 8000000
namespace Go.Proofs.YtlaengnhfjlphaaGreatDoor.Ga
open Lib (hid)
open Go.RowKit Go.Proofs
def numB (l:List UInt8):Int:=l.foldl (fun(n:Int) (b:UInt8)=>256 * n+(b.toNat:Int)) 0
theorem numB_snoc (l:List UInt8)(b:UInt8):numB (l++[b])=256 * numB l+(b.toNat:Int):=by simp[numB]
theorem numB_bd_aux:∀(l:List UInt8) (n:Int),0≤n→0≤l.foldl (fun(n:Int) (b:UInt8)=>256 * n+(b.toNat:Int)) n∧l.foldl (fun(n:Int) (b:UInt8)=>256 * n+(b.toNat:Int)) n < (n+1) * 256 ^ l.length
 | [],n,h=>⟨h,by simp;omega⟩
 | b :: l,n,h=>by
  have hb:=b.toNat_lt;have:=numB_bd_aux l (256 * n+(b.toNat:Int)) (by omega);simp only[List.foldl_cons,List.length_cons];refine⟨this.1,Int.lt_of_lt_of_le this.2 ?_⟩;rw[Int.pow_succ,Int.mul_comm (256 ^ l.length:Int) 256,← Int.mul_assoc];exact Int.mul_le_mul_of_nonneg_right (by omega) (Int.le_of_lt (Int.pow_pos (by omega)))
theorem numB_bd (l:List UInt8):0≤numB l∧numB l < 256 ^ l.length:=by
 have:=numB_bd_aux l 0 (by omega)
 simpa[numB] using this
theorem ofInt_i64 (a:Nat)(ha:a < 9223372036854775808):(BitVec.ofInt 64 (a:Int)).toNat=a:=by
 rw[BitVec.ofInt_natCast,BitVec.toNat_ofNat];exact Nat.mod_eq_of_lt (by omega)
theorem i64_or_nat (a b:Nat)(ha:a < 9223372036854775808)(hb:b < 9223372036854775808):bits .or .i64 (a:Int) (b:Int)=((a ||| b:Nat):Int):=by
 have hx:a ||| b < 2 ^ 63:=Nat.or_lt_two_pow (by omega) (by omega)
 show IntKind.i64.wrap ((BitVec.ofInt 64 (a:Int) ||| BitVec.ofInt 64 (b:Int)).toNat:Int)=_;rw[BitVec.toNat_or,ofInt_i64 a ha,ofInt_i64 b hb,IntKind.wrap_i64];omega
theorem or_byte (n b:Int)(h0:0≤n)(h1:n < 16777216)(hb0:0≤b)(hb1:b < 256):bits .or .i64 (n * 256) b=256 * n+b:=by
 obtain⟨m,rfl⟩:=Int.eq_ofNat_of_zero_le h0;obtain⟨c,rfl⟩:=Int.eq_ofNat_of_zero_le hb0
 have e:((m:Int) * 256)=((m * 256:Nat):Int):=by simp
 rw[e,i64_or_nat _ _ (by omega) (by omega)];have:=Nat.shiftLeft_add_eq_or_of_lt (b:=c) (i:=8) (by omega) m;rw[Nat.shiftLeft_eq] at this;rw[← this];simp;omega
theorem number_c {l:List UInt8}{A:Option Addr}{n c:Nat}{w:World}(h:Rd encB 1 w A n l)(hn:n≤4) :
 Calls Tryz.prog 207 #[.slice A n c] w fun e w'=>e=.returned (.int .i64 (numB l))∧w=w':=by
 have hl:=h.len;have HL:=hid hl;clear hl
 go_enter Tryz.func207,Tryz.ntmps207
 go_wp2_with fail
 go_loop [2,7] (fun v i=>∃(k:Nat) (m:Int),k≤n∧i=.int .i64 k∧v=.int .i64 m∧m=numB (l.take k)) (fun _ i=>n - (intOf i).toNat)
 case atStart=>exact⟨0,0,Nat.zero_le _,rfl,rfl,rfl⟩
 case round =>
  obtain⟨k,m,hk,rfl,rfl,hm⟩:=hrel;have HM:=hid hm;clear hm
  by_cases hlt:k < n
  · obtain⟨b,o,x,hA,_,hx,h0⟩:=h.atB hlt
    subst hA;have HX:=hid hx;clear hx
    have hx1:(x.toNat:Int) < 256:=by have:=x.toNat_lt;omega
    have hx0:(0:Int)≤(x.toNat:Int):=by omega
    have hbd:0≤m∧m < 16777216:=by
     rw[HM.out];have h1:=numB_bd (l.take k)
     have h2:(l.take k).length≤3:=by rw[List.length_take];omega
     have h3:(256:Int) ^ (l.take k).length≤256 ^ 3:=by
      have:=Nat.pow_le_pow_right (n:=256) (by omega) h2
      exact_mod_cast this
     omega
    have w1:IntKind.i64.wrap (m * 256)=m * 256:=wi (by omega);have w2:=or_byte m (x.toNat:Int) hbd.1 hbd.2 hx0 hx1
    go_wp2
    go_round
    case rel=>exact⟨k+1,256 * m+(x.toNat:Int),by omega,by go_num,rfl,by rw[List.take_add_one,HX.out,HM.out];exact(numB_snoc _ _).symm⟩
    case measure=>simp[intOf] <;> omega
  · obtain rfl:k=n:=by omega
    go_wp2
    go_ret
    exact⟨ret_int (by rw[HM.out,List.take_of_length_le (by rw[HL.out];exact Nat.le_refl _)]),rfl⟩
theorem run_eqItems_bytes {P:Program}{e:TypeId}(he:P.underlying e=some (.int .u8))(hs:P.cellsOf e=1)(d:Nat)(a b:List UInt8)(W:World):∀(is:List Nat),(∀ i∈is,i < a.length∧i < b.length) →
 (Op.eqItems (d+1) e (P.cellsOf e) (cellsB a) (cellsB b) is).run P W=.ok (is.all fun i=>a[i]? == b[i]?) W
 | [],_=>by simp[Op.eqItems]
 | i :: is,h=>by
  have hi:=h i (by simp);have ih:=run_eqItems_bytes he hs d a b W is (fun j hj=>h j (by simp[hj]))
  have hag:(isAgg e).run P W=.ok false W:=by unfold isAgg;simp[run_underlying he]
  have p1:(part e (cellsB a) (i * P.cellsOf e)).run P W=.ok (.int .u8 ((a[i]'hi.1).toNat:Int)) W:=by
   rw[hs];simp[part,hag,cellsB,hi.1]
  have p2:(part e (cellsB b) (i * P.cellsOf e)).run P W=.ok (.int .u8 ((b[i]'hi.2).toNat:Int)) W:=by
   rw[hs];simp[part,hag,cellsB,hi.2]
  have p3:(Op.equalIn (d+1) e (.int .u8 ((a[i]'hi.1).toNat:Int)) (.int .u8 ((b[i]'hi.2).toNat:Int))).run P W=.ok (a[i]? == b[i]?) W:=by
   simp[Op.equalIn,run_underlying he,hi.1,hi.2];rw[Bool.eq_iff_iff];simp;exact⟨fun h=>UInt8.toNat_inj.1 (by omega),fun h=>by rw[h]⟩
  simp only[Op.eqItems,Sem.run_bind,p1,p2,p3,Result.andThen_ok];cases hab:(a[i]? == b[i]?)
  · simp[hab]
  · simp[hab,ih]
theorem all_range_eq (a b:List UInt8)(n:Nat)(ha:a.length=n)(hb:b.length=n):((List.range n).all fun i=>a[i]? == b[i]?)=decide (a=b):=by
 rw[Bool.eq_iff_iff];simp only[List.all_eq_true,List.mem_range,beq_iff_eq,decide_eq_true_eq]
 constructor
 · intro h
   apply List.ext_getElem?
   intro i
   rcases Nat.lt_or_ge i n with hi | hi
   · exact h i hi
   · rw[List.getElem?_eq_none (by omega),List.getElem?_eq_none (by omega)]
 · rintro rfl i _;rfl
theorem info8:∃ i,Tryz.prog.info? 5=some i:=by
 obtain⟨i0,hi,_⟩:=info_parts (show(Tryz.prog.info? 5).map (fun i=>(i.zero,i.size,i.bytes))=some (some (.int .u8 0),1,1) by kernel_rfl);exact⟨i0,hi⟩
theorem run_eql_rec (a b:List UInt8)(ha:a.length=16)(hb:b.length=16)(W:World) :
 (binOp .eql 252 (.agg (cellsB a)) (.agg (cellsB b))).run Tryz.prog W=.ok (.bool (decide (a=b))) W:=by
 obtain⟨i8,hi8⟩:=info8;have h1:=run_equalIn_array (P:=Tryz.prog) W 9999 (cellsB a) (cellsB b) Tryz.underlying252 hi8;have h2:=run_eqItems_bytes (P:=Tryz.prog) Tryz.underlying5 (by kernel_rfl) 9998 a b W (List.range 16) (fun i hi=>by simp at hi;omega);simp only[binOp];simp[Op.equal,Op.maxDepth];rw[h1,h2,all_range_eq a b 16 ha hb];simp
def inB (n lo hi:Int):Bool:=decide (lo≤n) && decide (n≤hi)
theorem inB_iff {n lo hi:Int}:inB n lo hi=true↔lo≤n∧n≤hi:=by simp[inB]
theorem inB_not {n lo hi:Int}:inB n lo hi=false↔n < lo∨hi < n:=by
 rw[← Bool.not_eq_true,inB_iff];omega
theorem within_c (n lo hi:Int)(w:World) :
 Calls Tryz.prog 231 #[.int .i64 n,.int .i64 lo,.int .i64 hi] w fun e w'=>e=.returned (.bool (inB n lo hi))∧w=w':=by
 by_cases h:lo≤n
 · go_enter Tryz.func231,Tryz.ntmps231
   go_wp2
   go_ret
   exact⟨ret_bool (by simp[inB,h]),rfl⟩
 · have h':n < lo:=by omega
   go_enter Tryz.func231,Tryz.ntmps231
   go_wp2
   go_ret
   exact⟨ret_bool (inB_not.2 (.inl h')).symm,rfl⟩
theorem tick_c (n:Int)(w:World) :
 Calls Tryz.prog 232 #[.int .i64 n] w fun e w'=>e=.returned (.bool (inB n 0 1000000000))∧w=w':=by
 go_enter Tryz.func232,Tryz.ntmps232
 go_wp2_with (go_at_call 231;refine(within_c _ _ _ _).mono ?_;rintro e w' ⟨rfl,rfl⟩)
 go_ret
 exact⟨rfl,rfl⟩
theorem signal_c (n:Int)(w:World) :
 Calls Tryz.prog 233 #[.int .i64 n] w fun e w'=>e=.returned (.bool (inB n (-1000000000) 1000000000))∧w=w':=by
 go_enter Tryz.func233,Tryz.ntmps233
 go_wp2_with (go_at_call 231;refine(within_c _ _ _ _).mono ?_;rintro e w' ⟨rfl,rfl⟩)
 go_ret
 exact⟨rfl,rfl⟩
def allB {α:Type}(p:α→Bool)(l:List α):Bool:=l.all p
theorem allB_iff {α:Type}{p:α→Bool}{l:List α}:allB p l=true↔∀(i:Nat) (x:α),l[i]?=some x→p x=true:=by
 simp only[allB,List.all_eq_true]
 constructor
 · intro h i x hx;exact h x (List.mem_of_getElem? hx)
 · intro h x hx;obtain⟨i,hi⟩:=List.getElem?_of_mem hx;exact h i x hi
theorem allB_not {α:Type}{p:α→Bool}{l:List α}:allB p l=false↔∃(i:Nat) (x:α),l[i]?=some x∧p x=false:=by
 rw[← Bool.not_eq_true,allB_iff]
 constructor
 · intro h
   exact Classical.byContradiction fun hn=>h fun i x hx=>by
    cases hp:p x with
    | true=>rfl
    | false=>exact absurd ⟨i,x,hx,hp⟩ hn
 · rintro⟨i,x,hx,hp⟩ h
   rw[h i x hx] at hp;cases hp
section
variable {p:Rdg→Bool}
end
section
variable {p:Lst→Bool}
end
section
variable {p:Lst→Bool}
end
def validB (r:Rdg):Bool:=inB r.ins 0 255 && inB r.num 0 65535 && inB r.tim 0 1000000000 && inB r.val (-1000000000) 1000000000
theorem valid_c (r:Rdg)(w:World) :
 Calls Tryz.prog 208 #[.agg #[.int .i64 r.ins,.int .i64 r.num,.int .i64 r.tim,.int .i64 r.val]] w fun e w'=>e=.returned (.bool (validB r))∧Below w.heap.size w w':=by
 have hv:validB r=(inB r.ins 0 255 && inB r.num 0 65535 && inB r.tim 0 1000000000 && inB r.val (-1000000000) 1000000000):=rfl;cases h1:inB r.ins 0 255
 · have hm:validB r=false:=by rw[hv,h1];rfl
   have HM:=hid hm;clear hm hv
   go_enter Tryz.func208,Tryz.ntmps208
   go_wp2_with (first | (go_at_call 231;refine(within_c _ _ _ _).mono ?_;rintro e w' ⟨rfl,rfl⟩) | (go_at_call 232;refine(tick_c _ _).mono ?_;rintro e w' ⟨rfl,rfl⟩) | (go_at_call 233;refine(signal_c _ _).mono ?_;rintro e w' ⟨rfl,rfl⟩))
   go_ret
   exact⟨ret_bool HM.out.symm,(Below.refl _ _).alloc (Nat.le_refl _) _⟩
 · cases h2:inB r.num 0 65535
   · have hm:validB r=false:=by rw[hv,h1,h2];rfl
     have HM:=hid hm;clear hm hv
     go_enter Tryz.func208,Tryz.ntmps208
     go_wp2_with (first | (go_at_call 231;refine(within_c _ _ _ _).mono ?_;rintro e w' ⟨rfl,rfl⟩) | (go_at_call 232;refine(tick_c _ _).mono ?_;rintro e w' ⟨rfl,rfl⟩) | (go_at_call 233;refine(signal_c _ _).mono ?_;rintro e w' ⟨rfl,rfl⟩))
     go_ret
     exact⟨ret_bool HM.out.symm,(Below.refl _ _).alloc (Nat.le_refl _) _⟩
   · cases h3:inB r.tim 0 1000000000
     · have hm:validB r=false:=by rw[hv,h1,h2,h3];rfl
       have HM:=hid hm;clear hm hv
       go_enter Tryz.func208,Tryz.ntmps208
       go_wp2_with (first | (go_at_call 231;refine(within_c _ _ _ _).mono ?_;rintro e w' ⟨rfl,rfl⟩) | (go_at_call 232;refine(tick_c _ _).mono ?_;rintro e w' ⟨rfl,rfl⟩) | (go_at_call 233;refine(signal_c _ _).mono ?_;rintro e w' ⟨rfl,rfl⟩))
       go_ret
       exact⟨ret_bool HM.out.symm,(Below.refl _ _).alloc (Nat.le_refl _) _⟩
     · have hm:validB r=inB r.val (-1000000000) 1000000000:=by rw[hv,h1,h2,h3];rfl
       have HM:=hid hm;clear hm hv
       go_enter Tryz.func208,Tryz.ntmps208
       go_wp2_with (first | (go_at_call 231;refine(within_c _ _ _ _).mono ?_;rintro e w' ⟨rfl,rfl⟩) | (go_at_call 232;refine(tick_c _ _).mono ?_;rintro e w' ⟨rfl,rfl⟩) | (go_at_call 233;refine(signal_c _ _).mono ?_;rintro e w' ⟨rfl,rfl⟩))
       go_ret
       exact⟨ret_bool HM.out.symm,(Below.refl _ _).alloc (Nat.le_refl _) _⟩
def RdLL (w:World)(A:Option Addr)(n:Nat)(ls:List Lst):Prop:=Rd encL 1 w A n ls∧∀(i:Nat) (x:Lst),ls[i]?=some x→Rd encR 4 w x.A x.n x.l∧x.n≤maxLen∧x.n≤x.c
theorem RdLL.below {w w':World}{A:Option Addr}{n:Nat}{ls:List Lst}(h:RdLL w A n ls)(hb:Below w.heap.size w w'):RdLL w' A n ls :=
 ⟨h.1.mono hb,fun i x hx=>⟨(h.2 i x hx).1.mono hb,(h.2 i x hx).2⟩⟩
end Go.Proofs.YtlaengnhfjlphaaGreatDoor.Ga
namespace Go.Proofs.YtlaengnhfjlphaaGreatDoor.Ga
open Lib (hid)
open Go.RowKit
def Ext (w0:World):Type:={ W:World // Below w0.heap.size w0 W }
instance (w0:World):Nonempty (Ext w0):=⟨⟨w0,Below.refl _ _⟩⟩
def Ext.w {w0:World}(p:Ext w0):World:=p.1
theorem Ext.below {w0:World}(p:Ext w0):Below w0.heap.size w0 p.w:=p.2
@[go_sem] theorem Ext.cell {w0:World} (p:Ext w0) {b o:Nat} (h:b < w0.heap.size):p.w.cell? ⟨b,o,none⟩=w0.cell? ⟨b,o,none⟩:=p.below.cell (p:=⟨b,o,none⟩) h
@[go_sem] theorem Ext.ex {w0:World} (p:Ext w0):(∃ q:Ext w0,p.w=q.w)=True:=by simp only[eq_iff_iff,iff_true];exact⟨p,rfl⟩
section
variable {P:Program} {ops:Array Oper} {md:Region.Mode} {C:World→Prop}
end
end Go.Proofs.YtlaengnhfjlphaaGreatDoor.Ga
namespace Go.Proofs.YtlaengnhfjlphaaGreatDoor.Ga
open Lib (hid)
def markB (x:Int × Int):Bool:=inB x.1 0 1000000000 && inB x.2 0 1000000000
def Rising (l:List (Int × Int))(m:Nat):Prop:=∀(i:Nat) (x y:Int × Int),i < m→l[i]?=some x→l[i+1]?=some y→x.1 < y.1∧x.2 < y.2
def MarksOk (l:List (Int × Int)):Prop:=1≤l.length∧l.length≤10∧allB markB l=true∧Rising l (l.length - 1)
open Classical in
theorem Rising.zero (l:List (Int × Int)):Rising l 0:=fun i _ _ hi=>absurd hi (by omega)
theorem Rising.le {l:List (Int × Int)}{m:Nat}(h:Rising l m)(hm:l.length≤m+1):Rising l (l.length - 1):=fun i x y hi hx hy=>h i x y (by omega) hx hy
theorem Rising.succ {l:List (Int × Int)}{m:Nat}{x y:Int × Int}(h:Rising l m)(hx:l[m]?=some x)(hy:l[m+1]?=some y)(h1:x.1 < y.1)(h2:x.2 < y.2):Rising l (m+1):=by
 intro i u v hi hu hv
 rcases Nat.lt_or_ge i m with h' | h'
 · exact h i u v h' hu hv
 · obtain rfl:i=m:=by omega
   rw[hx] at hu;rw[hy] at hv;cases hu;cases hv;exact⟨h1,h2⟩
theorem lt_of_get {α:Type}{l:List α}{i:Nat}{x:α}(hx:l[i]?=some x):i < l.length:=(List.getElem?_eq_some_iff.1 hx).1
theorem get_of_lt {α:Type}{l:List α}{i:Nat}(h:i < l.length):∃ x,l[i]?=some x:=⟨_,List.getElem?_eq_getElem h⟩
theorem MarksOk.step {l:List (Int × Int)}(h:MarksOk l){i:Nat}{x y:Int × Int}(hx:l[i]?=some x)(hy:l[i+1]?=some y):x.1 < y.1∧x.2 < y.2 :=
 h.2.2.2 i x y (by have:=lt_of_get hy;omega) hx hy
theorem MarksOk.mono {l:List (Int × Int)}(h:MarksOk l){i:Nat}:∀ {j:Nat} {x y:Int × Int},i < j→l[i]?=some x→l[j]?=some y→x.1 < y.1∧x.2 < y.2:=by
 intro j
 induction j with
 | zero=>intro x y hij;omega
 | succ j ih =>
  intro x y hij hx hy;obtain⟨z,hz⟩:=get_of_lt (l:=l) (i:=j) (by have:=lt_of_get hy;omega);have h1:=h.step hz hy
  rcases Nat.lt_or_ge i j with h' | h'
  · have:=ih h' hx hz;omega
  · obtain rfl:i=j:=by omega
    rw[hx] at hz;cases hz;exact h1
def IsTime (l:List (Int × Int))(clock v:Int):Prop :=
 (∀ x,l[0]?=some x→clock≤x.1→v=x.2+clock - x.1)∧(∀ x,l[l.length - 1]?=some x→x.1≤clock→v=x.2+clock - x.1) ∧
 ∀(i:Nat) (x y:Int × Int),l[i]?=some x→l[i+1]?=some y→x.1≤clock→clock < y.1→v=x.2+(clock - x.1) * (y.2 - x.2) / (y.1 - x.1)
theorem IsTime.at_ {l:List (Int × Int)}{clock v:Int}(h:IsTime l clock v){i:Nat}{x:Int × Int}(hx:l[i]?=some x)(hlo:i=0∨x.1≤clock)(hhi:∀ y,l[i+1]?=some y→clock < y.1) :
 (clock≤x.1∨i=l.length - 1→v=x.2+clock - x.1)∧∀ y,l[i+1]?=some y→x.1 < clock→v=x.2+(clock - x.1) * (y.2 - x.2) / (y.1 - x.1):=by
 have hi:=lt_of_get hx
 constructor
 · intro hc
   by_cases hlast:i=l.length - 1
   · by_cases h1:x.1≤clock
     · exact h.2.1 x (by rw[← hlast];exact hx) h1
     · have h0:i=0:=by omega
       subst h0;exact h.1 x hx (by omega)
   · obtain⟨y,hy⟩:=get_of_lt (l:=l) (i:=i+1) (by omega)
     have h3:=hhi y hy
     by_cases h1:x.1≤clock
     · have h4:=h.2.2 i x y hx hy h1 h3
       have:clock - x.1=0:=by omega
       rw[h4,this,Int.zero_mul,Int.zero_ediv];omega
     · have h0:i=0:=by omega
       subst h0;exact h.1 x hx (by omega)
 · intro y hy hlt
   exact h.2.2 i x y hx hy (by omega) (hhi y hy)
open Go.RowKit Go.Proofs
def ptB (x:Int × Int):Bool:=inB x.1 0 1000000000 && inB x.2 (-1000000000) 1000000000
open Go.RowKit Go.Proofs
section
variable {p:Int × Int→Bool}
end
open Go.RowKit Go.Proofs
def SerUp (l:List (Int × Int))(m:Nat):Prop:=∀(i:Nat) (x y:Int × Int),i < m→l[i]?=some x→l[i+1]?=some y→x.1 < y.1
structure SerOk (l:List (Int × Int)):Prop where
 len:l.length≤60
 pts:allB ptB l=true
 up:SerUp l (l.length - 1)
theorem SerOk.pt {l:List (Int × Int)}(h:SerOk l){i:Nat}{x:Int × Int}(hx:l[i]?=some x):ptB x=true:=allB_iff.1 h.pts i x hx
theorem SerOk.step {l:List (Int × Int)}(h:SerOk l){i:Nat}{x y:Int × Int}(hx:l[i]?=some x)(hy:l[i+1]?=some y):x.1 < y.1 :=
 h.up i x y (by have:=lt_of_get hy;omega) hx hy
theorem SerOk.mono {l:List (Int × Int)}(h:SerOk l){i:Nat}:∀ {j:Nat} {x y:Int × Int},i < j→l[i]?=some x→l[j]?=some y→x.1 < y.1:=by
 intro j
 induction j with
 | zero=>intro x y hij;omega
 | succ j ih =>
  intro x y hij hx hy;obtain⟨z,hz⟩:=get_of_lt (l:=l) (i:=j) (by have:=lt_of_get hy;omega);have h1:=h.step hz hy
  rcases Nat.lt_or_ge i j with h' | h'
  · have:=ih h' hx hz;omega
  · obtain rfl:i=j:=by omega
    rw[hx] at hz;cases hz;exact h1
open Go.RowKit Go.Proofs
attribute [local go_sem ↓] Go.wp_at_zero Go.wp_at_succ
open Go.RowKit Go.Proofs
open Go.RowKit Go.Proofs
theorem infoRdg:(Tryz.prog.info? 168).map (fun i=>(i.zero,i.size,i.bytes))=some (some (.agg #[.int .i64 0,.int .i64 0,.int .i64 0,.int .i64 0]),4,32):=by kernel_rfl
end Go.Proofs.YtlaengnhfjlphaaGreatDoor.Ga
namespace Go.Proofs.YtlaengnhfjlphaaGreatDoor
open Lib (hid)
open Go.RowKit Go.Proofs
def OnlyN (Q:Exit→Act→World→Prop):Exit→Act→World→Prop
 | .normal,a,w=>Q .normal a w
 | _,_,_=>False
def noDefer (ops:Array Oper):Bool:=ops.toList.all fun o=>match o.op with | .defer _=>false | _=>true
theorem noDefer_at {ops:Array Oper}(h:noDefer ops=true){i:Nat}{o:Oper}(ho:ops[i]?=some o):∀ c,o.op≠.defer c:=by
 intro c e;unfold noDefer at h;rw[List.all_eq_true] at h;have:=h o (List.mem_of_getElem? (i:=i) (by simpa using ho));rw[e] at this;cases this
section
variable {n:Nat} {P:Program} {Q:Exit→Act→World→Prop}
theorem wpIn_of_wp {l:Nat}{o:Oper}{a:Act}{w:World}{K:Act→World→Prop}(hd:∀ c,o.op≠.defer c)(h:o.wp P a w K (OnlyN Q)):o.wpIn (Fence.wide.inRound l) n P a w K Q:=by
 unfold Oper.wp at h;unfold Oper.wpIn;refine⟨fun f _=>trivial,?_⟩;rw[Oper.semAt_plain _ _ _ hd];generalize (execOp a.eval o).run P w=r at *
 cases r with
 | ok x w' =>
  cases x <;> simp only[Oper.uponIn,Oper.upon] at h ⊢
  · exact h
  · exact h
  · refine⟨fun hh=>(by cases hh),CallsIn.inRound l (callsIn_wide.2 (Calls.mono h fun e w'' he=>?_))⟩
    cases e with
    | returned v=>exact he
    | panicked chain=>exact he.elim
    | outgrown=>obtain⟨_,_,he⟩:=he;exact he.elim
  · exact h
  · exact⟨fun hh=>(by cases hh),fun c cs _=>let ⟨v,w2,k,s⟩:=h c cs;⟨v,w2,k,stepsIn_wide.2 s⟩⟩
 | halt x w'=>cases x <;> simp only[Oper.uponIn,Oper.upon] at h ⊢ <;> exact h.elim
theorem wpOpIn_of_wpOp {l:Nat}{ops:Array Oper}(hd:noDefer ops=true){i:Nat}{K K':Act→World→Prop}(hK:∀ a w,K a w→K' a w){a:Act}{w:World}(h:wpOp P ops (OnlyN Q) i K a w):wpOpIn (Fence.wide.inRound l) n P ops Q i K' a w:=by
 unfold wpOp at h;unfold wpOpIn
 cases ho:ops[i]? with
 | none=>simp only[ho] at h ⊢;exact hK _ _ h
 | some o =>
  simp only[ho] at h ⊢
  split at h
  · rename_i hw
    rw[if_pos hw]
    rcases h with h | ⟨_,_,_,h⟩
    · exact Oper.wpIn_mono hK (wpIn_of_wp (noDefer_at hd ho) h)
    · exact h.elim
  · rename_i hw
    rw[if_neg hw];exact⟨fun f _=>trivial,hK _ _ h⟩
theorem wpAnyIn_of_wpAny {l:Nat}{ops:Array Oper}(hd:noDefer ops=true){md:Region.Mode}:∀(fuel:Nat) (listed:Array Bool) (a:Act) (w:World),wpAny P md ops (OnlyN Q) fuel listed a w→wpAnyIn (Fence.wide.inRound l) n P md ops Q fuel listed a w
 | 0,listed,a,w,h=>h
 | fuel+1,listed,a,w,h=>⟨h.1,fun i hi=>wpOpIn_of_wpOp hd (fun a w h=>wpAnyIn_of_wpAny hd fuel _ a w h) (h.2 i hi)⟩
end
end Go.Proofs.YtlaengnhfjlphaaGreatDoor
namespace Go.Proofs.YtlaengnhfjlphaaGreatDoor
open Lib (hid)
def digW (d:Nat):UInt8:=UInt8.ofNat (97+d)
def letW (tu:Bool):Nat→Nat→List UInt8
 | 0,_=>[]
 | k+1,n=>letW tu k (n / 26)++[digW (if tu then 25 - n % 26 else n % 26)]
def chkStep (c:Nat)(x:UInt8):Nat:=(37 * c+x.toNat+7) % 11881357
def chkW (c:Nat)(l:List UInt8):Nat:=l.foldl chkStep c
def headW (s:List UInt8)(c:Nat):List UInt8:=123 :: (letW false 3 s.length++(letW true 3 s.length++(letW false 5 (chkW c s)++[125])))
def recW (s:List UInt8)(c:Nat):List UInt8:=headW s c++(s++[10])
def bookW:List (List UInt8)→Nat→List UInt8
 | [],_=>[]
 | s :: l,c=>recW s c++bookW l (chkW c s)
def isLet (x:UInt8):Bool:=decide (97≤x.toNat) && decide (x.toNat≤122)
def lenW (l:List UInt8):Option Nat:=if l.all isLet then some (l.foldl (fun n x=>26 * n+(x.toNat - 97)) 0) else none
def readW:Nat→List UInt8→Nat→List (List UInt8) × Nat
 | 0,_,_=>([],0)
 | f+1,b,c =>
  if b.length < 14 then ([],0) else
  match lenW ((b.drop 1).take 3) with
  | none=>([],0)
  | some n =>
   if 300 < n∨b.length < 14+n then ([],0) else
   if recW ((b.drop 13).take n) c=b.take (14+n) then
    ((b.drop 13).take n :: (readW f (b.drop (14+n)) (chkW c ((b.drop 13).take n))).1,14+n+(readW f (b.drop (14+n)) (chkW c ((b.drop 13).take n))).2)
   else ([],0)
theorem dig_nat {d:Nat}(h:d < 26):(digW d).toNat=97+d:=by
 unfold digW;rw[UInt8.toNat_ofNat'];omega
theorem dig_inj {d e:Nat}(hd:d < 26)(he:e < 26)(h:digW d=digW e):d=e:=by
 have:=congrArg UInt8.toNat h;rw[dig_nat hd,dig_nat he] at this;omega
theorem let_len (tu:Bool):∀ k n,(letW tu k n).length=k
 | 0,_=>rfl
 | k+1,n=>by simp[letW,let_len tu k]
theorem let_inj (tu:Bool):∀ k {n m:Nat},n < 26 ^ k→m < 26 ^ k→letW tu k n=letW tu k m→n=m
 | 0,n,m,hn,hm,_=>by simp at hn hm;omega
 | k+1,n,m,hn,hm,h=>by
  unfold letW at h;obtain⟨h1,h2⟩:=List.append_inj h (by rw[let_len,let_len])
  have hk:26 ^ (k+1)=26 * 26 ^ k:=by rw[Nat.pow_succ];omega
  have e:=let_inj tu k (n:=n / 26) (m:=m / 26) (by omega) (by omega) h1;have hd:=List.cons.inj h2
  have hq:n % 26=m % 26:=by
   cases tu
   · exact dig_inj (d:=n % 26) (e:=m % 26) (by omega) (by omega) (by simpa using hd.1)
   · have:=dig_inj (d:=25 - n % 26) (e:=25 - m % 26) (by omega) (by omega) (by simpa using hd.1)
     omega
  omega
theorem let_is:∀ k n,(letW false k n).all isLet=true
 | 0,_=>rfl
 | k+1,n=>by
  have h:=dig_nat (d:=n % 26) (by omega);simp only[letW,List.all_append,let_is k,Bool.true_and,List.all_cons,List.all_nil,Bool.and_true,Bool.false_eq_true,if_false];unfold isLet;rw[h];simp;omega
theorem let_fold:∀ k n,n < 26 ^ k→(letW false k n).foldl (fun n x=>26 * n+(x.toNat - 97)) 0=n
 | 0,n,h=>by simp at h;simp[letW,h]
 | k+1,n,h=>by
  have hk:26 ^ (k+1)=26 * 26 ^ k:=by rw[Nat.pow_succ];omega
  have e:=let_fold k (n / 26) (by omega);have hd:=dig_nat (d:=n % 26) (by omega);simp only[letW,List.foldl_append,e,List.foldl_cons,List.foldl_nil,Bool.false_eq_true,if_false];rw[hd];omega
theorem len_let {n:Nat}(h:n < 17576):lenW (letW false 3 n)=some n:=by
 unfold lenW;rw[if_pos (let_is 3 n),let_fold 3 n (by omega)]
theorem chk_lt {c:Nat}(hc:c < 11881357):∀ l,chkW c l < 11881357:=by
 intro l
 induction l generalizing c with
 | nil=>exact hc
 | cons x l ih=>exact ih (Nat.mod_lt _ (by omega))
theorem step_inj {c d:Nat}(hc:c < 11881357)(hd:d < 11881357)(x:UInt8)(h:chkStep c x=chkStep d x):c=d:=by
 unfold chkStep at h;omega
theorem step_byte {c:Nat}{x y:UInt8}(h:chkStep c x=chkStep c y):x=y:=by
 unfold chkStep at h;have hx:=x.toNat_lt;have hy:=y.toNat_lt;exact UInt8.toNat_inj.1 (by omega)
theorem chk_inj:∀(l:List UInt8) {c d:Nat},c < 11881357→d < 11881357→chkW c l=chkW d l→c=d
 | [],_,_,_,_,h=>h
 | x :: l,c,d,hc,hd,h=>step_inj hc hd x (chk_inj l (Nat.mod_lt _ (by omega)) (Nat.mod_lt _ (by omega)) h)
theorem chk_set:∀(l:List UInt8) {c i:Nat} {x y:UInt8},l[i]?=some y→chkW c (l.set i x)=chkW c l→x=y
 | [],_,_,_,_,h,_=>by simp at h
 | z :: l,c,0,x,y,h,he=>by
  simp at h;subst h;exact step_byte (chk_inj l (Nat.mod_lt _ (by omega)) (Nat.mod_lt _ (by omega)) he)
 | z :: l,c,i+1,x,y,h,he=>chk_set l (c:=chkStep c z) (i:=i) (by simpa using h) he
theorem head_len (s:List UInt8)(c:Nat):(headW s c).length=13:=by simp[headW,let_len]
theorem rec_len (s:List UInt8)(c:Nat):(recW s c).length=14+s.length:=by simp[recW,head_len];omega
theorem rec_take3 (s:List UInt8)(c:Nat)(r:List UInt8):((recW s c++r).drop 1).take 3=letW false 3 s.length:=by
 unfold recW headW;simp[let_len]
theorem rec_line (s:List UInt8)(c:Nat)(r:List UInt8):((recW s c++r).drop 13).take s.length=s:=by
 unfold recW;rw[List.append_assoc,List.drop_left' (head_len s c),List.append_assoc,List.take_left]
theorem rec_take (s:List UInt8)(c:Nat)(r:List UInt8):(recW s c++r).take (14+s.length)=recW s c:=List.take_left' (rec_len s c)
theorem rec_drop (s:List UInt8)(c:Nat)(r:List UInt8):(recW s c++r).drop (14+s.length)=r:=List.drop_left' (rec_len s c)
theorem read_rec {s:List UInt8}(hs:s.length≤300)(c f:Nat)(r:List UInt8):readW (f+1) (recW s c++r) c=(s :: (readW f r (chkW c s)).1,14+s.length+(readW f r (chkW c s)).2):=by
 have hl:(recW s c++r).length=14+s.length+r.length:=by rw[List.length_append,rec_len]
 rw[readW,if_neg (by omega),rec_take3,len_let (by omega)];simp only;rw[if_neg (by omega),rec_line,rec_take,if_pos rfl,rec_drop]
theorem read_book:∀(l:List (List UInt8)) (f c:Nat) (r:List UInt8),(∀ s∈l,s.length≤300)→l.length≤f →
 readW f (bookW l c++r) c=(l++(readW (f - l.length) r (l.foldl chkW c)).1,(bookW l c).length+(readW (f - l.length) r (l.foldl chkW c)).2)
 | [],f,c,r,_,_=>by simp[bookW]
 | s :: l,0,c,r,_,h=>by simp at h
 | s :: l,f+1,c,r,hs,h=>by
  have ih:=read_book l f (chkW c s) r (fun t ht=>hs t (List.mem_cons.2 (.inr ht))) (by simpa using h);rw[bookW,List.append_assoc,read_rec (hs s (List.mem_cons.2 (.inl rfl))),ih];simp[rec_len,Nat.add_assoc]
theorem read_cut {s:List UInt8}(hs:s.length≤300)(c f k:Nat)(hk:k < 14+s.length):readW f ((recW s c).take k) c=([],0):=by
 cases f with
 | zero=>rfl
 | succ f =>
  have hl:((recW s c).take k).length=k:=by rw[List.length_take,rec_len];omega
  rw[readW]
  by_cases h14:k < 14
  · rw[if_pos (by omega)]
  · have e:(((recW s c).take k).drop 1).take 3=letW false 3 s.length:=by
     rw[List.drop_take,List.take_take,show min 3 (k - 1)=3 by omega];have:=rec_take3 s c []
     rwa [List.append_nil] at this
    rw[if_neg (by omega),e,len_let (by omega)];simp only;rw[if_pos (by omega)]
theorem read_some {b:List UInt8}{c f:Nat}(h:readW f b c≠([],0)):∃ t,t.length≤300∧b.take (14+t.length)=recW t c:=by
 cases f with
 | zero=>exact absurd rfl h
 | succ f =>
  rw[readW] at h
  split at h
  · exact absurd rfl h
  · split at h
    · exact absurd rfl h
    · split at h
      · exact absurd rfl h
      · split at h
        · rename_i n hn hno he
          have hl:((b.drop 13).take n).length=n:=by rw[List.length_take,List.length_drop];omega
          refine⟨(b.drop 13).take n,by omega,?_⟩;rw[hl];exact he.symm
        · exact absurd rfl h
def winW (l:List UInt8)(a b:Nat):List UInt8:=(l.drop a).take b
theorem win_get {l:List UInt8}{a b j:Nat}(h:j < b):(winW l a b)[j]?=l[a+j]?:=by
 unfold winW;rw[List.getElem?_take,if_pos h,List.getElem?_drop]
theorem win_eq {l m:List UInt8}{a b:Nat}(h:∀ j,a≤j→j < a+b→l[j]?=m[j]?):winW l a b=winW m a b:=by
 refine List.ext_getElem? fun j=>?_
 by_cases hj:j < b
 · rw[win_get hj,win_get hj];exact h _ (by omega) (by omega)
 · unfold winW
   rw[List.getElem?_take,List.getElem?_take,if_neg hj,if_neg hj]
theorem win_rec3 (s:List UInt8)(c:Nat):winW (recW s c) 1 3=letW false 3 s.length:=by
 have:=rec_take3 s c []
 rwa [List.append_nil] at this
theorem win_turn (s:List UInt8)(c:Nat):winW (recW s c) 4 3=letW true 3 s.length:=by
 unfold winW recW headW;simp[let_len]
theorem win_chk (s:List UInt8)(c:Nat):winW (recW s c) 7 5=letW false 5 (chkW c s):=by
 unfold winW recW headW;simp only[List.cons_append,List.append_assoc,List.nil_append];rw[show(7:Nat)=6+1 from rfl,List.drop_succ_cons,← List.append_assoc,List.drop_left' (by rw[List.length_append,let_len,let_len]),List.take_left' (let_len _ _ _)]
theorem win_line (s:List UInt8)(c:Nat):winW (recW s c) 13 s.length=s:=by
 have:=rec_line s c []
 rwa [List.append_nil] at this
theorem get_line (s:List UInt8)(c:Nat){j:Nat}(h:j < s.length):(recW s c)[13+j]?=s[j]?:=by
 rw[← win_get (b:=s.length) h,win_line]
theorem read_bad {s:List UInt8}(hs:s.length≤300){c i:Nat}(hc:c < 11881357)(f:Nat){x:UInt8}(hi:i < 14+s.length)(hx:(recW s c)[i]?≠some x)(r:List UInt8) :
 readW f ((recW s c).set i x++r) c=([],0):=by
 refine Classical.byContradiction fun h=>?_;obtain⟨t,ht,e⟩:=read_some h
 have hl:((recW s c).set i x).length=14+s.length:=by rw[List.length_set,rec_len]
 have g1:∀ j,j < 14+t.length→j < 14+s.length→j≠i→(recW t c)[j]?=(recW s c)[j]?:=by
  intro j h1 h2 h3;rw[← e,List.getElem?_take,if_pos h1,List.getElem?_append_left (by omega),List.getElem?_set_ne (by omega)]
 have hn:t.length=s.length:=by
  by_cases h4:1≤i∧i < 4
  · have:=win_eq (a:=4) (b:=3) (l:=recW t c) (m:=recW s c) fun j h1 h2=>g1 j (by omega) (by omega) (by omega)
    rw[win_turn,win_turn] at this;exact let_inj true 3 (by omega) (by omega) this
  · have:=win_eq (a:=1) (b:=3) (l:=recW t c) (m:=recW s c) fun j h1 h2=>g1 j (by omega) (by omega) (by omega)
    rw[win_rec3,win_rec3] at this;exact let_inj false 3 (by omega) (by omega) this
 have gi:(recW t c)[i]?=some x:=by
  rw[← e,List.getElem?_take,if_pos (by omega),List.getElem?_append_left (by omega),List.getElem?_set_self (by rw[rec_len];omega)]
 by_cases h5:13≤i∧i < 13+s.length
 · have hk:=win_eq (a:=7) (b:=5) (l:=recW t c) (m:=recW s c) fun j h1 h2=>g1 j (by omega) (by omega) (by omega)
   rw[win_chk,win_chk] at hk;have hck:=let_inj false 5 (by have:=chk_lt hc t;omega) (by have:=chk_lt hc s;omega) hk;obtain⟨k,rfl⟩:∃ k,i=13+k:=⟨i - 13,by omega⟩
   have hts:t=s.set k x:=by
    refine List.ext_getElem? fun j=>?_
    by_cases hj:j < s.length
    · by_cases hjk:j=k
      · subst hjk
        rw[← get_line t c (by omega),gi,List.getElem?_set_self hj]
      · rw[← get_line t c (by omega),g1 _ (by omega) (by omega) (by omega),get_line s c hj,List.getElem?_set_ne (by omega)]
    · rw[List.getElem?_eq_none (by omega),List.getElem?_eq_none (by rw[List.length_set];omega)]
   rw[hts] at hck;obtain⟨y,hy⟩:∃ y,s[k]?=some y:=⟨_,List.getElem?_eq_getElem (by omega)⟩;have:=chk_set s hy hck;exact hx (by rw[get_line s c (by omega),hy,this])
 · have hts:t=s:=by
    refine List.ext_getElem? fun j=>?_
    by_cases hj:j < s.length
    · rw[← get_line t c (by omega),g1 _ (by omega) (by omega) (by omega),get_line s c hj]
    · rw[List.getElem?_eq_none (by omega),List.getElem?_eq_none (by omega)]
   rw[hts] at gi;exact hx gi
theorem read_other {s:List UInt8}(hs:s.length≤300){c d:Nat}(hc:c < 11881357)(hd:d < 11881357)(hne:c≠d)(f:Nat)(r:List UInt8) :
 readW f (recW s d++r) c=([],0):=by
 refine Classical.byContradiction fun h=>?_;obtain⟨t,ht,e⟩:=read_some h
 have g1:∀ j,j < 14+t.length→j < 14+s.length→(recW t c)[j]?=(recW s d)[j]?:=by
  intro j h1 h2;rw[← e,List.getElem?_take,if_pos h1,List.getElem?_append_left (by rw[rec_len];omega)]
 have hn:t.length=s.length:=by
  have:=win_eq (a:=1) (b:=3) (l:=recW t c) (m:=recW s d) fun j h1 h2=>g1 j (by omega) (by omega);rw[win_rec3,win_rec3] at this;exact let_inj false 3 (by omega) (by omega) this
 have hk:=win_eq (a:=7) (b:=5) (l:=recW t c) (m:=recW s d) fun j h1 h2=>g1 j (by omega) (by omega);rw[win_chk,win_chk] at hk;have hck:=let_inj false 5 (by have:=chk_lt hc t;omega) (by have:=chk_lt hd s;omega) hk
 have hts:t=s:=by
  refine List.ext_getElem? fun j=>?_
  by_cases hj:j < s.length
  · rw[← get_line t c (by omega),g1 _ (by omega) (by omega),get_line s d hj]
  · rw[List.getElem?_eq_none (by omega),List.getElem?_eq_none (by omega)]
 rw[hts] at hck;exact hne (chk_inj s hc hd hck)
theorem book_app:∀(l r:List (List UInt8)) (c:Nat),bookW (l++r) c=bookW l c++bookW r (l.foldl chkW c)
 | [],_,_=>rfl
 | s :: l,r,c=>by rw[List.cons_append,bookW,book_app l r,bookW,List.append_assoc];rfl
theorem fold_lt:∀(l:List (List UInt8)) {c:Nat},c < 11881357→l.foldl chkW c < 11881357
 | [],_,h=>h
 | s :: l,_,h=>fold_lt l (chk_lt h s)
theorem read_nil (f c:Nat):readW f [] c=([],0):=by cases f <;> rfl
theorem parts_at {α:Type}{l:List α}{n:Nat}{s:α}(h:l[n]?=some s):l=l.take n++(s :: l.drop (n+1)):=by
 obtain⟨hn,e⟩:=List.getElem?_eq_some_iff.1 h;rw[← e,← List.drop_eq_getElem_cons hn,List.take_append_drop]
theorem book_at {l:List (List UInt8)}{n c:Nat}{s:List UInt8}(h:l[n]?=some s) :
 bookW l c=bookW (l.take n) c++(recW s ((l.take n).foldl chkW c)++bookW (l.drop (n+1)) (chkW ((l.take n).foldl chkW c) s)):=by
 have e:=parts_at h;rw[e,book_app,bookW];rw[← e]
theorem book_succ {l:List (List UInt8)}{n c:Nat}{s:List UInt8}(h:l[n]?=some s):bookW (l.take (n+1)) c=bookW (l.take n) c++recW s ((l.take n).foldl chkW c):=by
 rw[List.take_add_one,h,Option.toList_some,book_app,bookW,bookW,List.append_nil]
theorem book_len {l:List (List UInt8)}{n c:Nat}{s:List UInt8}(h:l[n]?=some s):(bookW (l.take (n+1)) c).length=(bookW (l.take n) c).length+(14+s.length):=by
 rw[book_succ h,List.length_append,rec_len]
section
variable {l:List (List UInt8)} (hs:∀ s∈l,s.length≤300) (hl:l.length≤60)
include hs hl
theorem read_part {n c:Nat}{r:List UInt8}(hn:n≤l.length)(hr:readW (60 - n) r ((l.take n).foldl chkW c)=([],0)) :
 readW 60 (bookW (l.take n) c++r) c=(l.take n,(bookW (l.take n) c).length):=by
 have ht:(l.take n).length=n:=by rw[List.length_take];omega
 rw[read_book (l.take n) 60 c r (fun s h=>hs s (List.mem_of_mem_take h)) (by omega),ht,hr];simp
theorem stops_cut {n k c:Nat}{s:List UInt8}(h:l[n]?=some s)(hk:k < 14+s.length) :
 readW 60 ((bookW l c).take ((bookW (l.take n) c).length+k)) c=(l.take n,(bookW (l.take n) c).length):=by
 have hn:=(List.getElem?_eq_some_iff.1 h).1;rw[book_at h,List.take_length_add_append,List.take_append_of_le_length (by rw[rec_len];omega)];exact read_part hs hl (by omega) (read_cut (hs s (List.mem_of_getElem? h)) _ _ _ hk)
theorem stops_bad {n k c:Nat}{s:List UInt8}{x:UInt8}(hc:c < 11881357)(h:l[n]?=some s)(hk:k < 14+s.length)(hx:(bookW l c)[(bookW (l.take n) c).length+k]?≠some x) :
 readW 60 ((bookW l c).set ((bookW (l.take n) c).length+k) x) c=(l.take n,(bookW (l.take n) c).length):=by
 have hn:=(List.getElem?_eq_some_iff.1 h).1;rw[book_at h,List.getElem?_append_right (by omega),Nat.add_sub_cancel_left,List.getElem?_append_left (by rw[rec_len];omega)] at hx;rw[book_at h,List.set_append_right _ _ (by omega),Nat.add_sub_cancel_left,List.set_append_left _ _ (by rw[rec_len];omega)];exact read_part hs hl (by omega) (read_bad (hs s (List.mem_of_getElem? h)) (fold_lt _ hc) _ hk hx _)
theorem stops_all (c:Nat):readW 60 (bookW l c) c=(l,(bookW l c).length):=by
 have h:=read_part hs hl (n:=l.length) (c:=c) (r:=[]) (Nat.le_refl _) (read_nil _ _)
 rwa [List.take_length,List.append_nil] at h
theorem bound_ne {n c:Nat}{s t:List UInt8}(hc:c < 11881357)(h:l[n]?=some s)(ht:l[n+1]?=some t)(hne:(l.take n).foldl chkW c≠chkW ((l.take n).foldl chkW c) s) :
 readW 60 (bookW (l.take n) c++(bookW l c).drop (bookW (l.take (n+1)) c).length) c=(l.take n,(bookW (l.take n) c).length):=by
 have hn:=(List.getElem?_eq_some_iff.1 h).1
 have e:(bookW l c).drop (bookW (l.take (n+1)) c).length=recW t (chkW ((l.take n).foldl chkW c) s)++bookW (l.drop (n+2)) (chkW (chkW ((l.take n).foldl chkW c) s) t):=by
  have:=book_at (c:=c) ht;rw[this,List.drop_left,List.take_add_one,h,Option.toList_some,List.foldl_append]
  rfl
 rw[e];exact read_part hs hl (by omega) (read_other (hs t (List.mem_of_getElem? ht)) (fold_lt _ hc) (chk_lt (fold_lt _ hc) s) hne _ _)
theorem bound_eq {n c:Nat}{s:List UInt8}(h:l[n]?=some s)(he:(l.take n).foldl chkW c=chkW ((l.take n).foldl chkW c) s) :
 (readW 60 (bookW (l.take n) c++(bookW l c).drop (bookW (l.take (n+1)) c).length) c).1=l.take n++l.drop (n+1):=by
 have hn:=(List.getElem?_eq_some_iff.1 h).1
 have e:(bookW l c).drop (bookW (l.take (n+1)) c).length=bookW (l.drop (n+1)) ((l.take n).foldl chkW c):=by
  rw[book_at (c:=c) h,book_succ h,← List.append_assoc,List.drop_left,← he]
 rw[e,← book_app]
 have hm:∀ s∈l.take n++l.drop (n+1),s.length≤300:=fun s h=>by
  rcases List.mem_append.1 h with h | h
  · exact hs s (List.mem_of_mem_take h)
  · exact hs s (List.mem_of_mem_drop h)
 rw[stops_all hm (by rw[List.length_append,List.length_take,List.length_drop];omega)]
end
open Go.RowKit Go.Proofs Go.ChangeShapes Go.WideShapes Go.Deep
theorem list_choice {α:Type}{P:Nat→α→Prop}:∀(n:Nat),(∀ i,i < n→∃ x,P i x)→∃ l:List α,l.length=n∧∀(i:Nat) (x:α),l[i]?=some x→P i x
 | 0,_=>⟨[],rfl,fun i x h=>by simp at h⟩
 | n+1,h=>by
  obtain⟨l,hl,hp⟩:=list_choice n (fun i hi=>h i (by omega));obtain⟨x,hx⟩:=h n (by omega);refine⟨l++[x],by simp[hl],fun i y hy=>?_⟩
  rcases Nat.lt_or_ge i n with h' | h'
  · rw[List.getElem?_append_left (by omega)] at hy;exact hp i y hy
  · rw[List.getElem?_append_right (by omega)] at hy
    have:i=n:=by
     have:=(List.getElem?_eq_some_iff.1 hy).1;simp at this;omega
    subst this;simp[hl] at hy;subst hy;exact hx
section
variable {H:Type} {enc:TypeId × Value→H} {P:Program} {w:World} {base:Nat} {spare:Nat→Bool} {held:Bool}
theorem rd_gen {α:Type}{en:α→List Value}{k:Nat}{Q:α→Prop}{t e:TypeId}(ht:P.underlying t=some (.slice e))(hC:P.cellsOf e=k)(hk:0 < k)
 (hel:∀(fuel:Nat) (cs:List Value) (x:DataW H × List MemPlace),DataW.trod enc P w base spare held fuel e cs=some x→∃ a,en a=cs∧Q a) {fuel:Nat} {cs:List Value} {x:DataW H × List MemPlace}
 (h:DataW.trod enc P w base spare held fuel t cs=some x):∃ A len cap l,cs=[.slice A len cap]∧Rd en k w A len l∧len≤cap∧cap≤maxLen∧∀ a∈l,Q a:=by
 rcases open_slice ht h with h0 | ⟨a,len,cap,m,n,D,Pl,hcs,hb,hl,hm,hmm,hx,hi⟩
 · exact⟨none,0,0,[],h0.1,Rd.nil _ _ _ _,Nat.le_refl _,Nat.zero_le _,fun x hx=>by cases hx⟩
 · have hlm:len≤m:=by rw[hmm];split <;> omega
   obtain⟨l,hll,hp⟩:=list_choice (P:=fun i (x:α)=>Q x∧(en x).length=k∧∀ j,j < k→w.cell? (a.add (i * k+j))=(en x)[j]?) len (fun i him=>by
    obtain⟨cs',hc,ht'⟩:=hi i (by omega);obtain⟨x,hex,hq⟩:=hel _ _ _ ht';rw[hC] at hc;obtain⟨_,hcl,hat⟩:=World.cells?_some hc;refine⟨x,hq,by rw[hex,hcl],fun j hj=>?_⟩;have:=hat j hj;rw[Go.Deep.add_add] at this
    rw[hex];exact this)
   refine⟨some a,len,cap,l,hcs,⟨hll,fun hn=>?_⟩,hl,hm,fun x hx=>?_⟩
   · obtain⟨x0,hx0⟩:∃ x,l[0]?=some x:=⟨_,List.getElem?_eq_getElem (by omega)⟩
     obtain⟨_,hl0,hc⟩:=hp 0 x0 hx0;obtain⟨b,off,spot⟩:=a;have hc0:=hc 0 hk;rw[List.getElem?_eq_getElem (by omega)] at hc0
     have hsp:spot=none:=by simpa[Addr.add] using World.cell?_spot hc0
     subst hsp;refine⟨b,off,rfl,?_,fun i x hx j v hv=>?_⟩
     · simp only[Nat.zero_mul,Nat.add_zero,Addr.add,if_true] at hc0
       exact World.block_lt_of_cell? w _ hc0
     · obtain⟨_,hlx,hc⟩:=hp i x hx
       have hj:j < k:=by have:=(List.getElem?_eq_some_iff.1 hv).1;omega
       have:=hc j hj
       have hadd:(⟨b,off,none⟩:Addr).add (i * k+j)=⟨b,off+(i * k+j),none⟩:=by unfold Addr.add;split <;> simp_all
       rw[hadd,← Nat.add_assoc,hv] at this;exact this
   · obtain⟨i,hix⟩:=List.getElem?_of_mem hx
     exact(hp i x hix).1
end
section
variable {H:Type} {enc:TypeId × Value→H} {w:World} {base:Nat} {spare:Nat→Bool} {held:Bool}
end
section
variable {H:Type} {enc:TypeId × Value→H} {P:Program} {w:World} {base:Nat} {spare:Nat→Bool} {held:Bool}
end
end Go.Proofs.YtlaengnhfjlphaaGreatDoor
