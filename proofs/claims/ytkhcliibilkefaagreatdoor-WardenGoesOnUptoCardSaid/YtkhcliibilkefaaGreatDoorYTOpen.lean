/- CONTRACTS of the small functions of package gauge and of its reference: within, In, tick, signal. -/
import Derived.BigQuiet
import Derived.Deep.QuietTactic
import Derived.StillTail
import Derived.Deep.RegionHeld3
import Derived.Deep.AppendLies
import Derived.Deep.DrawnRows
import Derived.Test.YtkhcliibilkefaaGreatDoorNumber
import Derived.Laws.StructEq
import Derived.Maps.AppendAt
import Derived.Test.YtkhcliibilkefaaGreatDoorZRound
import Derived.OrdersIn
import Derived.OwnWalkIn
import Derived.RangeFuncCalls
import Derived.Deep.Slices
import Derived.Deep.Fields
import Derived.ChangeSame
import Derived.OpenShut
set_option linter.unusedVariables false
set_option linter.unusedSimpArgs false
set_option maxRecDepth 100000
set_option maxHeartbeats 8000000
namespace Go.Proofs.YtkhcliibilkefaaGreatDoor.Ga
open Lib (hid)
open Go.RowKit Go.Proofs
def inB (n lo hi:Int):Bool:=decide (lo≤n) && decide (n≤hi)
theorem inB_iff {n lo hi:Int}:inB n lo hi=true↔lo≤n∧n≤hi:=by simp[inB]
theorem inB_not {n lo hi:Int}:inB n lo hi=false↔n<lo∨hi<n:=by
 rw[← Bool.not_eq_true,inB_iff];omega
theorem within_c (n lo hi:Int)(w:World) :
 Calls Tryz.prog 65 #[.int .i64 n,.int .i64 lo,.int .i64 hi] w fun e w'=>e=.returned (.bool (inB n lo hi))∧w=w':=by
 by_cases h:lo≤n
 · go_enter Tryz.func65,Tryz.ntmps65
   go_wp2
   go_ret
   exact⟨ret_bool (by simp[inB,h]),rfl⟩
 · have h':n<lo:=by omega
   go_enter Tryz.func65,Tryz.ntmps65
   go_wp2
   go_ret
   exact⟨ret_bool (inB_not.2 (.inl h')).symm,rfl⟩
theorem tick_c (n:Int)(w:World) :
 Calls Tryz.prog 66 #[.int .i64 n] w fun e w'=>e=.returned (.bool (inB n 0 1000000000))∧w=w':=by
 go_enter Tryz.func66,Tryz.ntmps66
 go_wp2_with (go_at_call 65;refine(within_c _ _ _ _).mono ?_;rintro e w' ⟨rfl,rfl⟩)
 go_ret
 exact⟨rfl,rfl⟩
theorem signal_c (n:Int)(w:World) :
 Calls Tryz.prog 67 #[.int .i64 n] w fun e w'=>e=.returned (.bool (inB n (-1000000000) 1000000000))∧w=w':=by
 go_enter Tryz.func67,Tryz.ntmps67
 go_wp2_with (go_at_call 65;refine(within_c _ _ _ _).mono ?_;rintro e w' ⟨rfl,rfl⟩)
 go_ret
 exact⟨rfl,rfl⟩
def allB {α:Type}(p:α→Bool)(l:List α):Bool:=l.all p
theorem allB_iff {α:Type}{p:α→Bool}{l:List α}:allB p l=true↔∀(i:Nat) (x:α),l[i]?=some x→p x=true:=by
 simp only[allB,List.all_eq_true]
 constructor
 · intro h i x hx;exact h x (List.mem_of_getElem? hx)
 · intro h x hx;obtain⟨i,hi⟩:=List.getElem?_of_mem hx;exact h i x hi
theorem allB_not {α:Type}{p:α→Bool}{l:List α}:allB p l=false↔∃(i:Nat) (x:α),l[i]?=some x∧p x=false:=by
 rw[← Bool.not_eq_true,allB_iff]
 constructor
 · intro h
   exact Classical.byContradiction fun hn=>h fun i x hx=>by
    cases hp:p x with
    | true=>rfl
    | false=>exact absurd ⟨i,x,hx,hp⟩ hn
 · rintro⟨i,x,hx,hp⟩ h
   rw[h i x hx] at hp;cases hp
section
variable {p:Rdg→Bool}
end
section
variable {p:Lst→Bool}
end
section
variable {p:Lst→Bool}
end
def validB (r:Rdg):Bool:=inB r.ins 0 255 && inB r.num 0 65535 && inB r.tim 0 1000000000 && inB r.val (-1000000000) 1000000000
theorem valid_c (r:Rdg)(w:World) :
 Calls Tryz.prog 48 #[.agg #[.int .i64 r.ins,.int .i64 r.num,.int .i64 r.tim,.int .i64 r.val]] w fun e w'=>e=.returned (.bool (validB r))∧Below w.heap.size w w':=by
 have hv:validB r=(inB r.ins 0 255 && inB r.num 0 65535 && inB r.tim 0 1000000000 && inB r.val (-1000000000) 1000000000):=rfl;cases h1:inB r.ins 0 255
 · have hm:validB r=false:=by rw[hv,h1];rfl
   have HM:=hid hm;clear hm hv
   go_enter Tryz.func48,Tryz.ntmps48
   go_wp2_with (first | (go_at_call 65;refine(within_c _ _ _ _).mono ?_;rintro e w' ⟨rfl,rfl⟩) | (go_at_call 66;refine(tick_c _ _).mono ?_;rintro e w' ⟨rfl,rfl⟩) | (go_at_call 67;refine(signal_c _ _).mono ?_;rintro e w' ⟨rfl,rfl⟩))
   go_ret
   exact⟨ret_bool HM.out.symm,(Below.refl _ _).alloc (Nat.le_refl _) _⟩
 · cases h2:inB r.num 0 65535
   · have hm:validB r=false:=by rw[hv,h1,h2];rfl
     have HM:=hid hm;clear hm hv
     go_enter Tryz.func48,Tryz.ntmps48
     go_wp2_with (first | (go_at_call 65;refine(within_c _ _ _ _).mono ?_;rintro e w' ⟨rfl,rfl⟩) | (go_at_call 66;refine(tick_c _ _).mono ?_;rintro e w' ⟨rfl,rfl⟩) | (go_at_call 67;refine(signal_c _ _).mono ?_;rintro e w' ⟨rfl,rfl⟩))
     go_ret
     exact⟨ret_bool HM.out.symm,(Below.refl _ _).alloc (Nat.le_refl _) _⟩
   · cases h3:inB r.tim 0 1000000000
     · have hm:validB r=false:=by rw[hv,h1,h2,h3];rfl
       have HM:=hid hm;clear hm hv
       go_enter Tryz.func48,Tryz.ntmps48
       go_wp2_with (first | (go_at_call 65;refine(within_c _ _ _ _).mono ?_;rintro e w' ⟨rfl,rfl⟩) | (go_at_call 66;refine(tick_c _ _).mono ?_;rintro e w' ⟨rfl,rfl⟩) | (go_at_call 67;refine(signal_c _ _).mono ?_;rintro e w' ⟨rfl,rfl⟩))
       go_ret
       exact⟨ret_bool HM.out.symm,(Below.refl _ _).alloc (Nat.le_refl _) _⟩
     · have hm:validB r=inB r.val (-1000000000) 1000000000:=by rw[hv,h1,h2,h3];rfl
       have HM:=hid hm;clear hm hv
       go_enter Tryz.func48,Tryz.ntmps48
       go_wp2_with (first | (go_at_call 65;refine(within_c _ _ _ _).mono ?_;rintro e w' ⟨rfl,rfl⟩) | (go_at_call 66;refine(tick_c _ _).mono ?_;rintro e w' ⟨rfl,rfl⟩) | (go_at_call 67;refine(signal_c _ _).mono ?_;rintro e w' ⟨rfl,rfl⟩))
       go_ret
       exact⟨ret_bool HM.out.symm,(Below.refl _ _).alloc (Nat.le_refl _) _⟩
def RdLL (w:World)(A:Option Addr)(n:Nat)(ls:List Lst):Prop:=Rd encL 1 w A n ls∧∀(i:Nat) (x:Lst),ls[i]?=some x→Rd encR 4 w x.A x.n x.l∧x.n≤maxLen∧x.n≤x.c
theorem RdLL.below {w w':World}{A:Option Addr}{n:Nat}{ls:List Lst}(h:RdLL w A n ls)(hb:Below w.heap.size w w'):RdLL w' A n ls :=
 ⟨h.1.mono hb,fun i x hx=>⟨(h.2 i x hx).1.mono hb,(h.2 i x hx).2⟩⟩
end Go.Proofs.YtkhcliibilkefaaGreatDoor.Ga
namespace Go.Proofs.YtkhcliibilkefaaGreatDoor.Ga
open Lib (hid)
open Go.RowKit
def Ext (w0:World):Type:={ W:World // Below w0.heap.size w0 W }
instance (w0:World):Nonempty (Ext w0):=⟨⟨w0,Below.refl _ _⟩⟩
def Ext.w {w0:World}(p:Ext w0):World:=p.1
theorem Ext.below {w0:World}(p:Ext w0):Below w0.heap.size w0 p.w:=p.2
@[go_sem] theorem Ext.cell {w0:World} (p:Ext w0) {b o:Nat} (h:b<w0.heap.size):p.w.cell? ⟨b,o,none⟩=w0.cell? ⟨b,o,none⟩:=p.below.cell (p:=⟨b,o,none⟩) h
@[go_sem] theorem Ext.ex {w0:World} (p:Ext w0):(∃ q:Ext w0,p.w=q.w)=True:=by simp only[eq_iff_iff,iff_true];exact⟨p,rfl⟩
section
variable {P:Program} {ops:Array Oper} {md:Region.Mode} {C:World→Prop}
end
end Go.Proofs.YtkhcliibilkefaaGreatDoor.Ga
namespace Go.Proofs.YtkhcliibilkefaaGreatDoor.Ga
open Lib (hid)
def markB (x:Int×Int):Bool:=inB x.1 0 1000000000 && inB x.2 0 1000000000
def Rising (l:List (Int×Int))(m:Nat):Prop:=∀(i:Nat) (x y:Int×Int),i<m→l[i]?=some x→l[i+1]?=some y→x.1<y.1∧x.2<y.2
def MarksOk (l:List (Int×Int)):Prop:=1≤l.length∧l.length≤10∧allB markB l=true∧Rising l (l.length - 1)
open Classical in
theorem Rising.zero (l:List (Int×Int)):Rising l 0:=fun i _ _ hi=>absurd hi (by omega)
theorem Rising.le {l:List (Int×Int)}{m:Nat}(h:Rising l m)(hm:l.length≤m+1):Rising l (l.length - 1):=fun i x y hi hx hy=>h i x y (by omega) hx hy
theorem Rising.succ {l:List (Int×Int)}{m:Nat}{x y:Int×Int}(h:Rising l m)(hx:l[m]?=some x)(hy:l[m+1]?=some y)(h1:x.1<y.1)(h2:x.2<y.2):Rising l (m+1):=by
 intro i u v hi hu hv
 rcases Nat.lt_or_ge i m with h' | h'
 · exact h i u v h' hu hv
 · obtain rfl:i=m:=by omega
   rw[hx] at hu;rw[hy] at hv;cases hu;cases hv;exact⟨h1,h2⟩
theorem lt_of_get {α:Type}{l:List α}{i:Nat}{x:α}(hx:l[i]?=some x):i<l.length:=(List.getElem?_eq_some_iff.1 hx).1
theorem get_of_lt {α:Type}{l:List α}{i:Nat}(h:i<l.length):∃ x,l[i]?=some x:=⟨_,List.getElem?_eq_getElem h⟩
theorem MarksOk.step {l:List (Int×Int)}(h:MarksOk l){i:Nat}{x y:Int×Int}(hx:l[i]?=some x)(hy:l[i+1]?=some y):x.1<y.1∧x.2<y.2 :=
 h.2.2.2 i x y (by have:=lt_of_get hy;omega) hx hy
theorem MarksOk.mono {l:List (Int×Int)}(h:MarksOk l){i:Nat}:∀ {j:Nat} {x y:Int×Int},i<j→l[i]?=some x→l[j]?=some y→x.1<y.1∧x.2<y.2:=by
 intro j
 induction j with
 | zero=>intro x y hij;omega
 | succ j ih =>
  intro x y hij hx hy;obtain⟨z,hz⟩:=get_of_lt (l:=l) (i:=j) (by have:=lt_of_get hy;omega);have h1:=h.step hz hy
  rcases Nat.lt_or_ge i j with h' | h'
  · have:=ih h' hx hz;omega
  · obtain rfl:i=j:=by omega
    rw[hx] at hz;cases hz;exact h1
def IsTime (l:List (Int×Int))(clock v:Int):Prop :=
 (∀ x,l[0]?=some x→clock≤x.1→v=x.2+clock - x.1)∧(∀ x,l[l.length - 1]?=some x→x.1≤clock→v=x.2+clock - x.1) ∧
 ∀(i:Nat) (x y:Int×Int),l[i]?=some x→l[i+1]?=some y→x.1≤clock→clock<y.1→v=x.2+(clock - x.1) * (y.2 - x.2) / (y.1 - x.1)
theorem IsTime.at_ {l:List (Int×Int)}{clock v:Int}(h:IsTime l clock v){i:Nat}{x:Int×Int}(hx:l[i]?=some x)(hlo:i=0∨x.1≤clock)(hhi:∀ y,l[i+1]?=some y→clock<y.1) :
 (clock≤x.1∨i=l.length - 1→v=x.2+clock - x.1)∧∀ y,l[i+1]?=some y→x.1<clock→v=x.2+(clock - x.1) * (y.2 - x.2) / (y.1 - x.1):=by
 have hi:=lt_of_get hx
 constructor
 · intro hc
   by_cases hlast:i=l.length - 1
   · by_cases h1:x.1≤clock
     · exact h.2.1 x (by rw[← hlast];exact hx) h1
     · have h0:i=0:=by omega
       subst h0;exact h.1 x hx (by omega)
   · obtain⟨y,hy⟩:=get_of_lt (l:=l) (i:=i+1) (by omega)
     have h3:=hhi y hy
     by_cases h1:x.1≤clock
     · have h4:=h.2.2 i x y hx hy h1 h3
       have:clock - x.1=0:=by omega
       rw[h4,this,Int.zero_mul,Int.zero_ediv];omega
     · have h0:i=0:=by omega
       subst h0;exact h.1 x hx (by omega)
 · intro y hy hlt
   exact h.2.2 i x y hx hy (by omega) (hhi y hy)
open Go.RowKit Go.Proofs
def ptB (x:Int×Int):Bool:=inB x.1 0 1000000000 && inB x.2 (-1000000000) 1000000000
open Go.RowKit Go.Proofs
section
variable {p:Int×Int→Bool}
end
open Go.RowKit Go.Proofs
def SerUp (l:List (Int×Int))(m:Nat):Prop:=∀(i:Nat) (x y:Int×Int),i<m→l[i]?=some x→l[i+1]?=some y→x.1<y.1
structure SerOk (l:List (Int×Int)):Prop where
 len:l.length≤60
 pts:allB ptB l=true
 up:SerUp l (l.length - 1)
theorem SerOk.pt {l:List (Int×Int)}(h:SerOk l){i:Nat}{x:Int×Int}(hx:l[i]?=some x):ptB x=true:=allB_iff.1 h.pts i x hx
theorem SerOk.step {l:List (Int×Int)}(h:SerOk l){i:Nat}{x y:Int×Int}(hx:l[i]?=some x)(hy:l[i+1]?=some y):x.1<y.1 :=
 h.up i x y (by have:=lt_of_get hy;omega) hx hy
theorem SerOk.mono {l:List (Int×Int)}(h:SerOk l){i:Nat}:∀ {j:Nat} {x y:Int×Int},i<j→l[i]?=some x→l[j]?=some y→x.1<y.1:=by
 intro j
 induction j with
 | zero=>intro x y hij;omega
 | succ j ih =>
  intro x y hij hx hy;obtain⟨z,hz⟩:=get_of_lt (l:=l) (i:=j) (by have:=lt_of_get hy;omega);have h1:=h.step hz hy
  rcases Nat.lt_or_ge i j with h' | h'
  · have:=ih h' hx hz;omega
  · obtain rfl:i=j:=by omega
    rw[hx] at hz;cases hz;exact h1
open Go.RowKit Go.Proofs
attribute [local go_sem ↓] Go.wp_at_zero Go.wp_at_succ
open Go.RowKit Go.Proofs
open Go.RowKit Go.Proofs
theorem infoRdg:(Tryz.prog.info? 86).map (fun i=>(i.zero,i.size,i.bytes))=some (some (.agg #[.int .i64 0,.int .i64 0,.int .i64 0,.int .i64 0]),4,32):=by kernel_rfl
end Go.Proofs.YtkhcliibilkefaaGreatDoor.Ga
namespace Go.Proofs.YtkhcliibilkefaaGreatDoor
open Lib (hid)
open Go.RowKit Go.Proofs
def OnlyN (Q:Exit→Act→World→Prop):Exit→Act→World→Prop
 | .normal,a,w=>Q .normal a w
 | _,_,_=>False
def noDefer (ops:Array Oper):Bool:=ops.toList.all fun o=>match o.op with | .defer _=>false | _=>true
theorem noDefer_at {ops:Array Oper}(h:noDefer ops=true){i:Nat}{o:Oper}(ho:ops[i]?=some o):∀ c,o.op≠.defer c:=by
 intro c e;unfold noDefer at h;rw[List.all_eq_true] at h;have:=h o (List.mem_of_getElem? (i:=i) (by simpa using ho));rw[e] at this;cases this
section
variable {n:Nat} {P:Program} {Q:Exit→Act→World→Prop}
theorem wpIn_of_wp {l:Nat}{o:Oper}{a:Act}{w:World}{K:Act→World→Prop}(hd:∀ c,o.op≠.defer c)(h:o.wp P a w K (OnlyN Q)):o.wpIn (Fence.wide.inRound l) n P a w K Q:=by
 unfold Oper.wp at h;unfold Oper.wpIn;refine⟨fun f _=>trivial,?_⟩;rw[Oper.semAt_plain _ _ _ hd];generalize (execOp a.eval o).run P w=r at *
 cases r with
 | ok x w' =>
  cases x<;>simp only[Oper.uponIn,Oper.upon] at h ⊢
  · exact h
  · exact h
  · refine⟨fun hh=>(by cases hh),CallsIn.inRound l (callsIn_wide.2 (Calls.mono h fun e w'' he=>?_))⟩
    cases e with
    | returned v=>exact he
    | panicked chain=>exact he.elim
    | outgrown=>obtain⟨_,_,he⟩:=he;exact he.elim
  · exact h
  · exact⟨fun hh=>(by cases hh),fun c cs _=>let ⟨v,w2,k,s⟩:=h c cs;⟨v,w2,k,stepsIn_wide.2 s⟩⟩
 | halt x w'=>cases x<;>simp only[Oper.uponIn,Oper.upon] at h ⊢<;>exact h.elim
theorem wpOpIn_of_wpOp {l:Nat}{ops:Array Oper}(hd:noDefer ops=true){i:Nat}{K K':Act→World→Prop}(hK:∀ a w,K a w→K' a w){a:Act}{w:World}(h:wpOp P ops (OnlyN Q) i K a w):wpOpIn (Fence.wide.inRound l) n P ops Q i K' a w:=by
 unfold wpOp at h;unfold wpOpIn
 cases ho:ops[i]? with
 | none=>simp only[ho] at h ⊢;exact hK _ _ h
 | some o =>
  simp only[ho] at h ⊢
  split at h
  · rename_i hw
    rw[if_pos hw]
    rcases h with h | ⟨_,_,_,h⟩
    · exact Oper.wpIn_mono hK (wpIn_of_wp (noDefer_at hd ho) h)
    · exact h.elim
  · rename_i hw
    rw[if_neg hw];exact⟨fun f _=>trivial,hK _ _ h⟩
theorem wpAnyIn_of_wpAny {l:Nat}{ops:Array Oper}(hd:noDefer ops=true){md:Region.Mode}:∀(fuel:Nat) (listed:Array Bool) (a:Act) (w:World),wpAny P md ops (OnlyN Q) fuel listed a w→wpAnyIn (Fence.wide.inRound l) n P md ops Q fuel listed a w
 | 0,listed,a,w,h=>h
 | fuel+1,listed,a,w,h=>⟨h.1,fun i hi=>wpOpIn_of_wpOp hd (fun a w h=>wpAnyIn_of_wpAny hd fuel _ a w h) (h.2 i hi)⟩
end
end Go.Proofs.YtkhcliibilkefaaGreatDoor
namespace Go.Proofs.YtkhcliibilkefaaGreatDoor
open Lib (hid)
theorem book_app:∀(l r:List (List UInt8)) (c:Nat),bookW (l++r) c=bookW l c++bookW r (l.foldl chkW c)
 | [],_,_=>rfl
 | s::l,r,c=>by rw[List.cons_append,bookW,book_app l r,bookW,List.append_assoc];rfl
theorem fold_lt:∀(l:List (List UInt8)) {c:Nat},c<11881357→l.foldl chkW c<11881357
 | [],_,h=>h
 | s::l,_,h=>fold_lt l (chk_lt h s)
theorem read_nil (f c:Nat):readW f [] c=([],0):=by cases f<;>rfl
theorem parts_at {α:Type}{l:List α}{n:Nat}{s:α}(h:l[n]?=some s):l=l.take n++(s::l.drop (n+1)):=by
 obtain⟨hn,e⟩:=List.getElem?_eq_some_iff.1 h;rw[← e,← List.drop_eq_getElem_cons hn,List.take_append_drop]
theorem book_at {l:List (List UInt8)}{n c:Nat}{s:List UInt8}(h:l[n]?=some s) :
 bookW l c=bookW (l.take n) c++(recW s ((l.take n).foldl chkW c)++bookW (l.drop (n+1)) (chkW ((l.take n).foldl chkW c) s)):=by
 have e:=parts_at h;rw[e,book_app,bookW];rw[← e]
theorem book_succ {l:List (List UInt8)}{n c:Nat}{s:List UInt8}(h:l[n]?=some s):bookW (l.take (n+1)) c=bookW (l.take n) c++recW s ((l.take n).foldl chkW c):=by
 rw[List.take_add_one,h,Option.toList_some,book_app,bookW,bookW,List.append_nil]
theorem book_len {l:List (List UInt8)}{n c:Nat}{s:List UInt8}(h:l[n]?=some s):(bookW (l.take (n+1)) c).length=(bookW (l.take n) c).length+(14+s.length):=by
 rw[book_succ h,List.length_append,rec_len]
section
variable {l:List (List UInt8)} (hs:∀ s∈l,s.length≤300) (hl:l.length≤60)
include hs hl
theorem read_part {n c:Nat}{r:List UInt8}(hn:n≤l.length)(hr:readW (60 - n) r ((l.take n).foldl chkW c)=([],0)) :
 readW 60 (bookW (l.take n) c++r) c=(l.take n,(bookW (l.take n) c).length):=by
 have ht:(l.take n).length=n:=by rw[List.length_take];omega
 rw[read_book (l.take n) 60 c r (fun s h=>hs s (List.mem_of_mem_take h)) (by omega),ht,hr];simp
theorem stops_cut {n k c:Nat}{s:List UInt8}(h:l[n]?=some s)(hk:k<14+s.length) :
 readW 60 ((bookW l c).take ((bookW (l.take n) c).length+k)) c=(l.take n,(bookW (l.take n) c).length):=by
 have hn:=(List.getElem?_eq_some_iff.1 h).1;rw[book_at h,List.take_length_add_append,List.take_append_of_le_length (by rw[rec_len];omega)];exact read_part hs hl (by omega) (read_cut (hs s (List.mem_of_getElem? h)) _ _ _ hk)
theorem stops_all (c:Nat):readW 60 (bookW l c) c=(l,(bookW l c).length):=by
 have h:=read_part hs hl (n:=l.length) (c:=c) (r:=[]) (Nat.le_refl _) (read_nil _ _)
 rwa [List.take_length,List.append_nil] at h
end
open Go.RowKit Go.Proofs Go.ChangeShapes Go.WideShapes Go.Deep
theorem list_choice {α:Type}{P:Nat→α→Prop}:∀(n:Nat),(∀ i,i<n→∃ x,P i x)→∃ l:List α,l.length=n∧∀(i:Nat) (x:α),l[i]?=some x→P i x
 | 0,_=>⟨[],rfl,fun i x h=>by simp at h⟩
 | n+1,h=>by
  obtain⟨l,hl,hp⟩:=list_choice n (fun i hi=>h i (by omega));obtain⟨x,hx⟩:=h n (by omega);refine⟨l++[x],by simp[hl],fun i y hy=>?_⟩
  rcases Nat.lt_or_ge i n with h' | h'
  · rw[List.getElem?_append_left (by omega)] at hy;exact hp i y hy
  · rw[List.getElem?_append_right (by omega)] at hy
    have:i=n:=by
     have:=(List.getElem?_eq_some_iff.1 hy).1;simp at this;omega
    subst this;simp[hl] at hy;subst hy;exact hx
section
variable {H:Type} {enc:TypeId×Value→H} {P:Program} {w:World} {base:Nat} {spare:Nat→Bool} {held:Bool}
theorem rd_gen {α:Type}{en:α→List Value}{k:Nat}{Q:α→Prop}{t e:TypeId}(ht:P.underlying t=some (.slice e))(hC:P.cellsOf e=k)(hk:0<k)
 (hel:∀(fuel:Nat) (cs:List Value) (x:DataW H×List MemPlace),DataW.trod enc P w base spare held fuel e cs=some x→∃ a,en a=cs∧Q a) {fuel:Nat} {cs:List Value} {x:DataW H×List MemPlace}
 (h:DataW.trod enc P w base spare held fuel t cs=some x):∃ A len cap l,cs=[.slice A len cap]∧Rd en k w A len l∧len≤cap∧cap≤maxLen∧∀ a∈l,Q a:=by
 rcases open_slice ht h with h0 | ⟨a,len,cap,m,n,D,Pl,hcs,hb,hl,hm,hmm,hx,hi⟩
 · exact⟨none,0,0,[],h0.1,Rd.nil _ _ _ _,Nat.le_refl _,Nat.zero_le _,fun x hx=>by cases hx⟩
 · have hlm:len≤m:=by rw[hmm];split<;>omega
   obtain⟨l,hll,hp⟩:=list_choice (P:=fun i (x:α)=>Q x∧(en x).length=k∧∀ j,j<k→w.cell? (a.add (i * k+j))=(en x)[j]?) len (fun i him=>by
    obtain⟨cs',hc,ht'⟩:=hi i (by omega);obtain⟨x,hex,hq⟩:=hel _ _ _ ht';rw[hC] at hc;obtain⟨_,hcl,hat⟩:=World.cells?_some hc;refine⟨x,hq,by rw[hex,hcl],fun j hj=>?_⟩;have:=hat j hj;rw[Go.Deep.add_add] at this
    rw[hex];exact this)
   refine⟨some a,len,cap,l,hcs,⟨hll,fun hn=>?_⟩,hl,hm,fun x hx=>?_⟩
   · obtain⟨x0,hx0⟩:∃ x,l[0]?=some x:=⟨_,List.getElem?_eq_getElem (by omega)⟩
     obtain⟨_,hl0,hc⟩:=hp 0 x0 hx0;obtain⟨b,off,spot⟩:=a;have hc0:=hc 0 hk;rw[List.getElem?_eq_getElem (by omega)] at hc0
     have hsp:spot=none:=by simpa[Addr.add] using World.cell?_spot hc0
     subst hsp;refine⟨b,off,rfl,?_,fun i x hx j v hv=>?_⟩
     · simp only[Nat.zero_mul,Nat.add_zero,Addr.add,if_true] at hc0
       exact World.block_lt_of_cell? w _ hc0
     · obtain⟨_,hlx,hc⟩:=hp i x hx
       have hj:j<k:=by have:=(List.getElem?_eq_some_iff.1 hv).1;omega
       have:=hc j hj
       have hadd:(⟨b,off,none⟩:Addr).add (i * k+j)=⟨b,off+(i * k+j),none⟩:=by unfold Addr.add;split<;>simp_all
       rw[hadd,← Nat.add_assoc,hv] at this;exact this
   · obtain⟨i,hix⟩:=List.getElem?_of_mem hx
     exact(hp i x hix).1
end
section
variable {H:Type} {enc:TypeId×Value→H} {w:World} {base:Nat} {spare:Nat→Bool} {held:Bool}
end
section
variable {H:Type} {enc:TypeId×Value→H} {P:Program} {w:World} {base:Nat} {spare:Nat→Bool} {held:Bool}
end
end Go.Proofs.YtkhcliibilkefaaGreatDoor
