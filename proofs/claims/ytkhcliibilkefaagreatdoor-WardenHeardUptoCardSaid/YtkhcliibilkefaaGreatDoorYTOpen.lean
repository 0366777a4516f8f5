/- THE CONTRACTS of Reading.valid and gauge.check. -/
import Derived.Test.YtkhcliibilkefaaGreatDoorAllLists2
import Derived.BigQuiet
import Derived.Deep.QuietTactic
import Derived.StillTail
import Derived.Deep.RegionHeld3
import Derived.Deep.AppendLies
import Derived.Deep.DrawnRows
import Derived.Laws.StructEq
import Derived.Maps.AppendAt
import Derived.Test.YtkhcliibilkefaaGreatDoorZRound
import Derived.OrdersIn
import Derived.OwnWalkIn
import Derived.RangeFuncCalls
import Derived.Deep.Slices
import Derived.Deep.Fields
import Derived.ChangeSame
import Derived.OpenShut
set_option linter.unusedVariables false
set_option linter.unusedSimpArgs false
set_option maxRecDepth 100000
set_option maxHeartbeats 8000000
namespace Go.Proofs.YtkhcliibilkefaaGreatDoor.Ga
open Lib (hid)
open Go.RowKit Go.Proofs
def validB (r:Rdg):Bool:=inB r.ins 0 255 && inB r.num 0 65535 && inB r.tim 0 1000000000 && inB r.val (-1000000000) 1000000000
theorem validB_iff {r:Rdg}:validB r=true↔(0≤r.ins∧r.ins≤255)∧(0≤r.num∧r.num≤65535)∧(0≤r.tim∧r.tim≤1000000000)∧-1000000000≤r.val∧r.val≤1000000000:=by
 simp[validB,inB_iff,and_assoc]
theorem valid_c (r:Rdg)(w:World) :
 Calls Tryz.prog 48 #[.agg #[.int .i64 r.ins,.int .i64 r.num,.int .i64 r.tim,.int .i64 r.val]] w fun e w'=>e=.returned (.bool (validB r))∧Below w.heap.size w w':=by
 have hv:validB r=(inB r.ins 0 255 && inB r.num 0 65535 && inB r.tim 0 1000000000 && inB r.val (-1000000000) 1000000000):=rfl;cases h1:inB r.ins 0 255
 · have hm:validB r=false:=by rw[hv,h1];rfl
   have HM:=hid hm;clear hm hv
   go_enter Tryz.func48,Tryz.ntmps48
   go_wp2_with (first | (go_at_call 65;refine(within_c _ _ _ _).mono ?_;rintro e w' ⟨rfl,rfl⟩) | (go_at_call 66;refine(tick_c _ _).mono ?_;rintro e w' ⟨rfl,rfl⟩) | (go_at_call 67;refine(signal_c _ _).mono ?_;rintro e w' ⟨rfl,rfl⟩))
   go_ret
   exact⟨ret_bool HM.out.symm,(Below.refl _ _).alloc (Nat.le_refl _) _⟩
 · cases h2:inB r.num 0 65535
   · have hm:validB r=false:=by rw[hv,h1,h2];rfl
     have HM:=hid hm;clear hm hv
     go_enter Tryz.func48,Tryz.ntmps48
     go_wp2_with (first | (go_at_call 65;refine(within_c _ _ _ _).mono ?_;rintro e w' ⟨rfl,rfl⟩) | (go_at_call 66;refine(tick_c _ _).mono ?_;rintro e w' ⟨rfl,rfl⟩) | (go_at_call 67;refine(signal_c _ _).mono ?_;rintro e w' ⟨rfl,rfl⟩))
     go_ret
     exact⟨ret_bool HM.out.symm,(Below.refl _ _).alloc (Nat.le_refl _) _⟩
   · cases h3:inB r.tim 0 1000000000
     · have hm:validB r=false:=by rw[hv,h1,h2,h3];rfl
       have HM:=hid hm;clear hm hv
       go_enter Tryz.func48,Tryz.ntmps48
       go_wp2_with (first | (go_at_call 65;refine(within_c _ _ _ _).mono ?_;rintro e w' ⟨rfl,rfl⟩) | (go_at_call 66;refine(tick_c _ _).mono ?_;rintro e w' ⟨rfl,rfl⟩) | (go_at_call 67;refine(signal_c _ _).mono ?_;rintro e w' ⟨rfl,rfl⟩))
       go_ret
       exact⟨ret_bool HM.out.symm,(Below.refl _ _).alloc (Nat.le_refl _) _⟩
     · have hm:validB r=inB r.val (-1000000000) 1000000000:=by rw[hv,h1,h2,h3];rfl
       have HM:=hid hm;clear hm hv
       go_enter Tryz.func48,Tryz.ntmps48
       go_wp2_with (first | (go_at_call 65;refine(within_c _ _ _ _).mono ?_;rintro e w' ⟨rfl,rfl⟩) | (go_at_call 66;refine(tick_c _ _).mono ?_;rintro e w' ⟨rfl,rfl⟩) | (go_at_call 67;refine(signal_c _ _).mono ?_;rintro e w' ⟨rfl,rfl⟩))
       go_ret
       exact⟨ret_bool HM.out.symm,(Below.refl _ _).alloc (Nat.le_refl _) _⟩
theorem allValid_c {l:List Rdg}{A:Option Addr}{n c:Nat}{w:World}(h:Rd encR 4 w A n l)(hn:n≤maxLen) :
 Calls Tryz.prog 47 #[.slice A n c,.func (.func 48) #[] #[]] w fun e w'=>e=.returned (.bool (allB validB l))∧Below w.heap.size w w' :=
 allReading_c w h hn fun _ x W _ _=>valid_c x W
def shortB (x:Lst):Bool:=decide (x.n≤200)
def valB (x:Lst):Bool:=allB validB x.l
theorem check1_c (x:Lst)(w:World):Calls Tryz.prog 45 #[.slice x.A x.n x.c] w fun e w'=>e=.returned (.bool (shortB x))∧Below w.heap.size w w':=by
 go_enter Tryz.func45,Tryz.ntmps45
 go_wp2
 go_ret
 exact⟨ret_bool (by simp[shortB];omega),Below.refl _ _⟩
theorem check2_c (x:Lst)(w:World)(h:Rd encR 4 w x.A x.n x.l)(hn:x.n≤maxLen):Calls Tryz.prog 46 #[.slice x.A x.n x.c] w fun e w'=>e=.returned (.bool (valB x))∧Below w.heap.size w w':=by
 go_enter Tryz.func46,Tryz.ntmps46
 go_wp2_with (go_at_call 47;refine(allValid_c h hn).mono ?_;rintro e w' ⟨rfl,hb⟩)
 go_ret
 exact⟨rfl,hb⟩
def errL (ls:List Lst):Int:=if 6<ls.length∨allB shortB ls=false then 3 else if allB valB ls=false then 1 else 0
def RdLL (w:World)(A:Option Addr)(n:Nat)(ls:List Lst):Prop:=Rd encL 1 w A n ls∧∀(i:Nat) (x:Lst),ls[i]?=some x→Rd encR 4 w x.A x.n x.l∧x.n≤maxLen∧x.n≤x.c
theorem RdLL.below {w w':World}{A:Option Addr}{n:Nat}{ls:List Lst}(h:RdLL w A n ls)(hb:Below w.heap.size w w'):RdLL w' A n ls :=
 ⟨h.1.mono hb,fun i x hx=>⟨(h.2 i x hx).1.mono hb,(h.2 i x hx).2⟩⟩
theorem check_c {ls:List Lst}{A:Option Addr}{n c:Nat}{w:World}(h:RdLL w A n ls)(hn:n≤maxLen) :
 Calls Tryz.prog 32 #[.slice A n c] w fun e w'=>e=.returned (.int .i64 (errL ls))∧Below w.heap.size w w':=by
 have hl:=h.1.len;have HL:=hid hl;clear hl
 by_cases h6:6<n
 · have he:errL ls=3:=by unfold errL;rw[if_pos (.inl (by rw[HL.out];exact h6))]
   have HE:=hid he;clear he
   go_enter Tryz.func32,Tryz.ntmps32
   go_wp2_with fail
   go_ret
   exact⟨ret_int HE.out.symm,Below.refl _ _⟩
 · have c1:=fun(W:World) (hW:Below w.heap.size w W)=>allLists1_c (p:=shortB) (c:=c) W (h.1.mono hW) hn fun _ x W' _ _=>check1_c x W'
   have c2:=fun(W:World) (hW:Below w.heap.size w W)=>allLists2_c (p:=valB) (c:=c) W (h.1.mono hW) hn fun i x W' hx hW'=>check2_c x W' ((h.2 i x hx).1.mono (below_tr hW hW')) (h.2 i x hx).2.1;have C1:=hid c1;have C2:=hid c2;clear c1 c2;cases hs:allB shortB ls
   · have he:errL ls=3:=by unfold errL;rw[if_pos (.inr hs)]
     have HE:=hid he;clear he
     go_enter Tryz.func32,Tryz.ntmps32
     go_wp2_with fail
     refine(C1.out _ (Below.refl _ _)).mono ?_;rintro e w1 ⟨rfl,hb1⟩
     go_wp2_with fail
     go_ret
     exact⟨ret_int HE.out.symm,hb1⟩
   · cases hv:allB valB ls
     · have he:errL ls=1:=by unfold errL;rw[if_neg (by rw[HL.out,hs];simp;omega),if_pos hv]
       have HE:=hid he;clear he
       go_enter Tryz.func32,Tryz.ntmps32
       go_wp2_with fail
       refine(C1.out _ (Below.refl _ _)).mono ?_;rintro e w1 ⟨rfl,hb1⟩
       go_wp2_with fail
       refine(C2.out _ hb1).mono ?_;rintro e w2 ⟨rfl,hb2⟩
       go_wp2_with fail
       go_ret
       exact⟨ret_int HE.out.symm,below_tr hb1 hb2⟩
     · have he:errL ls=0:=by unfold errL;rw[if_neg (by rw[HL.out,hs];simp;omega),if_neg (by rw[hv];simp)]
       have HE:=hid he;clear he
       go_enter Tryz.func32,Tryz.ntmps32
       go_wp2_with fail
       refine(C1.out _ (Below.refl _ _)).mono ?_;rintro e w1 ⟨rfl,hb1⟩
       go_wp2_with fail
       refine(C2.out _ hb1).mono ?_;rintro e w2 ⟨rfl,hb2⟩
       go_wp2_with fail
       go_ret
       exact⟨ret_int HE.out.symm,below_tr hb1 hb2⟩
end Go.Proofs.YtkhcliibilkefaaGreatDoor.Ga
namespace Go.Proofs.YtkhcliibilkefaaGreatDoor.Ga
open Lib (hid)
open Go.RowKit
def Ext (w0:World):Type:={ W:World // Below w0.heap.size w0 W }
instance (w0:World):Nonempty (Ext w0):=⟨⟨w0,Below.refl _ _⟩⟩
def Ext.w {w0:World}(p:Ext w0):World:=p.1
theorem Ext.below {w0:World}(p:Ext w0):Below w0.heap.size w0 p.w:=p.2
@[go_sem] theorem Ext.cell {w0:World} (p:Ext w0) {b o:Nat} (h:b<w0.heap.size):p.w.cell? ⟨b,o,none⟩=w0.cell? ⟨b,o,none⟩:=p.below.cell (p:=⟨b,o,none⟩) h
@[go_sem] theorem Ext.ex {w0:World} (p:Ext w0):(∃ q:Ext w0,p.w=q.w)=True:=by simp only[eq_iff_iff,iff_true];exact⟨p,rfl⟩
section
variable {P:Program} {ops:Array Oper} {md:Region.Mode} {C:World→Prop}
end
end Go.Proofs.YtkhcliibilkefaaGreatDoor.Ga
namespace Go.Proofs.YtkhcliibilkefaaGreatDoor.Ga
open Lib (hid)
def markB (x:Int×Int):Bool:=inB x.1 0 1000000000 && inB x.2 0 1000000000
def Rising (l:List (Int×Int))(m:Nat):Prop:=∀(i:Nat) (x y:Int×Int),i<m→l[i]?=some x→l[i+1]?=some y→x.1<y.1∧x.2<y.2
def MarksOk (l:List (Int×Int)):Prop:=1≤l.length∧l.length≤10∧allB markB l=true∧Rising l (l.length - 1)
open Classical in
theorem Rising.zero (l:List (Int×Int)):Rising l 0:=fun i _ _ hi=>absurd hi (by omega)
theorem Rising.le {l:List (Int×Int)}{m:Nat}(h:Rising l m)(hm:l.length≤m+1):Rising l (l.length - 1):=fun i x y hi hx hy=>h i x y (by omega) hx hy
theorem Rising.succ {l:List (Int×Int)}{m:Nat}{x y:Int×Int}(h:Rising l m)(hx:l[m]?=some x)(hy:l[m+1]?=some y)(h1:x.1<y.1)(h2:x.2<y.2):Rising l (m+1):=by
 intro i u v hi hu hv
 rcases Nat.lt_or_ge i m with h' | h'
 · exact h i u v h' hu hv
 · obtain rfl:i=m:=by omega
   rw[hx] at hu;rw[hy] at hv;cases hu;cases hv;exact⟨h1,h2⟩
theorem lt_of_get {α:Type}{l:List α}{i:Nat}{x:α}(hx:l[i]?=some x):i<l.length:=(List.getElem?_eq_some_iff.1 hx).1
theorem get_of_lt {α:Type}{l:List α}{i:Nat}(h:i<l.length):∃ x,l[i]?=some x:=⟨_,List.getElem?_eq_getElem h⟩
theorem MarksOk.step {l:List (Int×Int)}(h:MarksOk l){i:Nat}{x y:Int×Int}(hx:l[i]?=some x)(hy:l[i+1]?=some y):x.1<y.1∧x.2<y.2 :=
 h.2.2.2 i x y (by have:=lt_of_get hy;omega) hx hy
theorem MarksOk.mono {l:List (Int×Int)}(h:MarksOk l){i:Nat}:∀ {j:Nat} {x y:Int×Int},i<j→l[i]?=some x→l[j]?=some y→x.1<y.1∧x.2<y.2:=by
 intro j
 induction j with
 | zero=>intro x y hij;omega
 | succ j ih =>
  intro x y hij hx hy;obtain⟨z,hz⟩:=get_of_lt (l:=l) (i:=j) (by have:=lt_of_get hy;omega);have h1:=h.step hz hy
  rcases Nat.lt_or_ge i j with h' | h'
  · have:=ih h' hx hz;omega
  · obtain rfl:i=j:=by omega
    rw[hx] at hz;cases hz;exact h1
def IsTime (l:List (Int×Int))(clock v:Int):Prop :=
 (∀ x,l[0]?=some x→clock≤x.1→v=x.2+clock - x.1)∧(∀ x,l[l.length - 1]?=some x→x.1≤clock→v=x.2+clock - x.1) ∧
 ∀(i:Nat) (x y:Int×Int),l[i]?=some x→l[i+1]?=some y→x.1≤clock→clock<y.1→v=x.2+(clock - x.1) * (y.2 - x.2) / (y.1 - x.1)
theorem IsTime.at_ {l:List (Int×Int)}{clock v:Int}(h:IsTime l clock v){i:Nat}{x:Int×Int}(hx:l[i]?=some x)(hlo:i=0∨x.1≤clock)(hhi:∀ y,l[i+1]?=some y→clock<y.1) :
 (clock≤x.1∨i=l.length - 1→v=x.2+clock - x.1)∧∀ y,l[i+1]?=some y→x.1<clock→v=x.2+(clock - x.1) * (y.2 - x.2) / (y.1 - x.1):=by
 have hi:=lt_of_get hx
 constructor
 · intro hc
   by_cases hlast:i=l.length - 1
   · by_cases h1:x.1≤clock
     · exact h.2.1 x (by rw[← hlast];exact hx) h1
     · have h0:i=0:=by omega
       subst h0;exact h.1 x hx (by omega)
   · obtain⟨y,hy⟩:=get_of_lt (l:=l) (i:=i+1) (by omega)
     have h3:=hhi y hy
     by_cases h1:x.1≤clock
     · have h4:=h.2.2 i x y hx hy h1 h3
       have:clock - x.1=0:=by omega
       rw[h4,this,Int.zero_mul,Int.zero_ediv];omega
     · have h0:i=0:=by omega
       subst h0;exact h.1 x hx (by omega)
 · intro y hy hlt
   exact h.2.2 i x y hx hy (by omega) (hhi y hy)
open Go.RowKit Go.Proofs
def ptB (x:Int×Int):Bool:=inB x.1 0 1000000000 && inB x.2 (-1000000000) 1000000000
open Go.RowKit Go.Proofs
section
variable {p:Int×Int→Bool}
end
open Go.RowKit Go.Proofs
def SerUp (l:List (Int×Int))(m:Nat):Prop:=∀(i:Nat) (x y:Int×Int),i<m→l[i]?=some x→l[i+1]?=some y→x.1<y.1
structure SerOk (l:List (Int×Int)):Prop where
 len:l.length≤60
 pts:allB ptB l=true
 up:SerUp l (l.length - 1)
theorem SerOk.pt {l:List (Int×Int)}(h:SerOk l){i:Nat}{x:Int×Int}(hx:l[i]?=some x):ptB x=true:=allB_iff.1 h.pts i x hx
theorem SerOk.step {l:List (Int×Int)}(h:SerOk l){i:Nat}{x y:Int×Int}(hx:l[i]?=some x)(hy:l[i+1]?=some y):x.1<y.1 :=
 h.up i x y (by have:=lt_of_get hy;omega) hx hy
theorem SerOk.mono {l:List (Int×Int)}(h:SerOk l){i:Nat}:∀ {j:Nat} {x y:Int×Int},i<j→l[i]?=some x→l[j]?=some y→x.1<y.1:=by
 intro j
 induction j with
 | zero=>intro x y hij;omega
 | succ j ih =>
  intro x y hij hx hy;obtain⟨z,hz⟩:=get_of_lt (l:=l) (i:=j) (by have:=lt_of_get hy;omega);have h1:=h.step hz hy
  rcases Nat.lt_or_ge i j with h' | h'
  · have:=ih h' hx hz;omega
  · obtain rfl:i=j:=by omega
    rw[hx] at hz;cases hz;exact h1
open Go.RowKit Go.Proofs
attribute [local go_sem ↓] Go.wp_at_zero Go.wp_at_succ
open Go.RowKit Go.Proofs
open Go.RowKit Go.Proofs
theorem infoRdg:(Tryz.prog.info? 86).map (fun i=>(i.zero,i.size,i.bytes))=some (some (.agg #[.int .i64 0,.int .i64 0,.int .i64 0,.int .i64 0]),4,32):=by kernel_rfl
end Go.Proofs.YtkhcliibilkefaaGreatDoor.Ga
namespace Go.Proofs.YtkhcliibilkefaaGreatDoor
open Lib (hid)
open Go.RowKit Go.Proofs
def OnlyN (Q:Exit→Act→World→Prop):Exit→Act→World→Prop
 | .normal,a,w=>Q .normal a w
 | _,_,_=>False
def noDefer (ops:Array Oper):Bool:=ops.toList.all fun o=>match o.op with | .defer _=>false | _=>true
theorem noDefer_at {ops:Array Oper}(h:noDefer ops=true){i:Nat}{o:Oper}(ho:ops[i]?=some o):∀ c,o.op≠.defer c:=by
 intro c e;unfold noDefer at h;rw[List.all_eq_true] at h;have:=h o (List.mem_of_getElem? (i:=i) (by simpa using ho));rw[e] at this;cases this
section
variable {n:Nat} {P:Program} {Q:Exit→Act→World→Prop}
theorem wpIn_of_wp {l:Nat}{o:Oper}{a:Act}{w:World}{K:Act→World→Prop}(hd:∀ c,o.op≠.defer c)(h:o.wp P a w K (OnlyN Q)):o.wpIn (Fence.wide.inRound l) n P a w K Q:=by
 unfold Oper.wp at h;unfold Oper.wpIn;refine⟨fun f _=>trivial,?_⟩;rw[Oper.semAt_plain _ _ _ hd];generalize (execOp a.eval o).run P w=r at *
 cases r with
 | ok x w' =>
  cases x<;>simp only[Oper.uponIn,Oper.upon] at h ⊢
  · exact h
  · exact h
  · refine⟨fun hh=>(by cases hh),CallsIn.inRound l (callsIn_wide.2 (Calls.mono h fun e w'' he=>?_))⟩
    cases e with
    | returned v=>exact he
    | panicked chain=>exact he.elim
    | outgrown=>obtain⟨_,_,he⟩:=he;exact he.elim
  · exact h
  · exact⟨fun hh=>(by cases hh),fun c cs _=>let ⟨v,w2,k,s⟩:=h c cs;⟨v,w2,k,stepsIn_wide.2 s⟩⟩
 | halt x w'=>cases x<;>simp only[Oper.uponIn,Oper.upon] at h ⊢<;>exact h.elim
theorem wpOpIn_of_wpOp {l:Nat}{ops:Array Oper}(hd:noDefer ops=true){i:Nat}{K K':Act→World→Prop}(hK:∀ a w,K a w→K' a w){a:Act}{w:World}(h:wpOp P ops (OnlyN Q) i K a w):wpOpIn (Fence.wide.inRound l) n P ops Q i K' a w:=by
 unfold wpOp at h;unfold wpOpIn
 cases ho:ops[i]? with
 | none=>simp only[ho] at h ⊢;exact hK _ _ h
 | some o =>
  simp only[ho] at h ⊢
  split at h
  · rename_i hw
    rw[if_pos hw]
    rcases h with h | ⟨_,_,_,h⟩
    · exact Oper.wpIn_mono hK (wpIn_of_wp (noDefer_at hd ho) h)
    · exact h.elim
  · rename_i hw
    rw[if_neg hw];exact⟨fun f _=>trivial,hK _ _ h⟩
theorem wpAnyIn_of_wpAny {l:Nat}{ops:Array Oper}(hd:noDefer ops=true){md:Region.Mode}:∀(fuel:Nat) (listed:Array Bool) (a:Act) (w:World),wpAny P md ops (OnlyN Q) fuel listed a w→wpAnyIn (Fence.wide.inRound l) n P md ops Q fuel listed a w
 | 0,listed,a,w,h=>h
 | fuel+1,listed,a,w,h=>⟨h.1,fun i hi=>wpOpIn_of_wpOp hd (fun a w h=>wpAnyIn_of_wpAny hd fuel _ a w h) (h.2 i hi)⟩
end
end Go.Proofs.YtkhcliibilkefaaGreatDoor
namespace Go.Proofs.YtkhcliibilkefaaGreatDoor
open Lib (hid)
theorem book_app:∀(l r:List (List UInt8)) (c:Nat),bookW (l++r) c=bookW l c++bookW r (l.foldl chkW c)
 | [],_,_=>rfl
 | s::l,r,c=>by rw[List.cons_append,bookW,book_app l r,bookW,List.append_assoc];rfl
theorem fold_lt:∀(l:List (List UInt8)) {c:Nat},c<11881357→l.foldl chkW c<11881357
 | [],_,h=>h
 | s::l,_,h=>fold_lt l (chk_lt h s)
theorem book_succ {l:List (List UInt8)}{n c:Nat}{s:List UInt8}(h:l[n]?=some s):bookW (l.take (n+1)) c=bookW (l.take n) c++recW s ((l.take n).foldl chkW c):=by
 rw[List.take_add_one,h,Option.toList_some,book_app,bookW,bookW,List.append_nil]
section
variable {l:List (List UInt8)} (hs:∀ s∈l,s.length≤300) (hl:l.length≤60)
include hs hl
end
end Go.Proofs.YtkhcliibilkefaaGreatDoor
namespace Go.Proofs.YtkhcliibilkefaaGreatDoor.Ga
open Lib (hid)
open Go.RowKit Go.Proofs
def errR (l:List Rdg):Int:=if 200<l.length then 3 else if allB validB l=false then 1 else 0
theorem errL_one {A:Option Addr}{n c:Nat}{l:List Rdg}(hl:l.length=n):errL [⟨A,n,c,l⟩]=errR l:=by
 unfold errL errR allB
 by_cases h:200<l.length
 · rw[if_pos (.inr (by simp[shortB];omega)),if_pos h]
 · rw[if_neg (by simp[shortB];omega),if_neg h];simp[valB,allB]
theorem errR_zero {l:List Rdg}:errR l=0↔l.length≤200∧allB validB l=true:=by
 unfold errR;split
 · simp;omega
 · split
   · rename_i h1 h2;simp[h2]
   · rename_i h1 h2;simp at h2;simp[h2];omega
def bytesOf (l:List Rdg):List UInt8:=l.flatMap recB
theorem bytesOf_len (l:List Rdg):(bytesOf l).length=l.length * 16:=by
 induction l with
 | nil=>rfl
 | cons r l ih=>simp only[bytesOf,List.flatMap_cons,List.length_append,List.length_cons,recB_len] at *;omega
theorem cellsB_toList (l:List UInt8):(cellsB l).toList=l.flatMap encB:=by
 simp only[cellsB]
 induction l with
 | nil=>rfl
 | cons b l ih=>simp only[List.map_cons,List.flatMap_cons,encB] at *;simp[ih]
theorem bytesOf_snoc (l:List Rdg)(r:Rdg):(bytesOf (l++[r])).flatMap encB=(bytesOf l).flatMap encB++(cellsB (recB r)).toList:=by
 rw[cellsB_toList];simp[bytesOf]
theorem infoU8:(Tryz.prog.info? 5).map (fun i=>(i.zero,i.size,i.bytes))=some (some (.int .u8 0),1,1):=by kernel_rfl
theorem Write_c {l:List Rdg}{A:Option Addr}{n c:Nat}{w:World}(h:Rd encR 4 w A n l)(hn:n≤maxLen)(hc:n≤c) :
 Calls Tryz.prog 13 #[.slice A n c] w fun e w'=>(∃ A' m c',e=.returned (.tuple #[.slice A' m c',.int .i64 (errR l)])∧m≤c'∧(errR l≠0→m=0) ∧
  (errR l=0→m=n * 16∧w'.ownsRow w.heap.size 5 1 (.slice A' m c') m ((bytesOf l).flatMap encB)))∧Below w.heap.size w w':=by
 have hl:=h.len
 have hll:RdLL (w.alloc (.cells #[.slice A n c] 40)) (some ⟨w.heap.size,0,none⟩) 1 [⟨A,n,c,l⟩]:=by
  refine⟨⟨rfl,fun _=>⟨w.heap.size,0,rfl,by simp,fun i x hx j v hv=>?_⟩⟩,fun i x hx=>?_⟩
  · match i,hx with
    | 0,hx =>
     simp at hx;subst hx
     match j,hv with
     | 0,hv=>simp[encL] at hv;subst hv;simp
  · match i,hx with
    | 0,hx=>simp at hx;subst hx;exact⟨h.mono ((Below.refl _ _).alloc (Nat.le_refl _) _),hn,hc⟩
 have hck:=check_c (c:=1) hll (by unfold maxLen;omega);rw[errL_one hl] at hck;have HCK:=hid hck;clear hck hll;have HL:=hid hl;clear hl
 go_enter Tryz.func13,Tryz.ntmps13
 go_wp2_with fail
 refine(HCK.out).mono ?_;rintro e w1 ⟨rfl,hb1⟩;clear HCK;have hb:Below w.heap.size w w1:=((Below.refl _ _).alloc (Nat.le_refl _) _).trans (hb1.mono (by simp));clear hb1
 by_cases he:errR l=0
 · have hn200:n≤200:=by have:=(errR_zero.1 he).1;rw[HL.out] at this;exact this
   obtain⟨i0,hi0,hz0,hz1,hz2⟩:=info_parts infoU8;have HI:=hid hi0;have HZ0:=hid hz0;have HZ1:=hid hz1;have HZ2:=hid hz2;clear hi0 hz0 hz1 hz2;rw[he]
   go_wp2_with fail
   go_loopw [5,17] (fun v i wr=>∃ k:Nat,k≤n∧i=.int .i64 k∧wr.ownsRow w.heap.size 5 1 v (k * 16) ((bytesOf (l.take k)).flatMap encB)∧Below w.heap.size w wr) (fun _ i _=>n - (intOf i).toNat)
   case atStart=>exact⟨0,Nat.zero_le _,rfl,World.ownsRow_nil _ _ _ _,hb⟩
   case round =>
    clear hb;obtain⟨k,hk,rfl,hown,hb⟩:=hrel;have HO:=hid hown;clear hown
    by_cases hlt:k<n
    · obtain⟨b,o,x,hA,_,hx,h0,h1,h2,h3⟩:=(h.below hb).at4 hlt
      subst hA;have HX:=hid hx;clear hx
      go_wp2_with fail
      refine(record_c x _).mono ?_;rintro e w2 ⟨rfl,hb2⟩;have hb3:Below w.heap.size w w2:=(hb.alloc hb.size _).trans (hb2.mono (by have:=hb.size;simp;omega));obtain⟨cs,hcs⟩:∃ cs:Array Value,cs=cellsB (recB x):=⟨_,rfl⟩;rw[← hcs]
      have hlen:cs.size=16:=by rw[hcs];simp[cellsB,recB_len]
      have hone:∀ v∈cs.toList,v.oneCell'=true:=by
       rw[hcs];intro v hv;simp[cellsB] at hv;obtain⟨u,_,rfl⟩:=hv;rfl
      have hthere:(w2.alloc (.cells (cellsB zero16) 92)).there w2.heap.size 0 cs.size:=by
       intro j hj;rw[hlen] at hj;have hk:=Blk.new w2 92 (cellsB zero16);refine⟨?_,by rw[Nat.zero_add];exact hk.frozen j⟩;rw[Nat.zero_add,hk.cell];simp[cellsB,zero16,hj]
      have hsz:(Tryz.prog.info? 92).map (·.size)=some cs.size:=by rw[hlen];kernel_rfl
      have H1:=hid hlen;have H2:=hid hone;have H3:=hid hthere;have H4:=hid hsz;have H5:=hid hcs;clear hlen hone hthere hsz hcs;have hown2:Hid (w2.ownsRow w.heap.size 5 1 u5 (k * 16) ((bytesOf (l.take k)).flatMap encB)):=own_mono (own_mono HO.out ((Below.refl _ wr).alloc (Nat.le_refl _) (.cells #[.int .i64 x.ins,.int .i64 x.num,.int .i64 x.tim,.int .i64 x.val] 86))) (by assumption);have hbW:Below w2.heap.size w2 ((w2.alloc (.cells (cellsB zero16) 92)).setCells w2.heap.size 0 cs.toList):=below_setCells _ _ _ ((Below.refl _ w2).alloc (Nat.le_refl _) _) (Nat.le_refl _);have HBW:=hid hbW;clear hbW;have HO3:Hid (((w2.alloc (.cells (cellsB zero16) 92)).setCells w2.heap.size 0 cs.toList).ownsRow w.heap.size 5 1 u5 (k * 16) ((bytesOf (l.take k)).flatMap encB)):=own_mono hown2.out HBW.out;have hnews:((w2.alloc (.cells (cellsB zero16) 92)).setCells w2.heap.size 0 cs.toList).rangeAt w2.heap.size 0 cs.toList:=World.rangeAt_setCells_same _ _ _ _ (by simpa using H3.out);have HN:=hid hnews;clear hnews;have hsz3:w.heap.size≤w2.heap.size:=hb3.size
      go_wp2_with (first | (refine wpList_store_mid rfl 92 (.tmp 8) (.tmp 22) rfl w2.heap.size 0 cs rfl rfl H3.out H4.out (by rw[Array.all_eq_true'];exact fun v hv=>H2.out v (by simpa using hv)) ?_) | (at_builtin;refine wpList_append_own _ rfl (.tmp 23) (.tmp 24) 54 rfl w.heap.size 5 i0 (.int .u8 0) 1 1 Tryz.underlying54 HI.out HZ0.out HZ1.out HZ2.out rfl (by decide) _ _ _ rfl HO3.out ⟨w2.heap.size,0,none⟩ 16 16 cs.toList rfl ?c0 ?c1 ?c2 ?c3 ?c4 ?c5 ?_))
      case c0=>rw[Array.length_toList,H1.out]
      case c1=>intro j u hj;rw[Addr.add_mid];exact HN.out j u hj
      case c2=>exact H2.out
      case c3=>unfold maxLen;omega
      case c4=>omega
      case c5=>exact Nat.le_trans hsz3 HBW.out.size
      intro v' w4 hown4 hgrow _
      have hown5:w4.ownsRow w.heap.size 5 1 v' ((k+1) * 16) ((bytesOf (l.take (k+1))).flatMap encB):=by
       rw[List.take_add_one,HX.out,Option.toList_some,bytesOf_snoc,← H5.out,show(k+1) * 16=k * 16+16 from by omega];exact hown4
      have hb5:Below w.heap.size w w4:=(hb3.trans (HBW.out.mono hb3.size)).grown hgrow (Nat.le_trans hsz3 HBW.out.size) (fun g hg=>(HO3.out.lt g hg).1);have HO5:=hid hown5;have HB5:=hid hb5;clear hown5 hb5 hown4 hgrow
      go_wp2
      go_roundw
      case rel=>exact⟨k+1,by omega,by go_num,HO5.out,HB5.out⟩
      case measure=>simp[intOf]<;>omega
    · obtain rfl:k=n:=by omega
      obtain⟨A',c',rfl,hc'⟩:=own_form HO.out
      go_wp2
      go_ret2
      refine⟨⟨A',k * 16,c',by rw[he];rfl,hc',fun h=>absurd he h,fun _=>⟨rfl,?_⟩⟩,hb⟩;have:=HO.out
      rwa [List.take_of_length_le (by rw[HL.out];exact Nat.le_refl _)] at this
 · go_wp2
   go_ret2
   exact⟨⟨none,0,0,rfl,Nat.le_refl _,fun _=>rfl,fun h=>absurd h he⟩,hb⟩
end Go.Proofs.YtkhcliibilkefaaGreatDoor.Ga
namespace Go.Proofs.YtkhcliibilkefaaGreatDoor
open Lib (hid)
open Go.RowKit Go.Proofs Go.ChangeShapes Go.WideShapes Go.Deep
theorem list_choice {α:Type}{P:Nat→α→Prop}:∀(n:Nat),(∀ i,i<n→∃ x,P i x)→∃ l:List α,l.length=n∧∀(i:Nat) (x:α),l[i]?=some x→P i x
 | 0,_=>⟨[],rfl,fun i x h=>by simp at h⟩
 | n+1,h=>by
  obtain⟨l,hl,hp⟩:=list_choice n (fun i hi=>h i (by omega));obtain⟨x,hx⟩:=h n (by omega);refine⟨l++[x],by simp[hl],fun i y hy=>?_⟩
  rcases Nat.lt_or_ge i n with h' | h'
  · rw[List.getElem?_append_left (by omega)] at hy;exact hp i y hy
  · rw[List.getElem?_append_right (by omega)] at hy
    have:i=n:=by
     have:=(List.getElem?_eq_some_iff.1 hy).1;simp at this;omega
    subst this;simp[hl] at hy;subst hy;exact hx
section
variable {H:Type} {enc:TypeId×Value→H} {P:Program} {w:World} {base:Nat} {spare:Nat→Bool} {held:Bool}
theorem rd_gen {α:Type}{en:α→List Value}{k:Nat}{Q:α→Prop}{t e:TypeId}(ht:P.underlying t=some (.slice e))(hC:P.cellsOf e=k)(hk:0<k)
 (hel:∀(fuel:Nat) (cs:List Value) (x:DataW H×List MemPlace),DataW.trod enc P w base spare held fuel e cs=some x→∃ a,en a=cs∧Q a) {fuel:Nat} {cs:List Value} {x:DataW H×List MemPlace}
 (h:DataW.trod enc P w base spare held fuel t cs=some x):∃ A len cap l,cs=[.slice A len cap]∧Rd en k w A len l∧len≤cap∧cap≤maxLen∧∀ a∈l,Q a:=by
 rcases open_slice ht h with h0 | ⟨a,len,cap,m,n,D,Pl,hcs,hb,hl,hm,hmm,hx,hi⟩
 · exact⟨none,0,0,[],h0.1,Rd.nil _ _ _ _,Nat.le_refl _,Nat.zero_le _,fun x hx=>by cases hx⟩
 · have hlm:len≤m:=by rw[hmm];split<;>omega
   obtain⟨l,hll,hp⟩:=list_choice (P:=fun i (x:α)=>Q x∧(en x).length=k∧∀ j,j<k→w.cell? (a.add (i * k+j))=(en x)[j]?) len (fun i him=>by
    obtain⟨cs',hc,ht'⟩:=hi i (by omega);obtain⟨x,hex,hq⟩:=hel _ _ _ ht';rw[hC] at hc;obtain⟨_,hcl,hat⟩:=World.cells?_some hc;refine⟨x,hq,by rw[hex,hcl],fun j hj=>?_⟩;have:=hat j hj;rw[Go.Deep.add_add] at this
    rw[hex];exact this)
   refine⟨some a,len,cap,l,hcs,⟨hll,fun hn=>?_⟩,hl,hm,fun x hx=>?_⟩
   · obtain⟨x0,hx0⟩:∃ x,l[0]?=some x:=⟨_,List.getElem?_eq_getElem (by omega)⟩
     obtain⟨_,hl0,hc⟩:=hp 0 x0 hx0;obtain⟨b,off,spot⟩:=a;have hc0:=hc 0 hk;rw[List.getElem?_eq_getElem (by omega)] at hc0
     have hsp:spot=none:=by simpa[Addr.add] using World.cell?_spot hc0
     subst hsp;refine⟨b,off,rfl,?_,fun i x hx j v hv=>?_⟩
     · simp only[Nat.zero_mul,Nat.add_zero,Addr.add,if_true] at hc0
       exact World.block_lt_of_cell? w _ hc0
     · obtain⟨_,hlx,hc⟩:=hp i x hx
       have hj:j<k:=by have:=(List.getElem?_eq_some_iff.1 hv).1;omega
       have:=hc j hj
       have hadd:(⟨b,off,none⟩:Addr).add (i * k+j)=⟨b,off+(i * k+j),none⟩:=by unfold Addr.add;split<;>simp_all
       rw[hadd,← Nat.add_assoc,hv] at this;exact this
   · obtain⟨i,hix⟩:=List.getElem?_of_mem hx
     exact(hp i x hix).1
end
section
variable {H:Type} {enc:TypeId×Value→H} {w:World} {base:Nat} {spare:Nat→Bool} {held:Bool}
end
section
variable {H:Type} {enc:TypeId×Value→H} {P:Program} {w:World} {base:Nat} {spare:Nat→Bool} {held:Bool}
end
end Go.Proofs.YtkhcliibilkefaaGreatDoor
