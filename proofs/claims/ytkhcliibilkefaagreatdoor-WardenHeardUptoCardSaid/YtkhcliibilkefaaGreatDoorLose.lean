/- PLAIN LAWS of reading bytes: which records are found, and what is lost. No program in sight. -/
import Derived.Test.YtkhcliibilkefaaGreatDoorReading
import Derived.RangeFuncNested
import Derived.RangeFuncBound
import Derived.RangeFuncCalls
import Derived.RangeFuncLeaves
import Derived.RangeFuncBox
import Derived.Shelf.Abstract
import Derived.Shelf.RegionOpen
import Derived.OwnWalkIn
import Derived.TacticsInMore
import Derived.LoopNIn
import Derived.LoopIn
import Derived.Deep.MidRow
import Derived.Laws.Cover3
import Derived.Maps.AppendAt
set_option linter.unusedVariables false
set_option linter.unusedSimpArgs false
set_option maxRecDepth 100000
set_option maxHeartbeats 8000000
namespace Go.Proofs.YtkhcliibilkefaaGreatDoor.Ga
open Lib (hid)
def win (bs:List UInt8)(a:Nat):List UInt8:=(bs.drop a).take 16
theorem win_len {bs:List UInt8}{a:Nat}(h:a+16≤bs.length):(win bs a).length=16:=by simp[win];omega
def scan (bs:List UInt8)(a:Nat):List (Rdg×Nat) :=
 if a+16≤bs.length then (if isRec (win bs a)=true then (rdgOf (win bs a),a)::scan bs (a+16) else scan bs (a+1)) else []
termination_by bs.length - a
decreasing_by all_goals omega
theorem scan_end {bs:List UInt8}{a:Nat}(h:¬ a+16≤bs.length):scan bs a=[]:=by rw[scan,if_neg h]
theorem scan_yes {bs:List UInt8}{a:Nat}(h:a+16≤bs.length)(hr:isRec (win bs a)=true):scan bs a=(rdgOf (win bs a),a)::scan bs (a+16):=by rw[scan,if_pos h,if_pos hr]
theorem scan_no {bs:List UInt8}{a:Nat}(h:a+16≤bs.length)(hr:isRec (win bs a)=false):scan bs a=scan bs (a+1):=by rw[scan,if_pos h,if_neg (by rw[hr];simp)]
def fromTo (a b:Nat):List Nat:=List.range' a (b - a)
theorem fromTo_nil {a b:Nat}(h:b≤a):fromTo a b=[]:=by unfold fromTo;rw[Nat.sub_eq_zero_of_le h];rfl
theorem fromTo_cons {a b:Nat}(h:a<b):fromTo a b=a::fromTo (a+1) b:=by
 unfold fromTo;rw[show b - a=(b - (a+1))+1 by omega,List.range'_succ]
theorem fromTo_snoc {a b:Nat}(h:a≤b):fromTo a (b+1)=fromTo a b++[b]:=by
 unfold fromTo;rw[show b+1 - a=(b - a)+1 by omega,List.range'_concat];simp;omega
theorem fromTo_len (a b:Nat):(fromTo a b).length=b - a:=by simp[fromTo]
def lostStep (s:List Nat×Nat)(x:Rdg×Nat):List Nat×Nat:=(s.1++fromTo s.2 x.2,x.2+16)
def lostAcc (l:List (Rdg×Nat)):List Nat×Nat:=l.foldl lostStep ([],0)
theorem lostAcc_bd (l:List (Rdg×Nat))(N:Nat)(h:∀ x∈l,x.2≤N):(lostAcc l).1.length≤l.length * N∧(lostAcc l).2≤N+16:=by
 suffices H:∀(l:List (Rdg×Nat)) (s:List Nat×Nat) (k:Nat),(∀ x∈l,x.2≤N)→s.1.length≤k * N→s.2≤N+16→(l.foldl lostStep s).1.length≤(k+l.length) * N∧(l.foldl lostStep s).2≤N+16 by
  have:=H l ([],0) 0 h (by simp) (by simp)
  simpa[lostAcc] using this
 intro l
 induction l with
 | nil=>intro s k _ h1 h2;exact⟨by simpa using h1,h2⟩
 | cons x l ih =>
  intro s k hx h1 h2;have hx0:=hx x (by simp)
  have:=ih (lostStep s x) (k+1) (fun y hy=>hx y (by simp[hy])) (by
   simp only[lostStep,List.length_append,fromTo_len,Nat.add_mul,Nat.one_mul];omega) (by simp only[lostStep];omega)
  simp only[List.foldl_cons,List.length_cons];rw[show k+(l.length+1)=k+1+l.length by omega];exact this
def lostOf (bs:List UInt8):List Nat:=(lostAcc (scan bs 0)).1++fromTo (lostAcc (scan bs 0)).2 bs.length
def readOf (bs:List UInt8):List Rdg:=(scan bs 0).map (·.1)
theorem scan_at {bs:List UInt8}:∀(n a:Nat),bs.length - a≤n→∀ x∈scan bs a,a≤x.2∧x.2+16≤bs.length∧isRec (win bs x.2)=true∧x.1=rdgOf (win bs x.2):=by
 intro n
 induction n with
 | zero=>intro a h x hx;rw[scan_end (by omega)] at hx;cases hx
 | succ n ih =>
  intro a h x hx
  by_cases h16:a+16≤bs.length
  · cases hr:isRec (win bs a)
    · rw[scan_no h16 hr] at hx
      have:=ih (a+1) (by omega) x hx;exact⟨by omega,this.2⟩
    · rw[scan_yes h16 hr] at hx
      rcases List.mem_cons.1 hx with rfl | hx
      · exact⟨Nat.le_refl _,h16,hr,rfl⟩
      · have:=ih (a+16) (by omega) x hx
        exact⟨by omega,this.2⟩
  · rw[scan_end h16] at hx;cases hx
theorem scan_len {bs:List UInt8}:∀(n a:Nat),bs.length - a≤n→(scan bs a).length * 16≤bs.length - a:=by
 intro n
 induction n with
 | zero=>intro a h;rw[scan_end (by omega)];simp
 | succ n ih =>
  intro a h
  by_cases h16:a+16≤bs.length
  · cases hr:isRec (win bs a)
    · rw[scan_no h16 hr];have:=ih (a+1) (by omega);omega
    · rw[scan_yes h16 hr,List.length_cons];have:=ih (a+16) (by omega);omega
  · rw[scan_end h16];simp
open Go.RowKit Go.Proofs Go.Shelf
attribute [local go_sem] Oper.semAt_some
abbrev Stand:={ x:Rdg×Nat // x.2≤10000 }
abbrev encS (x:Stand):Array Value:=#[.agg #[.int .i64 x.1.1.ins,.int .i64 x.1.1.num,.int .i64 x.1.1.tim,.int .i64 x.1.1.val,.int .i64 (x.1.2:Int)]]
theorem run_cut16 {b o len cap a:Nat}(ha:a+16≤len)(hc:len≤cap)(W:World) :
 (Instr.slice 54 (.slice (some ⟨b,o,none⟩) len cap) (some (.int .i64 (a:Int))) (some (.int .i64 ((a:Int)+16))) none).run Tryz.prog W=.ok (.slice (some ⟨b,o+a,none⟩) 16 (cap - a)) W:=by
 have h16:((a:Int)+16)=((a+16:Nat):Int):=by simp
 have hs:∀ W,(sizeOf 5).run Tryz.prog W=.ok 1 W:=fun _=>by kernel_rfl
 have hne:¬ cap=a:=by omega
 rw[h16];have hb:=run_sliceBounds_in (P:=Tryz.prog) (len:=len) (cap:=cap) W (show a≤a+16 by omega) (show a+16≤cap by omega);simp only[Instr.slice,Sem.run_bind,run_underlying Tryz.underlying54,Result.andThen_ok,hb,hs];simp only[if_neg hne,Sem.run_pure,Option.map,Nat.mul_one,Addr.add_mid,Nat.add_sub_cancel_left]
theorem wpListIn_load_mid {F:Fence}{n:Nat}{P:Program}{ops:Array Oper}{rest:List Oper}{o:Oper}{a:Act}{w:World}{Q:Exit→Act→World→Prop}(hgd:o.guard=none)(ty:TypeId)(x:Operand)(ho:o.op=.load ty x)
 (b off:Nat) (hx:a.eval x=.pointer (some ⟨b,off,none⟩)) (cs:List Value) (d:TypeDesc) (hc:w.rangeAt b off cs)
 (hu:P.underlying ty=some d) (hd:d.isRow=true) (hi:(P.info? ty).map (·.size)=some cs.length)
 (h:wpListIn F n P ops Q rest (a.put o.dst (.agg cs.toArray)) w):wpListIn F n P ops Q (o::rest) a w:=by
 refine wpListIn_plain hgd fun K hK=>?_;unfold Oper.wpIn;refine⟨by simp[Oper.about,ho],?_⟩;rw[Oper.semAt_plain F _ _ (by rw[ho];intro c hc';cases hc')];unfold execOp;simp only[ho,hx,Sem.run_bind,Sem.run_pure,run_loadAt_mid w b off ty cs d hc hu hd hi,Result.andThen_ok];exact hK _ _ h
theorem run_arr16 (A:Option Addr)(cap:Nat)(W:World):(Instr.arrayAt 92 (.slice A 16 cap)).run Tryz.prog W=.ok (.pointer A) W :=
 run_arrayAt _ _ _ 16 A 16 cap Tryz.underlying92 (Nat.le_refl _)
def Bts (w:World)(b o:Nat)(bs:List UInt8):Prop:=∀(i:Nat) (x:UInt8),bs[i]?=some x→w.cell? ⟨b,o+i,none⟩=some (.int .u8 (x.toNat:Int))
theorem Bts.below {n₀:Nat}{w w':World}{b o:Nat}{bs:List UInt8}(h:Bts w b o bs)(hb:Below n₀ w w')(hlt:b<n₀):Bts w' b o bs:=fun i x hx=>(hb.cell (p:=⟨b,_,none⟩) hlt).trans (h i x hx)
theorem Bts.range {w:World}{b o a:Nat}{bs:List UInt8}(h:Bts w b o bs):w.rangeAt b (o+a) (cellsB (win bs a)).toList:=by
 intro j v hv;simp only[cellsB,win,List.getElem?_map,Option.map_eq_some_iff] at hv;obtain⟨x,hx,rfl⟩:=hv;rw[List.getElem?_take] at hx
 split at hx
 · rw[List.getElem?_drop] at hx
   rw[Nat.add_assoc];exact h _ _ hx
 · cases hx
def KpS (n₀ Bs:Nat)(W W':World):Prop:=Below n₀ W W'∧∀ v,Boxed W Bs 54 v→Boxed W' Bs 54 v
theorem kpS_t {n₀ Bs:Nat}{A B C:World}(h:KpS n₀ Bs A B)(k:KpS n₀ Bs B C):KpS n₀ Bs A C:=⟨h.1.trans k.1,fun v hv=>k.2 v (h.2 v hv)⟩
theorem kpS_b {n₀ Bs:Nat}{w:World}(hn:n₀≤w.heap.size)(W:World)(l:Nat)(o o':Obj)(hl:w.heap.size≤l)(h:W.heap[l]?=some o)(hc:o.isCells=false)(hw:o.isWalk=false):KpS n₀ Bs W (W.putObj l o') :=
 ⟨belowK_b hn W l o o' hl h hc hw,fun v hv=>hv.kept (grownBy_putObj' W l o') (fun e=>by cases e;rw[show W.heap[Bs]?=_ from hv] at h;cases h;cases hc)⟩
theorem stands1_in (n:Nat)(hn:2≤n)(l Bs n₀ b o len cap N:Nat)(bs:List UInt8)(hl:bs.length=len)(hlen:len≤10000)(hcap:len≤cap)(hN:(scan bs 0).length≤N)(hb:b<n₀)(J Jx:List Stand→World→Prop)(B:Nat)(hJ:AbidesFrom B J)
 (hY:∀ pre x W,J pre W→pre.length<N→YieldAt Fence.wide (n - 1) Tryz.prog l (encS x) W fun e W' =>
  (e=.returned (.bool true)∧J (pre++[x]) W'∧KpS n₀ Bs W W')∨(e=.returned (.bool false)∧Jx (pre++[x]) W'))
 (W:World) (hn₀:n₀≤W.heap.size) (hBs:Boxed W Bs 54 (.slice (some ⟨b,o,none⟩) len cap)) (hbts:Bts W b o bs) (h0:J [] W) :
 CallsIn Fence.wide n Tryz.prog 42 #[.func (.yield l) #[] #[],.pointer (some ⟨Bs,0,none⟩)] W fun e W'=>(∃ v,e=.returned v) ∧
  ((∃ ys,ys.map (·.1)=scan bs 0∧J ys W')∨(∃ pre,pre.map (·.1) <+: scan bs 0∧Jx pre W')):=by
 have h1:1≤n:=by omega
 refine callsIn_of_wp Tryz.func42 rfl trivial ?_ rfl;simp only[Tryz.ntmps42,List.size_toArray,List.length_cons,List.length_nil,Nat.reduceAdd,Nat.reduceSub,Array.replicate_succ,Array.replicate_zero,List.push_toArray,List.append_toArray,List.nil_append,List.cons_append];have HL:=hid hl;have HBS:=hid hBs;have HBT:=hid hbts;have HY:=hid hY;have HN:=hid hN;clear hl hBs hbts hY hN
 gi_wp2
 gi_loopw [3] (fun i wr=>∃(a:Nat) (pre:List Stand),i=.int .i64 a∧a≤len∧pre.map (·.1)++scan bs a=scan bs 0∧J pre wr∧Below n₀ W wr∧Boxed wr Bs 54 (.slice (some ⟨b,o,none⟩) len cap)) (fun i _=>len - (intOf i).toNat)
 case atStart=>exact⟨0,[],rfl,Nat.zero_le _,rfl,h0,Below.refl _ _,HBS.out⟩
 case round =>
  obtain⟨a,pre,rfl,ha,hpre,hJs,hnx,hbx⟩:=hrel;have HP:=hid hpre;clear hpre;have hc1:=hbx.cell;have HBX:=hid hbx;clear hbx
  by_cases hlt:a+16≤len
  · have hsl:=run_cut16 (b:=b) (o:=o) hlt hcap
    have harr:=run_arr16;have hR:=((HBT.out.below hnx hb).range (a:=a));obtain⟨cs,hcs⟩:∃ cs:List Value,cs=(cellsB (win bs a)).toList:=⟨_,rfl⟩;have hwl:=win_len (bs:=bs) (a:=a) (by rw[HL.out];exact hlt)
    have hsz:(Tryz.prog.info? 92).map (·.size)=some cs.length:=by rw[hcs];simp only[cellsB,List.length_map,hwl];kernel_rfl
    have hcs2:cs.toArray=cellsB (win bs a):=by rw[hcs]
    rw[← hcs] at hR;have HR:=hid hR;have HSZ:=hid hsz;have HCS:=hid hcs2;have HWL:=hid hwl;clear hR hsz hcs2 hcs hwl
    have hrb:0≤(a:Int)+16:=by omega
    cases hrec:isRec (win bs a)
    all_goals
     have hrd:=fun W'=>reading_c (win bs a) W' HWL.out;rw[hrec] at hrd;have HRD:=hid hrd;clear hrd
    · have hsc:=scan_no (bs:=bs) (a:=a) (by rw[HL.out];exact hlt) hrec
      have HSC:=hid hsc;clear hsc
      gi_wp2_with (first | (refine wpListIn_load_mid rfl 92 (.tmp 17) rfl b (o+a) rfl cs _ HR.out Tryz.underlying92 rfl HSZ.out ?_;rw[HCS.out]) | (refine⟨trivial,?_⟩;gi_at_call 43;refine(callsIn_wide.2 (HRD.out _)).mono ?_;rintro e w2 ⟨rfl,hb2⟩))
      have hbel:Below wr.heap.size wr (w2.alloc (.cells #[.int .i64 (rdgOf (win bs a)).ins,.int .i64 (rdgOf (win bs a)).num,.int .i64 (rdgOf (win bs a)).tim,.int .i64 (rdgOf (win bs a)).val] 86)):=hb2.alloc hb2.size _;refine⟨⟨a+1,pre,by go_num,by omega,by rw[← HSC.out];exact HP.out,hJ _ _ _ none hJs (only_of_below hbel none) (fun _ h=>by cases h),hnx.trans (hbel.mono (Nat.le_trans hn₀ hnx.size)),HBX.out.kept (only_of_below hbel none) (by simp)⟩,?_⟩;simp[intOf];omega
    · have hsc:=scan_yes (bs:=bs) (a:=a) (by rw[HL.out];exact hlt) hrec
      have HSC:=hid hsc;clear hsc
      gi_wp2_with (refine wpListIn_load_mid rfl 92 (.tmp 17) rfl b (o+a) rfl cs _ HR.out Tryz.underlying92 rfl HSZ.out ?_;rw[HCS.out])
      refine⟨trivial,?_⟩;refine(callsIn_wide.2 (HRD.out _)).mono ?_;rintro e w2 ⟨rfl,hb2⟩;have hbel:Below wr.heap.size wr (w2.alloc (.cells #[.int .i64 (rdgOf (win bs a)).ins,.int .i64 (rdgOf (win bs a)).num,.int .i64 (rdgOf (win bs a)).tim,.int .i64 (rdgOf (win bs a)).val] 86)):=hb2.alloc hb2.size _
      have hlenp:pre.length<N:=by
       have h2:=congrArg List.length HP.out;rw[HSC.out] at h2;simp only[List.length_append,List.length_map,List.length_cons] at h2;have:=HN.out;omega
      have hnx':Below n₀ W _:=hnx.trans (hbel.mono (Nat.le_trans hn₀ hnx.size));obtain⟨fn,tmps,assign,body,hy,hR⟩:=HY.out pre ⟨(rdgOf (win bs a),a),by omega⟩ _ (hJ _ _ _ none hJs (only_of_below hbel none) (fun _ h=>by cases h)) hlenp;have hbx2:=HBX.out.kept (only_of_below hbel none) (by simp);have HNX:=hid hnx';have HBX2:=hid hbx2;clear hnx' hbel hbx2;dsimp only[encS] at hy
      gi_wp2
      refine hR.mono ?_;rintro e W3 (⟨rfl,hJ3,hk3⟩ | ⟨rfl,hJx3⟩)
      · gi_wp2
        go_roundw
        case rel =>
         refine⟨a+16,_,by go_num,hlt,?_,hJ3,HNX.out.trans hk3.1,hk3.2 _ HBX2.out⟩;rw[← HP.out,HSC.out];simp
        case measure=>simp[intOf];omega
      · gi_wp2
        refine bodyPost_ret (results_none rfl _ _ _) rfl ?_;refine⟨⟨_,rfl⟩,.inr ⟨_,?_,hJx3⟩⟩;rw[← HP.out,HSC.out];exact⟨scan bs (a+16),by simp⟩
  · gi_wp2
    go_end0
    refine⟨⟨_,rfl⟩,.inl ⟨pre,?_,hJs⟩⟩;have:=HP.out
    rwa [scan_end (by rw[HL.out];exact hlt),List.append_nil] at this
theorem stands1_short (n:Nat)(l Bs len cap:Nat)(A:Option Addr)(bs:List UInt8)(hl:bs.length=len)(hlen:len<16)(J:List Stand→World→Prop)(W:World)(hBs:W.cell? ⟨Bs,0,none⟩=some (.slice A len cap))(h0:J [] W) :
 CallsIn Fence.wide n Tryz.prog 42 #[.func (.yield l) #[] #[],.pointer (some ⟨Bs,0,none⟩)] W fun e W'=>(∃ v,e=.returned v)∧J [] W':=by
 refine callsIn_of_wp Tryz.func42 rfl trivial ?_ rfl;simp only[Tryz.ntmps42,List.size_toArray,List.length_cons,List.length_nil,Nat.reduceAdd,Nat.reduceSub,Array.replicate_succ,Array.replicate_zero,List.push_toArray,List.append_toArray,List.nil_append,List.cons_append]
 have hlt:¬(16:Int)≤(len:Int):=by omega
 clear hl
 gi_wp2
 gi_loopw [3] (fun i wr=>i=.int .i64 0∧wr=W) (fun _ _=>0)
 case atStart=>exact⟨rfl,rfl⟩
 case round =>
  obtain⟨rfl,rfl⟩:=hrel
  gi_wp2
  go_end0
  exact⟨⟨_,rfl⟩,h0⟩
theorem stands_stops (n:Nat)(hn:2≤n)(Bs n₀ len cap N:Nat)(A:Option Addr)(bs:List UInt8)(w:World)(hr:Rd encB 1 w A len bs)(hA:16≤len→∀ b o,A=some ⟨b,o,none⟩→b<n₀)(hlen:len≤10000)(hcap:len≤cap)(hN:(scan bs 0).length≤N)
 (hn₀:n₀≤w.heap.size) (hc:Boxed w Bs 54 (.slice A len cap)) :
 SeqStopsK Fence.wide n Tryz.prog 42 #[.pointer (some ⟨Bs,0,none⟩)] encS (KpS n₀ Bs) (fun ys=>ys.map (·.1)=scan bs 0) (fun pre=>pre.map (·.1) <+: scan bs 0) N w:=fun l J Jx W hW hJ _ hY h0=>by
 have hc':=hc.kept (only_of_below hW none) (by simp);have hl:=hr.len
 by_cases h16:len<16
 · refine(stands1_short n l Bs len cap A bs hl h16 J W hc'.cell h0).mono fun e W' ⟨he,hj⟩=>⟨he,.inl ⟨[],?_,hj⟩⟩
   rw[scan_end (by omega)];rfl
 · obtain⟨b,o,rfl,hlt,hcell⟩:=hr.2 (by omega)
   refine stands1_in n hn l Bs n₀ b o len cap N bs hl hlen hcap hN (hA (by omega) b o rfl) J Jx _ hJ hY W (Nat.le_trans hn₀ hW.size) hc' (fun i x hx=>?_) h0;have:=hcell i x hx 0 _ rfl;rw[Nat.mul_one,Nat.add_zero] at this;exact(hW.cell (p:=⟨b,_,none⟩) hlt).trans this
theorem stands_c (n:Nat)(A:Option Addr)(len cap:Nat)(w:World) :
 CallsIn Fence.wide n Tryz.prog 31 #[.slice A len cap] w fun e w'=>e=.returned (.func (.func 42) #[] #[.pointer (some ⟨w.heap.size,0,none⟩)])∧w'=w.alloc (.cells #[.slice A len cap] 54):=by
 refine callsIn_of_wp Tryz.func31 rfl trivial ?_ rfl;simp only[Tryz.ntmps31,List.size_toArray,List.length_cons,List.length_nil,Nat.reduceAdd,Nat.reduceSub,Array.replicate_succ,Array.replicate_zero,List.push_toArray,List.append_toArray,List.nil_append,List.cons_append]
 gi_wp2
 go_ret
 exact⟨rfl,rfl⟩
open Go.RowKit Go.Proofs
structure Fr (E:Nat→Prop) (w w':World):Prop where
 os:w'.os=w.os
 tape:w'.tape=w.tape
 output:w'.output=w.output
 size:w.heap.size≤w'.heap.size
 block:∀ g,g<w.heap.size→¬ E g→w'.heap[g]?=w.heap[g]?
section
variable {E:Nat→Prop} {a b c:World}
theorem Fr.refl (E:Nat→Prop)(w:World):Fr E w w:=⟨rfl,rfl,rfl,Nat.le_refl _,fun _ _ _=>rfl⟩
theorem Fr.trans (h:Fr E a b)(k:Fr E b c):Fr E a c:=⟨k.os.trans h.os,k.tape.trans h.tape,k.output.trans h.output,Nat.le_trans h.size k.size,fun g hg hE=>(k.block g (Nat.lt_of_lt_of_le hg h.size) hE).trans (h.block g hg hE)⟩
theorem Fr.wide {E':Nat→Prop}(h:Fr E a b)(hw:∀ g,g<a.heap.size→E g→E' g):Fr E' a b:=⟨h.os,h.tape,h.output,h.size,fun g hg hE=>h.block g hg fun he=>hE (hw g hg he)⟩
theorem Fr.of_below (h:Below a.heap.size a b)(E:Nat→Prop):Fr E a b:=⟨h.os,h.tape,h.output,h.size,fun g hg _=>h.block g hg⟩
theorem Fr.of_grown {row:Option Nat}(h:a.grownBy b row)(hE:∀ g,row=some g→g<a.heap.size→E g):Fr E a b :=
 ⟨h.os,h.tape,h.output,h.size,fun g hg hn=>h.block g hg fun e=>hn (hE g e.symm hg)⟩
theorem Fr.below {n₀:Nat}(h:Fr E a b)(hn:n₀≤a.heap.size)(hE:∀ g,E g→n₀≤g):Below n₀ a b :=
 ⟨h.os,h.tape,h.output,h.size,fun g hg=>h.block g (by omega) fun e=>by have:=hE g e;omega⟩
theorem Fr.setCell (h:Fr E a b){g:Nat}(hg:E g∨a.heap.size≤g)(v:Value):Fr E a (b.setCell ⟨g,0,none⟩ v) :=
 ⟨h.os,h.tape,h.output,by simpa[World.setCell] using h.size,fun i hi hn=>(Below.heap_setCell b ⟨g,0,none⟩ v i (by
  rintro rfl
  rcases hg with hg | hg
  · exact hn hg
  · omega)).trans (h.block i hi hn)⟩
theorem Fr.step {row:Option Nat}(h:Fr E a b)(hg:b.grownBy c row)(hE:∀ g,row=some g→E g∨a.heap.size≤g):Fr E a c :=
 ⟨hg.os.trans h.os,hg.tape.trans h.tape,hg.output.trans h.output,Nat.le_trans h.size hg.size,fun g hlt hn=>(hg.block g (Nat.lt_of_lt_of_le hlt h.size) fun e=>by
  rcases hE g e.symm with h1 | h1
  · exact hn h1
  · omega).trans (h.block g hlt hn)⟩
theorem Fr.kept (h:Fr E a b){g:Nat}{o:Obj}(hg:a.heap[g]?=some o)(hE:¬ E g):b.heap[g]?=some o:=(h.block g (Array.getElem?_eq_some_iff.1 hg).1 hE).trans hg
theorem Fr.boxed (h:Fr E a b){g:Nat}{t:TypeId}{v:Value}(hg:Boxed a g t v)(hE:¬ E g):Boxed b g t v:=h.kept hg hE
theorem Fr.row (h:Fr E a b){base:Nat}{e:TypeId}{size n:Nat}{v:Value}{xs:List Value}(hr:a.ownsRow base e size v n xs)(hE:∀ g,v.ownBlock=some g→¬ E g):b.ownsRow base e size v n xs:=by
 refine⟨hr.1,?_⟩
 rcases hr.2 with h0 | ⟨g,cap,cur,hv,hbase,hg,hrest⟩
 · exact .inl h0
 · exact .inr ⟨g,cap,cur,hv,hbase,h.kept hg (hE g (by rw[hv];rfl)),hrest⟩
end
def natV (l:List Nat):List Value:=l.map fun(k:Nat)=>Value.int .i64 (k:Int)
theorem natV_append (a b:List Nat):natV (a++b)=natV a++natV b:=by simp[natV]
theorem infoI:(Tryz.prog.info? 3).map (fun i=>(i.zero,i.size,i.bytes))=some (some (.int .i64 0),1,8):=by kernel_rfl
theorem lose_c {n₀ Bn Bl:Nat}{v:Value}{xs:List Nat}{next upt:Nat}{w:World}(hN:Boxed w Bn 3 (.int .i64 next))(hL:Boxed w Bl 28 v)(hrow:w.ownsRow n₀ 3 1 v xs.length (natV xs))
 (hlen:xs.length≤1000000000) (hnext:next≤100000) (hto:upt≤100000) (hn₀:n₀≤w.heap.size) (hBn:Bn<n₀) (hBl:Bl<n₀) :
 Calls Tryz.prog 30 #[.int .i64 upt,.pointer (some ⟨Bn,0,none⟩),.pointer (some ⟨Bl,0,none⟩)] w fun e w'=>e=.returned (.tuple #[]) ∧
  ∃ v',Boxed w' Bn 3 (.int .i64 (max next upt:Nat))∧Boxed w' Bl 28 v'∧w'.ownsRow n₀ 3 1 v' (xs++fromTo next upt).length (natV (xs++fromTo next upt))∧Fr (fun g=>g=Bn∨g=Bl∨v.ownBlock=some g) w w':=by
 obtain⟨i0,hi0,hz0,hz1,hz2⟩:=info_parts infoI;have HI:=hid hi0;have HZ0:=hid hz0;have HZ1:=hid hz1;have HZ2:=hid hz2;clear hi0 hz0 hz1 hz2;have HN:=hid hN;have HL:=hid hL;have HR:=hid hrow;clear hN hL hrow
 go_enter Tryz.func30,Tryz.ntmps30
 go_wp2_with fail
 go_loopw [] (fun wr=>∃(k:Nat) (v':Value),next≤k∧k≤max next upt∧Boxed wr Bn 3 (.int .i64 k)∧Boxed wr Bl 28 v'∧wr.ownsRow n₀ 3 1 v' (xs++fromTo next k).length (natV (xs++fromTo next k)) ∧
  Fr (fun g=>g=Bn∨g=Bl∨v.ownBlock=some g) w wr∧(v'.ownBlock=v.ownBlock∨∃ g,v'.ownBlock=some g∧w.heap.size≤g)) (fun wr=>upt - (intOf ((wr.cell? ⟨Bn,0,none⟩).getD undef)).toNat)
 case atStart=>exact⟨next,v,Nat.le_refl _,by omega,HN.out,HL.out,by rw[fromTo_nil (Nat.le_refl _),List.append_nil];exact HR.out,Fr.refl _ _,.inl rfl⟩
 case round =>
  obtain⟨k,v',hk1,hk2,hbn,hbl,hrow,hfr,hov⟩:=hrel;have c1:=hbn.cell;have c2:=hbl.cell;have HF:=hid hfr;have HBN:=hid hbn;have HBL:=hid hbl;have HROW:=hid hrow;have HOV:=hid hov;clear hfr hbn hbl hrow hov
  by_cases hlt:k<upt
  · have hlt':(k:Int)<(upt:Int):=by omega
    have hsz:n₀≤wr.heap.size:=Nat.le_trans hn₀ HF.out.size
    have hle:(xs++fromTo next k).length≤1000100000:=by rw[List.length_append,fromTo_len];omega
    have f1:=HBN.out.frozen;have f2:=HBL.out.frozen
    have hne:Bn≠Bl:=by
     rintro rfl;have:=(show wr.heap[Bn]?=_ from HBN.out).symm.trans HBL.out;simp at this
    have hne':Bl≠Bn:=Ne.symm hne
    go_wp2_with (at_builtin;refine wpList_append_own_at _ rfl _ _ 28 rfl n₀ 3 i0 (.int .i64 0) 1 8 Tryz.underlying28 HI.out HZ0.out HZ1.out HZ2.out rfl (by decide) _ _ _ rfl (HROW.out.alloc _) ⟨wr.heap.size,0,none⟩ 1 1 [.int .i64 k] rfl rfl (cell_one_new _ _ _) (by simp[Value.oneCell']) (by unfold maxLen;omega) (by omega) (by simp;omega) ?_;intro v2 w1 hown' hgrow _ hwh;obtain⟨g',cap',rfl⟩:=ownsRow_succ hown';have HG:=hid hgrow;have HO:=hid hown';have HW:=hid hwh;clear hown' hgrow hwh;have hb1:Boxed w1 Bn 3 (.int .i64 k):=(HBN.out.alloc _).kept HG.out (own_ge HROW.out hBn);have hb2:Boxed w1 Bl 28 v':=(HBL.out.alloc _).kept HG.out (own_ge HROW.out hBl);have d1:=hb1.cell;have d2:=hb2.cell;have e1:=hb1.frozen;have e2:=hb2.frozen)
    go_roundw
    case rel =>
     refine⟨k+1,.slice (some ⟨g',0,none⟩) (xs.length+(fromTo next k).length+1) cap',by omega,by omega,?_,(hb2.set _).other hne' _,?_,?_,?_⟩
     · have:=(hb1.other hne (.slice (some ⟨g',0,none⟩) (xs.length+(fromTo next k).length+1) cap')).set (.int .i64 ((k:Int)+1))
       simpa using this
     · have h2:=(HO.out.kept (grownBy_setCell' w1 Bl (.slice (some ⟨g',0,none⟩) (xs.length+(fromTo next k).length+1) cap')) (.inr (own_ge HO.out hBl).symm)).kept (grownBy_setCell' _ Bn (.int .i64 ((k:Int)+1))) (.inr (own_ge HO.out hBn).symm)
       rw[fromTo_snoc hk1,← List.append_assoc,natV_append]
       simpa[natV,Nat.add_assoc] using h2
     · refine(Fr.step (HF.out.step (World.grownBy_alloc wr _ none) (fun _ h=>by cases h)) HG.out (fun g hg=>?_)).setCell (.inl (.inr (.inl rfl))) _ |>.setCell (.inl (.inl rfl)) _
       have hg':v'.ownBlock=some g:=hg;clear hg
       rcases HOV.out with h1 | ⟨g2,h1,h2⟩
       · rw[h1] at hg';exact .inl (.inr (.inr hg'))
       · rw[h1] at hg';cases hg';exact .inr h2
     · rcases HW.out with h1 | h1
       · have h1':some g'=v'.ownBlock:=h1
         rcases HOV.out with h2 | ⟨g2,h2,h3⟩
         · exact .inl (h1'.trans h2)
         · exact .inr ⟨g2,h1'.trans h2,h3⟩
       · have:=HF.out.size
         have h3:some g'=some (wr.heap.size+1):=by simpa[Value.ownBlock] using h1
         cases h3;exact .inr ⟨wr.heap.size+1,rfl,by omega⟩
    case measure =>
     have:=((hb1.other hne (.slice (some ⟨g',0,none⟩) (xs.length+(fromTo next k).length+1) cap')).set (.int .i64 ((k:Int)+1))).cell;rw[this,c1];simp[intOf];omega
  · have hlt':¬(k:Int)<(upt:Int):=by omega
    obtain rfl:k=max next upt:=by omega
    go_wp2_with fail
    go_end0
    refine⟨rfl,HBN.out,v',HBL.out,?_,HF.out⟩;have:=HROW.out;rw[show fromTo next (max next upt)=fromTo next upt by unfold fromTo;congr 1;omega] at this
    simpa using this
end Go.Proofs.YtkhcliibilkefaaGreatDoor.Ga
