/- THE CONTRACTS of slices.Grow (the shelf's structure, laid in plain words) and slices.Concat at readings. -/
import Derived.Shelf.Spec.SlicesGrow
import Derived.Test.YtkhcliibilkefaaGreatDoorYTOpen
set_option linter.unusedVariables false
set_option linter.unusedSimpArgs false
set_option maxRecDepth 100000
set_option maxHeartbeats 8000000
namespace Go.Proofs.YtkhcliibilkefaaGreatDoor.Ga
open Lib (hid)
open Go.Shelf Go.Proofs Go.RowKit
def growR_ren:Go.Shelf.Ren:=⟨fun | 4=>151 | n=>n,fun | 22=>40 | 25=>86 | 3=>3 | 4=>4 | 9=>9 | 20=>20 | 0=>0 | n=>n,fun | n=>n⟩
theorem growR:Go.Proofs.Lays8.n4 Tryz.prog growR_ren:={
 mixed:=by kernel_rfl
 f4:=⟨Tryz.f151.name,by decide,Tryz.func151.trans (congrArg some (by kernel_rfl))⟩
 t0:=Tryz.underlying0
 a0:=Tryz.isAgg0
 z0:=Tryz.sizeOf0
 v0:=Tryz.zeroValue0
 t3:=Tryz.underlying3
 a3:=Tryz.isAgg3
 z3:=Tryz.sizeOf3
 v3:=Tryz.zeroValue3
 t4:=Tryz.underlying4
 a4:=Tryz.isAgg4
 z4:=Tryz.sizeOf4
 v4:=Tryz.zeroValue4
 t9:=Tryz.underlying9
 a9:=Tryz.isAgg9
 z9:=Tryz.sizeOf9
 v9:=Tryz.zeroValue9
 t20:=Tryz.underlying20
 a20:=Tryz.isAgg20
 z20:=Tryz.sizeOf20
 v20:=Tryz.zeroValue20
 t22:=Tryz.underlying40
 a22:=Tryz.isAgg40
 z22:=Tryz.sizeOf40
 v22:=Tryz.zeroValue40 }
theorem grow_c {n:Nat}(w:World)(hn:n≤100000) :
 Calls Tryz.prog 151 #[.slice none 0 0,.int .i64 n] w fun e w'=>∃ v,e=.returned v∧w'.ownsRow w.heap.size 86 4 v 0 []∧Below w.heap.size w w':=by
 rcases Nat.eq_zero_or_pos n with h0 | h0
 · subst h0
   have hcon:=Any8.slices_Grow_room growR none 0 0 0 w (Nat.le_refl _) (by omega) (by omega) (by omega);refine Calls.mono (P:=Tryz.prog) (f:=151) hcon ?_;rintro e w' ⟨rfl,rfl⟩;exact⟨_,rfl,World.ownsRow_nil _ _ _ _,Below.refl _ _⟩
 · obtain⟨i0,hi0,hz0,hz1,hz2⟩:=info_parts infoRdg
   have hcon:=Any8.slices_Grow_grow growR i0 _ hi0 hz0 (by rw[hz1];omega) none 0 0 n [] w (Nat.le_refl _) (by omega) (by rw[hz2];omega) (by omega) (by simp) (fun _=>rfl) (fun a h=>by cases h);refine Calls.mono (P:=Tryz.prog) (f:=151) hcon ?_;rintro e w' ⟨rfl,rfl⟩;refine⟨_,rfl,⟨by simp,.inr ⟨w.heap.size,_,_,rfl,Nat.le_refl _,heap_alloc_new w.drew _,Nat.zero_le _,grownCap_le_maxLen _ _ _ _ (by unfold maxLen;omega),?_,by simp⟩⟩,(Below.refl _ w).drew.alloc (Nat.le_refl _) _⟩;have hge:=grownCap_ge w (0+n) 0 86;show _=grownCap w (0+n) 0 86 * 4;have e1:growR_ren.t 25=86:=rfl;rw[Nat.zero_add] at hge ⊢;simp[Builtin.zeroCells,Value.cells,e1];omega
theorem oneR4 (r:Rdg):∀ u∈encR r,u.oneCell'=true:=by intro u hu;simp[encR] at hu;rcases hu with rfl | rfl | rfl | rfl<;>rfl
def catL (ls:List Lst):List Rdg:=ls.flatMap (·.l)
theorem catL_succ {ls:List Lst}{k:Nat}{x:Lst}(hx:ls[k]?=some x):catL (ls.take (k+1))=catL (ls.take k)++x.l:=by
 rw[List.take_add_one,hx];simp[catL]
theorem catL_len {ls:List Lst}{N:Nat}(h:∀ x∈ls,x.l.length≤N):∀ k,(catL (ls.take k)).length≤k * N
 | 0=>by simp[catL]
 | k+1=>by
  cases hx:ls[k]? with
  | none =>
   have h1:=catL_len h k;rw[List.take_of_length_le (by have:=List.getElem?_eq_none_iff.1 hx;omega)] at h1 ⊢;rw[Nat.add_mul];omega
  | some x =>
   rw[catL_succ hx,List.length_append,Nat.add_mul];have:=catL_len h k;have:=h x (List.mem_of_getElem? hx);omega
theorem concat_c {ls:List Lst}{A:Option Addr}{n c:Nat}{w:World}(h:RdLL w A n ls)(hn:n≤100)(hN:∀ x∈ls,x.n≤1000) :
 Calls Tryz.prog 113 #[.slice A n c] w fun e w'=>∃ v,e=.returned v∧w'.ownsRow w.heap.size 86 4 v (catL ls).length ((catL ls).flatMap encR)∧Below w.heap.size w w':=by
 obtain⟨i0,hi0,hz0,hz1,hz2⟩:=info_parts infoRdg;have HI:=hid hi0;have HZ0:=hid hz0;have HZ1:=hid hz1;have HZ2:=hid hz2;have HL:=hid h.1.len;have HN:=hid hN
 have HLN:Hid (∀ x∈ls,x.l.length≤1000):=hid (fun x hx=>by
  obtain⟨i,hi⟩:=List.getElem?_of_mem hx
  rw[(h.2 i x hi).1.len];exact hN x hx)
 have HH:=hid h;clear hi0 hz0 hz1 hz2 hN h
 go_enter Tryz.func113,Tryz.ntmps113
 go_wp2_with fail
 go_loop [3,11] (fun z i=>∃ k:Nat,k≤n∧i=.int .i64 k∧z=.int .i64 ((catL (ls.take k)).length:Int)) (fun _ i=>n - (intOf i).toNat)
 case atStart=>exact⟨0,Nat.zero_le _,rfl,rfl⟩
 case round =>
  obtain⟨k,hk,rfl,rfl⟩:=hrel
  by_cases hlt:k<n
  · obtain⟨b,o,x,hA,hbl,hx,h0⟩:=HH.out.1.atL hlt
    subst hA
    have HS:Hid ((catL (ls.take (k+1))).length=(catL (ls.take k)).length+x.n):=by
     show _=_;rw[catL_succ hx,List.length_append,(HH.out.2 k x hx).1.len]
    have hxn:=HN.out x (List.mem_of_getElem? hx);have hcl:=catL_len HLN.out k;obtain⟨m,hm⟩:∃ m,m=(catL (ls.take k)).length:=⟨_,rfl⟩;rw[← hm] at hcl HS ⊢;have hw1:IntKind.i64.wrap ((m:Int)+(x.n:Int))=(m:Int)+(x.n:Int):=wi (by omega)
    have hneg:¬(m:Int)+(x.n:Int)<0:=by omega
    have hi1:(k:Int)<(n:Int):=by omega
    have hi0:(0:Int)≤(k:Int):=by omega
    clear hx hm
    go_wp2
    go_round
    case rel=>exact⟨k+1,by omega,by go_num,by rw[HS.out];go_num⟩
    case measure=>simp[intOf]<;>omega
  · obtain rfl:k=n:=by omega
    rw[List.take_of_length_le (by rw[HL.out];exact Nat.le_refl _)];have hcl:=catL_len HLN.out ls.length;rw[List.take_length,HL.out] at hcl;have HG:=hid (grow_c (n:=(catL ls).length) w (by omega));have HC:=hid hcl;clear hcl
    go_wp2_with fail
    refine HG.out.mono ?_;rintro e w1 ⟨v,rfl,hown,hb1⟩;have HO1:=hid hown;have HB1:=hid hb1;clear hown hb1 HG
    go_wp2_with fail
    go_loopw [6,27] (fun v i wr=>∃ q:Nat,q≤k∧i=.int .i64 q∧wr.ownsRow w.heap.size 86 4 v (catL (ls.take q)).length ((catL (ls.take q)).flatMap encR)∧Below w.heap.size w wr) (fun _ i _=>k - (intOf i).toNat)
    case atStart=>exact⟨0,Nat.zero_le _,rfl,HO1.out,HB1.out⟩
    case round =>
     obtain⟨q,hq,rfl,hown,hb⟩:=hrel;have HO:=hid hown;have HB:=hid hb;have hsz:=hb.size;clear hown hb
     by_cases hlt2:q<k
     · have hHr:=HH.out.below HB.out
       obtain⟨b,o,x,hA,hbl,hx,h0⟩:=hHr.1.atL hlt2;subst hA;have hxr:=(hHr.2 q x hx).1;have hxn:=HN.out x (List.mem_of_getElem? hx);have HS:=hid (catL_succ hx);have hcl:=catL_len HLN.out q;have HXR:=hid hxr;obtain⟨M,hM⟩:∃ M,M=catL (ls.take q):=⟨_,rfl⟩;rw[← hM] at HS HO hcl
       have hi1:(q:Int)<(k:Int):=by omega
       have hi0:(0:Int)≤(q:Int):=by omega
       clear hx hxr hHr hM
       go_wp2_with (at_builtin;go_must (refine wpList_append_rd rfl _ _ 40 rfl w.heap.size 86 i0 (.agg #[.int .i64 0,.int .i64 0,.int .i64 0,.int .i64 0]) 4 32 Tryz.underlying40 HI.out HZ0.out HZ1.out HZ2.out rfl (by decide) _ _ _ rfl HO.out encR_len oneR4 x.A x.n x.c x.l rfl HXR.out (by unfold maxLen;omega) (by omega) hsz ?_;intro v1 w2 hown2 hgrow2))
       have HB2:=hid (HB.out.grown hgrow2 hsz (fun g hg=>(HO.out.lt g hg).1))
       have HO2:Hid (w2.ownsRow w.heap.size 86 4 v1 (catL (ls.take (q+1))).length ((catL (ls.take (q+1))).flatMap encR)):=by
        show World.ownsRow _ _ _ _ _ _ _;rw[HS.out,List.flatMap_append,List.length_append,HXR.out.len];exact hown2
       clear hown2 hgrow2
       go_wp2_with fail
       go_roundw
       case rel=>exact⟨q+1,by omega,by go_num,HO2.out,HB2.out⟩
       case measure=>simp[intOf]<;>omega
     · obtain rfl:q=k:=by omega
       rw[List.take_of_length_le (by rw[HL.out];exact Nat.le_refl _)] at HO
       go_wp2_with fail
       go_ret
       exact⟨_,rfl,HO.out,HB.out⟩
end Go.Proofs.YtkhcliibilkefaaGreatDoor.Ga
