/- THE CONTRACT of slope.lower at columns of one bed: is some surface lower? -/
import Derived.Test.YtkhcliibilkefaaGreatDoorYCheap
import Derived.Test.YtkhcliibilkefaaGreatDoorYWet
set_option linter.unusedVariables false
set_option linter.unusedSimpArgs false
set_option maxRecDepth 100000
set_option maxHeartbeats 8000000
namespace Go.Proofs.YtkhcliibilkefaaGreatDoor
open Lib (hid)
open Go.RowKit Go.Proofs
attribute [local go_sem ↓] Go.wp_at_zero Go.wp_at_succ
theorem CW.up {B0 B1:Nat}{W:World}{A:Option Addr}{n:Nat}{CL:List ColR}(h:CW B0 W A n CL)(hb:B0≤B1):CW B1 W A n CL :=
 ⟨h.rd,h.bed,fun ad e=>Nat.lt_of_lt_of_le (h.low ad e) hb,fun i r hr ad e=>Nat.lt_of_lt_of_le (h.lowb i r hr ad e) hb⟩
section
variable {A:Option Addr} {n cc:Nat} {L:Nat} {factor:Int} {T:FuncId} {CL:List ColR} {Q:Nat→Int}
theorem lower_c (hn1:1≤n)(hn9:n≤12)(hL:1≤L∧L≤4){w:World}(hcw:CW w.heap.size w A n CL)
 (hcost:∀(B0:Nat) (W:World) (k:Nat),k<n→CW B0 W A n CL→Calls Tryz.prog 235 #[.agg (lkA A n cc (L:Int) factor T),.int .i64 k,.int .i64 0] W fun e w'=>e=.returned (.int .i64 (Q k))∧Below W.heap.size W w')
 (hQ:∀ j,-1500000000≤Q j∧Q j≤1500000000) :
 Calls Tryz.prog 178 #[.agg (lkA A n cc (L:Int) factor T)] w fun e W'=>∃(z:Int) (S:Option Addr) (m k:Nat) (b:Bool),e=.returned (.tuple #[.agg #[.int .i64 z,.slice S m k],.bool b])∧(b=true↔Lower Q n L)∧Below w.heap.size w W':=by
 have hal:=((Below.refl w.heap.size w).alloc (Nat.le_refl _) (.cells (lkA A n cc (L:Int) factor T) 253)).alloc (by simp) (.cells #[.int .i64 0,.slice none 0 0] 221);have hx:=(Blk.new w 253 (lkA A n cc (L:Int) factor T)).alloc (.cells #[.int .i64 0,.slice none 0 0] 221);have ho:=Blk.new (w.alloc (.cells (lkA A n cc (L:Int) factor T) 253)) 221 #[.int .i64 0,.slice none 0 0];simp only[World.size_alloc] at ho;have HCO:=hid hcost;have HC:=hid hcw;have HQ:=hid hQ;have HB:=hid hal;have HX:=hid hx;have HO:=hid ho;clear hcost hcw hQ hal hx ho
 go_enter Tryz.func178,Tryz.ntmps178
 go_upto_region 1 with fail
 revert HB HX HO;generalize (World.alloc (World.alloc w _) _)=w1;intro HB HX HO;have HS:=hid (HB.out.size);have hlw:w.heap.size+1<w1.heap.size:=HO.out.lt;have l0:=HX.out.cell 0;have l1:=HX.out.cell 1;simp[lkA] at l0 l1
 go_step3
 go_wp2_with fail
 go_step3
 go_wp2_with fail
 clear l0 l1;obtain⟨w2,hw2⟩:∃ w2,w2=w1:=⟨_,rfl⟩
 go_loopw [3,12] (fun fo i wr=>∃ k:Nat,k≤n∧i=.int .i64 k∧fo=.bool false∧Below w.heap.size w wr∧Blk wr w.heap.size 253 (lkA A n cc (L:Int) factor T)∧Blk wr (w.heap.size+1) 221 #[.int .i64 0,.slice none 0 0]∧∀(i j:Nat),i<k→i≤j→j<n→i+L≤j+1→¬ sumS Q (j - i) i<0) (fun _ i _=>n - (intOf i).toNat)
 case atStart=>exact⟨0,Nat.zero_le _,rfl,rfl,HB.out,HX.out,HO.out,fun i j h=>absurd h (by omega)⟩
 case round =>
  obtain⟨k,hk,rfl,rfl,hb,hx,ho,hall⟩:=hrel;clear HB HX HO;have HB:=hid hb;have HX:=hid hx;have HO:=hid ho;have HA:=hid hall;clear hb hx ho hall;have l1:=HX.out.cell 1;simp[lkA] at l1
  rcases Nat.lt_or_ge k n with hkn | hkn
  · have hkn':(k:Int)<(n:Int):=by omega
    have hw3:IntKind.i64.wrap ((k:Int)+(L:Int))=(k:Int)+(L:Int):=wi (by omega);have hw4:IntKind.i64.wrap ((k:Int)+(L:Int) - 1)=(k:Int)+(L:Int) - 1:=wi (by omega)
    go_wp2_with fail
    clear l1;obtain⟨w3,hw3'⟩:∃ w3,w3=wr:=⟨_,rfl⟩
    go_loopw [3,5] (fun fo t wi9=>∃ j:Nat,k+L≤j+1∧t=.int .i64 (j:Int)∧fo=.bool false∧Below w.heap.size w wi9∧Blk wi9 w.heap.size 253 (lkA A n cc (L:Int) factor T)∧Blk wi9 (w.heap.size+1) 221 #[.int .i64 0,.slice none 0 0]∧∀(j':Nat),j' < j→k≤j'→j' < n→k+L≤j'+1→¬ sumS Q (j' - k) k<0) (fun _ t _=>20 - (intOf t).toNat)
    case atStart=>exact⟨k+L - 1,by omega,by congr 1;omega,rfl,HB.out,HX.out,HO.out,fun j' h1 h2 h3 h4=>by omega⟩
    case round =>
     obtain⟨j,hj,rfl,rfl,hb,hx,ho,hin⟩:=hrel;clear HB HX HO;have HB:=hid hb;have HX:=hid hx;have HO:=hid ho;have HI:=hid hin;clear hb hx ho hin;have l0:=HX.out.cell 0;have l1:=HX.out.cell 1;have l2:=HX.out.cell 2;have l3:=HX.out.cell 3;simp[lkA] at l0 l1 l2 l3
     rcases Nat.lt_or_ge j n with hjn | hjn
     · have hjn':(j:Int)<(n:Int):=by omega
       have hkj:k≤j:=by omega
       have hcw:=(HC.out.be HB.out).up HB.out.size
       go_wp2_with fail
       go_at_call 213;refine(cheap_c (ff:=k) (tt:=j) (by omega) (by omega) (by omega) hcw (HCO.out _) HQ.out).mono ?_;rintro e w4 ⟨z,S,m,k9,rfl,hb9⟩;have HB4:=hid (HB.out.trans (hb9.mono HB.out.size));have HX4:=hid (HX.out.below hb9 HX.out.lt);have HO4:=hid (HO.out.below hb9 HO.out.lt);clear HB HX HO hcw hb9 l0 l1 l2 l3;generalize hc9:sumS Q (j - k) k=C9;have HC9:=hid hc9;clear hc9;have hal:=(Below.refl w4.heap.size w4).alloc (Nat.le_refl _) (.cells #[.int .i64 z,.slice S m k9] 221);have HB:=hid (HB4.out.trans (hal.mono HB4.out.size));have HX:=hid (HX4.out.below hal HX4.out.lt);have HO:=hid (HO4.out.below hal HO4.out.lt);clear HB4 HX4 HO4
       rcases Int.lt_or_le C9 0 with hneg | hneg
       · have o0:=HO.out.cell 0;have o1:=HO.out.cell 1;have f0:=HO.out.frozen 0;have f1:=HO.out.frozen 1
         simp at o0 o1
         go_upto_region 11 with fail
         have hx2:=(HO.out.set_ 0 (.int .i64 z)).set_ 1 (.slice S m k9);have hb2:=(HB.out.setCell (p:=⟨w.heap.size+1,0,none⟩) (by simp) (.int .i64 z)).setCell (p:=⟨w.heap.size+1,1,none⟩) (by simp) (.slice S m k9);simp at hx2;clear HB HX HO f0 f1 o0 o1;have HB:=hid hb2;have HO:=hid hx2;clear hb2 hx2 hal;revert HB HO;generalize (World.setCell (World.setCell (World.alloc w4 _) _ _) _ _)=w5;intro HB HO;have o0:=HO.out.cell 0;have o1:=HO.out.cell 1;have f0:=HO.out.frozen 0;have f1:=HO.out.frozen 1;simp at o0 o1
         go_wp2_with fail
         (try rw[Exit.noGoto_ret]);have hx2:=(HO.out.set_ 0 (.int .i64 z)).set_ 1 (.slice S m k9);have hb2:=(HB.out.setCell (p:=⟨w.heap.size+1,0,none⟩) (by simp) (.int .i64 z)).setCell (p:=⟨w.heap.size+1,1,none⟩) (by simp) (.slice S m k9);have y0:=hx2.cell 0;have y1:=hx2.cell 1;simp at y0 y1;refine bodyPost_ret (v:=.tuple #[.agg #[.int .i64 z,.slice S m k9],.bool true]) ?_ rfl ⟨_,_,_,_,_,rfl,?_,hb2⟩
         · simp[results,Tryz.f178,go_sem,y0,y1]
         · exact⟨fun _=>⟨k,j,hkj,hjn,hj,by rw[HC9.out];exact hneg⟩,fun _=>rfl⟩
       · have hneg':¬ C9<0:=by omega
         go_wp2_with fail
         go_roundw
         case rel=>exact⟨j+1,by omega,by go_num,rfl,HB.out,HX.out,HO.out,fun j' h1 h2 h3 h4=>by
          rcases Nat.lt_or_ge j' j with h5 | h5
          · have h9:=HI.out j' h5 h2 h3 h4;omega
          · obtain rfl:j'=j:=by omega
            rw[HC9.out];omega⟩
         case measure=>simp[intOf];omega
     · have hjn':¬(j:Int)<(n:Int):=by omega
       go_wp2_with fail
       go_roundw
       case rel=>exact⟨k+1,by omega,by go_num,rfl,HB.out,HX.out,HO.out,fun i j' h1 h2 h3 h4=>by
        rcases Nat.lt_or_ge i k with h5 | h5
        · have h9:=HA.out i j' h5 h2 h3 h4;omega
        · obtain rfl:i=k:=by omega
          have h9:=HI.out j' (by omega) h2 h3 h4;omega⟩
       case measure=>simp[intOf];omega
  · obtain rfl:k=n:=by omega
    have o0:=HO.out.cell 0;have o1:=HO.out.cell 1;have f0:=HO.out.frozen 0;have f1:=HO.out.frozen 1;simp at o0 o1
    go_wp2_with fail
    have hx2:=(HO.out.set_ 0 (.int .i64 0)).set_ 1 (.slice none 0 0);have hb2:=(HB.out.setCell (p:=⟨w.heap.size+1,0,none⟩) (by simp) (.int .i64 0)).setCell (p:=⟨w.heap.size+1,1,none⟩) (by simp) (.slice none 0 0);have y0:=hx2.cell 0;have y1:=hx2.cell 1;simp at y0 y1;refine bodyPost_ret (v:=.tuple #[.agg #[.int .i64 0,.slice none 0 0],.bool false]) ?_ rfl ⟨_,_,_,_,_,rfl,?_,hb2⟩
    · simp[results,Tryz.f178,go_sem,y0,y1]
    · constructor
      · intro h;cases h
      · rintro⟨i,j,h1,h2,h3,h4⟩;have h9:=HA.out i j (by omega) h1 h2 h3;omega
end
section
variable {A:Option Addr} {n cc:Nat} {L:Nat} {CL:List ColR}
theorem cost_at {k:Nat}{r:ColR}(hk:CL[k]?=some r)(factor:Int):costS (holdA (CL.map (·.bed))) (drivA (CL.map (·.bed))) factor k=costOf true factor r.bed∧costS (fun _=>0) (drivA (CL.map (·.bed))) 1 k=costOf false 1 r.bed:=by
 have h1:(CL.map (·.bed))[k]?=some r.bed:=by rw[List.getElem?_map,hk];rfl
 simp[costS,holdA,drivA,h1,costOf]
theorem cost_all (hok:∀ b∈CL.map (·.bed),bedOk b){factor:Int}(hf:0≤factor∧factor≤10001)(k:Nat) :
 (-1500000000≤costS (holdA (CL.map (·.bed))) (drivA (CL.map (·.bed))) factor k∧costS (holdA (CL.map (·.bed))) (drivA (CL.map (·.bed))) factor k≤1500000000)∧-1500000000≤costS (fun _=>0) (drivA (CL.map (·.bed))) 1 k∧costS (fun _=>0) (drivA (CL.map (·.bed))) 1 k≤1500000000:=by
 cases hk:CL[k]? with
 | some r =>
  have hb:bedOk r.bed:=hok _ (List.mem_map.2 ⟨r,List.mem_of_getElem? hk,rfl⟩);rw[(cost_at hk factor).1,(cost_at hk factor).2];exact⟨cost_bd hb hf,cost_bd hb ⟨by omega,by omega⟩⟩
 | none =>
  have h1:(CL.map (·.bed))[k]?=none:=by rw[List.getElem?_map,hk];rfl
  simp[costS,holdA,drivA,h1]
theorem lowerT_c (hn1:1≤n)(hn9:n≤12)(hL:1≤L∧L≤4)(hok:∀ b∈CL.map (·.bed),bedOk b){factor:Int}(hf:0≤factor∧factor≤10001){w:World}(hcw:CW w.heap.size w A n CL) :
 Calls Tryz.prog 178 #[.agg (lkA A n cc (L:Int) factor 212)] w fun e W'=>∃(z:Int) (S:Option Addr) (m k:Nat) (b:Bool),e=.returned (.tuple #[.agg #[.int .i64 z,.slice S m k],.bool b])∧(b=true↔Lower (costS (holdA (CL.map (·.bed))) (drivA (CL.map (·.bed))) factor) n L)∧Below w.heap.size w W':=by
 refine lower_c hn1 hn9 hL hcw (fun B0 W k hk hc=>?_) fun j=>(cost_all hok hf j).1
 have hkl:k<CL.length:=by rw[hc.rd.len];exact hk
 have hkr:=List.getElem?_eq_getElem hkl;rw[(cost_at hkr factor).1];exact cost_true hc.rd hc.bed (fun i r hr=>hok _ (List.mem_map.2 ⟨r,List.mem_of_getElem? hr,rfl⟩)) hf hkr hn9
theorem lowerF_c (hn1:1≤n)(hn9:n≤12)(hL:1≤L∧L≤4)(hok:∀ b∈CL.map (·.bed),bedOk b){w:World}(hcw:CW w.heap.size w A n CL) :
 Calls Tryz.prog 178 #[.agg (lkA A n cc (L:Int) 1 179)] w fun e W'=>∃(z:Int) (S:Option Addr) (m k:Nat) (b:Bool),e=.returned (.tuple #[.agg #[.int .i64 z,.slice S m k],.bool b])∧(b=true↔Lower (costS (fun _=>0) (drivA (CL.map (·.bed))) 1) n L)∧Below w.heap.size w W':=by
 refine lower_c hn1 hn9 hL hcw (fun B0 W k hk hc=>?_) fun j=>(cost_all hok (factor:=1) ⟨by omega,by omega⟩ j).2
 have hkl:k<CL.length:=by rw[hc.rd.len];exact hk
 have hkr:=List.getElem?_eq_getElem hkl;rw[(cost_at hkr 1).2];exact cost_false hc.rd hc.bed (fun i r hr=>hok _ (List.mem_map.2 ⟨r,List.mem_of_getElem? hr,rfl⟩)) ⟨by omega,by omega⟩ hkr hn9
theorem below_c (least factor:Int)(w:World):Calls Tryz.prog 177 #[.agg #[.slice A n cc,.int .i64 least],.int .i64 factor] w fun e w'=>e=.returned (.agg (lkA A n cc least factor 212))∧Below w.heap.size w w':=by
 go_enter Tryz.func177,Tryz.ntmps177
 go_wp2_with fail
 refine bodyPost_ret (v:=.agg (lkA A n cc least factor 212)) ?_ rfl ⟨rfl,((Below.refl w.heap.size w).alloc (Nat.le_refl _) _).alloc (by simp) _⟩;simp[results,Tryz.f177,go_sem,lkA]
def wfac:Option Int→Int
 | some f=>f
 | none=>0
def werr:Option Int→Int
 | some _=>0
 | none=>7
theorem Worst_c (hsl:slopeOk (CL.map (·.bed)) (L:Int)=true){w:World}(hcw:CW w.heap.size w A n CL) :
 Calls Tryz.prog 135 #[.agg #[.slice A n cc,.int .i64 (L:Int)]] w fun e W'=>∃(z:Int) (S:Option Addr) (m k:Nat),e=.returned (.tuple #[.agg #[.int .i64 z,.slice S m k],.int .i64 (wfac (worstP (CL.map (·.bed)) L)),.int .i64 (werr (worstP (CL.map (·.bed)) L))])∧Below w.heap.size w W':=by
 obtain⟨hs1,hs2,hok⟩:=slopeOk_iff.1 hsl;rw[List.length_map,hcw.rd.len] at hs1;have hn1:=hs1.1;have hn9:=hs1.2
 have hL:1≤L∧L≤4:=by omega
 have hlen:(CL.map (·.bed)).length=n:=by rw[List.length_map,hcw.rd.len]
 obtain⟨H,hH⟩:∃ H,H=holdA (CL.map (·.bed)):=⟨_,rfl⟩;obtain⟨D,hD⟩:∃ D,D=drivA (CL.map (·.bed)):=⟨_,rfl⟩
 have HW:=hid (show ∀ x:Int,WorstAt H D n L x→(x≤10000→worstP (CL.map (·.bed)) L=some (x - 1))∧(¬ x≤10000→Lower (costS (fun _=>0) D 1) n L→worstP (CL.map (·.bed)) L=some 10000)∧(¬ x≤10000→¬ Lower (costS (fun _=>0) D 1) n L→worstP (CL.map (·.bed)) L=none) from fun x hx=>by
  have h:=worstP_at hok (least:=L) (n:=x) (by rw[hlen,← hH,← hD];exact hx);rw[hlen,← hD] at h
  exact h)
 have HT:=hid (fun(f:Int) (hf:0≤f∧f≤10001) (U:World) (hc:CW U.heap.size U A n CL)=>lowerT_c (cc:=cc) hn1 hn9 hL hok hf hc);have HF:=hid (fun(U:World) (hc:CW U.heap.size U A n CL)=>lowerF_c (cc:=cc) hn1 hn9 hL hok hc)
 have hHn:∀ j,0≤H j:=by rw[hH];exact holdA_nn hok
 rw[← hH,← hD] at HT;rw[← hD] at HF;have hal:=((Below.refl w.heap.size w).alloc (Nat.le_refl _) (.cells #[.slice A n cc,.int .i64 (L:Int)] 27)).alloc (by simp) (.cells #[.int .i64 0,.slice none 0 0] 221);have hx:=(Blk.new w 27 #[.slice A n cc,.int .i64 (L:Int)]).alloc (.cells #[.int .i64 0,.slice none 0 0] 221);have ho:=Blk.new (w.alloc (.cells #[.slice A n cc,.int .i64 (L:Int)] 27)) 221 #[.int .i64 0,.slice none 0 0];simp only[World.size_alloc] at ho;have HC:=hid hcw;have HB:=hid hal;have HX:=hid hx;have HO:=hid ho;have HSL:=hid hsl;have HHN:=hid hHn;clear hcw hal hx ho hsl hok hlen hs1 hs2 hH hD hHn
 go_enter Tryz.func135,Tryz.ntmps135
 go_upto_region 1 with fail
 revert HB HX HO;generalize (World.alloc (World.alloc w _) _)=w1;intro HB HX HO;have x0:=HX.out.cell 0;have x1:=HX.out.cell 1;simp at x0 x1;have hcv:=slValid_c (c:=cc) (least:=(L:Int)) (HC.out.be HB.out).rd (HC.out.be HB.out).bed (by unfold maxLen;omega);rw[HSL.out] at hcv;have HCV:=hid hcv;clear hcv
 go_wp2_with fail
 go_at_call 122;refine(HCV.out).mono ?_;rintro e w1 ⟨rfl,hb9⟩;replace HB:=hdT HB hb9;replace HX:=hdB HX hb9;replace HO:=hdB HO hb9;clear hb9 ;clear x0 x1 HCV
 go_wp2_with fail
 obtain⟨w2,hw2⟩:∃ w2,w2=w1:=⟨_,rfl⟩
 go_loopw [5,6] (fun lo hi wr=>∃ a b:Int,lo=.int .i64 a∧hi=.int .i64 b∧1≤a∧a≤b∧b≤10001∧Below w.heap.size w wr∧Blk wr w.heap.size 27 #[.slice A n cc,.int .i64 (L:Int)]∧Blk wr (w.heap.size+1) 221 #[.int .i64 0,.slice none 0 0]∧(b≤10000→Lower (costS H D b) n L)∧∀ k,1≤k→k<a→¬ Lower (costS H D k) n L) (fun lo hi _=>(intOf hi - intOf lo).toNat)
 case atStart=>exact⟨1,10001,rfl,rfl,by omega,by omega,by omega,HB.out,HX.out,HO.out,fun h=>by omega,fun k h1 h2=>by omega⟩
 case round =>
  obtain⟨a,b,rfl,rfl,h1,h2,h3,hb,hx,ho,hP,hN⟩:=hrel;clear HB HX HO;have HB:=hid hb;have HX:=hid hx;have HO:=hid ho;have HP:=hid hP;have HN:=hid hN;clear hb hx ho hP hN;have x0:=HX.out.cell 0;have x1:=HX.out.cell 1;simp at x0 x1
  rcases Int.lt_or_le a b with hab | hab
  · have hw1:IntKind.i64.wrap (a+b)=a+b:=wi (by omega)
    have hw5:(a+b).tdiv 2=(a+b) / 2:=Int.tdiv_eq_ediv_of_nonneg (by omega)
    have hm1:a≤(a+b) / 2∧(a+b) / 2<b:=by omega
    obtain⟨M,hM⟩:∃ M,M=(a+b) / 2:=⟨_,rfl⟩;rw[← hM] at hm1;have hw6:(a+b) / 2=M:=hM.symm
    have hMr:0≤M∧M≤10001:=by omega
    clear hM
    go_wp2_with fail
    clear hw5 hw6 hw1 x0 x1;go_at_call 177;refine(below_c _ _ _).mono ?_;rintro e w1 ⟨rfl,hb9⟩;replace HB:=hdT HB hb9;replace HX:=hdB HX hb9;replace HO:=hdB HO hb9;clear hb9 
    go_wp2_with fail
    go_at_call 178;refine(HT.out M hMr _ ((HC.out.be HB.out).up HB.out.size)).mono ?_;rintro e w1 ⟨z,S,m,k,bb,rfl,hbb,hb9⟩;replace HB:=hdT HB hb9;replace HX:=hdB HX hb9;replace HO:=hdB HO hb9;clear hb9 ;have hal:=(Below.refl w1.heap.size w1).alloc (Nat.le_refl _) (.cells #[.int .i64 z,.slice S m k] 221);replace HB:=hdT HB hal;replace HX:=hdB HX hal;replace HO:=hdB HO hal;clear hal;have hw7:IntKind.i64.wrap (M+1)=M+1:=wi (by omega)
    cases bb with
    | false =>
     have hno:¬ Lower (costS H D M) n L:=fun h=>by have:=hbb.2 h;cases this
     have HNO:=hid hno;clear hno hbb
     go_wp2_with fail
     go_roundw
     case rel=>exact⟨M+1,b,rfl,rfl,by omega,by omega,h3,HB.out,HX.out,HO.out,HP.out,fun k9 h5 h6 hl=>HNO.out (hl.up HHN.out (by omega) (by omega))⟩
     case measure=>simp[intOf];omega
    | true =>
     have HYES:=hid (hbb.1 rfl);clear hbb
     go_wp2_with fail
     go_roundw
     case rel=>exact⟨a,M,rfl,rfl,h1,by omega,by omega,HB.out,HX.out,HO.out,fun _=>HYES.out,HN.out⟩
     case measure=>simp[intOf];omega
  · obtain rfl:a=b:=by omega
    have hab':¬ a<a:=by omega
    have hat:WorstAt H D n L a:=⟨h1,h3,HP.out,HN.out⟩;have HWT:=hid (HW.out a hat);clear hat
    rcases Int.lt_or_le 10000 a with hbig | hsm
    · have hbig':¬ a≤10000:=by omega
      go_upto_region 13 with fail
      go_wp2_with fail
      go_at_call 178;refine(HF.out _ ((HC.out.be HB.out).up HB.out.size)).mono ?_;rintro e w1 ⟨z,S,m,k,bb,rfl,hbb,hb9⟩;replace HB:=hdT HB hb9;replace HX:=hdB HX hb9;replace HO:=hdB HO hb9;clear hb9 ;clear x0 x1;have hal:=(Below.refl w1.heap.size w1).alloc (Nat.le_refl _) (.cells #[.int .i64 z,.slice S m k] 221);replace HB:=hdT HB hal;replace HX:=hdB HX hal;replace HO:=hdB HO hal;clear hal
      cases bb with
      | false =>
       have hno:¬ Lower (costS (fun _=>0) D 1) n L:=fun h=>by have:=hbb.2 h;cases this
       have HN9:=hid (HWT.out.2.2 hbig' hno);clear hno hbb;have o0:=HO.out.cell 0;have o1:=HO.out.cell 1;have f0:=HO.out.frozen 0;have f1:=HO.out.frozen 1;simp at o0 o1
       go_wp2_with fail
       have hx2:=(HO.out.set_ 0 (.int .i64 0)).set_ 1 (.slice none 0 0);have hb2:=(HB.out.setCell (p:=⟨w.heap.size+1,0,none⟩) (by simp) (.int .i64 0)).setCell (p:=⟨w.heap.size+1,1,none⟩) (by simp) (.slice none 0 0);have y0:=hx2.cell 0;have y1:=hx2.cell 1;simp at y0 y1;refine bodyPost_ret (v:=.tuple #[.agg #[.int .i64 0,.slice none 0 0],.int .i64 0,.int .i64 7]) ?_ rfl ⟨_,_,_,_,by rw[HN9.out];rfl,hb2⟩;simp[results,Tryz.f135,go_sem,y0,y1]
      | true =>
       have HN9:=hid (HWT.out.2.1 hbig' (hbb.1 rfl));clear hbb;have o0:=HO.out.cell 0;have o1:=HO.out.cell 1;have f0:=HO.out.frozen 0;have f1:=HO.out.frozen 1;simp at o0 o1
       go_wp2_with fail
       have hx2:=(HO.out.set_ 0 (.int .i64 z)).set_ 1 (.slice S m k);have hb2:=(HB.out.setCell (p:=⟨w.heap.size+1,0,none⟩) (by simp) (.int .i64 z)).setCell (p:=⟨w.heap.size+1,1,none⟩) (by simp) (.slice S m k);have y0:=hx2.cell 0;have y1:=hx2.cell 1;simp at y0 y1;refine bodyPost_ret (v:=.tuple #[.agg #[.int .i64 z,.slice S m k],.int .i64 10000,.int .i64 0]) ?_ rfl ⟨_,_,_,_,by rw[HN9.out];rfl,hb2⟩;simp[results,Tryz.f135,go_sem,y0,y1]
    · have HN9:=hid (HWT.out.1 hsm)
      have hw8:IntKind.i64.wrap (a - 1)=a - 1:=wi (by omega)
      go_upto_region 11 with fail
      go_wp2_with fail
      go_at_call 177;refine(below_c _ _ _).mono ?_;rintro e w1 ⟨rfl,hb9⟩;replace HB:=hdT HB hb9;replace HX:=hdB HX hb9;replace HO:=hdB HO hb9;clear hb9 
      go_wp2_with fail
      go_at_call 178;refine(HT.out a ⟨by omega,by omega⟩ _ ((HC.out.be HB.out).up HB.out.size)).mono ?_;rintro e w1 ⟨z,S,m,k,bb,rfl,hbb,hb9⟩;replace HB:=hdT HB hb9;replace HX:=hdB HX hb9;replace HO:=hdB HO hb9;clear hb9 ;clear x0 x1;have hal:=(Below.refl w1.heap.size w1).alloc (Nat.le_refl _) (.cells #[.int .i64 z,.slice S m k] 221);replace HB:=hdT HB hal;replace HX:=hdB HX hal;replace HO:=hdB HO hal;clear hal hbb;have o0:=HO.out.cell 0;have o1:=HO.out.cell 1;have f0:=HO.out.frozen 0;have f1:=HO.out.frozen 1;simp at o0 o1
      go_wp2_with fail
      have hx2:=(HO.out.set_ 0 (.int .i64 z)).set_ 1 (.slice S m k);have hb2:=(HB.out.setCell (p:=⟨w.heap.size+1,0,none⟩) (by simp) (.int .i64 z)).setCell (p:=⟨w.heap.size+1,1,none⟩) (by simp) (.slice S m k);have y0:=hx2.cell 0;have y1:=hx2.cell 1;simp at y0 y1;refine bodyPost_ret (v:=.tuple #[.agg #[.int .i64 z,.slice S m k],.int .i64 (a - 1),.int .i64 0]) ?_ rfl ⟨_,_,_,_,by rw[HN9.out];rfl,hb2⟩;simp[results,Tryz.f135,go_sem,y0,y1]
end
def cntA (b:Sess)(o:Option Int):Nat→Int
 | 0=>0
 | k+1=>cntA b o k+match o with
  | none=>0
  | some f=>if f<(match k with | 0=>b.a0 | 1=>b.a1 | _=>b.a2) then 1 else 0
theorem cntA_all (b:Sess)(o:Option Int):cntA b o 3=levelN b o:=by
 cases o with
 | none=>rfl
 | some f=>simp only[cntA,levelN];omega
theorem level_c {s:Nat}{x:SAd}{b:Sess}{now line more:Int}{w:World}(h:SAt w s x b now line more)(hf:faultW b.cells b.sn0 b.sn1 b.so0 b.so1 b.melt b.days=0)(hd:b.days.length≠0)(hl:b.links.length=b.cols.length)(hlk:∀ c∈b.links,-1≤c∧c<b.cells.length)(hs:slopeOk b.cols b.least=true) :
 Calls Tryz.prog 101 #[.pointer (some ⟨s,0,none⟩)] w fun e w'=>e=.returned (.int .i64 (levelP b))∧Below w.heap.size w w':=by
 obtain⟨hs1,hs2,hs3⟩:=slopeOk_iff.1 hs;have hwo:=wet_ok hf hs hl;have hwc:=fun(W:World) (hW:Below w.heap.size w W)=>wet_c (h.below hW) hf hd hl hlk hs1.2;obtain⟨o,ho⟩:∃ o,o=worstP (wetS b) b.least.toNat:=⟨_,rfl⟩
 have hwr:∀(W:World) (A:Option Addr) (n c:Nat) (CL:List ColR),CW W.heap.size W A n CL→CL.map (·.bed)=wetS b →
  Calls Tryz.prog 135 #[.agg #[.slice A n c,.int .i64 b.least]] W fun e W'=>∃(z:Int) (S:Option Addr) (m k:Nat),e=.returned (.tuple #[.agg #[.int .i64 z,.slice S m k],.int .i64 (wfac o),.int .i64 (werr o)])∧Below W.heap.size W W':=fun W A n c CL hc hm=>by
  obtain⟨L,hL⟩:∃ L:Nat,b.least=(L:Int):=⟨b.least.toNat,by omega⟩;have h9:=Worst_c (cc:=c) (L:=L) (by rw[hm,← hL];exact hwo) hc;rw[hm,show L=b.least.toNat by rw[hL];rfl,← ho,show((b.least.toNat:Nat):Int)=b.least by omega] at h9;exact h9
 have hlp:levelP b=cntA b o 3:=by rw[cntA_all,ho];rfl
 rw[hlp];have HA:=hid h;have HB:=hid (Below.refl w.heap.size w);have HWC:=hid hwc;have HWR:=hid hwr;have HO:=hid ho;have HU:=True.intro;clear h hf hd hl hlk hs hs1 hs2 hs3 hwo hwc hwr ho hlp
 go_enter Tryz.func101,Tryz.ntmps101
 go_wp2_with fail
 go_at_call 136;refine(HWC.out _ HB.out).mono ?_;rintro e w1 ⟨A,n,c,CL,rfl,hcw,hcl,hb9⟩;have HCL:=hid hcl;have HCW:=hid hcw;clear hcl hcw;replace HB:=hdT HB hb9;clear hb9 
 go_wp2_with fail
 go_at_call 135;refine((HWR.out _ _ _ c _ HCW.out HCL.out)).mono ?_;rintro e w2 ⟨z,S,m,k,rfl,hb9⟩;replace HB:=hdT HB hb9;clear hb9 ;obtain⟨q,hq⟩:∃ q,q=werr o:=⟨_,rfl⟩;obtain⟨f,hf⟩:∃ f,f=wfac o:=⟨_,rfl⟩;rw[← hq,← hf]
 have hc0:∀ j:Nat,cntA b o (j+1)=cntA b o j+(if q=0∧f<(match j with | 0=>b.a0 | 1=>b.a1 | _=>b.a2) then 1 else 0):=fun j=>by
  rw[hq,hf]
  cases o with
  | none=>simp[cntA,werr]
  | some f=>simp[cntA,werr,wfac]
 have hcb:∀ j:Nat,0≤cntA b o j∧cntA b o j≤j:=fun j=>by
  induction j with
  | zero=>simp[cntA]
  | succ j ih=>rw[hc0 j];split<;>omega
 have HC0:=hid hc0;have HCB:=hid hcb;clear hq hf hc0 hcb HWC HWR HCW
 go_upto_region 2 with fail
 have hb9:=(Below.refl w2.heap.size w2).alloc (Nat.le_refl _) (.cells #[.int .i64 z,.slice S m k] 221);have hn:=Blk.new w2 221 #[.int .i64 z,.slice S m k];replace HB:=hdT HB hb9;have HX:=hid hn;clear hb9 hn;revert HB HX;generalize hgX:w2.heap.size=X;generalize (World.alloc w2 (.cells #[.int .i64 z,.slice S m k] 221))=w3;intro HB HX;clear hgX;have hA1:=(HA.out.below HB.out).blk;have d0:=hA1.cell 10;have d1:=hA1.cell 11;have d2:=hA1.cell 12;simp[sessV] at d0 d1 d2;clear hA1
 go_wp2_with fail
 have ix:∀(a0 a1 a2:Int) (w:World),(Instr.index 35 (.agg #[.int .i64 a0,.int .i64 a1,.int .i64 a2]) (.int .i64 0)).run Tryz.prog w=.ok (.int .i64 a0) w∧(Instr.index 35 (.agg #[.int .i64 a0,.int .i64 a1,.int .i64 a2]) (.int .i64 1)).run Tryz.prog w=.ok (.int .i64 a1) w∧(Instr.index 35 (.agg #[.int .i64 a0,.int .i64 a1,.int .i64 a2]) (.int .i64 2)).run Tryz.prog w=.ok (.int .i64 a2) w:=fun _ _ _ _=>⟨by kernel_rfl,by kernel_rfl,by kernel_rfl⟩;have i0:=fun W=>(ix b.a0 b.a1 b.a2 W).1;have i1:=fun W=>(ix b.a0 b.a1 b.a2 W).2.1;have i2:=fun W=>(ix b.a0 b.a1 b.a2 W).2.2;clear ix
 go_loopw [2,20] (fun i n wr=>∃ j:Nat,j≤3∧n=.int .i64 j∧i=.int .i64 (cntA b o j)∧wr=w3) (fun _ n _=>3 - (intOf n).toNat)
 case atStart=>exact⟨0,by omega,rfl,rfl,rfl⟩
 case round =>
  obtain⟨j,hj,rfl,rfl,rfl⟩:=hrel;have hcj:=HCB.out j
  by_cases hlt:j<3
  · have HS:=HC0.out j
    clear d0 d1 d2
    by_cases hq0:q=0
    · subst hq0
      rcases(show j=0∨j=1∨j=2 by omega) with rfl | rfl | rfl
      · rw[show(match (0:Nat) with | 0=>b.a0 | 1=>b.a1 | _=>b.a2)=b.a0 from rfl] at HS
        simp only[true_and] at HS
        split at HS
        all_goals
         (rename_i hfa
          have HS:=hid HS
          go_wp2_with fail
          go_roundw
          case rel=>exact⟨0+1,by omega,by first | rfl | go_num,by rw[HS.out];first | done | rfl | (congr 1;omega),by trivial⟩
          case measure=>(simp[intOf]<;>omega))
      · rw[show(match (1:Nat) with | 0=>b.a0 | 1=>b.a1 | _=>b.a2)=b.a1 from rfl] at HS
        simp only[true_and] at HS
        split at HS
        all_goals
         (rename_i hfa
          have HS:=hid HS
          go_wp2_with fail
          go_roundw
          case rel=>exact⟨1+1,by omega,by first | rfl | go_num,by rw[HS.out];first | done | rfl | (congr 1;omega),by trivial⟩
          case measure=>(simp[intOf]<;>omega))
      · rw[show(match (2:Nat) with | 0=>b.a0 | 1=>b.a1 | _=>b.a2)=b.a2 from rfl] at HS
        simp only[true_and] at HS
        split at HS
        all_goals
         (rename_i hfa
          have HS:=hid HS
          go_wp2_with fail
          go_roundw
          case rel=>exact⟨2+1,by omega,by first | rfl | go_num,by rw[HS.out];first | done | rfl | (congr 1;omega),by trivial⟩
          case measure=>(simp[intOf]<;>omega))
    · have hqb:(q == 0)=false:=by simpa using hq0
      rw[if_neg (fun h=>hq0 h.1),Int.add_zero] at HS;have HS:=hid HS
      rcases(show j=0∨j=1∨j=2 by omega) with rfl | rfl | rfl
      · go_wp2_with fail
        go_roundw
        case rel=>exact⟨0+1,by omega,by first | rfl | go_num,by rw[HS.out],by trivial⟩
        case measure=>(simp[intOf]<;>omega)
      · go_wp2_with fail
        go_roundw
        case rel=>exact⟨1+1,by omega,by first | rfl | go_num,by rw[HS.out],by trivial⟩
        case measure=>(simp[intOf]<;>omega)
      · go_wp2_with fail
        go_roundw
        case rel=>exact⟨2+1,by omega,by first | rfl | go_num,by rw[HS.out],by trivial⟩
        case measure=>(simp[intOf]<;>omega)
  · obtain rfl:j=3:=by omega
    go_wp2_with fail
    go_ret
    exact⟨rfl,HB.out⟩
end Go.Proofs.YtkhcliibilkefaaGreatDoor
