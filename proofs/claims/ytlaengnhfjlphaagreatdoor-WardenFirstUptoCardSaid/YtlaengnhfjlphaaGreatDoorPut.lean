/- CONTRACTS of 'all' over a slice of slope.Bed with the function (slope.Bed).valid: written by mkally.py. -/
import Derived.Test.YtlaengnhfjlphaaGreatDoorKHeld
import Derived.Maps.OwnSet
import Derived.Lib.Bytealg
import Derived.StillTailTactics
set_option linter.unusedVariables false
set_option linter.unusedSimpArgs false
set_option maxRecDepth 100000
set_option maxHeartbeats 8000000
namespace Go.Proofs.YtlaengnhfjlphaaGreatDoor
open Lib (hid)
open Go.RowKit Go.Proofs
section
variable {p:BedS→Bool}
theorem allBed_1 (x:BedS)(B:Nat)(w:World)(_hBl:B < w.heap.size)(hB:w.cell? ⟨B,0,none⟩=some (.func (.func 150) #[] #[]))
 (hp:∀ W:World,Below w.heap.size w W→Calls Tryz.prog 150 #[.agg #[.int .i64 x.drive,.int .i64 x.normal,.int .i64 x.f0,.int .i64 x.f1,.int .i64 x.c0,.int .i64 x.c1,.int .i64 x.w0,.int .i64 x.w1]] W fun e w'=>e=.returned (.bool (p x))∧Below W.heap.size W w') :
 Calls Tryz.prog 191 #[.agg #[.int .i64 x.drive,.int .i64 x.normal,.int .i64 x.f0,.int .i64 x.f1,.int .i64 x.c0,.int .i64 x.c1,.int .i64 x.w0,.int .i64 x.w1],.pointer (some ⟨B,0,none⟩)] w fun e w'=>e=.returned (.bool (!p x))∧Below w.heap.size w w':=by
 have hp':=hp (w.alloc (.cells #[.int .i64 x.drive,.int .i64 x.normal,.int .i64 x.f0,.int .i64 x.f1,.int .i64 x.c0,.int .i64 x.c1,.int .i64 x.w0,.int .i64 x.w1] 125)) ((Below.refl w.heap.size w).alloc (Nat.le_refl _) (.cells #[.int .i64 x.drive,.int .i64 x.normal,.int .i64 x.f0,.int .i64 x.f1,.int .i64 x.c0,.int .i64 x.c1,.int .i64 x.w0,.int .i64 x.w1] 125));have HP:=hid hp';clear hp hp'
 go_enter Tryz.func191,Tryz.ntmps191
 go_wp2_with (go_at_call 150;refine(HP.out).mono ?_;rintro e w' ⟨rfl,hb⟩)
 go_ret
 exact⟨rfl,((Below.refl _ _).alloc (Nat.le_refl _) _).trans (hb.mono (by simp))⟩
theorem idxBed_c {l:List (BedS)}{A:Option Addr}{n c:Nat}{B:Nat}(w:World)(h:Rd encBed 8 w A n l)(hn:n≤maxLen)(hBl:B < w.heap.size)
 (hB:w.cell? ⟨B,0,none⟩=some (.func (.func 150) #[] #[]))
 (hp:∀(i:Nat) (x:BedS) (W:World),l[i]?=some x→Below w.heap.size w W→Calls Tryz.prog 150 #[.agg #[.int .i64 x.drive,.int .i64 x.normal,.int .i64 x.f0,.int .i64 x.f1,.int .i64 x.c0,.int .i64 x.c1,.int .i64 x.w0,.int .i64 x.w1]] W fun e w'=>e=.returned (.bool (p x))∧Below W.heap.size W w') :
 Calls Tryz.prog 218 #[.slice A n c,.func (.func 191) #[] #[.pointer (some ⟨B,0,none⟩)]] w
  fun e w'=>(∃ r:Int,e=.returned (.int .i64 r)∧(!decide (r ≥ 0))=allB p l)∧Below w.heap.size w w':=by
 unfold maxLen at hn;have HP:=hid hp;clear hp
 go_enter Tryz.func218,Tryz.ntmps218
 go_wp2_with fail
 go_loopw [5,8] (fun _ i wr=>∃ k:Nat,k≤n∧i=.int .i64 k∧Below w.heap.size w wr∧∀(j:Nat) (x:BedS),j < k→l[j]?=some x→p x=true) (fun _ i _=>n - (intOf i).toNat)
 case atStart=>exact⟨0,Nat.zero_le _,rfl,Below.refl _ _,fun j x hj=>absurd hj (by omega)⟩
 case round =>
  obtain⟨k,hk,rfl,hb,hall⟩:=hrel;have HA:=hid hall;clear hall
  by_cases hlt:k < n
  · obtain⟨b,o,x,rfl,hbl,hx,h0,h1,h2,h3,h4,h5,h6,h7⟩:=(h.below hb).atBed hlt
    have hx1:=fun W (hW:Below wr.heap.size wr W)=>HP.out k x W hx (hb.trans (hW.mono hb.size));have HX1:=hid hx1;clear hx1;have HX:=hid hx;clear hx;have hB':=(hb.cell (p:=⟨B,0,none⟩) hBl).trans hB;have hBl':B < wr.heap.size:=Nat.lt_of_lt_of_le hBl hb.size;cases hm:p x
    all_goals
     have HM:=hid hm;clear hm
     go_wp2_with (go_at_call 191;refine(allBed_1 _ _ _ hBl' hB' HX1.out).mono ?_;rintro e w' ⟨rfl,hb'⟩;simp only[HM.out])
    · go_ret
      exact⟨⟨k,rfl,by rw[(allB_not (p:=p) (l:=l)).2 ⟨k,x,HX.out,HM.out⟩];simp⟩,hb.trans (hb'.mono hb.size)⟩
    · go_roundw
      case rel=>exact⟨k+1,by omega,by go_num,hb.trans (hb'.mono hb.size),fun j y hj hy=>by
       rcases Nat.lt_or_ge j k with hjk | hjk
       · exact HA.out j y hjk hy
       · obtain rfl:j=k:=by omega
         rw[HX.out] at hy;cases hy;exact HM.out⟩
      case measure=>simp[intOf];omega
  · go_wp2
    go_ret
    refine⟨⟨-1,rfl,?_⟩,hb⟩;rw[(allB_iff (p:=p) (l:=l)).2 fun i x hx=>HA.out i x (by have:=(List.getElem?_eq_some_iff.1 hx).1;have:=h.len;omega) hx];simp
theorem containsBed_c {l:List (BedS)}{A:Option Addr}{n c:Nat}{B:Nat}(w:World)(h:Rd encBed 8 w A n l)(hn:n≤maxLen)(hBl:B < w.heap.size)
 (hB:w.cell? ⟨B,0,none⟩=some (.func (.func 150) #[] #[]))
 (hp:∀(i:Nat) (x:BedS) (W:World),l[i]?=some x→Below w.heap.size w W→Calls Tryz.prog 150 #[.agg #[.int .i64 x.drive,.int .i64 x.normal,.int .i64 x.f0,.int .i64 x.f1,.int .i64 x.c0,.int .i64 x.c1,.int .i64 x.w0,.int .i64 x.w1]] W fun e w'=>e=.returned (.bool (p x))∧Below W.heap.size W w') :
 Calls Tryz.prog 190 #[.slice A n c,.func (.func 191) #[] #[.pointer (some ⟨B,0,none⟩)]] w
  fun e w'=>e=.returned (.bool (!allB p l))∧Below w.heap.size w w':=by
 have hc:=idxBed_c (c:=c) w h hn hBl hB hp;have HC:=hid hc;clear hc hp
 go_enter Tryz.func190,Tryz.ntmps190
 go_wp2_with (go_at_call 218;refine(HC.out).mono ?_;rintro e w' ⟨⟨r,rfl,hr⟩,hb⟩;have HR:=hid hr;clear hr)
 go_ret
 exact⟨ret_bool (by rw[← HR.out];simp),hb⟩
theorem allBed_c {l:List (BedS)}{A:Option Addr}{n c:Nat}(w:World)(h:Rd encBed 8 w A n l)(hn:n≤maxLen)
 (hp:∀(i:Nat) (x:BedS) (W:World),l[i]?=some x→Below w.heap.size w W→Calls Tryz.prog 150 #[.agg #[.int .i64 x.drive,.int .i64 x.normal,.int .i64 x.f0,.int .i64 x.f1,.int .i64 x.c0,.int .i64 x.c1,.int .i64 x.w0,.int .i64 x.w1]] W fun e w'=>e=.returned (.bool (p x))∧Below W.heap.size W w') :
 Calls Tryz.prog 149 #[.slice A n c,.func (.func 150) #[] #[]] w
  fun e w'=>e=.returned (.bool (allB p l))∧Below w.heap.size w w':=by
 have hbx:=(Below.refl w.heap.size w).alloc (Nat.le_refl _) (.cells #[.func (.func 150) #[] #[]] 226);have hc:=containsBed_c (c:=c) (B:=w.heap.size) (w.alloc (.cells #[.func (.func 150) #[] #[]] 226)) (h.mono hbx) hn (by simp) (by simp) (fun i x W hx hW=>hp i x W hx (hbx.trans (hW.mono (by simp))));have HC:=hid hc;clear hc hp
 go_enter Tryz.func149,Tryz.ntmps149
 go_wp2_with (go_at_call 190;refine(HC.out).mono ?_;rintro e w' ⟨rfl,hb⟩)
 go_ret
 exact⟨ret_bool (by simp),((Below.refl _ _).alloc (Nat.le_refl _) _).trans (hb.mono (by simp))⟩
end
section
variable {p:ColR→Bool}
theorem allCol_1 (x:ColR)(B:Nat)(V:Nat)(w:World)(_hBl:B < w.heap.size)(hB:w.cell? ⟨B,0,none⟩=some (.func (.func 148) #[] #[.pointer (some ⟨V,0,none⟩)]))
 (hp:∀ W:World,Below w.heap.size w W→Calls Tryz.prog 148 #[.slice x.A 1 x.c,.pointer (some ⟨V,0,none⟩)] W fun e w'=>e=.returned (.bool (p x))∧Below W.heap.size W w') :
 Calls Tryz.prog 189 #[.slice x.A 1 x.c,.pointer (some ⟨B,0,none⟩)] w fun e w'=>e=.returned (.bool (!p x))∧Below w.heap.size w w':=by
 have hp':=hp w (Below.refl w.heap.size w);have HP:=hid hp';clear hp hp'
 go_enter Tryz.func189,Tryz.ntmps189
 go_wp2_with (go_at_call 148;refine(HP.out).mono ?_;rintro e w' ⟨rfl,hb⟩)
 go_ret
 exact⟨rfl,hb⟩
theorem idxCol_c {l:List (ColR)}{A:Option Addr}{n c:Nat}{B:Nat}(V:Nat)(w:World)(h:Rd encC 1 w A n l)(hn:n≤maxLen)(hBl:B < w.heap.size)
 (hB:w.cell? ⟨B,0,none⟩=some (.func (.func 148) #[] #[.pointer (some ⟨V,0,none⟩)]))
 (hp:∀(i:Nat) (x:ColR) (W:World),l[i]?=some x→Below w.heap.size w W→Calls Tryz.prog 148 #[.slice x.A 1 x.c,.pointer (some ⟨V,0,none⟩)] W fun e w'=>e=.returned (.bool (p x))∧Below W.heap.size W w') :
 Calls Tryz.prog 217 #[.slice A n c,.func (.func 189) #[] #[.pointer (some ⟨B,0,none⟩)]] w
  fun e w'=>(∃ r:Int,e=.returned (.int .i64 r)∧(!decide (r ≥ 0))=allB p l)∧Below w.heap.size w w':=by
 unfold maxLen at hn;have HP:=hid hp;clear hp
 go_enter Tryz.func217,Tryz.ntmps217
 go_wp2_with fail
 go_loopw [5,8] (fun _ i wr=>∃ k:Nat,k≤n∧i=.int .i64 k∧Below w.heap.size w wr∧∀(j:Nat) (x:ColR),j < k→l[j]?=some x→p x=true) (fun _ i _=>n - (intOf i).toNat)
 case atStart=>exact⟨0,Nat.zero_le _,rfl,Below.refl _ _,fun j x hj=>absurd hj (by omega)⟩
 case round =>
  obtain⟨k,hk,rfl,hb,hall⟩:=hrel;have HA:=hid hall;clear hall
  by_cases hlt:k < n
  · obtain⟨b,o,x,rfl,hbl,hx,h0⟩:=(h.below hb).atC hlt
    have hx1:=fun W (hW:Below wr.heap.size wr W)=>HP.out k x W hx (hb.trans (hW.mono hb.size));have HX1:=hid hx1;clear hx1;have HX:=hid hx;clear hx;have hB':=(hb.cell (p:=⟨B,0,none⟩) hBl).trans hB;have hBl':B < wr.heap.size:=Nat.lt_of_lt_of_le hBl hb.size;cases hm:p x
    all_goals
     have HM:=hid hm;clear hm
     go_wp2_with (go_at_call 189;refine(allCol_1 _ _ V _ hBl' hB' HX1.out).mono ?_;rintro e w' ⟨rfl,hb'⟩;simp only[HM.out])
    · go_ret
      exact⟨⟨k,rfl,by rw[(allB_not (p:=p) (l:=l)).2 ⟨k,x,HX.out,HM.out⟩];simp⟩,hb.trans (hb'.mono hb.size)⟩
    · go_roundw
      case rel=>exact⟨k+1,by omega,by go_num,hb.trans (hb'.mono hb.size),fun j y hj hy=>by
       rcases Nat.lt_or_ge j k with hjk | hjk
       · exact HA.out j y hjk hy
       · obtain rfl:j=k:=by omega
         rw[HX.out] at hy;cases hy;exact HM.out⟩
      case measure=>simp[intOf];omega
  · go_wp2
    go_ret
    refine⟨⟨-1,rfl,?_⟩,hb⟩;rw[(allB_iff (p:=p) (l:=l)).2 fun i x hx=>HA.out i x (by have:=(List.getElem?_eq_some_iff.1 hx).1;have:=h.len;omega) hx];simp
theorem containsCol_c {l:List (ColR)}{A:Option Addr}{n c:Nat}{B:Nat}(V:Nat)(w:World)(h:Rd encC 1 w A n l)(hn:n≤maxLen)(hBl:B < w.heap.size)
 (hB:w.cell? ⟨B,0,none⟩=some (.func (.func 148) #[] #[.pointer (some ⟨V,0,none⟩)]))
 (hp:∀(i:Nat) (x:ColR) (W:World),l[i]?=some x→Below w.heap.size w W→Calls Tryz.prog 148 #[.slice x.A 1 x.c,.pointer (some ⟨V,0,none⟩)] W fun e w'=>e=.returned (.bool (p x))∧Below W.heap.size W w') :
 Calls Tryz.prog 188 #[.slice A n c,.func (.func 189) #[] #[.pointer (some ⟨B,0,none⟩)]] w
  fun e w'=>e=.returned (.bool (!allB p l))∧Below w.heap.size w w':=by
 have hc:=idxCol_c (c:=c) V w h hn hBl hB hp;have HC:=hid hc;clear hc hp
 go_enter Tryz.func188,Tryz.ntmps188
 go_wp2_with (go_at_call 217;refine(HC.out).mono ?_;rintro e w' ⟨⟨r,rfl,hr⟩,hb⟩;have HR:=hid hr;clear hr)
 go_ret
 exact⟨ret_bool (by rw[← HR.out];simp),hb⟩
theorem allCol_c {l:List (ColR)}{A:Option Addr}{n c:Nat}(V:Nat)(w:World)(h:Rd encC 1 w A n l)(hn:n≤maxLen)
 (hp:∀(i:Nat) (x:ColR) (W:World),l[i]?=some x→Below w.heap.size w W→Calls Tryz.prog 148 #[.slice x.A 1 x.c,.pointer (some ⟨V,0,none⟩)] W fun e w'=>e=.returned (.bool (p x))∧Below W.heap.size W w') :
 Calls Tryz.prog 147 #[.slice A n c,.func (.func 148) #[] #[.pointer (some ⟨V,0,none⟩)]] w
  fun e w'=>e=.returned (.bool (allB p l))∧Below w.heap.size w w':=by
 have hbx:=(Below.refl w.heap.size w).alloc (Nat.le_refl _) (.cells #[.func (.func 148) #[] #[.pointer (some ⟨V,0,none⟩)]] 227);have hc:=containsCol_c (c:=c) (B:=w.heap.size) V (w.alloc (.cells #[.func (.func 148) #[] #[.pointer (some ⟨V,0,none⟩)]] 227)) (h.mono hbx) hn (by simp) (by simp) (fun i x W hx hW=>hp i x W hx (hbx.trans (hW.mono (by simp))));have HC:=hid hc;clear hc hp
 go_enter Tryz.func147,Tryz.ntmps147
 go_wp2_with (go_at_call 188;refine(HC.out).mono ?_;rintro e w' ⟨rfl,hb⟩)
 go_ret
 exact⟨ret_bool (by simp),((Below.refl _ _).alloc (Nat.le_refl _) _).trans (hb.mono (by simp))⟩
end
section
variable {p:Cel→Bool}
theorem allCel_1 (x:Cel)(B:Nat)(V:Nat)(w:World)(_hBl:B < w.heap.size)(hB:w.cell? ⟨B,0,none⟩=some (.func (.func 104) #[] #[.pointer (some ⟨V,0,none⟩)]))
 (hp:∀ W:World,Below w.heap.size w W→Calls Tryz.prog 104 #[.agg #[.int .i64 x.lo,.int .i64 x.hi,.int .i64 x.cap,.int .i64 x.keep,.int .i64 x.pass,.int .i64 x.to,.int .i64 x.pump],.pointer (some ⟨V,0,none⟩)] W fun e w'=>e=.returned (.bool (p x))∧Below W.heap.size W w') :
 Calls Tryz.prog 152 #[.agg #[.int .i64 x.lo,.int .i64 x.hi,.int .i64 x.cap,.int .i64 x.keep,.int .i64 x.pass,.int .i64 x.to,.int .i64 x.pump],.pointer (some ⟨B,0,none⟩)] w fun e w'=>e=.returned (.bool (!p x))∧Below w.heap.size w w':=by
 have hp':=hp (w.alloc (.cells #[.int .i64 x.lo,.int .i64 x.hi,.int .i64 x.cap,.int .i64 x.keep,.int .i64 x.pass,.int .i64 x.to,.int .i64 x.pump] 130)) ((Below.refl w.heap.size w).alloc (Nat.le_refl _) (.cells #[.int .i64 x.lo,.int .i64 x.hi,.int .i64 x.cap,.int .i64 x.keep,.int .i64 x.pass,.int .i64 x.to,.int .i64 x.pump] 130));have HP:=hid hp';clear hp hp'
 go_enter Tryz.func152,Tryz.ntmps152
 go_wp2_with (go_at_call 104;refine(HP.out).mono ?_;rintro e w' ⟨rfl,hb⟩)
 go_ret
 exact⟨rfl,((Below.refl _ _).alloc (Nat.le_refl _) _).trans (hb.mono (by simp))⟩
theorem idxCel_c {l:List (Cel)}{A:Option Addr}{n c:Nat}{B:Nat}(V:Nat)(w:World)(h:Rd encCel 7 w A n l)(hn:n≤maxLen)(hBl:B < w.heap.size)
 (hB:w.cell? ⟨B,0,none⟩=some (.func (.func 104) #[] #[.pointer (some ⟨V,0,none⟩)]))
 (hp:∀(i:Nat) (x:Cel) (W:World),l[i]?=some x→Below w.heap.size w W→Calls Tryz.prog 104 #[.agg #[.int .i64 x.lo,.int .i64 x.hi,.int .i64 x.cap,.int .i64 x.keep,.int .i64 x.pass,.int .i64 x.to,.int .i64 x.pump],.pointer (some ⟨V,0,none⟩)] W fun e w'=>e=.returned (.bool (p x))∧Below W.heap.size W w') :
 Calls Tryz.prog 193 #[.slice A n c,.func (.func 152) #[] #[.pointer (some ⟨B,0,none⟩)]] w
  fun e w'=>(∃ r:Int,e=.returned (.int .i64 r)∧(!decide (r ≥ 0))=allB p l)∧Below w.heap.size w w':=by
 unfold maxLen at hn;have HP:=hid hp;clear hp
 go_enter Tryz.func193,Tryz.ntmps193
 go_wp2_with fail
 go_loopw [5,8] (fun _ i wr=>∃ k:Nat,k≤n∧i=.int .i64 k∧Below w.heap.size w wr∧∀(j:Nat) (x:Cel),j < k→l[j]?=some x→p x=true) (fun _ i _=>n - (intOf i).toNat)
 case atStart=>exact⟨0,Nat.zero_le _,rfl,Below.refl _ _,fun j x hj=>absurd hj (by omega)⟩
 case round =>
  obtain⟨k,hk,rfl,hb,hall⟩:=hrel;have HA:=hid hall;clear hall
  by_cases hlt:k < n
  · obtain⟨b,o,x,rfl,hbl,hx,h0,h1,h2,h3,h4,h5,h6⟩:=(h.below hb).atCel hlt
    have hx1:=fun W (hW:Below wr.heap.size wr W)=>HP.out k x W hx (hb.trans (hW.mono hb.size));have HX1:=hid hx1;clear hx1;have HX:=hid hx;clear hx;have hB':=(hb.cell (p:=⟨B,0,none⟩) hBl).trans hB;have hBl':B < wr.heap.size:=Nat.lt_of_lt_of_le hBl hb.size;cases hm:p x
    all_goals
     have HM:=hid hm;clear hm
     go_wp2_with (go_at_call 152;refine(allCel_1 _ _ V _ hBl' hB' HX1.out).mono ?_;rintro e w' ⟨rfl,hb'⟩;simp only[HM.out])
    · go_ret
      exact⟨⟨k,rfl,by rw[(allB_not (p:=p) (l:=l)).2 ⟨k,x,HX.out,HM.out⟩];simp⟩,hb.trans (hb'.mono hb.size)⟩
    · go_roundw
      case rel=>exact⟨k+1,by omega,by go_num,hb.trans (hb'.mono hb.size),fun j y hj hy=>by
       rcases Nat.lt_or_ge j k with hjk | hjk
       · exact HA.out j y hjk hy
       · obtain rfl:j=k:=by omega
         rw[HX.out] at hy;cases hy;exact HM.out⟩
      case measure=>simp[intOf];omega
  · go_wp2
    go_ret
    refine⟨⟨-1,rfl,?_⟩,hb⟩;rw[(allB_iff (p:=p) (l:=l)).2 fun i x hx=>HA.out i x (by have:=(List.getElem?_eq_some_iff.1 hx).1;have:=h.len;omega) hx];simp
theorem containsCel_c {l:List (Cel)}{A:Option Addr}{n c:Nat}{B:Nat}(V:Nat)(w:World)(h:Rd encCel 7 w A n l)(hn:n≤maxLen)(hBl:B < w.heap.size)
 (hB:w.cell? ⟨B,0,none⟩=some (.func (.func 104) #[] #[.pointer (some ⟨V,0,none⟩)]))
 (hp:∀(i:Nat) (x:Cel) (W:World),l[i]?=some x→Below w.heap.size w W→Calls Tryz.prog 104 #[.agg #[.int .i64 x.lo,.int .i64 x.hi,.int .i64 x.cap,.int .i64 x.keep,.int .i64 x.pass,.int .i64 x.to,.int .i64 x.pump],.pointer (some ⟨V,0,none⟩)] W fun e w'=>e=.returned (.bool (p x))∧Below W.heap.size W w') :
 Calls Tryz.prog 151 #[.slice A n c,.func (.func 152) #[] #[.pointer (some ⟨B,0,none⟩)]] w
  fun e w'=>e=.returned (.bool (!allB p l))∧Below w.heap.size w w':=by
 have hc:=idxCel_c (c:=c) V w h hn hBl hB hp;have HC:=hid hc;clear hc hp
 go_enter Tryz.func151,Tryz.ntmps151
 go_wp2_with (go_at_call 193;refine(HC.out).mono ?_;rintro e w' ⟨⟨r,rfl,hr⟩,hb⟩;have HR:=hid hr;clear hr)
 go_ret
 exact⟨ret_bool (by rw[← HR.out];simp),hb⟩
theorem allCel_c {l:List (Cel)}{A:Option Addr}{n c:Nat}(V:Nat)(w:World)(h:Rd encCel 7 w A n l)(hn:n≤maxLen)
 (hp:∀(i:Nat) (x:Cel) (W:World),l[i]?=some x→Below w.heap.size w W→Calls Tryz.prog 104 #[.agg #[.int .i64 x.lo,.int .i64 x.hi,.int .i64 x.cap,.int .i64 x.keep,.int .i64 x.pass,.int .i64 x.to,.int .i64 x.pump],.pointer (some ⟨V,0,none⟩)] W fun e w'=>e=.returned (.bool (p x))∧Below W.heap.size W w') :
 Calls Tryz.prog 107 #[.slice A n c,.func (.func 104) #[] #[.pointer (some ⟨V,0,none⟩)]] w
  fun e w'=>e=.returned (.bool (allB p l))∧Below w.heap.size w w':=by
 have hbx:=(Below.refl w.heap.size w).alloc (Nat.le_refl _) (.cells #[.func (.func 104) #[] #[.pointer (some ⟨V,0,none⟩)]] 174);have hc:=containsCel_c (c:=c) (B:=w.heap.size) V (w.alloc (.cells #[.func (.func 104) #[] #[.pointer (some ⟨V,0,none⟩)]] 174)) (h.mono hbx) hn (by simp) (by simp) (fun i x W hx hW=>hp i x W hx (hbx.trans (hW.mono (by simp))));have HC:=hid hc;clear hc hp
 go_enter Tryz.func107,Tryz.ntmps107
 go_wp2_with (go_at_call 151;refine(HC.out).mono ?_;rintro e w' ⟨rfl,hb⟩)
 go_ret
 exact⟨ret_bool (by simp),((Below.refl _ _).alloc (Nat.le_refl _) _).trans (hb.mono (by simp))⟩
end
section
variable {p:Dy→Bool}
theorem allDay_1 (x:Dy)(B:Nat)(w:World)(_hBl:B < w.heap.size)(hB:w.cell? ⟨B,0,none⟩=some (.func (.func 154) #[] #[]))
 (hp:∀ W:World,Below w.heap.size w W→Calls Tryz.prog 154 #[.agg #[.int .i64 x.lo,.int .i64 x.hi,.int .i64 x.warm]] W fun e w'=>e=.returned (.bool (p x))∧Below W.heap.size W w') :
 Calls Tryz.prog 195 #[.agg #[.int .i64 x.lo,.int .i64 x.hi,.int .i64 x.warm],.pointer (some ⟨B,0,none⟩)] w fun e w'=>e=.returned (.bool (!p x))∧Below w.heap.size w w':=by
 have hp':=hp (w.alloc (.cells #[.int .i64 x.lo,.int .i64 x.hi,.int .i64 x.warm] 86)) ((Below.refl w.heap.size w).alloc (Nat.le_refl _) (.cells #[.int .i64 x.lo,.int .i64 x.hi,.int .i64 x.warm] 86));have HP:=hid hp';clear hp hp'
 go_enter Tryz.func195,Tryz.ntmps195
 go_wp2_with (go_at_call 154;refine(HP.out).mono ?_;rintro e w' ⟨rfl,hb⟩)
 go_ret
 exact⟨rfl,((Below.refl _ _).alloc (Nat.le_refl _) _).trans (hb.mono (by simp))⟩
theorem idxDay_c {l:List (Dy)}{A:Option Addr}{n c:Nat}{B:Nat}(w:World)(h:Rd encDy 3 w A n l)(hn:n≤maxLen)(hBl:B < w.heap.size)
 (hB:w.cell? ⟨B,0,none⟩=some (.func (.func 154) #[] #[]))
 (hp:∀(i:Nat) (x:Dy) (W:World),l[i]?=some x→Below w.heap.size w W→Calls Tryz.prog 154 #[.agg #[.int .i64 x.lo,.int .i64 x.hi,.int .i64 x.warm]] W fun e w'=>e=.returned (.bool (p x))∧Below W.heap.size W w') :
 Calls Tryz.prog 219 #[.slice A n c,.func (.func 195) #[] #[.pointer (some ⟨B,0,none⟩)]] w
  fun e w'=>(∃ r:Int,e=.returned (.int .i64 r)∧(!decide (r ≥ 0))=allB p l)∧Below w.heap.size w w':=by
 unfold maxLen at hn;have HP:=hid hp;clear hp
 go_enter Tryz.func219,Tryz.ntmps219
 go_wp2_with fail
 go_loopw [5,8] (fun _ i wr=>∃ k:Nat,k≤n∧i=.int .i64 k∧Below w.heap.size w wr∧∀(j:Nat) (x:Dy),j < k→l[j]?=some x→p x=true) (fun _ i _=>n - (intOf i).toNat)
 case atStart=>exact⟨0,Nat.zero_le _,rfl,Below.refl _ _,fun j x hj=>absurd hj (by omega)⟩
 case round =>
  obtain⟨k,hk,rfl,hb,hall⟩:=hrel;have HA:=hid hall;clear hall
  by_cases hlt:k < n
  · obtain⟨b,o,x,rfl,hbl,hx,h0,h1,h2⟩:=(h.below hb).atDy hlt
    have hx1:=fun W (hW:Below wr.heap.size wr W)=>HP.out k x W hx (hb.trans (hW.mono hb.size));have HX1:=hid hx1;clear hx1;have HX:=hid hx;clear hx;have hB':=(hb.cell (p:=⟨B,0,none⟩) hBl).trans hB;have hBl':B < wr.heap.size:=Nat.lt_of_lt_of_le hBl hb.size;cases hm:p x
    all_goals
     have HM:=hid hm;clear hm
     go_wp2_with (go_at_call 195;refine(allDay_1 _ _ _ hBl' hB' HX1.out).mono ?_;rintro e w' ⟨rfl,hb'⟩;simp only[HM.out])
    · go_ret
      exact⟨⟨k,rfl,by rw[(allB_not (p:=p) (l:=l)).2 ⟨k,x,HX.out,HM.out⟩];simp⟩,hb.trans (hb'.mono hb.size)⟩
    · go_roundw
      case rel=>exact⟨k+1,by omega,by go_num,hb.trans (hb'.mono hb.size),fun j y hj hy=>by
       rcases Nat.lt_or_ge j k with hjk | hjk
       · exact HA.out j y hjk hy
       · obtain rfl:j=k:=by omega
         rw[HX.out] at hy;cases hy;exact HM.out⟩
      case measure=>simp[intOf];omega
  · go_wp2
    go_ret
    refine⟨⟨-1,rfl,?_⟩,hb⟩;rw[(allB_iff (p:=p) (l:=l)).2 fun i x hx=>HA.out i x (by have:=(List.getElem?_eq_some_iff.1 hx).1;have:=h.len;omega) hx];simp
theorem containsDay_c {l:List (Dy)}{A:Option Addr}{n c:Nat}{B:Nat}(w:World)(h:Rd encDy 3 w A n l)(hn:n≤maxLen)(hBl:B < w.heap.size)
 (hB:w.cell? ⟨B,0,none⟩=some (.func (.func 154) #[] #[]))
 (hp:∀(i:Nat) (x:Dy) (W:World),l[i]?=some x→Below w.heap.size w W→Calls Tryz.prog 154 #[.agg #[.int .i64 x.lo,.int .i64 x.hi,.int .i64 x.warm]] W fun e w'=>e=.returned (.bool (p x))∧Below W.heap.size W w') :
 Calls Tryz.prog 194 #[.slice A n c,.func (.func 195) #[] #[.pointer (some ⟨B,0,none⟩)]] w
  fun e w'=>e=.returned (.bool (!allB p l))∧Below w.heap.size w w':=by
 have hc:=idxDay_c (c:=c) w h hn hBl hB hp;have HC:=hid hc;clear hc hp
 go_enter Tryz.func194,Tryz.ntmps194
 go_wp2_with (go_at_call 219;refine(HC.out).mono ?_;rintro e w' ⟨⟨r,rfl,hr⟩,hb⟩;have HR:=hid hr;clear hr)
 go_ret
 exact⟨ret_bool (by rw[← HR.out];simp),hb⟩
theorem allDay_c {l:List (Dy)}{A:Option Addr}{n c:Nat}(w:World)(h:Rd encDy 3 w A n l)(hn:n≤maxLen)
 (hp:∀(i:Nat) (x:Dy) (W:World),l[i]?=some x→Below w.heap.size w W→Calls Tryz.prog 154 #[.agg #[.int .i64 x.lo,.int .i64 x.hi,.int .i64 x.warm]] W fun e w'=>e=.returned (.bool (p x))∧Below W.heap.size W w') :
 Calls Tryz.prog 153 #[.slice A n c,.func (.func 154) #[] #[]] w
  fun e w'=>e=.returned (.bool (allB p l))∧Below w.heap.size w w':=by
 have hbx:=(Below.refl w.heap.size w).alloc (Nat.le_refl _) (.cells #[.func (.func 154) #[] #[]] 229);have hc:=containsDay_c (c:=c) (B:=w.heap.size) (w.alloc (.cells #[.func (.func 154) #[] #[]] 229)) (h.mono hbx) hn (by simp) (by simp) (fun i x W hx hW=>hp i x W hx (hbx.trans (hW.mono (by simp))));have HC:=hid hc;clear hc hp
 go_enter Tryz.func153,Tryz.ntmps153
 go_wp2_with (go_at_call 194;refine(HC.out).mono ?_;rintro e w' ⟨rfl,hb⟩)
 go_ret
 exact⟨ret_bool (by simp),((Below.refl _ _).alloc (Nat.le_refl _) _).trans (hb.mono (by simp))⟩
end
def rgD (r:Int × Int):DataW Unit:=.agg [.lit (.int .i64 r.1),.lit (.int .i64 r.2)]
def rgV (r:Int × Int):Value:=.agg #[.int .i64 r.1,.int .i64 r.2]
def rgElem (v:Value):Option (DataW Unit × List MemPlace):=match v with
 | .agg cs=>match cs.toList with
  | [.int .i64 a,.int .i64 b]=>some (rgD (a,b),[])
  | _=>none
 | _=>none
theorem rgElem_mk (r:Int × Int):rgElem (rgV r)=some (rgD r,[]):=rfl
theorem rgElem_inv {v:Value}{z:DataW Unit × List MemPlace}(h:rgElem v=some z):∃ r,v=rgV r∧z=(rgD r,[]):=by
 unfold rgElem at h
 split at h
 · rename_i cs
   split at h
   · rename_i a b hc
     cases h;refine⟨(a,b),?_,rfl⟩;show Value.agg cs=_;have:cs=#[.int .i64 a,.int .i64 b]:=Array.ext' hc;rw[this];rfl
   · cases h
 · cases h
theorem rgD_inj {r s:Int × Int}(h:rgD r=rgD s):r=s:=by
 simp[rgD] at h;exact Prod.ext h.1 h.2
theorem keyedI:Maps.Keyed Tryz.prog 3:=Maps.int_keyed Tryz.underlying3
theorem key_of {k:Int}(h:-9223372036854775808≤k∧k≤9223372036854775807):keyOf Tryz.prog 3 (.int .i64 k)=some (.int .i64 k):=by
 have wa:(Lit.int .i64 k).wf=true:=WalkArith.wf_i64 (by omega);simp[keyOf,Tryz.underlying3,mapKey,wa]
def MapF (w:World)(M n:Nat)(f:Int→Int × Int):Prop :=
 ∃ D:DataW Unit,w.ownsMap Tryz.prog 3 rgElem M n D∧Maps.IsMap D∧∀ k:Int,D.atKey (.int .i64 k) (rgD (0,0))=rgD (f k)
theorem MapF.made (w:World):MapF (w.alloc (.map #[] 0)) w.heap.size 0 (fun _=>(0,0)) :=
 ⟨.map [],World.ownsMap_made w _ _ _,Maps.isMap_empty,fun _=>rfl⟩
theorem MapF.lt {w:World}{M n:Nat}{f:Int→Int × Int}(h:MapF w M n f):M < w.heap.size:=by
 obtain⟨D,h,_⟩:=h;exact h.lt
theorem MapF.grown {w w':World}{M n:Nat}{f:Int→Int × Int}{row:Option Nat}(h:MapF w M n f)(hg:w.grownBy w' row)(hne:some M≠row):MapF w' M n f:=by
 obtain⟨D,h1,h2⟩:=h;exact⟨D,h1.kept hg hne,h2⟩
theorem MapF.alloc {w:World}{M n:Nat}{f:Int→Int × Int}(h:MapF w M n f)(o:Obj):MapF (w.alloc o) M n f:=by
 obtain⟨D,h1,h2⟩:=h;exact⟨D,h1.alloc o,h2⟩
theorem MapF.below {w w':World}{M n:Nat}{f:Int→Int × Int}(h:MapF w M n f)(hb:Below w.heap.size w w'):MapF w' M n f:=by
 obtain⟨D,⟨es,cl,h1,h3⟩,h2⟩:=h;exact⟨D,⟨es,cl,(hb.block M (Array.getElem?_eq_some_iff.1 h1).1).trans h1,h3⟩,h2⟩
theorem zero_rg (w:World):(zeroValue 145).run Tryz.prog w=.ok (rgV (0,0)) w:=by kernel_rfl
theorem MapF.look {w:World}{M n:Nat}{f:Int→Int × Int}(h:MapF w M n f){k:Int}(hk:-9223372036854775808≤k∧k≤9223372036854775807) :
 (Instr.lookup 200 (.map (some M)) (.int .i64 k) false).run Tryz.prog w=.ok (.agg #[.int .i64 (f k).1,.int .i64 (f k).2]) w:=by
 obtain⟨D,h1,_,h3⟩:=h;obtain⟨v,ps,hrun,hv⟩:=h1.lookup keyedI Tryz.underlying200 (zero_rg w) (rgElem_mk (0,0)) (key_of hk);obtain⟨r,rfl,hz⟩:=rgElem_inv hv;rw[h3] at hz;have:f k=r:=rgD_inj (by injection hz);rw[hrun,this];rfl
theorem MapF.upd {w:World}{M n:Nat}{f:Int→Int × Int}(h:MapF w M n f){k:Int}(hk:-9223372036854775808≤k∧k≤9223372036854775807)(hn:n < 1000000)(r:Int × Int) :
 ∃ w',(Instr.mapUpdate 200 (.map (some M)) (.int .i64 k) (.agg #[.int .i64 r.1,.int .i64 r.2])).run Tryz.prog w=.ok () w'∧MapF w' M (n+1) (fun j=>if j=k then r else f j)∧w.grownBy w' (some M):=by
 obtain⟨D,h1,h2,h3⟩:=h;obtain⟨w',hrun,h4,h5⟩:=h1.update keyedI Tryz.underlying200 (by unfold maxLen;omega) (key_of hk) (rgElem_mk r);refine⟨w',hrun,⟨_,h4,h2.put _ _,fun j=>?_⟩,h5⟩
 by_cases hj:j=k
 · subst hj
   show _=rgD (if j=j then r else f j);rw[if_pos rfl,Maps.atKey_put_same h2 (keyedI.key (key_of hk))]
 · show _=rgD (if j=k then r else f j)
   rw[if_neg hj,Maps.atKey_put_other (by intro e;injection e with e1 e2;exact hj e2),h3]
theorem wpList_mapF {w:World}{ops:Array Oper}{rest:List Oper}{o:Oper}{a:Act}{Q:Exit→Act→World→Prop}
 (hg:o.guard=none) (m x v:Operand) (hop:o.op=Op.mapUpdate 200 m x v) (M n:Nat) (f:Int→Int × Int) (hm:a.eval m=.map (some M)) (h:MapF w M n f)
 (k:Int) (hx:a.eval x=.int .i64 k) (hk:-9223372036854775808≤k∧k≤9223372036854775807) (hn:n < 1000000) (r:Int × Int) (hv:a.eval v=.agg #[.int .i64 r.1,.int .i64 r.2])
 (hK:∀ w',MapF w' M (n+1) (fun j=>if j=k then r else f j)→w.grownBy w' (some M)→wpList Tryz.prog ops Q rest (a.put o.dst undef) w') :
 wpList Tryz.prog ops Q (o :: rest) a w:=by
 refine wpList_plain hg fun K' hK'=>?_;obtain⟨w',hrun,r1,r2⟩:=h.upd hk hn r;unfold Oper.wp;simp[execOp,hop,hm,hx,hv,hrun,Result.andThen];exact hK' _ _ (hK w' r1 r2)
end Go.Proofs.YtlaengnhfjlphaaGreatDoor
namespace Go.Proofs.YtlaengnhfjlphaaGreatDoor
open Lib (hid)
def digT:List UInt8:=[48,49,50,51,52,53,54,55,56,57,97,98,99,100,101,102]
theorem ix_all:∀ k:Fin 256,Lib.indexByte digT (UInt8.ofNat k.val)=match hexP (UInt8.ofNat k.val) with | some d=>(d:Int) | none=>-1:=by decide +kernel
theorem index_hex (x:UInt8):Lib.indexByte digT x=match hexP x with | some d=>(d:Int) | none=>-1:=by
 have:=ix_all ⟨x.toNat,x.toNat_lt⟩
 simpa using this
def PairsW (t:List UInt8)(k:Nat)(o:List Nat):Prop:=o.length=k∧∀ j,j < k→∃ a b,(t[2 * j]?).bind hexP=some a∧(t[2 * j+1]?).bind hexP=some b∧o[j]?=some (16 * a+b)
theorem wire_iff:∀(k:Nat) (t:List UInt8) (o:List Nat),t.length=2 * k→(wireP t=some o↔PairsW t k o)
 | 0,t,o,h=>by
  obtain rfl:t=[]:=List.length_eq_zero_iff.1 (by omega);simp only[wireP,PairsW,Option.some.injEq]
  constructor
  · rintro rfl;exact⟨rfl,fun j hj=>absurd hj (by omega)⟩
  · rintro⟨h1,_⟩;exact(List.length_eq_zero_iff.1 h1).symm
 | k+1,[],o,h=>by simp at h
 | k+1,[_],o,h=>by simp at h;omega
 | k+1,x :: y :: l,o,h=>by
  have hl:l.length=2 * k:=by simp at h;omega
  rw[wireP]
  constructor
  · intro hw
    cases hx:hexP x with
    | none=>rw[hx] at hw;simp at hw
    | some a =>
     cases hy:hexP y with
     | none=>rw[hx,hy] at hw;simp at hw
     | some b =>
      cases hr:wireP l with
      | none=>rw[hx,hy,hr] at hw;simp at hw
      | some r =>
       rw[hx,hy,hr] at hw;obtain rfl:=Option.some.inj hw;obtain⟨h1,h2⟩:=(wire_iff k l r hl).1 hr;refine⟨by simp[h1],fun j hj=>?_⟩
       cases j with
       | zero=>exact⟨a,b,by simpa using hx,by simpa using hy,by simp⟩
       | succ j =>
        obtain⟨c,d,h3,h4,h5⟩:=h2 j (by omega);refine⟨c,d,?_,?_,by simpa using h5⟩
        · rw[show 2 * (j+1)=2 * j+2 by omega];simpa using h3
        · rw[show 2 * (j+1)+1=(2 * j+1)+2 by omega];simpa using h4
  · rintro⟨h1,h2⟩
    obtain⟨a,b,h3,h4,h5⟩:=h2 0 (by omega);simp at h3 h4
    match o,h1 with
    | z :: r,h1 =>
     simp at h5
     have hr:wireP l=some r:=(wire_iff k l r hl).2 ⟨by simpa using h1,fun j hj=>by
      obtain⟨c,d,h6,h7,h8⟩:=h2 (j+1) (by omega);refine⟨c,d,?_,?_,by simpa using h8⟩
      · rw[show 2 * (j+1)=2 * j+2 by omega] at h6;simpa using h6
      · rw[show 2 * (j+1)+1=(2 * j+1)+2 by omega] at h7;simpa using h7⟩
     rw[h3,h4,hr,h5]
theorem wire_loop {t:List UInt8}{k:Nat}(hk:t.length=2 * k):wireP t=loopH t t.length:=by
 rw[hk]
 cases hl:loopH t (2 * k) with
 | some o=>exact(wire_iff k t o hk).2 ⟨by have:=loopH_len hl;omega,loopH_get hl⟩
 | none =>
  cases hw:wireP t with
  | none=>rfl
  | some o =>
   obtain⟨h1,h2⟩:=(wire_iff k t o hk).1 hw
   obtain⟨z,hz⟩:=loopH_some (t:=t) (k:=2 * k) fun i hi=>by
    obtain⟨a,b,h3,h4,_⟩:=h2 (i / 2) (by omega)
    rcases Nat.mod_two_eq_zero_or_one i with h | h
    · rw[show 2 * (i / 2)=i by omega] at h3;exact⟨a,h3⟩
    · rw[show 2 * (i / 2)+1=i by omega] at h4;exact⟨b,h4⟩
   rw[hl] at hz;cases hz
theorem wire_odd:∀(k:Nat) (t:List UInt8),t.length=2 * k+1→wireP t=none
 | 0,[x],_=>rfl
 | 0,[],h=>by simp at h
 | 0,_ :: _ :: _,h=>by simp at h
 | k+1,[],h=>by simp at h
 | k+1,[x],h=>by simp at h
 | k+1,x :: y :: l,h=>by
  rw[wireP,wire_odd k l (by simp at h;omega)];cases hexP x <;> cases hexP y <;> rfl
theorem loopH_none {t:List UInt8}{k:Nat}(h:loopH t k=none):∀ m,k≤m→loopH t m=none
 | 0,hm=>by
  obtain rfl:k=0:=by omega
  exact h
 | m+1,hm=>by
  by_cases e:k=m+1
  · rw[← e];exact h
  · rw[loopH,loopH_none h m (by omega)]
theorem wire_is {t:List UInt8}{o:List Nat}(h:loopH t t.length=some o):wireP t=if t.length % 2=0 then some o else none:=by
 rcases Nat.mod_two_eq_zero_or_one t.length with e | e
 · rw[if_pos e,← h];exact wire_loop (k:=t.length / 2) (by omega)
 · rw[if_neg (by omega)];exact wire_odd (t.length / 2) t (by omega)
theorem wire_not {t:List UInt8}{k:Nat}(hk:k≤t.length)(h:loopH t k=none):wireP t=none:=by
 rcases Nat.mod_two_eq_zero_or_one t.length with e | e
 · rw[wire_loop (k:=t.length / 2) (by omega)];exact loopH_none h _ hk
 · exact wire_odd (t.length / 2) t (by omega)
theorem loopH_byte {t:List UInt8}:∀ {k:Nat} {o:List Nat},loopH t k=some o→(∀ x∈o,x < 256)∧(k % 2=1→∃ o0 a,o=o0++[16 * a]∧a < 16∧o0.length=k / 2)
 | 0,o,h=>by obtain rfl:=Option.some.inj h;exact⟨by simp,fun h=>by omega⟩
 | k+1,o,h=>by
  rw[loopH] at h
  split at h
  · rename_i out d h1 hd
    obtain⟨h2,h3⟩:=loopH_byte h1;have hl:=loopH_len h1;obtain rfl:=Option.some.inj h;obtain⟨x,_,hx⟩:=Option.bind_eq_some_iff.1 hd;have hd16:=hex_lt hx;unfold stepH
    split
    · rename_i hm
      refine⟨fun x hx=>?_,fun _=>⟨out,d,rfl,hd16,by omega⟩⟩
      rcases List.mem_append.1 hx with hx | hx
      · exact h2 x hx
      · rw[List.mem_singleton.1 hx];omega
    · rename_i hm
      refine⟨fun x hx=>?_,fun h=>by omega⟩;obtain⟨o0,a,rfl,ha,ho⟩:=h3 (by omega)
      rcases List.mem_or_eq_of_mem_set hx with hx | rfl
      · exact h2 x hx
      · rw[List.getD_eq_getElem?_getD,List.getElem?_append_right (by omega),show k / 2 - o0.length=0 by omega]
        simp;omega
  · cases h
end Go.Proofs.YtlaengnhfjlphaaGreatDoor
namespace Go.Proofs.YtlaengnhfjlphaaGreatDoor.Ga
open Lib (hid)
def byteOf (z:Int):UInt8:=UInt8.ofNat (z % 256).toNat
theorem byteOf_toNat (z:Int):((byteOf z).toNat:Int)=z % 256:=by
 have h:(z % 256).toNat < 256:=by omega
 simp only[byteOf,UInt8.toNat_ofNat'];omega
def beB (n:Int):Nat→List UInt8
 | 0=>[]
 | m+1=>byteOf (n / 256 ^ m) :: beB n m
theorem beB_len (n:Int):∀ m,(beB n m).length=m
 | 0=>rfl
 | m+1=>by simp[beB,beB_len n m]
theorem beB_succ (n:Int)(m:Nat):beB n (m+1)=byteOf (n / 256 ^ m) :: beB n m:=rfl
def ckStep (c:Int)(b:UInt8):Int:=(257 * c+(b.toNat:Int)+1) % 16777213
def ck (l:List UInt8):Int:=l.foldl ckStep 1
theorem ck_snoc (l:List UInt8)(b:UInt8):ck (l++[b])=ckStep (ck l) b:=by simp[ck]
def preB (r:Rdg):List UInt8:=[165]++beB r.ins 1++beB r.num 2++beB r.tim 4++beB r.val 4
theorem preB_len (r:Rdg):(preB r).length=12:=by simp[preB,beB_len]
def recB (r:Rdg):List UInt8:=preB r++beB (ck (preB r)) 3++[90]
theorem recB_len (r:Rdg):(recB r).length=16:=by simp[recB,preB_len,beB_len]
theorem take_set_snoc {bs:List UInt8}{i:Nat}{b:UInt8}(h:i < bs.length):(bs.set i b).take (i+1)=bs.take i++[b]:=by
 rw[List.take_succ_eq_append_getElem (by simpa using h)];simp[List.take_set_of_le]
def w17 (bs:List UInt8)(i:Nat):Array Value:=(bs.map (fun(b:UInt8)=>Value.int .u8 (b.toNat:Int))++[Value.int .i64 (i:Int)]).toArray
theorem w17_byte {bs:List UInt8}{i j:Nat}(hj:j < bs.length):(w17 bs i)[j]?=some (.int .u8 ((bs[j]'hj).toNat:Int)):=by
 simp[w17,List.getElem?_append_left,hj]
theorem w17_at {bs:List UInt8}{i:Nat}(h:bs.length=16):(w17 bs i)[16]?=some (.int .i64 (i:Int)):=by
 simp only[w17,List.getElem?_toArray];rw[List.getElem?_append_right (by simp[h])];simp[h]
theorem w17_set {bs:List UInt8}{i j:Nat}(b:UInt8)(hj:j < bs.length):(w17 bs i).setIfInBounds j (.int .u8 (b.toNat:Int))=w17 (bs.set j b) i:=by
 simp only[w17,List.setIfInBounds_toArray];rw[List.set_append_left _ _ (by simpa using hj),List.map_set]
theorem w17_move {bs:List UInt8}{i:Nat}(k:Nat)(h:bs.length=16):(w17 bs i).setIfInBounds 16 (.int .i64 (k:Int))=w17 bs k:=by
 simp only[w17,List.setIfInBounds_toArray];rw[List.set_append_right _ _ (by simp[h])];simp[h]
open Go.RowKit Go.Proofs
theorem set_c (g i:Nat)(b:Int)(u:Value)(w:World)(hi:i < 16)(hc:w.cell? ⟨g,i,none⟩=some u)(hf:w.frozen? ⟨g,i,none⟩=false) :
 Calls Tryz.prog 240 #[.pointer (some ⟨g,0,none⟩),.int .i64 i,.int .u8 b] w fun e w'=>e=.returned (.tuple #[])∧w.setCell ⟨g,i,none⟩ (.int .u8 b)=w':=by
 have h16:(i:Int) < 16:=by omega
 go_enter Tryz.func240,Tryz.ntmps240
 go_wp2
 go_end0
 exact⟨rfl,rfl⟩
theorem put_c (g i m:Nat)(n:Int)(bs:List UInt8)(w:World)(hb:Blk w g 307 (w17 bs i))(hl:bs.length=16)(hm:i+m≤16)(h4:m≤4) :
 Calls Tryz.prog 234 #[.pointer (some ⟨g,0,none⟩),.int .i64 n,.int .i64 m] w fun e w'=>e=.returned (.tuple #[]) ∧
  (∃ bs':List UInt8,bs'.length=16∧bs'.take (i+m)=bs.take i++beB n m∧Blk w' g 307 (w17 bs' (i+m)))∧w.grownBy w' (some g):=by
 have HL:=hid hl;clear hl
 go_enter Tryz.func234,Tryz.ntmps234
 go_wp2_with fail
 go_loopw [6] (fun k wr=>∃(r j:Nat) (bs':List UInt8),r≤4∧k=.int .i64 ((r:Int) - 1)∧bs'.length=16∧j+r=i+m∧bs'.take j++beB n r=bs.take i++beB n m∧Blk wr g 307 (w17 bs' j)∧w.grownBy wr (some g)) (fun k _=>(intOf k+1).toNat)
 case atStart=>exact⟨m,i,bs,h4,rfl,HL.out,rfl,rfl,hb,World.grownBy.refl w _⟩
 case round =>
  obtain⟨r,j,bs',hr4,rfl,hl',hj,heq,hblk,hg⟩:=hrel;have HL':=hid hl';have HJ:=hid hj;have HE:=hid heq;have HB:=hid hblk;have HG:=hid hg;clear hl' heq hblk hg
  have hj16:j+r≤16:=by omega
  clear hj
  rcases r with _ | r
  · go_wp2
    go_end0
    have hje:j=i+m:=by have:=HJ.out;omega
    exact⟨rfl,⟨bs',HL'.out,by have:=HE.out;rw[hje] at this;simpa[beB] using this,by have:=HB.out;rwa [hje] at this⟩,HG.out⟩
  · have c1:wr.cell? ⟨g,16,none⟩=some (.int .i64 (j:Int)):=by rw[HB.out.cell];exact w17_at HL'.out
    have c2:=HB.out.frozen 16
    have hj16':j < 16:=by omega
    have cj:wr.cell? ⟨g,j,none⟩=some (.int .u8 ((bs'[j]'(by rw[HL'.out];exact hj16')).toNat:Int)):=by rw[HB.out.cell];exact w17_byte _
    have cf:=HB.out.frozen j
    have w0:IntKind.i64.wrap 0=0:=by decide
    have w8:IntKind.i64.wrap 8=8:=by decide
    have w16:IntKind.i64.wrap 16=16:=by decide
    have w24:IntKind.i64.wrap 24=24:=by decide
    have hstep:∀(q:Int),q=n / 256 ^ r→Hid (∃ bs2:List UInt8,bs2.length=16∧bs2.take (j+1)++beB n r=bs.take i++beB n m∧Blk ((wr.drew.setCell ⟨g,j,none⟩ (.int .u8 (q % 256))).setCell ⟨g,16,none⟩ (.int .i64 ((j:Int)+1))) g 307 (w17 bs2 (j+1)) ∧
     w.grownBy ((wr.drew.setCell ⟨g,j,none⟩ (.int .u8 (q % 256))).setCell ⟨g,16,none⟩ (.int .i64 ((j:Int)+1))) (some g)):=by
     rintro q rfl;refine⟨bs'.set j (byteOf (n / 256 ^ r)),by simpa using HL'.out,?_,?_,?_⟩
     · rw[take_set_snoc (by rw[HL'.out];exact hj16'),← HE.out,beB_succ];simp
     · have h1:=(show Blk wr.drew g 307 (w17 bs' j) from HB.out).set_ j (.int .u8 ((n / 256 ^ r) % 256))
       rw[← byteOf_toNat,w17_set _ (by rw[HL'.out];exact hj16')] at h1;have h2:=h1.set_ 16 (.int .i64 (((j+1:Nat)):Int));rw[w17_move _ (by simpa using HL'.out)] at h2;rw[← byteOf_toNat]
       simpa using h2
     · exact only_setCell (p:=⟨g,16,none⟩) (only_setCell (p:=⟨g,j,none⟩) (only_drewN HG.out 1) (.inl rfl) _) (.inl rfl) _
    have HS:=hid hstep;clear hstep
    rcases r with _ | _ | _ | _ | r
    case zero =>
     have H:=HS.out n (by simp)
     go_wp2
     go_still_tail 12,(by kernel_rfl)
     change wpList _ _ _ _ _ wr.drew
     go_wp2_with (go_at_call 240;refine(set_c _ _ _ _ _ hj16' (by simpa using cj) (by simpa using cf)).mono ?_;rintro e w' ⟨rfl,rfl⟩)
     go_roundw
     case rel =>
      obtain⟨bs2,a1,a2,a3,a4⟩:=H.out;exact⟨_,j+1,bs2,by omega,by simp,a1,by have:=HJ.out;omega,a2,a3,a4⟩
     case measure=>simp[intOf] <;> omega
    case succ.zero =>
     have H:=HS.out (n / 256) (by rw[show(256:Int) ^ (0+1)=256 from by decide])
     go_wp2
     go_still_tail 12,(by kernel_rfl)
     change wpList _ _ _ _ _ wr.drew
     go_wp2_with (go_at_call 240;refine(set_c _ _ _ _ _ hj16' (by simpa using cj) (by simpa using cf)).mono ?_;rintro e w' ⟨rfl,rfl⟩)
     go_roundw
     case rel =>
      obtain⟨bs2,a1,a2,a3,a4⟩:=H.out;exact⟨_,j+1,bs2,by omega,by simp,a1,by have:=HJ.out;omega,a2,a3,a4⟩
     case measure=>simp[intOf] <;> omega
    case succ.succ.zero =>
     have H:=HS.out (n / 65536) (by rw[show(256:Int) ^ (0+1+1)=65536 from by decide])
     go_wp2
     go_still_tail 12,(by kernel_rfl)
     change wpList _ _ _ _ _ wr.drew
     go_wp2_with (go_at_call 240;refine(set_c _ _ _ _ _ hj16' (by simpa using cj) (by simpa using cf)).mono ?_;rintro e w' ⟨rfl,rfl⟩)
     go_roundw
     case rel =>
      obtain⟨bs2,a1,a2,a3,a4⟩:=H.out;exact⟨_,j+1,bs2,by omega,by simp,a1,by have:=HJ.out;omega,a2,a3,a4⟩
     case measure=>simp[intOf] <;> omega
    case succ.succ.succ.zero =>
     have H:=HS.out (n / 16777216) (by rw[show(256:Int) ^ (0+1+1+1)=16777216 from by decide])
     go_wp2
     go_still_tail 12,(by kernel_rfl)
     change wpList _ _ _ _ _ wr.drew
     go_wp2_with (go_at_call 240;refine(set_c _ _ _ _ _ hj16' (by simpa using cj) (by simpa using cf)).mono ?_;rintro e w' ⟨rfl,rfl⟩)
     go_roundw
     case rel =>
      obtain⟨bs2,a1,a2,a3,a4⟩:=H.out;exact⟨_,j+1,bs2,by omega,by simp,a1,by have:=HJ.out;omega,a2,a3,a4⟩
     case measure=>simp[intOf] <;> omega
    case succ.succ.succ.succ=>omega
end Go.Proofs.YtlaengnhfjlphaaGreatDoor.Ga
