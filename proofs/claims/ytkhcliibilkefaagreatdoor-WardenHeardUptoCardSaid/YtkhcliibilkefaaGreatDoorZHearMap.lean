/- CONTRACTS of 'all' over a slice of slope.Bed with the function (slope.Bed).valid: written by mkally.py. -/
import Derived.Test.YtkhcliibilkefaaGreatDoorKHeld
import Derived.Maps.OwnSet
set_option linter.unusedVariables false
set_option linter.unusedSimpArgs false
set_option maxRecDepth 100000
set_option maxHeartbeats 8000000
namespace Go.Proofs.YtkhcliibilkefaaGreatDoor
open Lib (hid)
open Go.RowKit Go.Proofs
section
variable {p:BedS→Bool}
theorem allBed_1 (x:BedS)(B:Nat)(w:World)(_hBl:B<w.heap.size)(hB:w.cell? ⟨B,0,none⟩=some (.func (.func 167) #[] #[]))
 (hp:∀ W:World,Below w.heap.size w W→Calls Tryz.prog 167 #[.agg #[.int .i64 x.drive,.int .i64 x.normal,.int .i64 x.f0,.int .i64 x.f1,.int .i64 x.c0,.int .i64 x.c1,.int .i64 x.w0,.int .i64 x.w1]] W fun e w'=>e=.returned (.bool (p x))∧Below W.heap.size W w') :
 Calls Tryz.prog 206 #[.agg #[.int .i64 x.drive,.int .i64 x.normal,.int .i64 x.f0,.int .i64 x.f1,.int .i64 x.c0,.int .i64 x.c1,.int .i64 x.w0,.int .i64 x.w1],.pointer (some ⟨B,0,none⟩)] w fun e w'=>e=.returned (.bool (!p x))∧Below w.heap.size w w':=by
 have hp':=hp (w.alloc (.cells #[.int .i64 x.drive,.int .i64 x.normal,.int .i64 x.f0,.int .i64 x.f1,.int .i64 x.c0,.int .i64 x.c1,.int .i64 x.w0,.int .i64 x.w1] 157)) ((Below.refl w.heap.size w).alloc (Nat.le_refl _) (.cells #[.int .i64 x.drive,.int .i64 x.normal,.int .i64 x.f0,.int .i64 x.f1,.int .i64 x.c0,.int .i64 x.c1,.int .i64 x.w0,.int .i64 x.w1] 157));have HP:=hid hp';clear hp hp'
 go_enter Tryz.func206,Tryz.ntmps206
 go_wp2_with (go_at_call 167;refine(HP.out).mono ?_;rintro e w' ⟨rfl,hb⟩)
 go_ret
 exact⟨rfl,((Below.refl _ _).alloc (Nat.le_refl _) _).trans (hb.mono (by simp))⟩
theorem idxBed_c {l:List (BedS)}{A:Option Addr}{n c:Nat}{B:Nat}(w:World)(h:Rd encBed 8 w A n l)(hn:n≤maxLen)(hBl:B<w.heap.size)
 (hB:w.cell? ⟨B,0,none⟩=some (.func (.func 167) #[] #[]))
 (hp:∀(i:Nat) (x:BedS) (W:World),l[i]?=some x→Below w.heap.size w W→Calls Tryz.prog 167 #[.agg #[.int .i64 x.drive,.int .i64 x.normal,.int .i64 x.f0,.int .i64 x.f1,.int .i64 x.c0,.int .i64 x.c1,.int .i64 x.w0,.int .i64 x.w1]] W fun e w'=>e=.returned (.bool (p x))∧Below W.heap.size W w') :
 Calls Tryz.prog 230 #[.slice A n c,.func (.func 206) #[] #[.pointer (some ⟨B,0,none⟩)]] w
  fun e w'=>(∃ r:Int,e=.returned (.int .i64 r)∧(!decide (r≥0))=allB p l)∧Below w.heap.size w w':=by
 unfold maxLen at hn;have HP:=hid hp;clear hp
 go_enter Tryz.func230,Tryz.ntmps230
 go_wp2_with fail
 go_loopw [5,8] (fun _ i wr=>∃ k:Nat,k≤n∧i=.int .i64 k∧Below w.heap.size w wr∧∀(j:Nat) (x:BedS),j<k→l[j]?=some x→p x=true) (fun _ i _=>n - (intOf i).toNat)
 case atStart=>exact⟨0,Nat.zero_le _,rfl,Below.refl _ _,fun j x hj=>absurd hj (by omega)⟩
 case round =>
  obtain⟨k,hk,rfl,hb,hall⟩:=hrel;have HA:=hid hall;clear hall
  by_cases hlt:k<n
  · obtain⟨b,o,x,rfl,hbl,hx,h0,h1,h2,h3,h4,h5,h6,h7⟩:=(h.below hb).atBed hlt
    have hx1:=fun W (hW:Below wr.heap.size wr W)=>HP.out k x W hx (hb.trans (hW.mono hb.size));have HX1:=hid hx1;clear hx1;have HX:=hid hx;clear hx;have hB':=(hb.cell (p:=⟨B,0,none⟩) hBl).trans hB;have hBl':B<wr.heap.size:=Nat.lt_of_lt_of_le hBl hb.size;cases hm:p x
    all_goals
     have HM:=hid hm;clear hm
     go_wp2_with (go_at_call 206;refine(allBed_1 _ _ _ hBl' hB' HX1.out).mono ?_;rintro e w' ⟨rfl,hb'⟩;simp only[HM.out])
    · go_ret
      exact⟨⟨k,rfl,by rw[(allB_not (p:=p) (l:=l)).2 ⟨k,x,HX.out,HM.out⟩];simp⟩,hb.trans (hb'.mono hb.size)⟩
    · go_roundw
      case rel=>exact⟨k+1,by omega,by go_num,hb.trans (hb'.mono hb.size),fun j y hj hy=>by
       rcases Nat.lt_or_ge j k with hjk | hjk
       · exact HA.out j y hjk hy
       · obtain rfl:j=k:=by omega
         rw[HX.out] at hy;cases hy;exact HM.out⟩
      case measure=>simp[intOf];omega
  · go_wp2
    go_ret
    refine⟨⟨-1,rfl,?_⟩,hb⟩;rw[(allB_iff (p:=p) (l:=l)).2 fun i x hx=>HA.out i x (by have:=(List.getElem?_eq_some_iff.1 hx).1;have:=h.len;omega) hx];simp
theorem containsBed_c {l:List (BedS)}{A:Option Addr}{n c:Nat}{B:Nat}(w:World)(h:Rd encBed 8 w A n l)(hn:n≤maxLen)(hBl:B<w.heap.size)
 (hB:w.cell? ⟨B,0,none⟩=some (.func (.func 167) #[] #[]))
 (hp:∀(i:Nat) (x:BedS) (W:World),l[i]?=some x→Below w.heap.size w W→Calls Tryz.prog 167 #[.agg #[.int .i64 x.drive,.int .i64 x.normal,.int .i64 x.f0,.int .i64 x.f1,.int .i64 x.c0,.int .i64 x.c1,.int .i64 x.w0,.int .i64 x.w1]] W fun e w'=>e=.returned (.bool (p x))∧Below W.heap.size W w') :
 Calls Tryz.prog 205 #[.slice A n c,.func (.func 206) #[] #[.pointer (some ⟨B,0,none⟩)]] w
  fun e w'=>e=.returned (.bool (!allB p l))∧Below w.heap.size w w':=by
 have hc:=idxBed_c (c:=c) w h hn hBl hB hp;have HC:=hid hc;clear hc hp
 go_enter Tryz.func205,Tryz.ntmps205
 go_wp2_with (go_at_call 230;refine(HC.out).mono ?_;rintro e w' ⟨⟨r,rfl,hr⟩,hb⟩;have HR:=hid hr;clear hr)
 go_ret
 exact⟨ret_bool (by rw[← HR.out];simp),hb⟩
theorem allBed_c {l:List (BedS)}{A:Option Addr}{n c:Nat}(w:World)(h:Rd encBed 8 w A n l)(hn:n≤maxLen)
 (hp:∀(i:Nat) (x:BedS) (W:World),l[i]?=some x→Below w.heap.size w W→Calls Tryz.prog 167 #[.agg #[.int .i64 x.drive,.int .i64 x.normal,.int .i64 x.f0,.int .i64 x.f1,.int .i64 x.c0,.int .i64 x.c1,.int .i64 x.w0,.int .i64 x.w1]] W fun e w'=>e=.returned (.bool (p x))∧Below W.heap.size W w') :
 Calls Tryz.prog 166 #[.slice A n c,.func (.func 167) #[] #[]] w
  fun e w'=>e=.returned (.bool (allB p l))∧Below w.heap.size w w':=by
 have hbx:=(Below.refl w.heap.size w).alloc (Nat.le_refl _) (.cells #[.func (.func 167) #[] #[]] 246);have hc:=containsBed_c (c:=c) (B:=w.heap.size) (w.alloc (.cells #[.func (.func 167) #[] #[]] 246)) (h.mono hbx) hn (by simp) (by simp) (fun i x W hx hW=>hp i x W hx (hbx.trans (hW.mono (by simp))));have HC:=hid hc;clear hc hp
 go_enter Tryz.func166,Tryz.ntmps166
 go_wp2_with (go_at_call 205;refine(HC.out).mono ?_;rintro e w' ⟨rfl,hb⟩)
 go_ret
 exact⟨ret_bool (by simp),((Below.refl _ _).alloc (Nat.le_refl _) _).trans (hb.mono (by simp))⟩
end
section
variable {p:ColR→Bool}
theorem allCol_1 (x:ColR)(B:Nat)(V:Nat)(w:World)(_hBl:B<w.heap.size)(hB:w.cell? ⟨B,0,none⟩=some (.func (.func 165) #[] #[.pointer (some ⟨V,0,none⟩)]))
 (hp:∀ W:World,Below w.heap.size w W→Calls Tryz.prog 165 #[.slice x.A 1 x.c,.pointer (some ⟨V,0,none⟩)] W fun e w'=>e=.returned (.bool (p x))∧Below W.heap.size W w') :
 Calls Tryz.prog 204 #[.slice x.A 1 x.c,.pointer (some ⟨B,0,none⟩)] w fun e w'=>e=.returned (.bool (!p x))∧Below w.heap.size w w':=by
 have hp':=hp w (Below.refl w.heap.size w);have HP:=hid hp';clear hp hp'
 go_enter Tryz.func204,Tryz.ntmps204
 go_wp2_with (go_at_call 165;refine(HP.out).mono ?_;rintro e w' ⟨rfl,hb⟩)
 go_ret
 exact⟨rfl,hb⟩
theorem idxCol_c {l:List (ColR)}{A:Option Addr}{n c:Nat}{B:Nat}(V:Nat)(w:World)(h:Rd encC 1 w A n l)(hn:n≤maxLen)(hBl:B<w.heap.size)
 (hB:w.cell? ⟨B,0,none⟩=some (.func (.func 165) #[] #[.pointer (some ⟨V,0,none⟩)]))
 (hp:∀(i:Nat) (x:ColR) (W:World),l[i]?=some x→Below w.heap.size w W→Calls Tryz.prog 165 #[.slice x.A 1 x.c,.pointer (some ⟨V,0,none⟩)] W fun e w'=>e=.returned (.bool (p x))∧Below W.heap.size W w') :
 Calls Tryz.prog 229 #[.slice A n c,.func (.func 204) #[] #[.pointer (some ⟨B,0,none⟩)]] w
  fun e w'=>(∃ r:Int,e=.returned (.int .i64 r)∧(!decide (r≥0))=allB p l)∧Below w.heap.size w w':=by
 unfold maxLen at hn;have HP:=hid hp;clear hp
 go_enter Tryz.func229,Tryz.ntmps229
 go_wp2_with fail
 go_loopw [5,8] (fun _ i wr=>∃ k:Nat,k≤n∧i=.int .i64 k∧Below w.heap.size w wr∧∀(j:Nat) (x:ColR),j<k→l[j]?=some x→p x=true) (fun _ i _=>n - (intOf i).toNat)
 case atStart=>exact⟨0,Nat.zero_le _,rfl,Below.refl _ _,fun j x hj=>absurd hj (by omega)⟩
 case round =>
  obtain⟨k,hk,rfl,hb,hall⟩:=hrel;have HA:=hid hall;clear hall
  by_cases hlt:k<n
  · obtain⟨b,o,x,rfl,hbl,hx,h0⟩:=(h.below hb).atC hlt
    have hx1:=fun W (hW:Below wr.heap.size wr W)=>HP.out k x W hx (hb.trans (hW.mono hb.size));have HX1:=hid hx1;clear hx1;have HX:=hid hx;clear hx;have hB':=(hb.cell (p:=⟨B,0,none⟩) hBl).trans hB;have hBl':B<wr.heap.size:=Nat.lt_of_lt_of_le hBl hb.size;cases hm:p x
    all_goals
     have HM:=hid hm;clear hm
     go_wp2_with (go_at_call 204;refine(allCol_1 _ _ V _ hBl' hB' HX1.out).mono ?_;rintro e w' ⟨rfl,hb'⟩;simp only[HM.out])
    · go_ret
      exact⟨⟨k,rfl,by rw[(allB_not (p:=p) (l:=l)).2 ⟨k,x,HX.out,HM.out⟩];simp⟩,hb.trans (hb'.mono hb.size)⟩
    · go_roundw
      case rel=>exact⟨k+1,by omega,by go_num,hb.trans (hb'.mono hb.size),fun j y hj hy=>by
       rcases Nat.lt_or_ge j k with hjk | hjk
       · exact HA.out j y hjk hy
       · obtain rfl:j=k:=by omega
         rw[HX.out] at hy;cases hy;exact HM.out⟩
      case measure=>simp[intOf];omega
  · go_wp2
    go_ret
    refine⟨⟨-1,rfl,?_⟩,hb⟩;rw[(allB_iff (p:=p) (l:=l)).2 fun i x hx=>HA.out i x (by have:=(List.getElem?_eq_some_iff.1 hx).1;have:=h.len;omega) hx];simp
theorem containsCol_c {l:List (ColR)}{A:Option Addr}{n c:Nat}{B:Nat}(V:Nat)(w:World)(h:Rd encC 1 w A n l)(hn:n≤maxLen)(hBl:B<w.heap.size)
 (hB:w.cell? ⟨B,0,none⟩=some (.func (.func 165) #[] #[.pointer (some ⟨V,0,none⟩)]))
 (hp:∀(i:Nat) (x:ColR) (W:World),l[i]?=some x→Below w.heap.size w W→Calls Tryz.prog 165 #[.slice x.A 1 x.c,.pointer (some ⟨V,0,none⟩)] W fun e w'=>e=.returned (.bool (p x))∧Below W.heap.size W w') :
 Calls Tryz.prog 203 #[.slice A n c,.func (.func 204) #[] #[.pointer (some ⟨B,0,none⟩)]] w
  fun e w'=>e=.returned (.bool (!allB p l))∧Below w.heap.size w w':=by
 have hc:=idxCol_c (c:=c) V w h hn hBl hB hp;have HC:=hid hc;clear hc hp
 go_enter Tryz.func203,Tryz.ntmps203
 go_wp2_with (go_at_call 229;refine(HC.out).mono ?_;rintro e w' ⟨⟨r,rfl,hr⟩,hb⟩;have HR:=hid hr;clear hr)
 go_ret
 exact⟨ret_bool (by rw[← HR.out];simp),hb⟩
theorem allCol_c {l:List (ColR)}{A:Option Addr}{n c:Nat}(V:Nat)(w:World)(h:Rd encC 1 w A n l)(hn:n≤maxLen)
 (hp:∀(i:Nat) (x:ColR) (W:World),l[i]?=some x→Below w.heap.size w W→Calls Tryz.prog 165 #[.slice x.A 1 x.c,.pointer (some ⟨V,0,none⟩)] W fun e w'=>e=.returned (.bool (p x))∧Below W.heap.size W w') :
 Calls Tryz.prog 164 #[.slice A n c,.func (.func 165) #[] #[.pointer (some ⟨V,0,none⟩)]] w
  fun e w'=>e=.returned (.bool (allB p l))∧Below w.heap.size w w':=by
 have hbx:=(Below.refl w.heap.size w).alloc (Nat.le_refl _) (.cells #[.func (.func 165) #[] #[.pointer (some ⟨V,0,none⟩)]] 247);have hc:=containsCol_c (c:=c) (B:=w.heap.size) V (w.alloc (.cells #[.func (.func 165) #[] #[.pointer (some ⟨V,0,none⟩)]] 247)) (h.mono hbx) hn (by simp) (by simp) (fun i x W hx hW=>hp i x W hx (hbx.trans (hW.mono (by simp))));have HC:=hid hc;clear hc hp
 go_enter Tryz.func164,Tryz.ntmps164
 go_wp2_with (go_at_call 203;refine(HC.out).mono ?_;rintro e w' ⟨rfl,hb⟩)
 go_ret
 exact⟨ret_bool (by simp),((Below.refl _ _).alloc (Nat.le_refl _) _).trans (hb.mono (by simp))⟩
end
section
variable {p:Cel→Bool}
theorem allCel_1 (x:Cel)(B:Nat)(V:Nat)(w:World)(_hBl:B<w.heap.size)(hB:w.cell? ⟨B,0,none⟩=some (.func (.func 123) #[] #[.pointer (some ⟨V,0,none⟩)]))
 (hp:∀ W:World,Below w.heap.size w W→Calls Tryz.prog 123 #[.agg #[.int .i64 x.lo,.int .i64 x.hi,.int .i64 x.cap,.int .i64 x.keep,.int .i64 x.pass,.int .i64 x.to,.int .i64 x.pump],.pointer (some ⟨V,0,none⟩)] W fun e w'=>e=.returned (.bool (p x))∧Below W.heap.size W w') :
 Calls Tryz.prog 169 #[.agg #[.int .i64 x.lo,.int .i64 x.hi,.int .i64 x.cap,.int .i64 x.keep,.int .i64 x.pass,.int .i64 x.to,.int .i64 x.pump],.pointer (some ⟨B,0,none⟩)] w fun e w'=>e=.returned (.bool (!p x))∧Below w.heap.size w w':=by
 have hp':=hp (w.alloc (.cells #[.int .i64 x.lo,.int .i64 x.hi,.int .i64 x.cap,.int .i64 x.keep,.int .i64 x.pass,.int .i64 x.to,.int .i64 x.pump] 162)) ((Below.refl w.heap.size w).alloc (Nat.le_refl _) (.cells #[.int .i64 x.lo,.int .i64 x.hi,.int .i64 x.cap,.int .i64 x.keep,.int .i64 x.pass,.int .i64 x.to,.int .i64 x.pump] 162));have HP:=hid hp';clear hp hp'
 go_enter Tryz.func169,Tryz.ntmps169
 go_wp2_with (go_at_call 123;refine(HP.out).mono ?_;rintro e w' ⟨rfl,hb⟩)
 go_ret
 exact⟨rfl,((Below.refl _ _).alloc (Nat.le_refl _) _).trans (hb.mono (by simp))⟩
theorem idxCel_c {l:List (Cel)}{A:Option Addr}{n c:Nat}{B:Nat}(V:Nat)(w:World)(h:Rd encCel 7 w A n l)(hn:n≤maxLen)(hBl:B<w.heap.size)
 (hB:w.cell? ⟨B,0,none⟩=some (.func (.func 123) #[] #[.pointer (some ⟨V,0,none⟩)]))
 (hp:∀(i:Nat) (x:Cel) (W:World),l[i]?=some x→Below w.heap.size w W→Calls Tryz.prog 123 #[.agg #[.int .i64 x.lo,.int .i64 x.hi,.int .i64 x.cap,.int .i64 x.keep,.int .i64 x.pass,.int .i64 x.to,.int .i64 x.pump],.pointer (some ⟨V,0,none⟩)] W fun e w'=>e=.returned (.bool (p x))∧Below W.heap.size W w') :
 Calls Tryz.prog 208 #[.slice A n c,.func (.func 169) #[] #[.pointer (some ⟨B,0,none⟩)]] w
  fun e w'=>(∃ r:Int,e=.returned (.int .i64 r)∧(!decide (r≥0))=allB p l)∧Below w.heap.size w w':=by
 unfold maxLen at hn;have HP:=hid hp;clear hp
 go_enter Tryz.func208,Tryz.ntmps208
 go_wp2_with fail
 go_loopw [5,8] (fun _ i wr=>∃ k:Nat,k≤n∧i=.int .i64 k∧Below w.heap.size w wr∧∀(j:Nat) (x:Cel),j<k→l[j]?=some x→p x=true) (fun _ i _=>n - (intOf i).toNat)
 case atStart=>exact⟨0,Nat.zero_le _,rfl,Below.refl _ _,fun j x hj=>absurd hj (by omega)⟩
 case round =>
  obtain⟨k,hk,rfl,hb,hall⟩:=hrel;have HA:=hid hall;clear hall
  by_cases hlt:k<n
  · obtain⟨b,o,x,rfl,hbl,hx,h0,h1,h2,h3,h4,h5,h6⟩:=(h.below hb).atCel hlt
    have hx1:=fun W (hW:Below wr.heap.size wr W)=>HP.out k x W hx (hb.trans (hW.mono hb.size));have HX1:=hid hx1;clear hx1;have HX:=hid hx;clear hx;have hB':=(hb.cell (p:=⟨B,0,none⟩) hBl).trans hB;have hBl':B<wr.heap.size:=Nat.lt_of_lt_of_le hBl hb.size;cases hm:p x
    all_goals
     have HM:=hid hm;clear hm
     go_wp2_with (go_at_call 169;refine(allCel_1 _ _ V _ hBl' hB' HX1.out).mono ?_;rintro e w' ⟨rfl,hb'⟩;simp only[HM.out])
    · go_ret
      exact⟨⟨k,rfl,by rw[(allB_not (p:=p) (l:=l)).2 ⟨k,x,HX.out,HM.out⟩];simp⟩,hb.trans (hb'.mono hb.size)⟩
    · go_roundw
      case rel=>exact⟨k+1,by omega,by go_num,hb.trans (hb'.mono hb.size),fun j y hj hy=>by
       rcases Nat.lt_or_ge j k with hjk | hjk
       · exact HA.out j y hjk hy
       · obtain rfl:j=k:=by omega
         rw[HX.out] at hy;cases hy;exact HM.out⟩
      case measure=>simp[intOf];omega
  · go_wp2
    go_ret
    refine⟨⟨-1,rfl,?_⟩,hb⟩;rw[(allB_iff (p:=p) (l:=l)).2 fun i x hx=>HA.out i x (by have:=(List.getElem?_eq_some_iff.1 hx).1;have:=h.len;omega) hx];simp
theorem containsCel_c {l:List (Cel)}{A:Option Addr}{n c:Nat}{B:Nat}(V:Nat)(w:World)(h:Rd encCel 7 w A n l)(hn:n≤maxLen)(hBl:B<w.heap.size)
 (hB:w.cell? ⟨B,0,none⟩=some (.func (.func 123) #[] #[.pointer (some ⟨V,0,none⟩)]))
 (hp:∀(i:Nat) (x:Cel) (W:World),l[i]?=some x→Below w.heap.size w W→Calls Tryz.prog 123 #[.agg #[.int .i64 x.lo,.int .i64 x.hi,.int .i64 x.cap,.int .i64 x.keep,.int .i64 x.pass,.int .i64 x.to,.int .i64 x.pump],.pointer (some ⟨V,0,none⟩)] W fun e w'=>e=.returned (.bool (p x))∧Below W.heap.size W w') :
 Calls Tryz.prog 168 #[.slice A n c,.func (.func 169) #[] #[.pointer (some ⟨B,0,none⟩)]] w
  fun e w'=>e=.returned (.bool (!allB p l))∧Below w.heap.size w w':=by
 have hc:=idxCel_c (c:=c) V w h hn hBl hB hp;have HC:=hid hc;clear hc hp
 go_enter Tryz.func168,Tryz.ntmps168
 go_wp2_with (go_at_call 208;refine(HC.out).mono ?_;rintro e w' ⟨⟨r,rfl,hr⟩,hb⟩;have HR:=hid hr;clear hr)
 go_ret
 exact⟨ret_bool (by rw[← HR.out];simp),hb⟩
theorem allCel_c {l:List (Cel)}{A:Option Addr}{n c:Nat}(V:Nat)(w:World)(h:Rd encCel 7 w A n l)(hn:n≤maxLen)
 (hp:∀(i:Nat) (x:Cel) (W:World),l[i]?=some x→Below w.heap.size w W→Calls Tryz.prog 123 #[.agg #[.int .i64 x.lo,.int .i64 x.hi,.int .i64 x.cap,.int .i64 x.keep,.int .i64 x.pass,.int .i64 x.to,.int .i64 x.pump],.pointer (some ⟨V,0,none⟩)] W fun e w'=>e=.returned (.bool (p x))∧Below W.heap.size W w') :
 Calls Tryz.prog 126 #[.slice A n c,.func (.func 123) #[] #[.pointer (some ⟨V,0,none⟩)]] w
  fun e w'=>e=.returned (.bool (allB p l))∧Below w.heap.size w w':=by
 have hbx:=(Below.refl w.heap.size w).alloc (Nat.le_refl _) (.cells #[.func (.func 123) #[] #[.pointer (some ⟨V,0,none⟩)]] 202);have hc:=containsCel_c (c:=c) (B:=w.heap.size) V (w.alloc (.cells #[.func (.func 123) #[] #[.pointer (some ⟨V,0,none⟩)]] 202)) (h.mono hbx) hn (by simp) (by simp) (fun i x W hx hW=>hp i x W hx (hbx.trans (hW.mono (by simp))));have HC:=hid hc;clear hc hp
 go_enter Tryz.func126,Tryz.ntmps126
 go_wp2_with (go_at_call 168;refine(HC.out).mono ?_;rintro e w' ⟨rfl,hb⟩)
 go_ret
 exact⟨ret_bool (by simp),((Below.refl _ _).alloc (Nat.le_refl _) _).trans (hb.mono (by simp))⟩
end
section
variable {p:Dy→Bool}
theorem allDay_1 (x:Dy)(B:Nat)(w:World)(_hBl:B<w.heap.size)(hB:w.cell? ⟨B,0,none⟩=some (.func (.func 171) #[] #[]))
 (hp:∀ W:World,Below w.heap.size w W→Calls Tryz.prog 171 #[.agg #[.int .i64 x.lo,.int .i64 x.hi,.int .i64 x.warm]] W fun e w'=>e=.returned (.bool (p x))∧Below W.heap.size W w') :
 Calls Tryz.prog 210 #[.agg #[.int .i64 x.lo,.int .i64 x.hi,.int .i64 x.warm],.pointer (some ⟨B,0,none⟩)] w fun e w'=>e=.returned (.bool (!p x))∧Below w.heap.size w w':=by
 have hp':=hp (w.alloc (.cells #[.int .i64 x.lo,.int .i64 x.hi,.int .i64 x.warm] 106)) ((Below.refl w.heap.size w).alloc (Nat.le_refl _) (.cells #[.int .i64 x.lo,.int .i64 x.hi,.int .i64 x.warm] 106));have HP:=hid hp';clear hp hp'
 go_enter Tryz.func210,Tryz.ntmps210
 go_wp2_with (go_at_call 171;refine(HP.out).mono ?_;rintro e w' ⟨rfl,hb⟩)
 go_ret
 exact⟨rfl,((Below.refl _ _).alloc (Nat.le_refl _) _).trans (hb.mono (by simp))⟩
theorem idxDay_c {l:List (Dy)}{A:Option Addr}{n c:Nat}{B:Nat}(w:World)(h:Rd encDy 3 w A n l)(hn:n≤maxLen)(hBl:B<w.heap.size)
 (hB:w.cell? ⟨B,0,none⟩=some (.func (.func 171) #[] #[]))
 (hp:∀(i:Nat) (x:Dy) (W:World),l[i]?=some x→Below w.heap.size w W→Calls Tryz.prog 171 #[.agg #[.int .i64 x.lo,.int .i64 x.hi,.int .i64 x.warm]] W fun e w'=>e=.returned (.bool (p x))∧Below W.heap.size W w') :
 Calls Tryz.prog 231 #[.slice A n c,.func (.func 210) #[] #[.pointer (some ⟨B,0,none⟩)]] w
  fun e w'=>(∃ r:Int,e=.returned (.int .i64 r)∧(!decide (r≥0))=allB p l)∧Below w.heap.size w w':=by
 unfold maxLen at hn;have HP:=hid hp;clear hp
 go_enter Tryz.func231,Tryz.ntmps231
 go_wp2_with fail
 go_loopw [5,8] (fun _ i wr=>∃ k:Nat,k≤n∧i=.int .i64 k∧Below w.heap.size w wr∧∀(j:Nat) (x:Dy),j<k→l[j]?=some x→p x=true) (fun _ i _=>n - (intOf i).toNat)
 case atStart=>exact⟨0,Nat.zero_le _,rfl,Below.refl _ _,fun j x hj=>absurd hj (by omega)⟩
 case round =>
  obtain⟨k,hk,rfl,hb,hall⟩:=hrel;have HA:=hid hall;clear hall
  by_cases hlt:k<n
  · obtain⟨b,o,x,rfl,hbl,hx,h0,h1,h2⟩:=(h.below hb).atDy hlt
    have hx1:=fun W (hW:Below wr.heap.size wr W)=>HP.out k x W hx (hb.trans (hW.mono hb.size));have HX1:=hid hx1;clear hx1;have HX:=hid hx;clear hx;have hB':=(hb.cell (p:=⟨B,0,none⟩) hBl).trans hB;have hBl':B<wr.heap.size:=Nat.lt_of_lt_of_le hBl hb.size;cases hm:p x
    all_goals
     have HM:=hid hm;clear hm
     go_wp2_with (go_at_call 210;refine(allDay_1 _ _ _ hBl' hB' HX1.out).mono ?_;rintro e w' ⟨rfl,hb'⟩;simp only[HM.out])
    · go_ret
      exact⟨⟨k,rfl,by rw[(allB_not (p:=p) (l:=l)).2 ⟨k,x,HX.out,HM.out⟩];simp⟩,hb.trans (hb'.mono hb.size)⟩
    · go_roundw
      case rel=>exact⟨k+1,by omega,by go_num,hb.trans (hb'.mono hb.size),fun j y hj hy=>by
       rcases Nat.lt_or_ge j k with hjk | hjk
       · exact HA.out j y hjk hy
       · obtain rfl:j=k:=by omega
         rw[HX.out] at hy;cases hy;exact HM.out⟩
      case measure=>simp[intOf];omega
  · go_wp2
    go_ret
    refine⟨⟨-1,rfl,?_⟩,hb⟩;rw[(allB_iff (p:=p) (l:=l)).2 fun i x hx=>HA.out i x (by have:=(List.getElem?_eq_some_iff.1 hx).1;have:=h.len;omega) hx];simp
theorem containsDay_c {l:List (Dy)}{A:Option Addr}{n c:Nat}{B:Nat}(w:World)(h:Rd encDy 3 w A n l)(hn:n≤maxLen)(hBl:B<w.heap.size)
 (hB:w.cell? ⟨B,0,none⟩=some (.func (.func 171) #[] #[]))
 (hp:∀(i:Nat) (x:Dy) (W:World),l[i]?=some x→Below w.heap.size w W→Calls Tryz.prog 171 #[.agg #[.int .i64 x.lo,.int .i64 x.hi,.int .i64 x.warm]] W fun e w'=>e=.returned (.bool (p x))∧Below W.heap.size W w') :
 Calls Tryz.prog 209 #[.slice A n c,.func (.func 210) #[] #[.pointer (some ⟨B,0,none⟩)]] w
  fun e w'=>e=.returned (.bool (!allB p l))∧Below w.heap.size w w':=by
 have hc:=idxDay_c (c:=c) w h hn hBl hB hp;have HC:=hid hc;clear hc hp
 go_enter Tryz.func209,Tryz.ntmps209
 go_wp2_with (go_at_call 231;refine(HC.out).mono ?_;rintro e w' ⟨⟨r,rfl,hr⟩,hb⟩;have HR:=hid hr;clear hr)
 go_ret
 exact⟨ret_bool (by rw[← HR.out];simp),hb⟩
theorem allDay_c {l:List (Dy)}{A:Option Addr}{n c:Nat}(w:World)(h:Rd encDy 3 w A n l)(hn:n≤maxLen)
 (hp:∀(i:Nat) (x:Dy) (W:World),l[i]?=some x→Below w.heap.size w W→Calls Tryz.prog 171 #[.agg #[.int .i64 x.lo,.int .i64 x.hi,.int .i64 x.warm]] W fun e w'=>e=.returned (.bool (p x))∧Below W.heap.size W w') :
 Calls Tryz.prog 170 #[.slice A n c,.func (.func 171) #[] #[]] w
  fun e w'=>e=.returned (.bool (allB p l))∧Below w.heap.size w w':=by
 have hbx:=(Below.refl w.heap.size w).alloc (Nat.le_refl _) (.cells #[.func (.func 171) #[] #[]] 249);have hc:=containsDay_c (c:=c) (B:=w.heap.size) (w.alloc (.cells #[.func (.func 171) #[] #[]] 249)) (h.mono hbx) hn (by simp) (by simp) (fun i x W hx hW=>hp i x W hx (hbx.trans (hW.mono (by simp))));have HC:=hid hc;clear hc hp
 go_enter Tryz.func170,Tryz.ntmps170
 go_wp2_with (go_at_call 209;refine(HC.out).mono ?_;rintro e w' ⟨rfl,hb⟩)
 go_ret
 exact⟨ret_bool (by simp),((Below.refl _ _).alloc (Nat.le_refl _) _).trans (hb.mono (by simp))⟩
end
def rgD (r:Int×Int):DataW Unit:=.agg [.lit (.int .i64 r.1),.lit (.int .i64 r.2)]
def rgV (r:Int×Int):Value:=.agg #[.int .i64 r.1,.int .i64 r.2]
def rgElem (v:Value):Option (DataW Unit×List MemPlace):=match v with
 | .agg cs=>match cs.toList with
  | [.int .i64 a,.int .i64 b]=>some (rgD (a,b),[])
  | _=>none
 | _=>none
theorem rgElem_mk (r:Int×Int):rgElem (rgV r)=some (rgD r,[]):=rfl
theorem rgElem_inv {v:Value}{z:DataW Unit×List MemPlace}(h:rgElem v=some z):∃ r,v=rgV r∧z=(rgD r,[]):=by
 unfold rgElem at h
 split at h
 · rename_i cs
   split at h
   · rename_i a b hc
     cases h;refine⟨(a,b),?_,rfl⟩;show Value.agg cs=_;have:cs=#[.int .i64 a,.int .i64 b]:=Array.ext' hc;rw[this];rfl
   · cases h
 · cases h
theorem rgD_inj {r s:Int×Int}(h:rgD r=rgD s):r=s:=by
 simp[rgD] at h;exact Prod.ext h.1 h.2
theorem keyedI:Maps.Keyed Tryz.prog 3:=Maps.int_keyed Tryz.underlying3
theorem key_of {k:Int}(h:-9223372036854775808≤k∧k≤9223372036854775807):keyOf Tryz.prog 3 (.int .i64 k)=some (.int .i64 k):=by
 have wa:(Lit.int .i64 k).wf=true:=WalkArith.wf_i64 (by omega);simp[keyOf,Tryz.underlying3,mapKey,wa]
def MapF (w:World)(M n:Nat)(f:Int→Int×Int):Prop :=
 ∃ D:DataW Unit,w.ownsMap Tryz.prog 3 rgElem M n D∧Maps.IsMap D∧∀ k:Int,D.atKey (.int .i64 k) (rgD (0,0))=rgD (f k)
theorem MapF.made (w:World):MapF (w.alloc (.map #[] 0)) w.heap.size 0 (fun _=>(0,0)) :=
 ⟨.map [],World.ownsMap_made w _ _ _,Maps.isMap_empty,fun _=>rfl⟩
theorem MapF.lt {w:World}{M n:Nat}{f:Int→Int×Int}(h:MapF w M n f):M<w.heap.size:=by
 obtain⟨D,h,_⟩:=h;exact h.lt
theorem MapF.grown {w w':World}{M n:Nat}{f:Int→Int×Int}{row:Option Nat}(h:MapF w M n f)(hg:w.grownBy w' row)(hne:some M≠row):MapF w' M n f:=by
 obtain⟨D,h1,h2⟩:=h;exact⟨D,h1.kept hg hne,h2⟩
theorem MapF.alloc {w:World}{M n:Nat}{f:Int→Int×Int}(h:MapF w M n f)(o:Obj):MapF (w.alloc o) M n f:=by
 obtain⟨D,h1,h2⟩:=h;exact⟨D,h1.alloc o,h2⟩
theorem MapF.below {w w':World}{M n:Nat}{f:Int→Int×Int}(h:MapF w M n f)(hb:Below w.heap.size w w'):MapF w' M n f:=by
 obtain⟨D,⟨es,cl,h1,h3⟩,h2⟩:=h;exact⟨D,⟨es,cl,(hb.block M (Array.getElem?_eq_some_iff.1 h1).1).trans h1,h3⟩,h2⟩
theorem zero_rg (w:World):(zeroValue 177).run Tryz.prog w=.ok (rgV (0,0)) w:=by kernel_rfl
theorem MapF.look {w:World}{M n:Nat}{f:Int→Int×Int}(h:MapF w M n f){k:Int}(hk:-9223372036854775808≤k∧k≤9223372036854775807) :
 (Instr.lookup 228 (.map (some M)) (.int .i64 k) false).run Tryz.prog w=.ok (.agg #[.int .i64 (f k).1,.int .i64 (f k).2]) w:=by
 obtain⟨D,h1,_,h3⟩:=h;obtain⟨v,ps,hrun,hv⟩:=h1.lookup keyedI Tryz.underlying228 (zero_rg w) (rgElem_mk (0,0)) (key_of hk);obtain⟨r,rfl,hz⟩:=rgElem_inv hv;rw[h3] at hz;have:f k=r:=rgD_inj (by injection hz);rw[hrun,this];rfl
theorem MapF.upd {w:World}{M n:Nat}{f:Int→Int×Int}(h:MapF w M n f){k:Int}(hk:-9223372036854775808≤k∧k≤9223372036854775807)(hn:n<1000000)(r:Int×Int) :
 ∃ w',(Instr.mapUpdate 228 (.map (some M)) (.int .i64 k) (.agg #[.int .i64 r.1,.int .i64 r.2])).run Tryz.prog w=.ok () w'∧MapF w' M (n+1) (fun j=>if j=k then r else f j)∧w.grownBy w' (some M):=by
 obtain⟨D,h1,h2,h3⟩:=h;obtain⟨w',hrun,h4,h5⟩:=h1.update keyedI Tryz.underlying228 (by unfold maxLen;omega) (key_of hk) (rgElem_mk r);refine⟨w',hrun,⟨_,h4,h2.put _ _,fun j=>?_⟩,h5⟩
 by_cases hj:j=k
 · subst hj
   show _=rgD (if j=j then r else f j);rw[if_pos rfl,Maps.atKey_put_same h2 (keyedI.key (key_of hk))]
 · show _=rgD (if j=k then r else f j)
   rw[if_neg hj,Maps.atKey_put_other (by intro e;injection e with e1 e2;exact hj e2),h3]
theorem wpList_mapF {w:World}{ops:Array Oper}{rest:List Oper}{o:Oper}{a:Act}{Q:Exit→Act→World→Prop}
 (hg:o.guard=none) (m x v:Operand) (hop:o.op=Op.mapUpdate 228 m x v) (M n:Nat) (f:Int→Int×Int) (hm:a.eval m=.map (some M)) (h:MapF w M n f)
 (k:Int) (hx:a.eval x=.int .i64 k) (hk:-9223372036854775808≤k∧k≤9223372036854775807) (hn:n<1000000) (r:Int×Int) (hv:a.eval v=.agg #[.int .i64 r.1,.int .i64 r.2])
 (hK:∀ w',MapF w' M (n+1) (fun j=>if j=k then r else f j)→w.grownBy w' (some M)→wpList Tryz.prog ops Q rest (a.put o.dst undef) w') :
 wpList Tryz.prog ops Q (o::rest) a w:=by
 refine wpList_plain hg fun K' hK'=>?_;obtain⟨w',hrun,r1,r2⟩:=h.upd hk hn r;unfold Oper.wp;simp[execOp,hop,hm,hx,hv,hrun,Result.andThen];exact hK' _ _ (hK w' r1 r2)
end Go.Proofs.YtkhcliibilkefaaGreatDoor
