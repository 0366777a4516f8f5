/- CONTRACT of warden.check: not too many lines, none too long. -/
import Derived.Test.YtlaengnhfjlphaaGreatDoorZHear
import Derived.Test.YtlaengnhfjlphaaGreatDoorYInts
import Derived.Lib.AppendStr
import Derived.Test.YtlaengnhfjlphaaGreatDoorRows
import Derived.HandedShaped
import Derived.Handed
import Derived.Lib.LaidU8
import Derived.Shelf.Vars
import Derived.Lay
import Derived.MakeChecks
set_option linter.unusedVariables false
set_option linter.unusedSimpArgs false
set_option maxRecDepth 100000
set_option maxHeartbeats 8000000
namespace Go.Proofs.YtlaengnhfjlphaaGreatDoor
open Lib (hid)
open Go.RowKit Go.Proofs
attribute [local go_sem ↓] Go.wp_at_zero Go.wp_at_succ
def checkL (LL:List ByteArray):Int:=if 60 < LL.length then 3 else if ∀ p∈LL,p.size≤300 then 0 else 3
theorem str_at {W:World}{A:Option Addr}{n i:Nat}{L:List ByteArray}(h:Rd encStr 1 W A n L)(hi:i < n):∃ b o p,A=some ⟨b,o,none⟩∧L[i]?=some p∧W.cell? ⟨b,o+i,none⟩=some (.string p):=by
 obtain⟨b,o,y,e,_,hy,hc⟩:=h.at_ hi;exact⟨b,o,y,e,hy,by simpa using hc 0 _ rfl⟩
theorem chkL_c {A:Option Addr}{n c:Nat}{LL:List ByteArray}{w:World}(h:Rd encStr 1 w A n LL) :
 Calls Tryz.prog 24 #[.slice A n c] w fun e w'=>e=.returned (.int .i64 (checkL LL))∧Below w.heap.size w w':=by
 have hlen:=h.len
 by_cases hn:60 < n
 · have hq:(60:Int) < (n:Int):=by omega
   have hck:checkL LL=3:=by unfold checkL;rw[if_pos (by omega)]
   rw[hck];clear hck hlen h
   go_enter Tryz.func24,Tryz.ntmps24
   go_wp2_with fail
   go_ret
   exact⟨rfl,Below.refl _ _⟩
 · have hq:¬(60:Int) < (n:Int):=by omega
   have H:=hid h;have HLEN:=hid hlen;clear hlen h
   go_enter Tryz.func24,Tryz.ntmps24
   go_wp2_with fail
   go_loopw [10] (fun i wr=>∃ k:Nat,k≤n∧i=.int .i64 k∧(∀ p∈LL.take k,p.size≤300)∧wr=w) (fun i _=>n - (intOf i).toNat)
   case atStart=>exact⟨0,Nat.zero_le _,rfl,by simp,rfl⟩
   case round =>
    obtain⟨k,hk,rfl,hall,rfl⟩:=hrel;have HALL:=hid hall;clear hall
    by_cases hlt:k < n
    · obtain⟨b,o,p,rfl,hp,c0⟩:=str_at H.out hlt
      have HP:=hid hp
      have hi1:(k:Int) < (n:Int):=by omega
      have hi0:(0:Int)≤(k:Int):=by omega
      clear hp
      by_cases hps:p.size≤300
      · have hqp:¬(300:Int) < (p.size:Int):=by omega
        go_wp2_with fail
        go_roundw
        case rel =>
         refine⟨k+1,by omega,by go_num,fun q hq9=>?_,by trivial⟩;rw[List.take_add_one,HP.out] at hq9
         rcases List.mem_append.1 hq9 with h9 | h9
         · exact HALL.out q h9
         · obtain rfl:q=p:=by simpa using h9
           exact hps
        case measure=>simp[intOf] <;> omega
      · have hqp:(300:Int) < (p.size:Int):=by omega
        have hck:checkL LL=3:=by
         unfold checkL;rw[if_neg (by have:=HLEN.out;omega),if_neg (fun h9=>hps (h9 p (List.mem_of_getElem? HP.out)))]
        have HCK:=hid hck;clear hck
        go_wp2_with fail
        (try rw[Exit.noGoto_ret])
        go_ret
        exact⟨by rw[HCK.out];rfl,Below.refl _ _⟩
    · obtain rfl:k=n:=by omega
      have hck:checkL LL=0:=by
       unfold checkL;rw[if_neg (by have:=HLEN.out;omega),if_pos (fun p hp=>HALL.out p (by rw[← HLEN.out,List.take_length];exact hp))]
      have HCK:=hid hck;clear hck
      go_wp2_with fail
      go_ret
      exact⟨by rw[HCK.out];rfl,Below.refl _ _⟩
theorem rd_of_any {α:Type}{enc:α→List Value}{k:Nat}(henc:∀ x,(enc x).length=k){w:World}{g n:Nat}{t:TypeId}{cs:Array Value}{fr:Nat × Nat}{l:List α}(h:w.heap[g]?=some (.cells cs t fr))(hc:∀(j:Nat) (v:Value),(l.flatMap enc)[j]?=some v→cs[j]?=some v)(hl:l.length=n) :
 Rd enc k w (some ⟨g,0,none⟩) n l:=by
 refine⟨hl,fun hn=>⟨g,0,rfl,(Array.getElem?_eq_some_iff.1 h).1,fun i x hx j v hv=>?_⟩⟩;have h1:=flatMap_get henc l i x j v hx hv;rw[Nat.zero_add,cell_of_row w g _ cs t fr h];exact hc _ _ h1
theorem flat_u8 (l:List UInt8):l.flatMap encB=l.map u8V:=by
 induction l with
 | nil=>rfl
 | cons x l ih=>rw[List.flatMap_cons,ih];rfl
theorem bytes_of (s:ByteArray)(W:World):∃(W':World) (c:Nat),(convert 9 23 (.string s)).run Tryz.prog W=.ok (.slice (some ⟨W.heap.size,0,none⟩) s.size c) W'∧Rd encB 1 W' (some ⟨W.heap.size,0,none⟩) s.size s.data.toList∧Below W.heap.size W W'∧s.size≤c:=by
 refine⟨_,_,run_bytes_of_string W 9 23 5 s Tryz.underlying9 Tryz.underlying23 Tryz.underlying5,?_,?_,Nat.le_add_right _ _⟩
 · refine rd_of_any encB_len (heap_alloc_new W.drew _) (fun j v hv=>?_) rfl
   rw[flat_u8] at hv
   have hj:j < s.data.size:=by have:=(List.getElem?_eq_some_iff.1 hv).1;simpa using this
   rw[bytesRow_at s _ j hj];simp only[List.getElem?_map,Array.getElem?_toList,Option.map_eq_some_iff] at hv;obtain⟨a,ha,rfl⟩:=hv;rw[(Array.getElem?_eq_some_iff.1 ha).2]
   rfl
 · exact((Below.refl _ W).drew).alloc (Nat.le_refl _) _
theorem str_eq {b:ByteArray}{l:List UInt8}(h:b.data.toList=l):Value.string b=str l:=by subst h;rfl
theorem data_app (a b:ByteArray):(a++b).data.toList=a.data.toList++b.data.toList:=by simp
theorem add_run (a b:ByteArray)(h:a.size+b.size≤1000000000)(W:World):(binOp .add 9 (.string a) (.string b)).run Tryz.prog W=.ok (.string (a++b)) W:=by
 have h1:¬(((a.size+b.size:Nat):Int) > IntKind.i64.max):=by
  have:IntKind.i64.max=9223372036854775807:=by decide
  omega
 have h2:(Op.stringOp .add a b).run Tryz.prog W=.ok (.string (a++b)) W:=by
  unfold Op.stringOp;simp only[if_neg h1]
  rfl
 exact h2
theorem add_lists (a b:ByteArray)(l:List UInt8)(hl:a.data.toList++b.data.toList=l)(hn:l.length≤1000000000)(W:World):(binOp .add 9 (.string a) (.string b)).run Tryz.prog W=.ok (str l) W:=by
 subst hl;rw[List.length_append] at hn;rw[add_run a b hn,str_eq (data_app a b)]
theorem add_strs (a b:List UInt8)(hn:a.length+b.length≤1000000000)(W:World):(binOp .add 9 (str a) (str b)).run Tryz.prog W=.ok (str (a++b)) W :=
 add_lists ⟨a.toArray⟩ ⟨b.toArray⟩ _ rfl (by simpa using hn) W
theorem add_sr (a:List UInt8)(s:ByteArray)(l:List UInt8)(hl:a++s.data.toList=l)(hn:l.length≤1000000000)(W:World):(binOp .add 9 (str a) (.string s)).run Tryz.prog W=.ok (str l) W :=
 add_lists ⟨a.toArray⟩ s l (by simpa using hl) hn W
theorem chk_snoc {l:List UInt8}{j c:Nat}{x:UInt8}(h:l[j]?=some x):chkW c (l.take (j+1))=chkStep (chkW c (l.take j)) x:=by
 unfold chkW;rw[List.take_add_one,h,Option.toList_some,List.foldl_append];rfl
theorem record_c (s:ByteArray)(c:Nat)(w:World)(hs:s.size≤1000)(hc:c < 11881357) :
 Calls Tryz.prog 35 #[.string s,.int .i64 c] w fun e w'=>e=.returned (.tuple #[str (recW s.data.toList c),.int .i64 (chkW c s.data.toList:Nat)])∧Below w.heap.size w w':=by
 obtain⟨W1,cb,hcv,hrd,hb,hcb⟩:=bytes_of s w;have HRD:=hid hrd;have HB:=hid hb;have HSL:=hid (show s.data.toList.length=s.size from rfl);have HC:=hid hc;clear hrd hb hc
 go_enter Tryz.func35,Tryz.ntmps35
 go_wp2_with fail
 go_loopw [1,11] (fun cv iv wr=>∃ j:Nat,j≤s.size∧iv=.int .i64 j∧cv=.int .i64 (chkW c (s.data.toList.take j):Nat)∧wr=W1) (fun _ iv _=>s.size - (intOf iv).toNat)
 case atStart=>exact⟨0,Nat.zero_le _,rfl,rfl,rfl⟩
 case round =>
  obtain⟨j,hj,rfl,rfl,rfl⟩:=hrel;clear hcv;have hkb:=chk_lt HC.out (s.data.toList.take j)
  by_cases hlt:j < s.size
  · obtain⟨g,o,x,e,_,hx,hxc⟩:=HRD.out.at_ hlt
    cases e;have c0:=hxc 0 _ rfl;simp only[Nat.zero_add,Nat.mul_one,Nat.add_zero] at c0
    have hi1:(j:Int) < (s.size:Int):=by omega
    have hi0:(0:Int)≤(j:Int):=by omega
    have hx8:=x.toNat_lt;obtain⟨k,hk⟩:∃ k,k=chkW c (s.data.toList.take j):=⟨_,rfl⟩;rw[← hk] at hkb ⊢
    have hst:((37 * (k:Int)+(x.toNat:Int)+7).tmod 11881357)=((chkW c (s.data.toList.take (j+1)):Nat):Int):=by
     rw[chk_snoc hx,← hk,Int.tmod_eq_emod_of_nonneg (by omega)];unfold chkStep;omega
    have hw8:IntKind.i64.wrap (x.toNat:Int)=(x.toNat:Int):=wi (by omega);have HST:=hid hst;clear hk hxc hx
    go_wp2_with fail
    go_roundw
    case rel =>
     refine⟨j+1,by omega,by go_num,?_,by trivial⟩;rw[← HST.out]
    case measure=>simp[intOf] <;> omega
  · obtain rfl:j=s.size:=by omega
    have hall:s.data.toList.take s.size=s.data.toList:=by rw[← HSL.out,List.take_length]
    rw[hall] at hkb ⊢;clear hall hlt hj;have HKB:=hid hkb;clear hkb;obtain⟨l1,hl1⟩:∃ l1,l1=letW false 3 s.size:=⟨_,rfl⟩;obtain⟨l2,hl2⟩:∃ l2,l2=letW true 3 s.size:=⟨_,rfl⟩;obtain⟨l3,hl3⟩:∃ l3,l3=letW false 5 (chkW c s.data.toList):=⟨_,rfl⟩
    have hn1:l1.length=3:=by rw[hl1,let_len]
    have hn2:l2.length=3:=by rw[hl2,let_len]
    have hn3:l3.length=5:=by rw[hl3,let_len]
    have hsl:=HSL.out;obtain⟨m1,hm1⟩:∃ m,m=123 :: l1:=⟨_,rfl⟩
    have hk1:m1.length=4:=by rw[hm1,List.length_cons,hn1]
    have a1:∀ W,(binOp .add 9 (.string ⟨#[123]⟩) (str l1)).run Tryz.prog W=.ok (str m1) W:=fun W=>add_lists ⟨#[123]⟩ ⟨l1.toArray⟩ m1 hm1.symm (by omega) W;obtain⟨m2,hm2⟩:∃ m,m=m1++l2:=⟨_,rfl⟩
    have hk2:m2.length=7:=by rw[hm2,List.length_append,hk1,hn2]
    have a2:=fun W=>add_strs m1 l2 (by omega) W;rw[← hm2] at a2;obtain⟨m3,hm3⟩:∃ m,m=m2++l3:=⟨_,rfl⟩
    have hk3:m3.length=12:=by rw[hm3,List.length_append,hk2,hn3]
    have a3:=fun W=>add_strs m2 l3 (by omega) W;rw[← hm3] at a3;obtain⟨m4,hm4⟩:∃ m,m=m3++[125]:=⟨_,rfl⟩
    have hk4:m4.length=13:=by rw[hm4,List.length_append,hk3];rfl
    have a4:=add_sr m3 ⟨#[125]⟩ m4 hm4.symm (by omega);obtain⟨m5,hm5⟩:∃ m,m=m4++s.data.toList:=⟨_,rfl⟩
    have hk5:m5.length=13+s.size:=by rw[hm5,List.length_append,hk4,hsl]
    have a5:=add_sr m4 s m5 hm5.symm (by omega);have a6:=add_sr m5 ⟨#[10]⟩ (recW s.data.toList c) (by rw[hm5,hm4,hm3,hm2,hm1,hl1,hl2,hl3];simp[recW,headW,hsl]) (by rw[rec_len,hsl];omega);clear hm1 hm2 hm3 hm4 hm5 hk1 hk2 hk3 hk4 hk5
    have hc1:∀ W,Calls Tryz.prog 46 #[.int .i64 s.size,.int .i64 3,.bool false] W fun e w'=>e=.returned (str l1)∧Below W.heap.size W w':=fun W=>by rw[hl1];exact letters_c false 3 s.size W (by omega) (by omega)
    have hc2:∀ W,Calls Tryz.prog 46 #[.int .i64 s.size,.int .i64 3,.bool true] W fun e w'=>e=.returned (str l2)∧Below W.heap.size W w':=fun W=>by rw[hl2];exact letters_c true 3 s.size W (by omega) (by omega)
    have hc3:∀ W,Calls Tryz.prog 46 #[.int .i64 (chkW c s.data.toList:Nat),.int .i64 5,.bool false] W fun e w'=>e=.returned (str l3)∧Below W.heap.size W w':=fun W=>by rw[hl3];exact letters_c false 5 _ W (by omega) (by have:=HKB.out;omega)
    have HC1:=hid hc1;have HC2:=hid hc2;have HC3:=hid hc3;clear hl1 hl2 hl3 hn1 hn2 hn3 hsl hc1 hc2 hc3
    go_wp2_with fail
    refine(HC1.out _).mono ?_;rintro e w2 ⟨rfl,hb9⟩;replace HB:=hdT HB hb9;clear hb9 
    go_wp2_with fail
    refine(HC2.out _).mono ?_;rintro e w3 ⟨rfl,hb9⟩;replace HB:=hdT HB hb9;clear hb9 
    go_wp2_with fail
    refine(HC3.out _).mono ?_;rintro e w4 ⟨rfl,hb9⟩;replace HB:=hdT HB hb9;clear hb9 
    go_wp2_with fail
    go_ret2
    exact⟨rfl,HB.out⟩
def lenV (l:List UInt8):Nat:=l.foldl (fun n x=>26 * n+(x.toNat - 97)) 0
def lenI (l:List UInt8):Int:=match lenW l with
 | some n=>n
 | none=>-1
theorem lenI_all {l:List UInt8}(h:l.all isLet=true):lenI l=(lenV l:Nat):=by unfold lenI lenW;rw[if_pos h];rfl
theorem lenI_not {l:List UInt8}(h:¬ l.all isLet=true):lenI l=-1:=by unfold lenI lenW;rw[if_neg h]
theorem lenV_snoc (l:List UInt8)(x:UInt8):lenV (l++[x])=26 * lenV l+(x.toNat - 97):=by unfold lenV;rw[List.foldl_append];rfl
theorem lenV_lt:∀(l:List UInt8) (a k:Nat),l.all isLet=true→a < 26 ^ k→l.foldl (fun n x=>26 * n+(x.toNat - 97)) a < 26 ^ (k+l.length)
 | [],a,k,_,h=>h
 | x :: l,a,k,h,ha=>by
  rw[List.all_cons,Bool.and_eq_true] at h;have h2:=h.1;unfold isLet at h2;simp at h2;have:=lenV_lt l (26 * a+(x.toNat - 97)) (k+1) h.2 (by rw[Nat.pow_succ];omega);rw[List.foldl_cons,List.length_cons,show k+(l.length+1)=k+1+l.length by omega];exact this
theorem lenV_bd {l:List UInt8}(h:l.all isLet=true)(hl:l.length≤5):lenV l < 11881376:=by
 have h1:lenV l < 26 ^ (0+l.length):=lenV_lt l 0 0 h (by decide);rw[Nat.zero_add] at h1;have h2:26 ^ l.length≤26 ^ 5:=Nat.pow_le_pow_right (by omega) hl;omega
theorem length_c {A:Option Addr}{n c:Nat}{l:List UInt8}{w:World}(h:Rd encB 1 w A n l)(hn:n≤5) :
 Calls Tryz.prog 37 #[.slice A n c] w fun e w'=>e=.returned (.int .i64 (lenI l))∧w=w':=by
 have H:=hid h;have HLEN:=hid h.len;clear h
 go_enter Tryz.func37,Tryz.ntmps37
 go_wp2_with fail
 go_loopw [3,8] (fun nv iv wr=>∃ j:Nat,j≤n∧iv=.int .i64 j∧nv=.int .i64 (lenV (l.take j):Nat)∧(l.take j).all isLet=true∧wr=w) (fun _ iv _=>n - (intOf iv).toNat)
 case atStart=>exact⟨0,Nat.zero_le _,rfl,rfl,rfl,rfl⟩
 case round =>
  obtain⟨j,hj,rfl,rfl,hall,rfl⟩:=hrel;have HALL:=hid hall;clear hall
  by_cases hlt:j < n
  · obtain⟨g,o,x,rfl,_,hx,hxc⟩:=H.out.at_ hlt
    have c0:=hxc 0 _ rfl;simp only[Nat.mul_one,Nat.add_zero] at c0
    have hi1:(j:Int) < (n:Int):=by omega
    have hi0:(0:Int)≤(j:Int):=by omega
    have hx8:=x.toNat_lt;have hbd:=lenV_bd HALL.out (by rw[List.length_take];omega)
    have hts:l.take (j+1)=l.take j++[x]:=by rw[List.take_add_one,hx];rfl
    have HTS:=hid hts;have hmem:x∈l:=List.mem_of_getElem? hx;have HMEM:=hid hmem;clear hts hx hxc hmem
    by_cases h1:(x.toNat:Int) < 97
    · have hno:lenI l=-1:=lenI_not fun h9=>by
       have:=List.all_eq_true.1 h9 x HMEM.out;unfold isLet at this;simp at this;omega
      have HNO:=hid hno;clear hno
      go_wp2_with fail
      (try rw[Exit.noGoto_ret])
      go_ret
      exact⟨by rw[HNO.out];rfl,rfl⟩
    · by_cases h2:(122:Int) < (x.toNat:Int)
      · have hno:lenI l=-1:=lenI_not fun h9=>by
         have:=List.all_eq_true.1 h9 x HMEM.out;unfold isLet at this;simp at this;omega
        have HNO:=hid hno;clear hno
        go_wp2_with fail
        (try rw[Exit.noGoto_ret])
        go_ret
        exact⟨by rw[HNO.out];rfl,rfl⟩
      · have hsub:IntKind.u8.wrap ((x.toNat:Int) - 97)=(x.toNat:Int) - 97:=wu (by omega)
        have hnx:26 * ((lenV (l.take j):Nat):Int)+((x.toNat:Int) - 97)=((lenV (l.take (j+1)):Nat):Int):=by
         rw[HTS.out,lenV_snoc];omega
        have HNX:=hid hnx;clear hnx;generalize hk:lenV (l.take j)=k at hbd HNX;clear hk
        go_wp2_with fail
        go_roundw
        case rel =>
         refine⟨j+1,by omega,by go_num,by rw[← HNX.out],?_,by trivial⟩;rw[HTS.out,List.all_append,HALL.out];simp[isLet];omega
        case measure=>simp[intOf] <;> omega
  · obtain rfl:j=n:=by omega
    have hl:l.take j=l:=by rw[← HLEN.out,List.take_length]
    rw[hl] at HALL ⊢;have hyes:=lenI_all HALL.out;have HY:=hid hyes;clear hyes hl
    go_wp2_with fail
    go_ret
    exact⟨by rw[HY.out];rfl,rfl⟩
theorem infoByte:(Tryz.prog.info? 5).map (fun i=>(i.zero,i.size,i.bytes))=some (some (.int .u8 0),1,1):=by kernel_rfl
def linesB (LL:List ByteArray):List (List UInt8):=LL.map (·.data.toList)
theorem linesB_take (LL:List ByteArray)(j:Nat):linesB (LL.take j)=(linesB LL).take j:=by unfold linesB;rw[List.map_take]
theorem linesB_at {LL:List ByteArray}{j:Nat}{p:ByteArray}(h:LL[j]?=some p):(linesB LL)[j]?=some p.data.toList:=by unfold linesB;rw[List.getElem?_map,h];rfl
theorem fold_take {l:List (List UInt8)}{j c:Nat}{s:List UInt8}(h:l[j]?=some s):(l.take (j+1)).foldl chkW c=chkW ((l.take j).foldl chkW c) s:=by
 rw[List.take_add_one,h,Option.toList_some,List.foldl_append];rfl
theorem book_bd:∀(l:List (List UInt8)) (c:Nat),(∀ s∈l,s.length≤1000)→(bookW l c).length≤1014 * l.length
 | [],_,_=>by simp[bookW]
 | s :: l,c,h=>by
  have h1:=book_bd l (chkW c s) fun t ht=>h t (List.mem_cons.2 (.inr ht));have h2:=h s (List.mem_cons.2 (.inl rfl));rw[bookW,List.length_append,rec_len,List.length_cons];omega
theorem own_lower {w:World}{b b':Nat}{e:TypeId}{size n:Nat}{v:Value}{xs:List Value}(h:w.ownsRow b e size v n xs)(hb:b'≤b):w.ownsRow b' e size v n xs :=
 ⟨h.1,h.2.imp id fun⟨g,cap,cur,e1,h1,r⟩=>⟨g,cap,cur,e1,Nat.le_trans hb h1,r⟩⟩
theorem written_c {A:Option Addr}{n c:Nat}{LL:List ByteArray}{w:World}(h:Rd encStr 1 w A n LL)(hn:n≤1000)(hs:∀ p∈LL,p.size≤1000) :
 Calls Tryz.prog 25 #[.slice A n c] w fun e w'=>∃ v,e=.returned v∧w'.ownsRow w.heap.size 5 1 v (bookW (linesB LL) 5).length ((bookW (linesB LL) 5).map u8V)∧Below w.heap.size w w':=by
 have H:=hid h;have HLEN:=hid h.len;have HS:=hid hs;have HB:=hid (Below.refl w.heap.size w);obtain⟨i0,hi0,hz0,hz1,hz2⟩:=info_parts infoByte;have HI:=hid hi0;have HZ0:=hid hz0;have HZ1:=hid hz1;have HZ2:=hid hz2;clear hi0 hz0 hz1 hz2 h hs
 go_enter Tryz.func25,Tryz.ntmps25
 go_wp2_with fail
 go_loopw [2,3,10] (fun ov kv iv wr=>∃(j:Nat) (B:List UInt8) (k:Nat) (v:Value),v=ov∧j≤n∧iv=.int .i64 j∧B=bookW ((linesB LL).take j) 5∧k=((linesB LL).take j).foldl chkW 5∧kv=.int .i64 (k:Nat)∧wr.ownsRow w.heap.size 5 1 v B.length (B.map u8V)∧Below w.heap.size w wr) (fun _ _ iv _=>n - (intOf iv).toNat)
 case atStart=>exact⟨0,[],5,_,rfl,Nat.zero_le _,rfl,rfl,rfl,rfl,World.ownsRow_nil _ _ _ _,HB.out⟩
 case round =>
  obtain⟨j,B,k,ov,rfl,hj,rfl,hB,hk,rfl,hown,hb⟩:=hrel;have HBK:=hid hB;have HK:=hid hk;have HOWN:=hid hown;clear HB;have HB:=hid hb;clear hB hk hown hb
  by_cases hlt:j < n
  · obtain⟨b,o,p,rfl,hp,c0⟩:=str_at (H.out.below HB.out) hlt
    have HP:=hid hp
    have hi1:(j:Int) < (n:Int):=by omega
    have hi0:(0:Int)≤(j:Int):=by omega
    have hps:=HS.out p (List.mem_of_getElem? hp)
    have hkl:k < 11881357:=by rw[HK.out];exact fold_lt _ (by decide)
    have hbl:B.length≤1014 * 1000:=by
     have:=book_bd ((linesB LL).take j) 5 fun s hs=>by
      obtain⟨q,hq,rfl⟩:=List.mem_map.1 (List.mem_of_mem_take hs);exact HS.out q hq
     rw[HBK.out]
     have h2:((linesB LL).take j).length≤1000:=by rw[List.length_take];omega
     omega
    have hrl:(recW p.data.toList k).length=14+p.size:=by rw[rec_len];rfl
    have HRL:=hid hrl;have HBL:=hid hbl;have HRC:=hid (fun W=>record_c p k W hps hkl);have HPS:=hid hps;clear hp hrl hbl hps hkl
    go_wp2_with fail
    refine(HRC.out _).mono ?_;rintro e w2 ⟨rfl,hb9⟩;replace HB:=hdT HB hb9;replace HOWN:=hid (own_mono HOWN.out hb9);clear hb9 ;clear c0
    go_wp2_with (at_builtin;go_must (refine Lib.wpList_append_own_string _ rfl _ _ 23 9 rfl w.heap.size 5 i0 Tryz.underlying23 Tryz.underlying9 HI.out HZ0.out HZ1.out HZ2.out ov B.length (B.map u8V) rfl HOWN.out ⟨(recW p.data.toList k).toArray⟩ rfl (by have h1:=HBL.out;have h2:=HRL.out;have h3:=HPS.out;show B.length+(recW p.data.toList k).length≤_;unfold maxLen;omega) (by have h1:=HBL.out;have h2:=HRL.out;have h3:=HPS.out;show B.length+(recW p.data.toList k).length≤_;omega) HB.out.size ?_;intro v' w3 hown hgr hnil))
    have hx:=linesB_at HP.out;have hb3:=HB.out.trans ((Fr.of_grown hgr (E:=fun g=>ov.ownBlock=some g) fun g e _=>e).below HB.out.size fun q e=>(HOWN.out.lt q e).1);refine⟨⟨j+1,B++recW p.data.toList k,_,v',rfl,by omega,by go_num,?_,rfl,?_,?_,hb3⟩,by simp[intOf];omega⟩
    · rw[book_succ hx,← HBK.out,← HK.out]
    · rw[fold_take hx,← HK.out]
    · rw[List.length_append,List.map_append]
      exact hown
  · obtain rfl:j=n:=by omega
    have hall:(linesB LL).take j=linesB LL:=by rw[List.take_of_length_le (by unfold linesB;rw[List.length_map,HLEN.out];exact Nat.le_refl _)]
    have hfin:=HBK.out;rw[hall] at hfin;have HF:=hid hfin;clear hfin hall
    go_wp2_with fail
    go_ret
    exact⟨ov,rfl,by rw[← HF.out];exact HOWN.out,HB.out⟩
theorem Write_c {A:Option Addr}{n c:Nat}{LL:List ByteArray}{w:World}(h:Rd encStr 1 w A n LL) :
 Calls Tryz.prog 8 #[.slice A n c] w fun e w'=>∃ v,e=.returned (.tuple #[v,.int .i64 (checkL LL)]) ∧
  (checkL LL=0→w'.ownsRow w.heap.size 5 1 v (bookW (linesB LL) 5).length ((bookW (linesB LL) 5).map u8V))∧(checkL LL≠0→v=.slice none 0 0)∧Below w.heap.size w w':=by
 have H:=hid h;have HB:=hid (Below.refl w.heap.size w);have HLEN:=hid h.len;have hck:=fun W (hW:Below w.heap.size w W)=>chkL_c (c:=c) (h.below hW);have HCK:=hid hck;clear h hck;obtain⟨E,hE⟩:∃ E,E=checkL LL:=⟨_,rfl⟩;rw[← hE] at HCK ⊢
 go_enter Tryz.func8,Tryz.ntmps8
 go_wp2_with fail
 go_at_call 24;refine(HCK.out _ HB.out).mono ?_;rintro e w1 ⟨rfl,hb9⟩;replace HB:=hdT HB hb9;clear hb9 
 by_cases h0:E=0
 · subst h0
   have hn:n≤60∧∀ p∈LL,p.size≤300:=by
    unfold checkL at hE
    split at hE
    · cases hE
    · split at hE
      · rename_i h1 h2;exact⟨by have:=HLEN.out;omega,h2⟩
      · cases hE
   have hwr:=fun W (hW:Below w.heap.size w W)=>written_c (c:=c) (H.out.below hW) (by omega) (fun p hp=>by have:=hn.2 p hp;omega);have HWR:=hid hwr;clear hwr hn hE
   go_wp2_with fail
   go_at_call 25;refine(HWR.out _ HB.out).mono ?_;rintro e w2 ⟨v,rfl,hown,hb9⟩;have hown:=own_lower hown HB.out.size;replace HB:=hdT HB hb9;have HOWN:=hid hown;clear hb9 hown
   go_wp2_with fail
   go_ret2
   exact⟨v,rfl,HOWN.out,HB.out⟩
 · have hne:(E == 0)=false:=by simpa using h0
   clear hE
   go_wp2_with fail
   (try rw[Exit.noGoto_ret])
   go_ret2
   exact⟨_,rfl,fun h=>absurd h h0,fun _=>rfl,HB.out⟩
theorem idx_str (s:ByteArray){j:Nat}{x:UInt8}(h:s.data.toList[j]?=some x)(W:World):(Instr.index 9 (.string s) (.int .i64 j)).run Tryz.prog W=.ok (.int .u8 (x.toNat:Int)) W:=by
 have hk:j < s.data.size:=by simpa using (List.getElem?_eq_some_iff.1 h).1
 rw[run_index_string _ _ _ _ _ Tryz.underlying9,dif_pos ⟨by omega,by show(j:Int) < ((s.data.size:Nat):Int);omega⟩]
 have h1:s.data[j]=x:=by
  have:=(List.getElem?_eq_some_iff.1 h).2
  simpa using this
 rw[← h1]
 rfl
theorem chkR_c (s:ByteArray)(c:Nat)(w:World)(hs:s.size≤1000)(hc:c < 11881357) :
 Calls Tryz.prog 16 #[.string s,.int .i64 c] w fun e w'=>e=.returned (.int .i64 (chkW c s.data.toList:Nat))∧Below w.heap.size w w':=by
 have HSL:=hid (show s.data.toList.length=s.size from rfl);have HC:=hid hc;clear hc
 go_enter Tryz.func16,Tryz.ntmps16
 go_wp2_with fail
 go_loopw [1,5] (fun cv iv wr=>∃ j:Nat,j≤s.size∧iv=.int .i64 j∧cv=.int .i64 (chkW c (s.data.toList.take j):Nat)∧wr=w) (fun _ iv _=>s.size - (intOf iv).toNat)
 case atStart=>exact⟨0,Nat.zero_le _,rfl,rfl,rfl⟩
 case round =>
  obtain⟨j,hj,rfl,rfl,rfl⟩:=hrel;have hkb:=chk_lt HC.out (s.data.toList.take j)
  by_cases hlt:j < s.size
  · obtain⟨x,hx⟩:∃ x,s.data.toList[j]?=some x:=⟨_,List.getElem?_eq_getElem (by rw[HSL.out];exact hlt)⟩
    have hi1:(j:Int) < (s.size:Int):=by omega
    have q1:=idx_str s hx;have hx8:=x.toNat_lt;obtain⟨k,hk⟩:∃ k,k=chkW c (s.data.toList.take j):=⟨_,rfl⟩;rw[← hk] at hkb ⊢
    have hst:((37 * (k:Int)+(x.toNat:Int)+7).tmod 11881357)=((chkW c (s.data.toList.take (j+1)):Nat):Int):=by
     rw[chk_snoc hx,← hk,Int.tmod_eq_emod_of_nonneg (by omega)];unfold chkStep;omega
    have hw8:IntKind.i64.wrap (x.toNat:Int)=(x.toNat:Int):=wi (by omega);have HST:=hid hst;clear hk hx
    go_wp2_with fail
    go_roundw
    case rel =>
     refine⟨j+1,by omega,by go_num,?_,by trivial⟩;rw[← HST.out]
    case measure=>simp[intOf] <;> omega
  · obtain rfl:j=s.size:=by omega
    have hall:s.data.toList.take s.size=s.data.toList:=by rw[← HSL.out,List.take_length]
    rw[hall] at hkb ⊢;clear hall hlt hj
    go_wp2_with fail
    go_ret
    exact⟨rfl,Below.refl _ _⟩
end Go.Proofs.YtlaengnhfjlphaaGreatDoor
namespace Go.Proofs.YtlaengnhfjlphaaGreatDoor
open Lib (hid)
open Go.RowKit Go.Proofs Go.ChangeShapes Go.WideShapes Go.Deep
theorem wrap_both {H:Type}{enc:TypeId × Value→H}{a:Assume}{C:Checked}{os:Os}{f:FuncId}{fn:Func}{s:ChangeSpec}{conds:List PathCond}{apart fresh handsOn again:Bool}{X:World→Array Value→Prop}
 (hX:∀(w w':World) (args:Array Value),w.heap=w'.heap→X w args→X w' args)
 (own:ownKnob C.prog.godebug=none) (started:os.Started) (noInit:C.prog.inits.idxOf? f=none) (hfn:C.prog.funcs[f]?=some fn)
 (witness:∃(w:World) (tape:Tape) (i:Input),w.os=os∧(w.forCall tape i).Shaped C.prog∧i.vars=[]∧Input.okWide C.prog (w.forCall tape i) .any w.heap.size f i ∧
  ((s.pre enc C.prog fn conds apart (w.forCall tape i).memory i.args∧X (w.forCall tape i).memory i.args)∧sizedMet enc C.prog fn (OpenSpec.ofChange s) apart (w.forCall tape i).memory i.args)∧a.holds C.prog (lone (Frame.enter C.prog f i.args .normal) [] (w.forCall tape i)))
 (contract:∀(W:World) (base:Nat) (args:Array Value) (ds gs:List (DataW H)) (before:List MemPlace),
  (∀(j:Nat) t v,fn.params[j]?=some t→args[j]?=some v→Value.okWide C.prog W .any base t v) →
  DataW.Whole enc C.prog fn.params.toList s.vars apart W args.toList ds gs before →
  conds.all (PathCond.test C.prog ⟨fn.params.toList,ds,s.plain.varTypes C.prog,gs⟩)=true →
  (DataW.weightsEach C.prog (fn.params.toList++s.plain.varTypes C.prog) (ds++gs)).all (·≤reachBytes)=true→X W args→W.ShapedOpen C.prog →
  a.holds C.prog (lone (Frame.enter C.prog f args .normal) [] W) →
  Calls C.prog f args W fun e W'=>∃ v,e=.returned v∧s.post enc C.prog fn apart fresh handsOn again W args v W') :
 ReturnsInHanded a C os f .any (fun w args=>(s.pre enc C.prog fn conds apart w args∧X w args)∧sizedMet enc C.prog fn (OpenSpec.ofChange s) apart w args) (s.post enc C.prog fn apart fresh handsOn again):=by
 refine returnsInHanded_of_calls own started noInit witness ?_;intro w tape i _ hsh _ hok hpre hholds;obtain⟨_,_,_,fn',hfn',_,_,_,_,hval⟩:=hok;have e:fn'=fn:=Option.some.inj (hfn'.symm.trans hfn);subst e;obtain⟨⟨⟨ds,gs,before,hw,hc⟩,hx⟩,hz⟩:=hpre;have hw':=DataW.Whole.of_heap (w':=w.forCall tape i) (by rfl) hw;refine(contract (w.forCall tape i) w.heap.size i.args ds gs before hval hw' hc (hz.weights hw) (hX _ _ _ (by rfl) hx) hsh hholds).mono fun e W' ⟨v,he,hp⟩=>?_;subst he;exact ChangeSpec.post_blind hp
section
variable {H:Type} {enc:TypeId × Value→H} {P:Program} {w:World} {base:Nat} {spare:Nat→Bool} {held:Bool}
theorem el_str {t:TypeId}(ht:P.underlying t=some .string)(fuel:Nat)(cs:List Value)(x:DataW H × List MemPlace)(h:DataW.trod enc P w base spare held fuel t cs=some x) :
 ∃ s:ByteArray,encStr s=cs∧True:=by
 obtain⟨s,e,_,_⟩:=DataW.trod_string ht h;exact⟨s,e.symm,trivial⟩
theorem rd_texts_of {t e:TypeId}{A:Option Addr}{len cap:Nat}{d:DataW H}{p:List MemPlace}(ht:P.underlying t=some (.slice e))(he:P.underlying e=some .string)(hc:P.cellsOf e=1)(h:DataW.Trod enc P w base spare held t (.slice A len cap) d p) :
 ∃ l:List ByteArray,Rd encStr 1 w A len l∧len≤cap∧cap≤maxLen:=by
 obtain⟨fuel,hf⟩:=h;obtain⟨A',len',cap',l,e,h1,h2,h3,h4⟩:=rd_gen (en:=encStr) ht hc (by decide) (el_str he) hf;simp[Value.cells] at e;obtain⟨rfl,rfl,rfl⟩:=e;exact⟨l,h1,h2,h3⟩
theorem iface_of {t:TypeId}{m:Array (String × TypeId)}{fuel:Nat}{cs:List Value}{x:DataW H × List MemPlace}(ht:P.underlying t=some (.interface m))(h:DataW.trod enc P w base spare held fuel t cs=some x):∃ v,cs=[v]∧ErrV v:=by
 cases fuel with
 | zero=>simp[DataW.trod] at h
 | succ n =>
  unfold DataW.trod at h;rw[ht] at h
  split at h <;> first
   | (rename_i h1;cases h1;done)
   | skip
  all_goals first
   | exact⟨_,rfl,.inl rfl⟩
   | exact⟨_,rfl,.inr ⟨_,_,rfl⟩⟩
   | cases h
end
theorem gsz:Tryz.prog.globals.size≤9:=of_decide_eq_true (by kernel_rfl)
theorem bsz:9 < (begin Tryz.prog (fun _ _=>0) default).world.heap.size:=of_decide_eq_true (by kernel_rfl)
theorem g_syn:Tryz.prog.globalNamed "strconv.ErrSyntax"=some 1:=by kernel_rfl
theorem g_rng:Tryz.prog.globalNamed "strconv.ErrRange"=some 2:=by kernel_rfl
theorem g_err (i:Nat)(h:i=1∨i=2):(Tryz.prog.globals[i]?).map (·.type)=some 115:=by rcases h with rfl | rfl <;> kernel_rfl
theorem u_err:∃ m,Tryz.prog.underlying 115=some (.interface m):=by
 have h:(match Tryz.prog.underlying 115 with | some (.interface _)=>true | _=>false)=true:=by kernel_rfl
 split at h
 · next m hm=>exact⟨m,hm⟩
 · cases h
theorem err_of {W:World}{n:String}{d:DataW Unit}{g:Nat}(h:Lib.VarReads Tryz.prog W n d)(hg:Tryz.prog.globalNamed n=some g)(h12:g=1∨g=2):∃ v,W.cell? ⟨g,0,none⟩=some v∧ErrV v:=by
 obtain⟨g',t,cs,fuel,p,hg',ht,hv,hd⟩:=h;obtain rfl:=Option.some.inj (hg.symm.trans hg');obtain rfl:=Option.some.inj ((g_err g h12).symm.trans ht);obtain⟨m,hm⟩:=u_err;obtain⟨v,hcs,hev⟩:=iface_of hm hd;have:=World.var?_cell hg hv 0
 have hc:cs=#[v]:=by cases cs;simp at hcs;simp[hcs]
 rw[hc] at this;exact⟨v,by simpa using this,hev⟩
theorem tab_of {W:World}{k:IntKind}{zs:List Int}{n:String}{g:Nat}{t e:TypeId}{m:Nat}(hg:Tryz.prog.globalNamed n=some g)(hty:(Tryz.prog.globals[g]?).map (·.type)=some t)(ht:Tryz.prog.underlying t=some (.array m e))(he:Tryz.prog.underlying e=some (.int k))(hce:Tryz.prog.cellsOf e=1)(hct:Tryz.prog.cellsOf t=m)
 (h:Lib.VarReads Tryz.prog W n (Lib.tabData k zs)):Lib.TabIs Tryz.prog W n k zs:=by
 obtain⟨g',t',cs,fuel,p,hg',ht',hv,hd⟩:=h;obtain rfl:=Option.some.inj (hg.symm.trans hg');obtain rfl:=Option.some.inj (hty.symm.trans ht');unfold Lib.TabIs;rw[hv,← Lib.cells_of_tab ht he hce hct hd]
theorem g_pow:∃ g,Tryz.prog.globalNamed "internal/strconv.uint64pow10"=some g∧(Tryz.prog.globals[g]?).map (·.type)=some 288:=by
 refine⟨_,rfl,?_⟩
 kernel_rfl
theorem max_of {W:World}(hs:W.ShapedOpen Tryz.prog):∃ m,W.cell? ⟨0,0,none⟩=some (.int .i64 m) :=
 cell_of_shapedOpen_int (P:=Tryz.prog) (g:=0) (t:=3) (zero:=#[.int .i64 0]) hs (of_decide_eq_true (by kernel_rfl)) (by kernel_rfl) rfl (by kernel_rfl) (by kernel_rfl) Tryz.underlying3
theorem size_of {W:World}(hs:W.ShapedOpen Tryz.prog):10≤W.heap.size:=by
 obtain⟨o,_,ho,_⟩:=hs.2 9 gsz bsz;have:=(Array.getElem?_eq_some_iff.1 ho).1;omega
theorem lay_of {W:World}{L:List (String × DataW Unit)}(h:laidMet Tryz.prog L W)(hs:W.ShapedOpen Tryz.prog){d1 d2:DataW Unit}(h1:("strconv.ErrSyntax",d1)∈L) (h2:("strconv.ErrRange",d2)∈L) (h5:("internal/strconv.uint64pow10",Lib.tabData .u64 Lib.pow10Tab)∈L):Lay W:=by
 obtain⟨g,hg,hty⟩:=g_pow;exact⟨size_of hs,max_of hs,err_of (Lib.laidMet.reads h h1) g_syn (.inl rfl),err_of (Lib.laidMet.reads h h2) g_rng (.inr rfl),tab_of hg hty Tryz.underlying288 Tryz.underlying254 (by kernel_rfl) (by kernel_rfl) (Lib.laidMet.reads h h5)⟩
end Go.Proofs.YtlaengnhfjlphaaGreatDoor
