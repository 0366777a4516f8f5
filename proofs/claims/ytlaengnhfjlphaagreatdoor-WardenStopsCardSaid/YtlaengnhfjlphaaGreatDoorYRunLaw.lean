/- CONTRACT of water.check: a ground with days. -/
import Derived.Test.YtlaengnhfjlphaaGreatDoorYGround2
import Derived.Test.YtlaengnhfjlphaaGreatDoorYTOpen
set_option linter.unusedVariables false
set_option linter.unusedSimpArgs false
set_option maxRecDepth 100000
set_option maxHeartbeats 8000000
namespace Go.Proofs.YtlaengnhfjlphaaGreatDoor
open Lib (hid)
open Go.RowKit Go.Proofs
attribute [local go_sem ↓] Go.wp_at_zero Go.wp_at_succ
theorem wcheck_c {C:List Cel}{A:Option Addr}{n c:Nat}(sn0 sn1 so0 so1 melt:Int){D:List Dy}{DA:Option Addr}{dn dc:Nat}{w:World}(h:Rd encCel 7 w A n C)(hn:n≤maxLen)(hd:Rd encDy 3 w DA dn D)(hdn:dn≤maxLen) :
 Calls Tryz.prog 110 #[.agg #[.slice A n c,.int .i64 sn0,.int .i64 sn1,.int .i64 so0,.int .i64 so1,.int .i64 melt],.slice DA dn dc] w fun e w'=>e=.returned (.int .i64 (faultW C sn0 sn1 so0 so1 melt D))∧Below w.heap.size w w':=by
 obtain⟨R,hR⟩:∃ R:Int,R=faultW C sn0 sn1 so0 so1 melt D:=⟨_,rfl⟩;rw[← hR];unfold faultW at hR;rw[hd.len] at hR;have hal:=(Below.refl w.heap.size w).alloc (Nat.le_refl _) (.cells #[.slice A n c,.int .i64 sn0,.int .i64 sn1,.int .i64 so0,.int .i64 so1,.int .i64 melt] 48);have hx:=Blk.new w 48 #[.slice A n c,.int .i64 sn0,.int .i64 sn1,.int .i64 so0,.int .i64 so1,.int .i64 melt];have hg:=CheckGround_c (c:=c) sn0 sn1 so0 so1 melt (h.below hal) hn;have HB:=hid hal;have HX:=hid hx;have HG:=hid hg;have HD:=hid (hd.below hal);clear hal hx hg h hn hd;cases hq:groundOk C sn0 sn1 so0 so1 melt
 · rw[hq,if_pos rfl] at hR
   rw[hq] at HG;subst hR
   go_enter Tryz.func110,Tryz.ntmps110
   go_upto_region 1 with fail
   revert HB HX HG HD;generalize (World.alloc w (.cells #[.slice A n c,.int .i64 sn0,.int .i64 sn1,.int .i64 so0,.int .i64 so1,.int .i64 melt] 48))=w1;intro HB HX HG HD;have x0:=HX.out.cell 0;have x1:=HX.out.cell 1;have x2:=HX.out.cell 2;have x3:=HX.out.cell 3;have x4:=HX.out.cell 4;have x5:=HX.out.cell 5;simp at x0 x1 x2 x3 x4 x5
   go_wp2_with fail
   go_at_call 76;refine(HG.out).mono ?_;rintro e w1 ⟨rfl,hb9⟩;replace HB:=hdT HB hb9;clear hb9 
   go_wp2_with fail
   go_ret
   exact⟨rfl,HB.out⟩
 · rw[hq,if_neg (by decide)] at hR
   rw[hq] at HG;unfold maxLen at hdn
   rcases Nat.lt_or_ge 30 dn with h30 | h30
   · rw[if_pos h30] at hR
     subst hR
     go_enter Tryz.func110,Tryz.ntmps110
     go_upto_region 1 with fail
     revert HB HX HG HD;generalize (World.alloc w (.cells #[.slice A n c,.int .i64 sn0,.int .i64 sn1,.int .i64 so0,.int .i64 so1,.int .i64 melt] 48))=w1;intro HB HX HG HD;have x0:=HX.out.cell 0;have x1:=HX.out.cell 1;have x2:=HX.out.cell 2;have x3:=HX.out.cell 3;have x4:=HX.out.cell 4;have x5:=HX.out.cell 5;simp at x0 x1 x2 x3 x4 x5
     go_wp2_with fail
     go_at_call 76;refine(HG.out).mono ?_;rintro e w1 ⟨rfl,hb9⟩;replace HB:=hdT HB hb9;clear hb9 
     go_wp2_with fail
     go_ret
     exact⟨rfl,HB.out⟩
   · rw[if_neg (by omega)] at hR
     cases ha:allB dayOk D
     all_goals
      rw[ha] at hR;simp only[if_true,if_false,Bool.false_eq_true] at hR;subst hR
      go_enter Tryz.func110,Tryz.ntmps110
      go_upto_region 1 with fail
      revert HB HX HG HD;generalize (World.alloc w (.cells #[.slice A n c,.int .i64 sn0,.int .i64 sn1,.int .i64 so0,.int .i64 so1,.int .i64 melt] 48))=w1;intro HB HX HG HD;have x0:=HX.out.cell 0;have x1:=HX.out.cell 1;have x2:=HX.out.cell 2;have x3:=HX.out.cell 3;have x4:=HX.out.cell 4;have x5:=HX.out.cell 5;simp at x0 x1 x2 x3 x4 x5
      go_wp2_with fail
      go_at_call 76;refine(HG.out).mono ?_;rintro e w1 ⟨rfl,hb9⟩;replace HB:=hdT HB hb9;replace HD:=hid (HD.out.below hb9);clear hb9 ;clear HG x0 x1 x2 x3 x4 x5 HX;have hc:=allDay_c (c:=dc) (p:=dayOk) w1 HD.out (by unfold maxLen;omega) (fun i x W hx hW=>dayValid_c x W);rw[ha] at hc;have HC:=hid hc;clear hc
      go_wp2_with fail
      go_at_call 153;refine(HC.out).mono ?_;rintro e w1 ⟨rfl,hb9⟩;replace HB:=hdT HB hb9;replace HD:=hid (HD.out.below hb9);clear hb9 
      go_wp2_with fail
      go_ret
      exact⟨rfl,HB.out⟩
end Go.Proofs.YtlaengnhfjlphaaGreatDoor
namespace Go.Proofs.YtlaengnhfjlphaaGreatDoor
open Lib (hid)
open Go.RowKit
theorem half_spec1 {P:Int→Bool}(hup:∀ a b,1≤a→a≤b→P a=true→P b=true):∀(f:Nat) (lo hi:Int),1≤lo→hi - lo≤f→lo≤hi →
 lo≤halfS P f lo hi∧halfS P f lo hi≤hi∧(halfS P f lo hi < hi→P (halfS P f lo hi)=true)∧∀ n,lo≤n→n < halfS P f lo hi→P n=false
 | 0,lo,hi,h1,h,hl=>by unfold halfS;exact⟨by omega,hl,fun hh=>by omega,fun n h1 h2=>by omega⟩
 | f+1,lo,hi,h0,h,hl=>by
  unfold halfS
  split
  · split
    · rename_i h1 h2
      obtain⟨a,b,c,d⟩:=half_spec1 hup f lo ((lo+hi) / 2) h0 (by omega) (by omega);refine⟨a,by omega,fun hh=>?_,d⟩
      by_cases he:halfS P f lo ((lo+hi) / 2) < (lo+hi) / 2
      · exact c he
      · rw[show halfS P f lo ((lo+hi) / 2)=(lo+hi) / 2 by omega];exact h2
    · rename_i h1 h2
      obtain⟨a,b,c,d⟩:=half_spec1 hup f ((lo+hi) / 2+1) hi (by omega) (by omega) (by omega);refine⟨by omega,b,c,fun n h3 h4=>?_⟩
      by_cases he:(lo+hi) / 2+1≤n
      · exact d n he h4
      · cases hp:P n
        · rfl
        · exact absurd (hup n _ (by omega) (by omega) hp) h2
  · exact⟨Int.le_refl _,hl,fun hh=>by omega,fun n h1 h2=>by omega⟩
theorem holdA_nn {l:List BedS}(h:∀ b∈l,bedOk b)(j:Nat):0≤holdA l j:=by
 unfold holdA
 split
 · rename_i b hb
   have:=h b (List.mem_of_getElem? hb);exact holds_nn this.2.2.1.1 this.2.2.2.1.1
 · exact Int.le_refl _
theorem halvW_at {l:List BedS}(h:∀ b∈l,bedOk b)(least:Nat):WorstAt (holdA l) (drivA l) l.length least (halvW l least):=by
 obtain⟨a,b,c,d⟩:=half_spec1 (P:=fun n=>lowB (holdA l) (drivA l) n l.length least) (fun x y hx hxy hp=>lowB_iff.2 ((lowB_iff.1 hp).up (holdA_nn h) (by omega) hxy)) 10001 1 10001 (by omega) (by omega) (by omega);refine⟨a,b,fun hn=>lowB_iff.1 (c (by unfold halvW at hn;omega)),fun k h1 h2 hl=>?_⟩;have:=d k h1 h2;rw[lowB_iff.2 hl] at this;cases this
theorem WorstAt.eq {H D:Nat→Int}{m least:Nat}{a b:Int}(ha:WorstAt H D m least a)(hb:WorstAt H D m least b):a=b:=by
 rcases Int.lt_trichotomy a b with h | h | h
 · exact absurd (ha.is (by have:=hb.hi;omega)) (hb.no a ha.lo h)
 · exact h
 · exact absurd (hb.is (by have:=ha.hi;omega)) (ha.no b hb.lo h)
theorem worstP_at {l:List BedS}(h:∀ b∈l,bedOk b){least:Nat}{n:Int}(hn:WorstAt (holdA l) (drivA l) l.length least n) :
 (n≤10000→worstP l least=some (n - 1))∧(¬ n≤10000→Lower (costS (fun _=>0) (drivA l) 1) l.length least→worstP l least=some 10000)∧(¬ n≤10000→¬ Lower (costS (fun _=>0) (drivA l) 1) l.length least→worstP l least=none):=by
 have e:halvW l least=n:=(halvW_at h least).eq hn;unfold worstP;rw[e];refine⟨fun h1=>by rw[if_pos h1],fun h1 h2=>by rw[if_neg h1,if_pos (lowB_iff.2 h2)],fun h1 h2=>by rw[if_neg h1,if_neg (fun h3=>h2 (lowB_iff.1 h3))]⟩
end Go.Proofs.YtlaengnhfjlphaaGreatDoor
namespace Go.Proofs.YtlaengnhfjlphaaGreatDoor
open Lib (hid)
open Go.RowKit Go.Proofs
attribute [local go_sem ↓] Go.wp_at_zero Go.wp_at_succ
theorem wu {x:Int}(h:0≤x∧x < 256):IntKind.u8.wrap x=x:=by
 simp[IntKind.wrap,IntKind.bits,IntKind.signed];omega
def str (l:List UInt8):Value:=.string ⟨l.toArray⟩
def u8V (x:UInt8):Value:=.int .u8 (x.toNat:Int)
def letC (r:Nat)(l:List UInt8)(z:Nat):Array Value:=(List.replicate r (Value.int .u8 0)++(l.map u8V++List.replicate z (Value.int .u8 0))).toArray
theorem letC_zero {k:Nat}(hk:k≤5):letC k [] (5 - k)=#[.int .u8 0,.int .u8 0,.int .u8 0,.int .u8 0,.int .u8 0]:=by
 have h:k=0∨k=1∨k=2∨k=3∨k=4∨k=5:=by omega
 rcases h with rfl | rfl | rfl | rfl | rfl | rfl <;> rfl
theorem letC_at (r:Nat)(l:List UInt8)(z:Nat):(letC (r+1) l z)[r]?=some (.int .u8 0):=by
 unfold letC;rw[List.getElem?_toArray,List.getElem?_append_left (by simp),List.getElem?_replicate,if_pos (by omega)]
theorem letC_set (r:Nat)(l:List UInt8)(z:Nat)(x:UInt8):(letC (r+1) l z).setIfInBounds r (u8V x)=letC r (x :: l) z:=by
 unfold letC;rw[List.setIfInBounds_toArray,List.replicate_succ',List.append_assoc,List.set_append_right _ _ (by simp)];simp
theorem letC_get {l:List UInt8}{z j:Nat}(hj:j < l.length):(letC 0 l z)[j]?=some (.int .u8 (l[j].toNat:Int)):=by
 unfold letC;rw[List.getElem?_toArray,List.replicate_zero,List.nil_append,List.getElem?_append_left (by simpa using hj),List.getElem?_map,List.getElem?_eq_getElem hj]
 rfl
theorem letters_c (tu:Bool)(k n:Nat)(w:World)(hk:k≤5)(hn:n < 4611686018427387904) :
 Calls Tryz.prog 46 #[.int .i64 n,.int .i64 k,.bool tu] w fun e w'=>e=.returned (str (letW tu k n))∧Below w.heap.size w w':=by
 have HB:=hid (Below.refl w.heap.size w)
 go_enter Tryz.func46,Tryz.ntmps46
 go_upto_region 2 with fail
 have hb9:=(Below.refl w.heap.size w).alloc (Nat.le_refl _) (.cells #[.int .u8 0,.int .u8 0,.int .u8 0,.int .u8 0,.int .u8 0] 110);have hn:=Blk.new w 110 #[.int .u8 0,.int .u8 0,.int .u8 0,.int .u8 0,.int .u8 0];replace HB:=hdT HB hb9;have HE:=hid hn;clear hb9 hn;revert HB HE;generalize (World.alloc w (.cells #[.int .u8 0,.int .u8 0,.int .u8 0,.int .u8 0,.int .u8 0] 110))=w1;intro HB HE
 have hE0:Blk w1 w.heap.size 110 (letC k [] (5 - k)):=by rw[letC_zero hk];exact HE.out
 have HE0:=hid hE0;clear hE0 HE
 go_wp2_with fail
 go_loopw [0,8] (fun nv iv wr=>∃(r m:Nat) (l:List UInt8),r≤k∧iv=.int .i64 ((r:Int) - 1)∧nv=.int .i64 m∧m < 4611686018427387904∧letW tu k n=letW tu r m++l∧Blk wr w.heap.size 110 (letC r l (5 - k))∧Below w.heap.size w wr) (fun _ iv _=>(intOf iv+1).toNat)
 case atStart=>exact⟨k,n,[],Nat.le_refl _,rfl,rfl,hn,by simp,HE0.out,HB.out⟩
 case round =>
  obtain⟨r,m,l,hr,rfl,rfl,hm,heq,hblk,hb⟩:=hrel;have HEQ:=hid heq;have HBK:=hid hblk;have HBE:=hid hb;clear heq hblk hb HE0 HB
  rcases r with _ | r
  · have hlen:l.length=k:=by have:=congrArg List.length HEQ.out;simpa[let_len] using this.symm
    have hle:l=letW tu k n:=by have:=HEQ.out;simpa[letW] using this.symm
    have hcv:∀ W:World,W=wr→(convert 23 9 (.slice (some ⟨w.heap.size,0,none⟩) k 5)).run Tryz.prog W=.ok (str (letW tu k n)) W:=by
     rintro W rfl;rw[← hle,← hlen]
     exact run_convert_bytes_back (P:=Tryz.prog) W 23 9 5 ⟨w.heap.size,0,none⟩ 5 l Tryz.underlying23 Tryz.underlying5 Tryz.underlying9 (fun j hj=>by
      rw[Addr.add_mid,Nat.zero_add,HBK.out.cell]
      exact letC_get hj)
    have hcv:=hcv wr rfl
    have hk5:(k:Int)≤5:=by omega
    have hk0:(0:Int)≤(k:Int):=by omega
    clear hle hlen
    go_wp2_with fail
    go_ret
    exact⟨rfl,HBE.out⟩
  · obtain⟨q,hq⟩:∃ q,q=m / 26:=⟨_,rfl⟩
    obtain⟨d,hd⟩:∃ d,d=m % 26:=⟨_,rfl⟩
    have hq1:(m:Int).tdiv 26=(q:Int):=by rw[hq,Int.tdiv_eq_ediv_of_nonneg (by omega)];omega
    have hd1:(m:Int).tmod 26=(d:Int):=by rw[hd,Int.tmod_eq_emod_of_nonneg (by omega)];omega
    have hd26:d < 26:=by omega
    have hqm:q < 4611686018427387904:=by omega
    obtain⟨x,hx⟩:∃ x,x=digW (if tu=true then 25 - d else d):=⟨_,rfl⟩
    have hst:letW tu k n=letW tu r q++(x :: l):=by rw[HEQ.out,letW,← hq,← hd,hx];simp
    have c0:=HBK.out.cell r;have f0:=HBK.out.frozen r;rw[letC_at] at c0
    have hi1:(r:Int) < 5:=by omega
    have hi0:(0:Int)≤(r:Int):=by omega
    have hs2:=HBK.out.set_ r (u8V x);rw[letC_set] at hs2;have HS2:=hid hs2;have HST:=hid hst;have HQM:=hid hqm;have HX:=hid hx;clear hq hd hqm hst hs2 hx;cases tu
    · have hxn:IntKind.u8.wrap (97+(d:Int))=(x.toNat:Int):=by
       have h1:x.toNat=97+(d):=by rw[HX.out];simpa using dig_nat (d:=d) (by omega)
       rw[wu (by omega)];omega
      go_wp2_with fail
      clear hxn
      go_roundw
      case rel =>
       exact⟨r,q,x :: l,by omega,by go_num,congrArg (Value.int .i64) (by unfold wrap64;have:=HQM.out;omega),HQM.out,HST.out,HS2.out,HBE.out.setCell (p:=⟨w.heap.size,r,none⟩) (Nat.le_refl _) _⟩
      case measure=>simp[intOf] <;> omega
    · have hxn:IntKind.u8.wrap (97+(25 - (d:Int)))=(x.toNat:Int):=by
       have h1:x.toNat=97+(25 - d):=by rw[HX.out];simpa using dig_nat (d:=25 - d) (by omega)
       rw[wu (by omega)];omega
      go_wp2_with fail
      clear hxn
      go_roundw
      case rel =>
       exact⟨r,q,x :: l,by omega,by go_num,congrArg (Value.int .i64) (by unfold wrap64;have:=HQM.out;omega),HQM.out,HST.out,HS2.out,HBE.out.setCell (p:=⟨w.heap.size,r,none⟩) (Nat.le_refl _) _⟩
      case measure=>simp[intOf] <;> omega
end Go.Proofs.YtlaengnhfjlphaaGreatDoor
namespace Go.Proofs.YtlaengnhfjlphaaGreatDoor
open Lib (hid)
open Go.RowKit
theorem parts_pre (c:UInt8)(t:List UInt8):∀ p:List UInt8,c ∉ p→partsP c (p++c :: t)=p :: partsP c t
 | [],_=>by simp[partsP]
 | x :: p,h=>by
  simp only[List.mem_cons,not_or] at h;rw[List.cons_append,partsP,if_neg (fun e=>h.1 e.symm),parts_pre c t p h.2]
theorem parts_two (c:UInt8):∀(l:List UInt8) {p q:List UInt8} {ps:List (List UInt8)},partsP c l=p :: q :: ps→∃ t,l=p++c :: t
 | [],_,_,_,h=>by simp[partsP] at h
 | x :: l,p,q,ps,h=>by
  rw[partsP] at h
  split at h
  · rename_i hx
    subst hx
    injection h with h1 h2
    subst h1;exact⟨l,rfl⟩
  · cases hp:partsP c l with
    | nil=>exact absurd hp (parts_ne c l)
    | cons p' ps' =>
     rw[hp] at h
     injection h with h1 h2
     subst h1 h2;obtain⟨t,rfl⟩:=parts_two c l hp;exact⟨t,rfl⟩
def isW (s:List UInt8):Bool:=match parseP s with
 | .nums .weather _=>true
 | _=>false
def weathB:List UInt8:=[119,101,97,116,104,101,114,32]
def preW (s:List UInt8):Bool:=weathB.isPrefixOf s
theorem cmd_nums {p:List UInt8}{ps:List (List UInt8)}{wd:Wd}{l:List Int}(h:cmdOf (p :: ps)=.nums wd l):wordOf p=some wd∧ps.length=wd.many∧numsP ps=some l:=by
 simp only[cmdOf] at h
 cases hw:wordOf p with
 | none=>rw[hw] at h;cases h
 | some v =>
  rw[hw] at h;cases v
  case hear =>
   simp only at h
   split at h <;> cases h
  all_goals
   simp only at h
   split at h
   · rename_i hn
     cases hp:numsP ps with
     | none=>rw[hp] at h;cases h
     | some l' =>
      rw[hp] at h;simp only[Cmd.nums.injEq] at h;obtain⟨rfl,rfl⟩:=h;exact⟨rfl,hn,rfl⟩
   · cases h
theorem word_name {p:List UInt8}{wd:Wd}(h:wordOf p=some wd):wd.name=p:=by
 unfold wordOf at h;have h1:=List.find?_some h;exact of_decide_eq_true (p:=wd.name=p) h1
theorem isW_iff {s:List UInt8}:isW s=true↔∃ l,parseP s=.nums .weather l:=by
 unfold isW
 constructor
 · intro h
   split at h
   · rename_i l hl;exact⟨l,hl⟩
   · cases h
 · rintro⟨l,hl⟩;rw[hl]
theorem isW_pre {s:List UInt8}(h:isW s=true):preW s=true:=by
 obtain⟨l,hl⟩:=isW_iff.1 h;unfold parseP at hl
 cases hp:partsP 32 s with
 | nil=>exact absurd hp (parts_ne 32 s)
 | cons p ps =>
  rw[hp] at hl;obtain⟨h1,h2,_⟩:=cmd_nums hl
  cases ps with
  | nil=>simp[Wd.many] at h2
  | cons q qs =>
   obtain⟨t,rfl⟩:=parts_two 32 s hp;obtain rfl:=word_name h1;unfold preW;rw[List.isPrefixOf_iff_prefix];exact⟨t,rfl⟩
theorem preW_isW {s:List UInt8}(h:parseP s≠.bad):preW s=isW s:=by
 cases hi:isW s with
 | true=>exact isW_pre hi
 | false =>
  cases hp:preW s with
  | false=>rfl
  | true =>
   unfold preW at hp;rw[List.isPrefixOf_iff_prefix] at hp;obtain⟨t,rfl⟩:=hp;have e:weathB++t=Wd.name .weather++32 :: t:=rfl
   have hq:partsP 32 (weathB++t)=Wd.name .weather :: partsP 32 t:=by rw[e,parts_pre 32 t _ (by decide)]
   have hc:parseP (weathB++t)=if (partsP 32 t).length=3 then (match numsP (partsP 32 t) with | some l=>Cmd.nums .weather l | none=>.bad) else .bad:=by
    unfold parseP;rw[hq]
    rfl
   exfalso
   rw[hc] at h
   by_cases h3:(partsP 32 t).length=3
   · rw[if_pos h3] at h hc
     cases hn:numsP (partsP 32 t) with
     | none=>rw[hn] at h;exact h rfl
     | some l =>
      rw[hn] at hc;have:=isW_iff.2 ⟨l,hc⟩;rw[hi] at this;cases this
   · rw[if_neg h3] at h;exact h rfl
def weathI:Nat→List (List UInt8)→List Int→List Nat
 | i,s :: l,e :: es=>if isW s && decide (e=0) then i :: weathI (i+1) l es else weathI (i+1) l es
 | _,_,_=>[]
section
variable (F:List UInt8→List Rdg)
theorem buySet_lv:∀(set:List Int) (b:Sess),(buySet b set).levels=b.levels
 | [],_=>rfl
 | i :: l,b=>by
  have e:buySet b (i :: l)=buySet (buyOne b i) l:=rfl;rw[e,buySet_lv l];unfold buyOne
  split <;> rfl
theorem ifV_lv {b t:Sess}(h:t.levels=b.levels):(ifV b t).1.levels=b.levels:=by
 unfold ifV
 split
 · rfl
 · exact h
theorem weather_lv (b:Sess)(m:Int)(l:List Int):(sWeather b m l).1.levels.length=b.levels.length+(if (sWeather b m l).2=0 then 1 else 0):=by
 unfold sWeather
 split
 · simp[refuse]
 · split
   · next h=>simp[refuse,h]
   · simp[done]
theorem word_lv (b:Sess)(m:Int){wd:Wd}(hw:wd≠.weather)(l:List Int):(sWord F b m wd l).1.levels=b.levels:=by
 cases wd <;> simp only[sWord,sBed,sLeast,sGround,sCell,sLink,sAlarm,sParcel,sSteps,sSlide,sWay,sEvid,sBuy] <;> (repeat' split) <;> first
  | rfl
  | exact ifV_lv rfl
  | exact buySet_lv _ _
  | exact absurd rfl hw
theorem hear_lv (b:Sess)(t:List UInt8):(sHear F b t).1.levels=b.levels:=by
 unfold sHear
 (repeat' split) <;> rfl
theorem step_lv (b:Sess)(m:Int)(s:List UInt8):(stepP F b m s).1.levels.length=b.levels.length+(if isW s && decide ((stepP F b m s).2=0) then 1 else 0):=by
 unfold stepP
 cases hp:parseP s with
 | bad =>
  have:isW s=false:=by unfold isW;rw[hp]
  simp[this,refuse]
 | text t =>
  have:isW s=false:=by unfold isW;rw[hp]
  simp only[this,Bool.false_and,Bool.false_eq_true,if_false,Nat.add_zero];rw[hear_lv]
 | nums wd l =>
  by_cases hw:wd=.weather
  · subst hw
    have:isW s=true:=isW_iff.2 ⟨l,hp⟩;simp only[this,Bool.true_and,decide_eq_true_eq];exact weather_lv b m l
  · have:isW s=false:=by
     cases hi:isW s with
     | false=>rfl
     | true =>
      obtain⟨l',hl'⟩:=isW_iff.1 hi;rw[hp] at hl';cases hl';exact absurd rfl hw
    simp only[this,Bool.false_and,Bool.false_eq_true,if_false,Nat.add_zero];rw[word_lv F b m hw]
theorem step_form {b:Sess}{m:Int}{s:List UInt8}(h:(stepP F b m s).2=0):parseP s≠.bad:=by
 intro hb;unfold stepP at h;rw[hb] at h;simp[refuse] at h
theorem run_lv (line more:Int):∀(l:List (List UInt8)) (b:Sess) (now:Int) (i:Nat),(runP F line more b now l).1.levels.length=b.levels.length+(weathI i l (runP F line more b now l).2).length
 | [],b,now,i=>by simp[runP,weathI]
 | s :: l,b,now,i=>by
  rw[runP];simp only;rw[run_lv line more l _ _ (i+1),step_lv F b,weathI]
  split <;> simp <;> omega
theorem run_pre (line more:Int):∀(l:List (List UInt8)) (b:Sess) (now:Int) (k:Nat) (s:List UInt8),l[k]?=some s→(runP F line more b now l).2[k]?=some 0→preW s=isW s
 | [],_,_,_,_,h,_=>by simp at h
 | t :: l,b,now,0,s,h,he=>by
  simp at h;subst h;rw[runP] at he;simp at he;exact preW_isW (step_form F he)
 | t :: l,b,now,k+1,s,h,he=>by
  rw[runP] at he;exact run_pre line more l _ _ k s (by simpa using h) (by simpa using he)
end
theorem weathI_ge:∀(l:List (List UInt8)) (es:List Int) (i k:Nat),k∈weathI i l es→i≤k∧k < i+l.length
 | [],es,i,k,h=>by cases es <;> simp[weathI] at h
 | s :: l,[],i,k,h=>by simp[weathI] at h
 | s :: l,e :: es,i,k,h=>by
  rw[weathI] at h
  split at h
  · rcases List.mem_cons.1 h with rfl | h
    · simp
    · have:=weathI_ge l es (i+1) k h
      simp;omega
  · have:=weathI_ge l es (i+1) k h
    simp;omega
theorem weathI_snoc:∀(l:List (List UInt8)) (es:List Int) (i:Nat) (s:List UInt8) (e:Int),es.length=l.length→weathI i (l++[s]) (es++[e])=weathI i l es++(if isW s && decide (e=0) then [i+l.length] else [])
 | [],[],i,s,e,_=>by simp[weathI]
 | [],_ :: _,i,s,e,h=>by simp at h
 | _ :: _,[],i,s,e,h=>by simp at h
 | t :: l,f :: es,i,s,e,h=>by
  rw[List.cons_append,List.cons_append,weathI,weathI_snoc l es (i+1) s e (by simpa using h),weathI]
  have e1:i+1+l.length=i+(t :: l).length:=by simp;omega
  rw[e1]
  split <;> simp
theorem weathI_app:∀(l r:List (List UInt8)) (es fs:List Int) (i:Nat),es.length=l.length→weathI i (l++r) (es++fs)=weathI i l es++weathI (i+l.length) r fs
 | [],r,[],fs,i,_=>by simp[weathI]
 | [],_,_ :: _,_,_,h=>by simp at h
 | _ :: _,_,[],_,_,h=>by simp at h
 | t :: l,r,f :: es,fs,i,h=>by
  rw[List.cons_append,List.cons_append,weathI,weathI_app l r es fs (i+1) (by simpa using h),weathI]
  have e1:i+1+l.length=i+(t :: l).length:=by simp;omega
  rw[e1]
  split <;> simp
theorem weathI_take {l:List (List UInt8)}{es:List Int}{j:Nat}{s:List UInt8}{e:Int}(hl:es.length=l.length)(hs:l[j]?=some s)(he:es[j]?=some e) :
 weathI 0 (l.take (j+1)) (es.take (j+1))=weathI 0 (l.take j) (es.take j)++(if isW s && decide (e=0) then [j] else []):=by
 have hj:=(List.getElem?_eq_some_iff.1 hs).1;rw[List.take_add_one,List.take_add_one,hs,he,Option.toList_some,Option.toList_some,weathI_snoc _ _ _ _ _ (by rw[List.length_take,List.length_take,hl])]
 have e1:0+(l.take j).length=j:=by rw[List.length_take];omega
 rw[e1]
theorem weathI_pre {l:List (List UInt8)}{es:List Int}(j:Nat)(hl:es.length=l.length):∃ t,weathI 0 l es=weathI 0 (l.take j) (es.take j)++t:=by
 have e:weathI 0 (l.take j++l.drop j) (es.take j++es.drop j)=_:=weathI_app (l.take j) (l.drop j) (es.take j) (es.drop j) 0 (by rw[List.length_take,List.length_take,hl]);rw[List.take_append_drop,List.take_append_drop] at e;exact⟨_,e⟩
def weathL (l:List (List UInt8))(es lv:List Int):List (Nat × Int):=(weathI 0 l es).zip lv
theorem weathL_step {l:List (List UInt8)}{es lv:List Int}{j:Nat}{s:List UInt8}{e:Int}(hl:es.length=l.length)(hlv:lv.length=(weathI 0 l es).length)(hs:l[j]?=some s)(he:es[j]?=some e)(hW:(isW s && decide (e=0))=true) :
 ∃ v,lv[(weathI 0 (l.take j) (es.take j)).length]?=some v∧(weathL l es lv).take ((weathI 0 (l.take j) (es.take j)).length+1)=(weathL l es lv).take ((weathI 0 (l.take j) (es.take j)).length)++[(j,v)] ∧
  (weathI 0 (l.take (j+1)) (es.take (j+1))).length=(weathI 0 (l.take j) (es.take j)).length+1:=by
 have h1:=weathI_take hl hs he;rw[if_pos hW] at h1;obtain⟨t,ht⟩:=weathI_pre (j+1) hl;rw[h1] at ht
 have hd:(weathI 0 (l.take j) (es.take j)).length < lv.length:=by rw[hlv,ht];simp
 refine⟨lv[(weathI 0 (l.take j) (es.take j)).length],List.getElem?_eq_getElem hd,?_,by rw[h1];simp⟩
 have hz:(weathL l es lv)[(weathI 0 (l.take j) (es.take j)).length]?=some (j,lv[(weathI 0 (l.take j) (es.take j)).length]):=by
  unfold weathL;rw[List.getElem?_zip_eq_some];refine⟨?_,List.getElem?_eq_getElem hd⟩;rw[ht,List.append_assoc,List.getElem?_append_right (Nat.le_refl _),Nat.sub_self]
  rfl
 rw[List.take_add_one,hz]
 rfl
theorem weathL_skip {l:List (List UInt8)}{es:List Int}{j:Nat}{s:List UInt8}{e:Int}(hl:es.length=l.length)(hs:l[j]?=some s)(he:es[j]?=some e)(hW:(isW s && decide (e=0))=false) :
 (weathI 0 (l.take (j+1)) (es.take (j+1))).length=(weathI 0 (l.take j) (es.take j)).length:=by
 rw[weathI_take hl hs he,hW];simp
end Go.Proofs.YtlaengnhfjlphaaGreatDoor
