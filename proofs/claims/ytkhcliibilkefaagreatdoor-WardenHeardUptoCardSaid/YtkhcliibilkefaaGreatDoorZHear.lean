/- CONTRACT of number: the whole numbers of a line. -/
import Derived.Test.YtkhcliibilkefaaGreatDoorYShelf
import Derived.Lib.SmallJoins
import Derived.WalkSmall
import Derived.Lib.AtoiAllCases
import Derived.Lib.AppendStr
import Derived.Shelf.SlicesE.Clone
import Derived.Test.YtkhcliibilkefaaGreatDoorZFr
set_option linter.unusedVariables false
set_option linter.unusedSimpArgs false
set_option maxRecDepth 100000
set_option maxHeartbeats 8000000
namespace Go.Proofs.YtkhcliibilkefaaGreatDoor
open Lib (hid)
open Go.RowKit Go.Proofs Go.Lib Go.Sort
attribute [local go_sem ↓] Go.wp_at_zero Go.wp_at_succ
theorem below_growQ (w:World)(k:Nat)(os:Array Obj):Below w.heap.size w (grow (w.drewN k) os) :=
 (below_drewN (Below.refl w.heap.size w) k).trans ⟨rfl,rfl,rfl,by simp[grow],fun j hj=>by simp[grow,Array.getElem?_append_left hj]⟩
def ErrV (v:Value):Prop:=v=.nilIface∨∃ te pe,v=.iface te pe
structure Lay (w:World):Prop where
 size:10≤w.heap.size
 m0:∃ m,w.cell? ⟨0,0,none⟩=some (.int .i64 m)
 e1:∃ v,w.cell? ⟨1,0,none⟩=some v∧ErrV v
 e2:∃ v,w.cell? ⟨2,0,none⟩=some v∧ErrV v
 tab:TabIs Tryz.prog w "internal/strconv.uint64pow10" .u64 pow10Tab
theorem cell_congr {w w':World}{g i:Nat}(h:w'.heap[g]?=w.heap[g]?):w'.cell? ⟨g,i,none⟩=w.cell? ⟨g,i,none⟩:=by
 unfold World.cell?;simp only[h]
theorem Lay.fr {w w':World}{E:Nat→Prop}(h:Lay w)(hf:Fr E w w')(hE:∀ g,E g→10≤g):Lay w':=by
 have hb:∀ g,g<10→w'.heap[g]?=w.heap[g]?:=fun g hg=>hf.block g (Nat.lt_of_lt_of_le hg h.size) fun e=>by have:=hE g e;omega
 obtain⟨m,hm⟩:=h.m0;obtain⟨v1,h1,k1⟩:=h.e1;obtain⟨v2,h2,k2⟩:=h.e2;refine⟨Nat.le_trans h.size hf.size,⟨m,(cell_congr (hb 0 (by decide))).trans hm⟩,⟨v1,(cell_congr (hb 1 (by decide))).trans h1,k1⟩,⟨v2,(cell_congr (hb 2 (by decide))).trans h2,k2⟩,?_⟩;have h9:=h.tab;unfold TabIs World.var? at h9 ⊢
 have hg:∃ g,Tryz.prog.globalNamed "internal/strconv.uint64pow10"=some g∧g<10:=by
  have h8:(match Tryz.prog.globalNamed "internal/strconv.uint64pow10" with | some g=>decide (g<10) | none=>false)=true:=by kernel_rfl
  cases hx:Tryz.prog.globalNamed "internal/strconv.uint64pow10" with
  | none=>rw[hx] at h8;cases h8
  | some g=>rw[hx] at h8;exact⟨g,rfl,of_decide_eq_true h8⟩
 obtain⟨g,hg,hlt⟩:=hg;rw[hg] at h9 ⊢;simp only[Option.bind_some] at h9 ⊢;rw[hb g hlt];exact h9
theorem Lay.below {w w':World}(h:Lay w)(hb:Below w.heap.size w w'):Lay w':=h.fr (Fr.of_below hb fun _=>False) fun _ h=>h.elim
theorem atoi_c (s:ByteArray)(hs:s.size≤100000){w:World}(hl:Lay w):Calls Tryz.prog 85 #[.string s] w fun e w'=>∃ n v,e=.returned (.tuple #[.int .i64 n,v])∧(v=.nilIface→atoiAll s.data.toList=.ok n)∧(v≠.nilIface→(∃ t p,v=.iface t p)∧∀ x,atoiAll s.data.toList≠.ok x)∧Below w.heap.size w w':=by
 obtain⟨v1,h1,k1⟩:=hl.e1;obtain⟨v2,h2,k2⟩:=hl.e2
 cases hx:atoiAll s.data.toList with
 | ok n =>
  refine(strconv_Atoi_ok s (by omega) n hx w).mono ?_;rintro e w' ⟨rfl,hw⟩;refine⟨n,.nilIface,rfl,fun _=>rfl,fun h=>absurd rfl h,?_⟩
  rcases hw with rfl | ⟨t,rfl⟩
  · exact Below.refl _ _
  · exact Go.Joins.below_bytesWorld _ w _ t (Nat.le_refl _)
 | «syntax» =>
  refine(strconv_Atoi_syntax s (by omega) hx v1 w h1 k1).mono ?_;rintro e w' ⟨N,rfl,_,_,hb⟩;exact⟨_,_,rfl,(fun h=>by cases h),(fun _=>⟨⟨_,_,rfl⟩,(fun x h=>by cases h)⟩),hb⟩
 | range =>
  refine(strconv_Atoi_range s (by omega) hx v2 w h2 k2).mono ?_;rintro e w' ⟨N,rfl,_,_,hb⟩;exact⟨_,_,rfl,(fun h=>by cases h),(fun _=>⟨⟨_,_,rfl⟩,(fun x h=>by cases h)⟩),hb⟩
theorem itoa_c {n:Int}(hn:-9223372036854775808≤n∧n≤9223372036854775807){w:World}(hl:Lay w):Calls Tryz.prog 86 #[.int .i64 n] w fun e w'=>e=.returned (.string ⟨(itoa n).toArray⟩)∧Below w.heap.size w w':=by
 refine(strconv_Itoa n hn.1 hn.2 w hl.tab).mono ?_;rintro e w' ⟨rfl,k,os,rfl⟩;exact⟨rfl,below_growQ w k os⟩
theorem toList_eq {a:List UInt8}{s:ByteArray}:(⟨a.toArray⟩:ByteArray)=s↔a=s.data.toList:=by
 constructor
 · rintro rfl;rfl
 · rintro rfl;cases s;rfl
theorem number_c (s:ByteArray)(hs:s.size≤100000){w:World}(hl:Lay w):Calls Tryz.prog 55 #[.string s] w fun e w'=>(∀ v,wholeP s.data.toList=some v→e=.returned (.int .i64 v))∧(wholeP s.data.toList=none→e=.panicked [{ v:=refV 4,recovered:=false }])∧Below w.heap.size w w':=by
 have hat:=atoi_c s hs hl;have hit:=fun(n:Int) (hn:-9223372036854775808≤n∧n≤9223372036854775807) (W:World) (hb:Below w.heap.size w W)=>itoa_c hn (hl.below hb);have HAT:=hid hat;have HIT:=hid hit;have HB:=hid (Below.refl w.heap.size w);clear hat hit hs hl
 go_enter Tryz.func55,Tryz.ntmps55
 go_wp2_with fail
 go_at_call 85;refine(HAT.out).mono ?_;rintro e w1 ⟨n,v,rfl,hv1,hv2,hb9⟩;replace HB:=hdT HB hb9;clear hb9 ;clear HAT
 by_cases hv:v=.nilIface
 · subst hv
   have hok:=hv1 rfl;have hbd:=atoiAll_bounds hok;have HOK:=hid hok;have HBD:=hid hbd;clear hv1 hv2 hok hbd
   go_wp2_with fail
   go_at_call 86;refine(HIT.out n HBD.out _ HB.out).mono ?_;rintro e w2 ⟨rfl,hb9⟩;replace HB:=hdT HB hb9;clear hb9 
   by_cases heq:itoa n=s.data.toList
   · have hs2:(⟨(itoa n).toArray⟩:ByteArray)=s:=toList_eq.2 heq
     have HEQ:=hid heq;rw[hs2];clear heq hs2
     go_wp2_with fail
     go_at_call 37;refine(wwithin_c n (-999999999) 999999999 _).mono ?_;rintro e w3 ⟨rfl,hb9⟩;replace HB:=hdT HB hb9;clear hb9 
     cases hin:inB n (-999999999) 999999999 with
     | true =>
      have hi:=inB_iff.1 hin;have hw:wholeP s.data.toList=some n:=whole_iff.2 ⟨HOK.out,HEQ.out,hi⟩;have HW:=hid hw;clear hin hi hw
      go_wp2_with fail
      go_at_call 54;refine(ask_t 4 _).mono ?_;rintro e w4 ⟨rfl,hb9⟩;replace HB:=hdT HB hb9;clear hb9 
      go_wp2_with fail
      go_ret
      exact⟨(fun v hv=>by rw[HW.out] at hv;cases hv;rfl),(fun h=>by rw[HW.out] at h;cases h),HB.out⟩
     | false =>
      have hw:wholeP s.data.toList=none:=by
       cases hx:wholeP s.data.toList with
       | none=>rfl
       | some v =>
        obtain⟨h1,_,h3⟩:=whole_iff.1 hx;rw[HOK.out] at h1;cases h1;rw[inB_iff.2 h3] at hin;cases hin
      have HW:=hid hw;clear hin hw
      go_wp2_with fail
      go_at_call 54;refine(ask_f 4 _).mono ?_;rintro e w4 ⟨rfl,hb9⟩;replace HB:=hdT HB hb9;clear hb9 
      go_wp2_with fail
      exact⟨rfl,(fun v hv=>by rw[HW.out] at hv;cases hv),(fun _=>rfl),HB.out⟩
   · have hs2:¬(⟨(itoa n).toArray⟩:ByteArray)=s:=fun h=>heq (toList_eq.1 h)
     have hw:wholeP s.data.toList=none:=by
      cases hx:wholeP s.data.toList with
      | none=>rfl
      | some v =>
       obtain⟨h1,h2,h3⟩:=whole_iff.1 hx;rw[HOK.out] at h1;cases h1;exact absurd h2 heq
     have HW:=hid hw
     have hsb:(itoa n == s.toList)=false:=by rw[ByteArray.toList_eq];simpa using heq
     clear heq hw hs2
     go_wp2_with fail
     go_at_call 54;refine(ask_f 4 _).mono ?_;rintro e w4 ⟨rfl,hb9⟩;replace HB:=hdT HB hb9;clear hb9 
     go_wp2_with fail
     exact⟨rfl,(fun v hv=>by rw[HW.out] at hv;cases hv),(fun _=>rfl),HB.out⟩
 · obtain⟨⟨te,pe,rfl⟩,hno⟩:=hv2 hv
   have hw:wholeP s.data.toList=none:=by
    cases hx:wholeP s.data.toList with
    | none=>rfl
    | some v=>exact absurd (whole_iff.1 hx).1 (hno v)
   have HW:=hid hw;clear hv1 hv2 hno hv hw
   go_wp2_with fail
   go_at_call 54;refine(ask_f 4 _).mono ?_;rintro e w4 ⟨rfl,hb9⟩;replace HB:=hdT HB hb9;clear hb9 
   go_wp2_with fail
   exact⟨rfl,(fun v hv=>by rw[HW.out] at hv;cases hv),(fun _=>rfl),HB.out⟩
end Go.Proofs.YtkhcliibilkefaaGreatDoor
namespace Go.Proofs.YtkhcliibilkefaaGreatDoor
open Lib (hid)
open Go.RowKit Go.Proofs Go.Lib Go.Sort
def encStr (s:ByteArray):List Value:=[.string s]
theorem encStr_len (s:ByteArray):(encStr s).length=1:=rfl
theorem parts_le (c:UInt8):∀(l:List UInt8),∀ p∈partsP c l,p.length≤l.length
 | [],p,h=>by simp[partsP] at h;subst h;simp
 | x::l,p,h=>by
  have ih:=parts_le c l;unfold partsP at h
  split at h
  · rcases List.mem_cons.1 h with rfl | h
    · simp
    · have:=ih p h;simp;omega
  · cases hp:partsP c l with
    | nil=>exact absurd hp (parts_ne c l)
    | cons q qs =>
     rw[hp] at h ih
     rcases List.mem_cons.1 h with rfl | h
     · have:=ih q (by simp);simp;omega
     · have:=ih p (by simp[h]);simp;omega
theorem flat_str:∀ L:List ByteArray,L.flatMap encStr=L.map Value.string
 | []=>rfl
 | s::L=>by rw[List.flatMap_cons,flat_str L];rfl
theorem split_c (s:ByteArray)(hs:s.size≤100000){w:World}(hl:Lay w):Calls Tryz.prog 52 #[.string s,.string ⟨#[32]⟩] w fun e w'=>∃(g:Nat) (L:List ByteArray),
 e=.returned (.slice (some ⟨g,0,none⟩) L.length L.length)∧L.map (·.data.toList)=partsP 32 s.data.toList∧Rd encStr 1 w' (some ⟨g,0,none⟩) L.length L∧w.heap.size≤g∧Below w.heap.size w w':=by
 obtain⟨m,hm⟩:=hl.m0;refine(strings_Split s ⟨#[32]⟩ m w (by omega) hm (by decide)).mono ?_;rintro e w' ⟨rfl,rfl⟩;have hlen:=splitB_all ⟨#[32]⟩ (by decide) 0 _ s rfl;have hdat:=splitB_data ⟨#[32]⟩ 0 (countB s ⟨#[32]⟩) s;obtain⟨L,hL⟩:∃ L,L=splitB ⟨#[32]⟩ 0 (countB s ⟨#[32]⟩) s:=⟨_,rfl⟩;rw[← hL] at hlen hdat ⊢;refine⟨w.heap.size,L,by rw[hlen],?_,?_,Nat.le_refl _,(Below.refl _ w).alloc (Nat.le_refl _) _⟩
 · rw[hdat]
   refine split_parts 32 s.data.toList _ ?_;show countB s ⟨#[32]⟩=s.data.toList.count 32;rw[← count_one]
 · refine Rd.of_blkE encStr_len (Blk.new w _ _) ?_ rfl
   rw[List.toList_toArray,flat_str]
end Go.Proofs.YtkhcliibilkefaaGreatDoor
namespace Go.Proofs.YtkhcliibilkefaaGreatDoor
open Lib (hid)
open Go.RowKit Go.Proofs
attribute [local go_sem ↓] Go.wp_at_zero Go.wp_at_succ
def checkL (LL:List ByteArray):Int:=if 60<LL.length then 3 else if ∀ p∈LL,p.size≤300 then 0 else 3
theorem str_at {W:World}{A:Option Addr}{n i:Nat}{L:List ByteArray}(h:Rd encStr 1 W A n L)(hi:i<n):∃ b o p,A=some ⟨b,o,none⟩∧L[i]?=some p∧W.cell? ⟨b,o+i,none⟩=some (.string p):=by
 obtain⟨b,o,y,e,_,hy,hc⟩:=h.at_ hi;exact⟨b,o,y,e,hy,by simpa using hc 0 _ rfl⟩
theorem chkL_c {A:Option Addr}{n c:Nat}{LL:List ByteArray}{w:World}(h:Rd encStr 1 w A n LL) :
 Calls Tryz.prog 24 #[.slice A n c] w fun e w'=>e=.returned (.int .i64 (checkL LL))∧Below w.heap.size w w':=by
 have hlen:=h.len
 by_cases hn:60<n
 · have hq:(60:Int)<(n:Int):=by omega
   have hck:checkL LL=3:=by unfold checkL;rw[if_pos (by omega)]
   rw[hck];clear hck hlen h
   go_enter Tryz.func24,Tryz.ntmps24
   go_wp2_with fail
   go_ret
   exact⟨rfl,Below.refl _ _⟩
 · have hq:¬(60:Int)<(n:Int):=by omega
   have H:=hid h;have HLEN:=hid hlen;clear hlen h
   go_enter Tryz.func24,Tryz.ntmps24
   go_wp2_with fail
   go_loopw [10] (fun i wr=>∃ k:Nat,k≤n∧i=.int .i64 k∧(∀ p∈LL.take k,p.size≤300)∧wr=w) (fun i _=>n - (intOf i).toNat)
   case atStart=>exact⟨0,Nat.zero_le _,rfl,by simp,rfl⟩
   case round =>
    obtain⟨k,hk,rfl,hall,rfl⟩:=hrel;have HALL:=hid hall;clear hall
    by_cases hlt:k<n
    · obtain⟨b,o,p,rfl,hp,c0⟩:=str_at H.out hlt
      have HP:=hid hp
      have hi1:(k:Int)<(n:Int):=by omega
      have hi0:(0:Int)≤(k:Int):=by omega
      clear hp
      by_cases hps:p.size≤300
      · have hqp:¬(300:Int)<(p.size:Int):=by omega
        go_wp2_with fail
        go_roundw
        case rel =>
         refine⟨k+1,by omega,by go_num,fun q hq9=>?_,by trivial⟩;rw[List.take_add_one,HP.out] at hq9
         rcases List.mem_append.1 hq9 with h9 | h9
         · exact HALL.out q h9
         · obtain rfl:q=p:=by simpa using h9
           exact hps
        case measure=>simp[intOf]<;>omega
      · have hqp:(300:Int)<(p.size:Int):=by omega
        have hck:checkL LL=3:=by
         unfold checkL;rw[if_neg (by have:=HLEN.out;omega),if_neg (fun h9=>hps (h9 p (List.mem_of_getElem? HP.out)))]
        have HCK:=hid hck;clear hck
        go_wp2_with fail
        (try rw[Exit.noGoto_ret])
        go_ret
        exact⟨by rw[HCK.out];rfl,Below.refl _ _⟩
    · obtain rfl:k=n:=by omega
      have hck:checkL LL=0:=by
       unfold checkL;rw[if_neg (by have:=HLEN.out;omega),if_pos (fun p hp=>HALL.out p (by rw[← HLEN.out,List.take_length];exact hp))]
      have HCK:=hid hck;clear hck
      go_wp2_with fail
      go_ret
      exact⟨by rw[HCK.out];rfl,Below.refl _ _⟩
theorem rd_of_any {α:Type}{enc:α→List Value}{k:Nat}(henc:∀ x,(enc x).length=k){w:World}{g n:Nat}{t:TypeId}{cs:Array Value}{fr:Nat×Nat}{l:List α}(h:w.heap[g]?=some (.cells cs t fr))(hc:∀(j:Nat) (v:Value),(l.flatMap enc)[j]?=some v→cs[j]?=some v)(hl:l.length=n) :
 Rd enc k w (some ⟨g,0,none⟩) n l:=by
 refine⟨hl,fun hn=>⟨g,0,rfl,(Array.getElem?_eq_some_iff.1 h).1,fun i x hx j v hv=>?_⟩⟩;have h1:=flatMap_get henc l i x j v hx hv;rw[Nat.zero_add,cell_of_row w g _ cs t fr h];exact hc _ _ h1
theorem flat_u8 (l:List UInt8):l.flatMap encB=l.map u8V:=by
 induction l with
 | nil=>rfl
 | cons x l ih=>rw[List.flatMap_cons,ih];rfl
theorem bytes_of (s:ByteArray)(W:World):∃(W':World) (c:Nat),(convert 9 54 (.string s)).run Tryz.prog W=.ok (.slice (some ⟨W.heap.size,0,none⟩) s.size c) W'∧Rd encB 1 W' (some ⟨W.heap.size,0,none⟩) s.size s.data.toList∧Below W.heap.size W W'∧s.size≤c:=by
 refine⟨_,_,run_bytes_of_string W 9 54 5 s Tryz.underlying9 Tryz.underlying54 Tryz.underlying5,?_,?_,Nat.le_add_right _ _⟩
 · refine rd_of_any encB_len (heap_alloc_new W.drew _) (fun j v hv=>?_) rfl
   rw[flat_u8] at hv
   have hj:j<s.data.size:=by have:=(List.getElem?_eq_some_iff.1 hv).1;simpa using this
   rw[bytesRow_at s _ j hj];simp only[List.getElem?_map,Array.getElem?_toList,Option.map_eq_some_iff] at hv;obtain⟨a,ha,rfl⟩:=hv;rw[(Array.getElem?_eq_some_iff.1 ha).2]
   rfl
 · exact((Below.refl _ W).drew).alloc (Nat.le_refl _) _
theorem str_eq {b:ByteArray}{l:List UInt8}(h:b.data.toList=l):Value.string b=str l:=by subst h;rfl
theorem data_app (a b:ByteArray):(a++b).data.toList=a.data.toList++b.data.toList:=by simp
theorem add_run (a b:ByteArray)(h:a.size+b.size≤1000000000)(W:World):(binOp .add 9 (.string a) (.string b)).run Tryz.prog W=.ok (.string (a++b)) W:=by
 have h1:¬(((a.size+b.size:Nat):Int)>IntKind.i64.max):=by
  have:IntKind.i64.max=9223372036854775807:=by decide
  omega
 have h2:(Op.stringOp .add a b).run Tryz.prog W=.ok (.string (a++b)) W:=by
  unfold Op.stringOp;simp only[if_neg h1]
  rfl
 exact h2
theorem add_lists (a b:ByteArray)(l:List UInt8)(hl:a.data.toList++b.data.toList=l)(hn:l.length≤1000000000)(W:World):(binOp .add 9 (.string a) (.string b)).run Tryz.prog W=.ok (str l) W:=by
 subst hl;rw[List.length_append] at hn;rw[add_run a b hn,str_eq (data_app a b)]
theorem add_strs (a b:List UInt8)(hn:a.length+b.length≤1000000000)(W:World):(binOp .add 9 (str a) (str b)).run Tryz.prog W=.ok (str (a++b)) W :=
 add_lists ⟨a.toArray⟩ ⟨b.toArray⟩ _ rfl (by simpa using hn) W
theorem add_sr (a:List UInt8)(s:ByteArray)(l:List UInt8)(hl:a++s.data.toList=l)(hn:l.length≤1000000000)(W:World):(binOp .add 9 (str a) (.string s)).run Tryz.prog W=.ok (str l) W :=
 add_lists ⟨a.toArray⟩ s l (by simpa using hl) hn W
theorem chk_snoc {l:List UInt8}{j c:Nat}{x:UInt8}(h:l[j]?=some x):chkW c (l.take (j+1))=chkStep (chkW c (l.take j)) x:=by
 unfold chkW;rw[List.take_add_one,h,Option.toList_some,List.foldl_append];rfl
theorem record_c (s:ByteArray)(c:Nat)(w:World)(hs:s.size≤1000)(hc:c<11881357) :
 Calls Tryz.prog 50 #[.string s,.int .i64 c] w fun e w'=>e=.returned (.tuple #[str (recW s.data.toList c),.int .i64 (chkW c s.data.toList:Nat)])∧Below w.heap.size w w':=by
 obtain⟨W1,cb,hcv,hrd,hb,hcb⟩:=bytes_of s w;have HRD:=hid hrd;have HB:=hid hb;have HSL:=hid (show s.data.toList.length=s.size from rfl);have HC:=hid hc;clear hrd hb hc
 go_enter Tryz.func50,Tryz.ntmps50
 go_wp2_with fail
 go_loopw [1,11] (fun cv iv wr=>∃ j:Nat,j≤s.size∧iv=.int .i64 j∧cv=.int .i64 (chkW c (s.data.toList.take j):Nat)∧wr=W1) (fun _ iv _=>s.size - (intOf iv).toNat)
 case atStart=>exact⟨0,Nat.zero_le _,rfl,rfl,rfl⟩
 case round =>
  obtain⟨j,hj,rfl,rfl,rfl⟩:=hrel;clear hcv;have hkb:=chk_lt HC.out (s.data.toList.take j)
  by_cases hlt:j<s.size
  · obtain⟨g,o,x,e,_,hx,hxc⟩:=HRD.out.at_ hlt
    cases e;have c0:=hxc 0 _ rfl;simp only[Nat.zero_add,Nat.mul_one,Nat.add_zero] at c0
    have hi1:(j:Int)<(s.size:Int):=by omega
    have hi0:(0:Int)≤(j:Int):=by omega
    have hx8:=x.toNat_lt;obtain⟨k,hk⟩:∃ k,k=chkW c (s.data.toList.take j):=⟨_,rfl⟩;rw[← hk] at hkb ⊢
    have hst:((37 * (k:Int)+(x.toNat:Int)+7).tmod 11881357)=((chkW c (s.data.toList.take (j+1)):Nat):Int):=by
     rw[chk_snoc hx,← hk,Int.tmod_eq_emod_of_nonneg (by omega)];unfold chkStep;omega
    have hw8:IntKind.i64.wrap (x.toNat:Int)=(x.toNat:Int):=wi (by omega);have HST:=hid hst;clear hk hxc hx
    go_wp2_with fail
    go_roundw
    case rel =>
     refine⟨j+1,by omega,by go_num,?_,by trivial⟩;rw[← HST.out]
    case measure=>simp[intOf]<;>omega
  · obtain rfl:j=s.size:=by omega
    have hall:s.data.toList.take s.size=s.data.toList:=by rw[← HSL.out,List.take_length]
    rw[hall] at hkb ⊢;clear hall hlt hj;have HKB:=hid hkb;clear hkb;obtain⟨l1,hl1⟩:∃ l1,l1=letW false 3 s.size:=⟨_,rfl⟩;obtain⟨l2,hl2⟩:∃ l2,l2=letW true 3 s.size:=⟨_,rfl⟩;obtain⟨l3,hl3⟩:∃ l3,l3=letW false 5 (chkW c s.data.toList):=⟨_,rfl⟩
    have hn1:l1.length=3:=by rw[hl1,let_len]
    have hn2:l2.length=3:=by rw[hl2,let_len]
    have hn3:l3.length=5:=by rw[hl3,let_len]
    have hsl:=HSL.out;obtain⟨m1,hm1⟩:∃ m,m=123::l1:=⟨_,rfl⟩
    have hk1:m1.length=4:=by rw[hm1,List.length_cons,hn1]
    have a1:∀ W,(binOp .add 9 (.string ⟨#[123]⟩) (str l1)).run Tryz.prog W=.ok (str m1) W:=fun W=>add_lists ⟨#[123]⟩ ⟨l1.toArray⟩ m1 hm1.symm (by omega) W;obtain⟨m2,hm2⟩:∃ m,m=m1++l2:=⟨_,rfl⟩
    have hk2:m2.length=7:=by rw[hm2,List.length_append,hk1,hn2]
    have a2:=fun W=>add_strs m1 l2 (by omega) W;rw[← hm2] at a2;obtain⟨m3,hm3⟩:∃ m,m=m2++l3:=⟨_,rfl⟩
    have hk3:m3.length=12:=by rw[hm3,List.length_append,hk2,hn3]
    have a3:=fun W=>add_strs m2 l3 (by omega) W;rw[← hm3] at a3;obtain⟨m4,hm4⟩:∃ m,m=m3++[125]:=⟨_,rfl⟩
    have hk4:m4.length=13:=by rw[hm4,List.length_append,hk3];rfl
    have a4:=add_sr m3 ⟨#[125]⟩ m4 hm4.symm (by omega);obtain⟨m5,hm5⟩:∃ m,m=m4++s.data.toList:=⟨_,rfl⟩
    have hk5:m5.length=13+s.size:=by rw[hm5,List.length_append,hk4,hsl]
    have a5:=add_sr m4 s m5 hm5.symm (by omega);have a6:=add_sr m5 ⟨#[10]⟩ (recW s.data.toList c) (by rw[hm5,hm4,hm3,hm2,hm1,hl1,hl2,hl3];simp[recW,headW,hsl]) (by rw[rec_len,hsl];omega);clear hm1 hm2 hm3 hm4 hm5 hk1 hk2 hk3 hk4 hk5
    have hc1:∀ W,Calls Tryz.prog 69 #[.int .i64 s.size,.int .i64 3,.bool false] W fun e w'=>e=.returned (str l1)∧Below W.heap.size W w':=fun W=>by rw[hl1];exact letters_c false 3 s.size W (by omega) (by omega)
    have hc2:∀ W,Calls Tryz.prog 69 #[.int .i64 s.size,.int .i64 3,.bool true] W fun e w'=>e=.returned (str l2)∧Below W.heap.size W w':=fun W=>by rw[hl2];exact letters_c true 3 s.size W (by omega) (by omega)
    have hc3:∀ W,Calls Tryz.prog 69 #[.int .i64 (chkW c s.data.toList:Nat),.int .i64 5,.bool false] W fun e w'=>e=.returned (str l3)∧Below W.heap.size W w':=fun W=>by rw[hl3];exact letters_c false 5 _ W (by omega) (by have:=HKB.out;omega)
    have HC1:=hid hc1;have HC2:=hid hc2;have HC3:=hid hc3;clear hl1 hl2 hl3 hn1 hn2 hn3 hsl hc1 hc2 hc3
    go_wp2_with fail
    refine(HC1.out _).mono ?_;rintro e w2 ⟨rfl,hb9⟩;replace HB:=hdT HB hb9;clear hb9 
    go_wp2_with fail
    refine(HC2.out _).mono ?_;rintro e w3 ⟨rfl,hb9⟩;replace HB:=hdT HB hb9;clear hb9 
    go_wp2_with fail
    refine(HC3.out _).mono ?_;rintro e w4 ⟨rfl,hb9⟩;replace HB:=hdT HB hb9;clear hb9 
    go_wp2_with fail
    go_ret2
    exact⟨rfl,HB.out⟩
theorem idx_str (s:ByteArray){j:Nat}{x:UInt8}(h:s.data.toList[j]?=some x)(W:World):(Instr.index 9 (.string s) (.int .i64 j)).run Tryz.prog W=.ok (.int .u8 (x.toNat:Int)) W:=by
 have hk:j<s.data.size:=by simpa using (List.getElem?_eq_some_iff.1 h).1
 rw[run_index_string _ _ _ _ _ Tryz.underlying9,dif_pos ⟨by omega,by show(j:Int)<((s.data.size:Nat):Int);omega⟩]
 have h1:s.data[j]=x:=by
  have:=(List.getElem?_eq_some_iff.1 h).2
  simpa using this
 rw[← h1]
 rfl
def mapOf (ps:List (Int×Int))(j:Int):Int×Int:=if j<0 then (0,0) else ps.getD j.toNat (0,0)
theorem mapOf_nil:mapOf []=fun _=>(0,0):=by
 funext j;unfold mapOf;split<;>simp
theorem mapOf_get {ps:List (Int×Int)}{k:Nat}{r:Int×Int}(h:ps[k]?=some r):mapOf ps (k:Int)=r:=by
 unfold mapOf;rw[if_neg (by omega)];simp[List.getD,h]
theorem mapOf_push (ps:List (Int×Int))(r:Int×Int):(fun j=>if j=((ps.length:Nat):Int) then r else mapOf ps j)=mapOf (ps++[r]):=by
 funext j
 unfold mapOf
 by_cases h0:j<0
 · rw[if_neg (by omega),if_pos h0,if_pos h0]
 · rw[if_neg h0,if_neg h0]
   by_cases h1:j=(ps.length:Int)
   · subst h1;simp[List.getD]
   · rw[if_neg h1]
     simp only[List.getD]
     by_cases h2:j.toNat<ps.length
     · rw[List.getElem?_append_left h2]
     · rw[List.getElem?_eq_none (by omega),List.getElem?_eq_none (by simp;omega)]
theorem mapOf_set {ps:List (Int×Int)}{k:Nat}(hk:k<ps.length)(r:Int×Int):(fun j=>if j=(k:Int) then r else mapOf ps j)=mapOf (ps.set k r):=by
 funext j
 unfold mapOf
 by_cases h0:j<0
 · rw[if_neg (by omega),if_pos h0,if_pos h0]
 · rw[if_neg h0,if_neg h0]
   simp only[List.getD,List.getElem?_set]
   by_cases h1:j=(k:Int)
   · subst h1;simp[hk]
   · rw[if_neg h1,if_neg (show ¬ k=j.toNat by omega)]
theorem wpList_lookF {w:World}{ops:Array Oper}{rest:List Oper}{o:Oper}{a:Act}{Q:Exit→Act→World→Prop}
 (hg:o.guard=none) (m x:Operand) (hop:o.op=Op.lookup 228 m x false) (M n:Nat) (f:Int→Int×Int) (hm:a.eval m=.map (some M)) (h:MapF w M n f)
 (k:Int) (hx:a.eval x=.int .i64 k) (hk:-9223372036854775808≤k∧k≤9223372036854775807) (r:Int×Int) (hr:f k=r)
 (hK:wpList Tryz.prog ops Q rest (a.put o.dst (.agg #[.int .i64 r.1,.int .i64 r.2])) w) :
 wpList Tryz.prog ops Q (o::rest) a w:=by
 refine wpList_plain hg fun K' hK'=>?_;have hrun:=h.look hk;rw[hr] at hrun;unfold Oper.wp;simp[execOp,hop,hm,hx,hrun,Result.andThen];exact hK' _ _ hK
theorem fieldR0 (a b:Int)(W:World):(Instr.field 177 (.agg #[.int .i64 a,.int .i64 b]) 0).run Tryz.prog W=.ok (.int .i64 a) W:=by kernel_rfl
theorem fieldR1 (a b:Int)(W:World):(Instr.field 177 (.agg #[.int .i64 a,.int .i64 b]) 1).run Tryz.prog W=.ok (.int .i64 b) W:=by kernel_rfl
def HearP (v:Vly)(l:List Evd)(sn:Nat)(w:World)(e:Ending)(w':World):Prop :=
 ((∃ A c,allB upR (leftsL v l)=true∧e=.returned (.tuple #[.slice A sn c,.int .i64 0])∧Rd enc2 2 w' A sn (leftsL v l)∧∀ ad,A=some ad→w.heap.size≤ad.block) ∨
  (allB upR (leftsL v l)=false∧e=.returned (.tuple #[.slice none 0 0,.int .i64 9])))∧Below w.heap.size w w'
theorem HearP.yes {v:Vly}{l:List Evd}{sn:Nat}{w w':World}{A:Option Addr}{c:Nat}(h:allB upR (leftsL v l)=true)(hr:Rd enc2 2 w' A sn (leftsL v l))(hn:∀ ad,A=some ad→w.heap.size≤ad.block)(hb:Below w.heap.size w w'):HearP v l sn w (.returned (.tuple #[.slice A sn c,.int .i64 0])) w':=⟨.inl ⟨A,c,h,rfl,hr,hn⟩,hb⟩
theorem HearP.no {v:Vly}{l:List Evd}{sn:Nat}{w w':World}(h:allB upR (leftsL v l)=false)(hb:Below w.heap.size w w'):HearP v l sn w (.returned (.tuple #[.slice none 0 0,.int .i64 9])) w':=⟨.inr ⟨h,rfl⟩,hb⟩
theorem Hear_arg {v:Vly}{l:List Evd}{PA SA LA:Option Addr}{pn pc sn sc ln lc:Nat}{w:World}(h:RdV w PA pn SA sn v)(hok:VOk v)(hL:Rd encE 3 w LA ln l)(hln:ln≤maxLen)(hno:20<l.length∨allB (evOk sn) l=false) :
 Calls Tryz.prog 107 #[.agg #[.slice PA pn pc,.slice SA sn sc,.int .i64 v.s0,.int .i64 v.s1,.int .i64 v.s2],.slice LA ln lc] w
  fun e w'=>e=.returned (.tuple #[.slice none 0 0,.int .i64 (if 20<l.length then 3 else 2)])∧Below w.heap.size w w':=by
 have hlp:=h.pars.len;have hls:=h.sls.len;have hll:=hL.len;have hpn:=hok.pn;have hsn:=hok.sn;have hb0:Below w.heap.size w (w.alloc (.cells (vA PA pn pc SA sn sc v) 39)):=(Below.refl _ w).alloc (Nat.le_refl _) _;have HC:=hid (checkV_c (pc:=pc) (sc:=sc) (h.below hb0) (by unfold maxLen;omega) (by unfold maxLen;omega));rw[errV_zero.2 hok] at HC;have HB:=hid hb0;have HX:=hid (Blk.new w 39 (vA PA pn pc SA sn sc v));have HL:=hid hL;have HLN:=hid hln
 have hsn10:sn≤10:=by omega
 clear h hb0 hok hL hpn hsn hlp hls
 by_cases h20:20<l.length
 · rw[if_pos h20]
   have hg:(20:Int)<(ln:Int):=by omega
   unfold maxLen at hln;clear hno h20 hll
   go_enter Tryz.func107,Tryz.ntmps107
   go_wp2_with fail
   go_step3
   go_wp2_with fail
   refine HC.out.mono ?_;rintro e w2 ⟨rfl,hb⟩;have HB2:=hid (below_tr HB.out hb);clear hb
   go_wp2_with fail
   (try rw[Exit.noGoto_ret])
   go_ret2
   exact⟨rfl,HB2.out⟩
 · rw[if_neg h20]
   have hev:=hno.resolve_left h20
   have hg:¬(20:Int)<(ln:Int):=by omega
   unfold maxLen at hln;have HEV:=hid hev;clear hno h20 hll hev
   go_enter Tryz.func107,Tryz.ntmps107
   go_wp2_with fail
   go_step3
   go_wp2_with fail
   refine HC.out.mono ?_;rintro e w2 ⟨rfl,hb⟩;have hx2:=HX.out.below hb (by simp);have HB2:=hid (below_tr HB.out hb);have HAL:=hid (allEv_c (p:=evOk sn) (c:=lc) w.heap.size w2 (HL.out.below (below_tr HB.out hb)) HLN.out (fun i x W _ hW=>Hear1_c x (hx2.below hW hx2.lt) hsn10));rw[HEV.out] at HAL;clear hb hx2
   go_wp2_with (go_at_call 141;refine HAL.out.mono ?_;rintro e w5 ⟨rfl,hb5⟩)
   (try rw[Exit.noGoto_ret])
   go_ret2
   exact⟨rfl,below_tr HB2.out hb5⟩
theorem Hear_c {v:Vly}{l:List Evd}{PA SA LA:Option Addr}{pn pc sn sc ln lc:Nat}{w:World}(h:RdV w PA pn SA sn v)(hok:VOk v)(hL:Rd encE 3 w LA ln l)(hln:ln≤20)(hev:allB (evOk sn) l=true) :
 Calls Tryz.prog 107 #[.agg #[.slice PA pn pc,.slice SA sn sc,.int .i64 v.s0,.int .i64 v.s1,.int .i64 v.s2],.slice LA ln lc] w (HearP v l sn w):=by
 have hlp:=h.pars.len;have hls:=h.sls.len;have hll:=hL.len;have hpn:=hok.pn;have hsn:=hok.sn;obtain⟨i0,hi0,hz0,hz1,hz2⟩:=info_parts infoRg;have HI:=hid hi0;have HZ0:=hid hz0;have HZ1:=hid hz1;have HZ2:=hid hz2;clear hi0 hz0 hz1 hz2;have hb0:Below w.heap.size w (w.alloc (.cells (vA PA pn pc SA sn sc v) 39)):=(Below.refl _ w).alloc (Nat.le_refl _) _;have HC:=hid (checkV_c (pc:=pc) (sc:=sc) (h.below hb0) (by unfold maxLen;omega) (by unfold maxLen;omega));rw[errV_zero.2 hok] at HC;have HB:=hid hb0;have HX:=hid (Blk.new w 39 (vA PA pn pc SA sn sc v));have HV:=hid h;have HL:=hid hL;have HEV:=hid hev;have HLS:=hid hls
 have hsn10:sn≤10:=by omega
 have hg:¬(20:Int)<(ln:Int):=by omega
 have hgd:decide ((20:Int)<(ln:Int))=false:=decide_eq_false hg;have HLL:=hid hll
 have HEB:=hid (fun(i:Nat) (x:Evd) (hx:l[i]?=some x)=>show(0≤x.k∧x.k<sn)∧0≤x.lo∧x.lo≤x.hi∧x.hi≤12 from by
  have:=allB_iff.1 hev i x hx;simp only[evOk,Bool.and_eq_true,inB_iff,upB_iff] at this
  omega)
 have HSB:=hid (fun(i:Nat) (x:Sli) (hx:v.sls[i]?=some x)=>show 0≤x.lo∧x.lo≤x.hi∧x.hi≤12 from by
  have:=hok.slide hx;have:=wayTo_len this.1
  omega)
 clear h hb0 hok hL hpn hsn hlp hls hev hll hg;have hmm:=@run_makeMap Tryz.prog
 go_enter Tryz.func107,Tryz.ntmps107
 go_wp2_with fail
 go_step3
 go_wp2_with fail
 refine HC.out.mono ?_;rintro e w2 ⟨rfl,hb⟩;have hx2:=HX.out.below hb (by simp);have HX2:=hid hx2;have HB2:=hid (below_tr HB.out hb);have HAL:=hid (allEv_c (p:=evOk sn) (c:=lc) w.heap.size w2 (HL.out.below (below_tr HB.out hb)) (by unfold maxLen;omega) (fun i x W _ hW=>Hear1_c x (hx2.below hW hx2.lt) hsn10));rw[HEV.out] at HAL;clear hb hx2 HX
 go_upto_region 9 with (go_at_call 141;refine HAL.out.mono ?_;rintro e w5 ⟨rfl,hb5⟩)
 have hx5:=HX2.out.below hb5 HX2.out.lt;have HX5:=hid hx5;have HB5:=hid (below_tr HB2.out hb5);have c1:=hx5.cell 1;simp at c1;have hlt5:=hx5.lt;have HM0:=hid (MapF.made w5);clear hb5 hx5 HAL
 go_wp2_with fail
 obtain⟨M,hM⟩:∃ M,M=w5.heap.size:=⟨_,rfl⟩;have hb6:Below w5.heap.size w5 (w5.alloc (.map #[] 0)):=(Below.refl _ w5).alloc (Nat.le_refl _) _;have HX6:=hid (HX5.out.below hb6 hlt5);have HB6:=hid (below_tr HB5.out hb6)
 have hMw:w.heap.size<M:=by omega
 rw[← hM] at HM0 ⊢;clear hM hb6 HX5 HB5 HX2 HB2 c1 hlt5 hmm
 go_loopw [36] (fun i wr=>∃ k:Nat,k≤sn∧i=.int .i64 k∧MapF wr M k (mapOf ((leftsL v []).take k))∧Blk wr w.heap.size 39 (vA PA pn pc SA sn sc v)∧Below w.heap.size w wr) (fun i _=>sn - (intOf i).toNat)
 case atStart=>exact⟨0,Nat.zero_le _,rfl,by rw[List.take_zero,mapOf_nil];exact HM0.out,HX6.out,HB6.out⟩
 case round =>
  clear HX6 HB6 HM0;obtain⟨k,hk,rfl,hm,hbx,hb⟩:=hrel
  by_cases hlt:k<sn
  · obtain⟨b,o,x,hA,hblt,hx,h0,h1,h2,h3⟩:=(HV.out.sls.below hb).atS hlt
    subst hA;have hsb:=HSB.out k x hx
    have hkl:((leftsL v []).take k).length=k:=by rw[List.length_take,leftsL_len];have:=HLS.out;omega
    have hpush:=mapOf_push ((leftsL v []).take k) (x.lo,x.hi);rw[hkl,show(leftsL v []).take k++[(x.lo,x.hi)]=(leftsL v []).take (k+1) by rw[List.take_add_one,leftsL_get hx];rfl] at hpush;have HP:=hid hpush;have hb1:Below wr.heap.size wr (wr.alloc (.cells #[.slice x.A x.n x.c,.int .i64 x.rate,.int .i64 x.lo,.int .i64 x.hi] 179)):=(Below.refl _ wr).alloc (Nat.le_refl _) _;have HM1:=hid (hm.below hb1);have HX1:=hid (hbx.below hb1 hbx.lt);have HB1:=hid (below_tr hb hb1)
    have hkn:(k:Int)<(sn:Int):=by omega
    have hk0:(0:Int)≤(k:Int):=by omega
    have hM1:=hm.lt;clear hkl hpush hb1 hm hbx hb hx
    go_wp2_with (at_mapUpdate;go_must (refine wpList_mapF rfl _ _ _ rfl M k _ rfl HM1.out (k:Int) rfl (by omega) (by omega) (x.lo,x.hi) rfl ?_;intro w1 hm1 hg1))
    rw[HP.out] at hm1;have HM2:=hid hm1;have HX2:=hid (HX1.out.grown hg1 (by intro e;have:=Option.some.inj e;omega));have HB2:=hid (HB1.out.grown hg1 HB1.out.size (fun g hg=>by cases hg;omega));clear hm1 hg1
    go_wp2_with fail
    go_roundw
    case rel=>exact⟨k+1,by omega,by go_num,HM2.out,HX2.out,HB2.out⟩
    case measure=>simp[intOf]<;>omega
  · obtain rfl:k=sn:=by omega
    rw[show(leftsL v []).take k=leftsL v (l.take 0) by rw[List.take_zero];exact List.take_of_length_le (by rw[leftsL_len];have:=HLS.out;omega)] at hm;have HM1:=hid hm;have HX1:=hid hbx;have HB1:=hid hb;clear hm hbx hb
    go_wp2_with fail
    go_loopw [48] (fun i wr=>∃ j n:Nat,j≤ln∧n≤100+j∧i=.int .i64 j∧MapF wr M n (mapOf (leftsL v (l.take j)))∧Blk wr w.heap.size 39 (vA PA pn pc SA k sc v)∧Below w.heap.size w wr) (fun i _=>ln - (intOf i).toNat)
    case atStart=>exact⟨0,k,Nat.zero_le _,by omega,rfl,HM1.out,HX1.out,HB1.out⟩
    case round =>
     clear HX1 HB1 HM1;obtain⟨j,n,hj,hn,rfl,hm,hbx,hb⟩:=hrel
     by_cases hlt2:j<ln
     · obtain⟨b,o,x,hA,hblt,hx,h0,h1,h2⟩:=(HL.out.below hb).at3 hlt2
       subst hA;have heb:=HEB.out j x hx;obtain⟨q,hq⟩:∃ q:Nat,x.k=(q:Int):=⟨x.k.toNat,by omega⟩
       have hqk:q<k:=by omega
       obtain⟨r,hr⟩:∃ r,(leftsL v (l.take j))[q]?=some r:=⟨_,List.getElem?_eq_getElem (by rw[leftsL_len];have:=HLS.out;omega)⟩;have hset:=mapOf_set (ps:=leftsL v (l.take j)) (k:=q) (by rw[leftsL_len];have:=HLS.out;omega) (max r.1 x.lo,min r.2 x.hi);rw[← leftsL_snoc hq hr,show l.take j++[x]=l.take (j+1) by rw[List.take_add_one,hx];rfl] at hset;have HP:=hid hset;have HG:=hid (mapOf_get hr);have hb1:Below wr.heap.size wr (wr.alloc (.cells #[.int .i64 (q:Int),.int .i64 x.lo,.int .i64 x.hi] 186)):=(Below.refl _ wr).alloc (Nat.le_refl _) _;have HM1:=hid (hm.below hb1);have HX1:=hid (hbx.below hb1 hbx.lt);have HB1:=hid (below_tr hb hb1)
       have hjn:(j:Int)<(ln:Int):=by omega
       have hj0:(0:Int)≤(j:Int):=by omega
       have hM1:=hm.lt;rw[hq] at h0;clear hset hb1 hm hbx hb hx hr
       go_wp2_with (first
        | (at_lookup;go_must (refine wpList_lookF rfl _ _ rfl M n _ rfl HM1.out (q:Int) rfl (by omega) r HG.out ?_))
        | (at_mapUpdate;go_must (refine wpList_mapF rfl _ _ _ rfl M n _ rfl (HM1.out.alloc _) (q:Int) rfl (by omega) (by omega) (max r.1 x.lo,min r.2 x.hi) rfl ?_;intro w1 hm1 hg1)))
       rw[HP.out] at hm1;have HM2:=hid hm1;have HX2:=hid ((HX1.out.alloc _).grown hg1 (by intro e;have:=Option.some.inj e;omega));have HB2:=hid ((HB1.out.alloc HB1.out.size _).grown hg1 (by simp;have:=HB1.out.size;simp at this;omega) (fun g hg=>by cases hg;omega));clear hm1 hg1
       go_wp2_with fail
       go_roundw
       case rel=>exact⟨j+1,n+1,by omega,by omega,by go_num,HM2.out,HX2.out,HB2.out⟩
       case measure=>simp[intOf]<;>omega
     · obtain rfl:j=ln:=by omega
       rw[show l.take j=l from List.take_of_length_le (by have:=HLL.out;omega)] at hm;have HM1:=hid hm;have HX1:=hid hbx;have HB1:=hid hb;obtain⟨L,hL⟩:∃ L,L=leftsL v l:=⟨_,rfl⟩;have HLE:=hid hL;have HLN:=hid (show L.length=k by rw[hL,leftsL_len];exact HLS.out);have hMw2:=hm.lt;have c1:=hbx.cell 1;simp at c1;rw[← hL] at hm HM1;obtain⟨W3,hW3⟩:∃ W3,W3=wr:=⟨_,rfl⟩;rw[← hW3] at HM1 HX1 HB1 hMw2 c1 ⊢;clear hm hbx hb hL hW3
       go_wp2_with fail
       go_step3
       go_wp2_with fail
       obtain⟨w0,hw0⟩:∃ w0,w0=w.heap.size:=⟨_,rfl⟩
       have hszw:w0≤W3.heap.size:=by rw[hw0];exact HB1.out.size
       have HW0:=hid hw0;clear hw0
       go_loopw [14,15,76] (fun o er i wr=>∃ t:Nat,t≤k∧i=.int .i64 t∧er=.int .i64 0∧(∀(i:Nat) (r:Int×Int),i<t→L[i]?=some r→upR r=true)∧wr.ownsRow W3.heap.size 177 2 o t ((L.take t).flatMap enc2)∧Below W3.heap.size W3 wr) (fun _ _ i _=>k - (intOf i).toNat)
       case atStart=>exact⟨0,Nat.zero_le _,rfl,rfl,fun i r hi=>by omega,World.ownsRow_nil _ _ _ _,Below.refl _ _⟩
       case round =>
        obtain⟨t,ht,rfl,rfl,hup,hown,hb⟩:=hrel;have HBr:=hid hb;have HO:=hid hown;have HU:=hid hup;have HMt:=hid (HM1.out.below hb)
        by_cases hlt3:t<k
        · obtain⟨r,hr⟩:∃ r,L[t]?=some r:=⟨_,List.getElem?_eq_getElem (by have:=HLN.out;omega)⟩
          have HR:=hid hr;have HG:=hid (mapOf_get hr)
          have htk:(t:Int)<(k:Int):=by omega
          have fr0:=fieldR0 r.1 r.2 wr;have fr1:=fieldR1 r.1 r.2 wr;clear hup hown hb hr
          by_cases hc:r.1≤r.2
          · have hd:decide (r.2<r.1)=false:=decide_eq_false (by omega)
            go_wp2_with (first
             | (at_lookup;go_must (refine wpList_lookF rfl _ _ rfl M _ _ rfl HMt.out (t:Int) rfl (by omega) r HG.out ?_))
             | (at_builtin;go_must (refine wpList_append_own_at _ rfl _ _ 182 rfl W3.heap.size 177 i0 _ 2 16 Tryz.underlying182 HI.out HZ0.out HZ1.out HZ2.out rfl (by decide) _ _ _ rfl (HO.out.alloc _) ⟨wr.heap.size,0,none⟩ 1 1 [.int .i64 r.1,.int .i64 r.2] rfl rfl (fun j u hj=>World.news_of_block (cs:=#[.int .i64 r.1,.int .i64 r.2]) (t:=177) (fr:=(0,0)) (heap_alloc_new wr _) j u hj) (by simp[Value.oneCell']) (by unfold maxLen;omega) (by omega) (by simp;have:=HBr.out.size;omega) ?_;intro v' w1 hown' hgrow _ _)))
            have H1:Hid (w1.ownsRow W3.heap.size 177 2 v' (t+1) ((L.take (t+1)).flatMap enc2)):=by
             rw[List.take_add_one,HR.out,List.flatMap_append];exact hown'
            have H2:=hid ((HBr.out.alloc HBr.out.size _).grown hgrow (by simp;have:=HBr.out.size;omega) (fun g hg=>(HO.out.lt g hg).1));clear hown' hgrow
            go_wp2_with fail
            go_roundw
            case rel=>exact⟨t+1,by omega,by go_num,rfl,fun i r' hi hr'=>by
             by_cases hit:i=t
             · subst hit;rw[HR.out] at hr';cases hr';exact decide_eq_true hc
             · exact HU.out i r' (by omega) hr',H1.out,H2.out⟩
            case measure=>simp[intOf]<;>omega
          · have hd:decide (r.2<r.1)=true:=decide_eq_true (by omega)
            have HF:=hid (show allB upR (leftsL v l)=false from allB_not.2 ⟨t,r,by rw[← HLE.out];exact HR.out,decide_eq_false hc⟩);clear hc
            go_wp2_with (at_lookup;go_must (refine wpList_lookF rfl _ _ rfl M _ _ rfl HMt.out (t:Int) rfl (by omega) r HG.out ?_))
            (try rw[Exit.noGoto_ret])
            go_ret2
            exact HearP.no HF.out (below_tr HB1.out HBr.out)
        · obtain rfl:t=k:=by omega
          have hfin:=hown;obtain⟨A',c',rfl,hc'⟩:=own_form hfin;rw[List.take_of_length_le (by have:=HLN.out;omega)] at hfin;have HRD:=hid (Rd.of_own enc2_len hfin HLN.out)
          have HNW:=hid (show ∀ ad,A'=some ad→w.heap.size≤ad.block from fun ad e=>by
           subst e;have:=(hfin.lt ad.block rfl).1;have:=HW0.out
           omega)
          have HF:=hid (show allB upR (leftsL v l)=true from allB_iff.2 fun i r hr=>by
           rw[← HLE.out] at hr
           exact HU.out i r (by have:=lt_of_get hr;have:=HLN.out;omega) hr)
          clear hup hown hb hfin
          go_wp2_with fail
          (try rw[Exit.noGoto_ret])
          go_ret2
          exact HearP.yes HF.out (by rw[← HLE.out];exact HRD.out) HNW.out (below_tr HB1.out HBr.out)
end Go.Proofs.YtkhcliibilkefaaGreatDoor
