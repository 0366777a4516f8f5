/- VALUES: the session of the document's examples. No program in sight. -/
import Derived.Test.YtkhcliibilkefaaGreatDoorYBearsLaw
import Derived.Test.YtkhcliibilkefaaGreatDoorLose
import Derived.Deep.Quiet
import Derived.BigQuiet
set_option linter.unusedVariables false
set_option linter.unusedSimpArgs false
set_option maxRecDepth 100000
set_option maxHeartbeats 8000000
namespace Go.Proofs.YtkhcliibilkefaaGreatDoor
open Lib (hid)
open Go.RowKit
def springB:List (List UInt8):=[[98,101,100,32,52,48,48,32,57,48,48,32,51,48,48,32,52,48,48,32,53,48,32,54,48,32,48,32,48],
 [98,101,100,32,51,48,48,32,49,48,48,48,32,51,48,48,32,52,48,48,32,53,48,32,54,48,32,48,32,50,48,48],
 [103,114,111,117,110,100,32,50,48,32,51,48,32,53,48,48,32,54,48,48,32,52],
 [99,101,108,108,32,49,48,48,32,49,50,48,32,52,48,48,32,53,48,32,50,48,48,32,45,49,32,48],
 [108,105,110,107,32,48,32,48],
 [97,108,97,114,109,32,54,56,48,32,57,48,48,32,49,50,48,48],
 [119,101,97,116,104,101,114,32,49,48,32,50,48,32,45,50],
 [119,101,97,116,104,101,114,32,52,48,32,54,48,32,53],
 [112,97,114,99,101,108,32,49,48,48,32,56,48,32,53,32,49],
 [112,97,114,99,101,108,32,50,48,48,32,49,53,48,32,49,48,32,49],
 [115,108,105,100,101,32,50,53,32,48],
 [119,97,121,32,48,32,49],
 [101,118,105,100,101,110,99,101,32,48,32,49,32,53],
 [98,117,121,32,49,48,48],
 [104,101,97,114,32,97,53,48,55,48,49,48,50,48,48,48,48,48,51,101,56,102,102,102,102,102,102,102,101,55,52,54,52,101,101,53,97],
 [104,101,97,114,32,97,53]]
theorem spring_vals:(runP Ga.readOf (-1) 0 begS 0 springB).2=[0,0,0,0,0,0,0,0,0,0,0,0,0,0,0,7]∧(runP Ga.readOf (-1) 0 begS 0 springB).1.levels=[2,2]∧(runP Ga.readOf (-1) 0 begS 0 springB).1.bought=[0] ∧
 (runP Ga.readOf (-1) 0 begS 0 springB).1.spent=80∧(runP Ga.readOf (-1) 0 begS 0 springB).1.rds.length=1:=by decide +kernel
theorem spring_bears:bsearchP (fun m=>allLe (runP Ga.readOf 7 m begS 0 springB).1.levels (runP Ga.readOf (-1) 0 begS 0 springB).1.levels) 1001 0 (1000 - rainP [119,101,97,116,104,101,114,32,52,48,32,54,48,32,53])=29:=by decide +kernel
theorem spring_isW:isW [119,101,97,116,104,101,114,32,52,48,32,54,48,32,53]=true:=by decide +kernel
theorem spring_book:bookW [[97],[]] 5=[123,97,97,98,122,122,121,97,97,97,108,100,125,97,10,123,97,97,97,122,122,122,97,97,97,108,100,125,10]:=by decide +kernel
def springL:List ByteArray:=[⟨#[98,101,100,32,52,48,48,32,57,48,48,32,51,48,48,32,52,48,48,32,53,48,32,54,48,32,48,32,48]⟩,
 ⟨#[98,101,100,32,51,48,48,32,49,48,48,48,32,51,48,48,32,52,48,48,32,53,48,32,54,48,32,48,32,50,48,48]⟩,
 ⟨#[103,114,111,117,110,100,32,50,48,32,51,48,32,53,48,48,32,54,48,48,32,52]⟩,
 ⟨#[99,101,108,108,32,49,48,48,32,49,50,48,32,52,48,48,32,53,48,32,50,48,48,32,45,49,32,48]⟩,
 ⟨#[108,105,110,107,32,48,32,48]⟩,
 ⟨#[97,108,97,114,109,32,54,56,48,32,57,48,48,32,49,50,48,48]⟩,
 ⟨#[119,101,97,116,104,101,114,32,49,48,32,50,48,32,45,50]⟩,
 ⟨#[119,101,97,116,104,101,114,32,52,48,32,54,48,32,53]⟩,
 ⟨#[112,97,114,99,101,108,32,49,48,48,32,56,48,32,53,32,49]⟩,
 ⟨#[112,97,114,99,101,108,32,50,48,48,32,49,53,48,32,49,48,32,49]⟩,
 ⟨#[115,108,105,100,101,32,50,53,32,48]⟩,
 ⟨#[119,97,121,32,48,32,49]⟩,
 ⟨#[101,118,105,100,101,110,99,101,32,48,32,49,32,53]⟩,
 ⟨#[98,117,121,32,49,48,48]⟩,
 ⟨#[104,101,97,114,32,97,53,48,55,48,49,48,50,48,48,48,48,48,51,101,56,102,102,102,102,102,102,102,101,55,52,54,52,101,101,53,97]⟩,
 ⟨#[104,101,97,114,32,97,53]⟩]
theorem springL_B:springL.map (·.data.toList)=springB:=rfl
theorem springL_small:springL.length=16∧∀ p∈springL,p.size≤300:=by decide +kernel
end Go.Proofs.YtkhcliibilkefaaGreatDoor
namespace Go.Proofs.YtkhcliibilkefaaGreatDoor
open Lib (hid)
open Go.RowKit Go.Proofs
theorem takeE_all {α:Type}{a b:List α}{n:Nat}(ha:a.length=n)(hb:b.length=n)(h:a.take n=b.take n):a=b:=by
 rwa [List.take_of_length_le (by omega),List.take_of_length_le (by omega)] at h
theorem neE_get {α:Type}{a b:List α}{k:Nat}{x y:α}(ha:a[k]?=some x)(hb:b[k]?=some y)(h:x≠y):a≠b:=by
 rintro rfl;rw[ha] at hb;cases hb;exact h rfl
theorem takeE_snoc {α:Type}{a b:List α}{k:Nat}{x:α}(ha:a[k]?=some x)(hb:b[k]?=some x)(h:a.take k=b.take k):a.take (k+1)=b.take (k+1):=by
 rw[List.take_add_one,List.take_add_one,ha,hb,h]
theorem wints_c {l l':List Int}{A A':Option Addr}{n c n' c':Nat}{w:World}(h:Rd enc1 1 w A n l)(h':Rd enc1 1 w A' n' l')(hn:n≤1000000000) :
 Calls Tryz.prog 23 #[.slice A n c,.slice A' n' c'] w fun e w'=>e=.returned (.bool (decide (l=l')))∧Below w.heap.size w w':=by
 have hl:=h.len;have hl':=h'.len;have HL:=hid hl;have HL':=hid hl';clear hl hl'
 by_cases hne:n=n'
 · subst hne
   have hb0:((n:Int) == (n:Int))=true:=by simp
   go_enter Tryz.func23,Tryz.ntmps23
   go_wp2_with fail
   go_loopw [5] (fun i wr=>∃ k:Nat,k≤n∧i=.int .i64 k∧Below w.heap.size w wr∧l.take k=l'.take k) (fun i _=>n - (intOf i).toNat)
   case atStart=>exact⟨0,Nat.zero_le _,rfl,Below.refl _ _,rfl⟩
   case round =>
    obtain⟨k,hk,rfl,hb,heq⟩:=hrel;have HE:=hid heq;clear heq
    by_cases hlt:k<n
    · obtain⟨b,o,x,hA,_,hx,h0⟩:=(h.below hb).at1 hlt
      subst hA;obtain⟨b',o',y,hA,_,hy,h1⟩:=(h'.below hb).at1 hlt;subst hA;have HX:=hid hx;have HY:=hid hy;clear hx hy;have HB:=hid hb;clear hb
      have hkn:(k:Int)<(n:Int):=by omega
      by_cases hxy:x=y
      · subst hxy
        have e1:(x == x)=true:=by simp
        have e2:(x != x)=false:=by simp
        go_wp2_with fail
        go_quiet (fail)
        go_wp2
        go_roundw
        case rel=>exact⟨k+1,by omega,by go_num,below_drewN HB.out _,takeE_snoc HX.out HY.out HE.out⟩
        case measure=>simp[intOf]<;>omega
      · have e1:(x == y)=false:=by simpa using hxy
        have e2:(x != y)=true:=by simpa using hxy
        have HNE:=hid hxy;clear hxy
        go_wp2_with fail
        go_quiet (fail)
        go_wp2
        go_ret
        exact⟨ret_bool (decide_eq_false (neE_get HX.out HY.out HNE.out)).symm,below_drewN HB.out _⟩
    · obtain rfl:k=n:=by omega
      go_wp2_with fail
      go_ret
      exact⟨ret_bool (decide_eq_true (takeE_all HL.out HL'.out HE.out)).symm,hb⟩
 · have hb0:((n:Int) == (n':Int))=false:=by simp;omega
   have hb1:((n:Int) != (n':Int))=true:=by simp;omega
   have HNE:=hid hne;clear hne
   go_enter Tryz.func23,Tryz.ntmps23
   go_wp2_with fail
   go_ret
   exact⟨ret_bool (decide_eq_false (fun e=>HNE.out (by rw[← HL.out,← HL'.out,e]))).symm,Below.refl _ _⟩
end Go.Proofs.YtkhcliibilkefaaGreatDoor
namespace Go.Proofs.YtkhcliibilkefaaGreatDoor
open Lib (hid)
open Go.RowKit
section
variable (F:List UInt8→List Rdg)
def Errs (b:Sess)(r:Sess×Int):Prop:=r.2≠0→r.1=b
theorem errs_refuse (b:Sess)(e:Int):Errs b (refuse b e):=fun _=>rfl
theorem errs_done (b t:Sess):Errs b (done t):=fun h=>absurd rfl h
theorem errs_ite {b:Sess}{c:Prop}[Decidable c]{x y:Sess×Int}(h1:Errs b x)(h2:Errs b y):Errs b (if c then x else y):=by split<;>assumption
theorem errs_ifV (b t:Sess):Errs b (ifV b t):=by unfold ifV;exact errs_ite (errs_refuse _ _) (errs_done _ _)
theorem step_err {b:Sess}{m:Int}{s:List UInt8}:Errs b (stepP F b m s):=by
 unfold stepP
 cases parseP s with
 | bad=>exact errs_refuse _ _
 | text t =>
  dsimp only[sHear]
  cases wireP t with
  | none=>exact errs_refuse _ _
  | some w=>exact errs_ite (errs_refuse _ _) (errs_ite (errs_refuse _ _) (errs_done _ _))
 | nums wd l =>
  cases wd<;>dsimp only[sWord,sBed,sLeast,sGround,sCell,sLink,sAlarm,sWeather,sParcel,sSteps,sSlide,sWay,sEvid,sBuy]<;>repeat (first | exact errs_refuse _ _ | exact errs_done _ _ | exact errs_ifV _ _ | refine errs_ite ?_ ?_)
end
end Go.Proofs.YtkhcliibilkefaaGreatDoor
namespace Go.Proofs.YtkhcliibilkefaaGreatDoor.Ga
open Lib (hid)
inductive Mg (bs:List UInt8):Nat→List Nat→List UInt8→Prop
 | done:Mg bs bs.length [] []
 | lost {i:Nat} {L:List Nat} {W:List UInt8}:i<bs.length→Mg bs (i+1) L W→Mg bs i (i::L) W
 | kept {i:Nat} {x:UInt8} {L:List Nat} {W:List UInt8}:bs[i]?=some x→Mg bs (i+1) L W→Mg bs i L (x::W)
theorem Mg.ge {bs:List UInt8}{i:Nat}{L:List Nat}{W:List UInt8}(h:Mg bs i L W):∀ u∈L,i≤u:=by
 induction h with
 | done=>intro u hu;cases hu
 | lost _ _ ih =>
  intro u hu
  rcases List.mem_cons.1 hu with rfl | hu
  · exact Nat.le_refl _
  · have:=ih u hu;omega
 | kept _ _ ih=>intro u hu;have:=ih u hu;omega
theorem Mg.len {bs:List UInt8}{i:Nat}{L:List Nat}{W:List UInt8}(h:Mg bs i L W):L.length+W.length+i=bs.length:=by
 induction h with
 | done=>simp
 | lost _ _ ih=>simp only[List.length_cons];omega
 | kept _ _ ih=>simp only[List.length_cons];omega
theorem Mg.many {bs:List UInt8}{L:List Nat}{W:List UInt8}:∀(p:List UInt8) (a:Nat),(∀(k:Nat) (x:UInt8),p[k]?=some x→bs[a+k]?=some x)→Mg bs (a+p.length) L W→Mg bs a L (p++W)
 | [],a,_,h=>h
 | x::p,a,hp,h=>by
  refine .kept (by simpa using hp 0 x rfl) (Mg.many p (a+1) (fun k y hk=>?_) ?_)
  · have:=hp (k+1) y (by simpa using hk)
    rwa [show a+1+k=a+(k+1) by omega]
  · rwa [show a+1+p.length=a+(x::p).length by simp;omega]
theorem Mg.rest {bs:List UInt8}:∀(n a:Nat),a+n=bs.length→Mg bs a (fromTo a bs.length) []
 | 0,a,h=>by
  rw[fromTo_nil (by omega)]
  obtain rfl:a=bs.length:=by omega
  exact .done
 | n+1,a,h=>by
  rw[fromTo_cons (by omega)];exact .lost (by omega) (Mg.rest n (a+1) (by omega))
theorem Mg.step {bs:List UInt8}{i a k:Nat}{L:List Nat}{W:List UInt8}(h:Mg bs i (L.drop a) (W.drop k))(hi:i<bs.length) :
 (L[a]?=some i∧Mg bs (i+1) (L.drop (a+1)) (W.drop k))∨(∃ x,bs[i]?=some x∧W[k]?=some x∧L[a]?≠some i∧Mg bs (i+1) (L.drop a) (W.drop (k+1))):=by
 generalize hL:L.drop a=L' at h;generalize hW:W.drop k=W' at h
 cases h with
 | done=>omega
 | @lost _ L1 _ _ h =>
  left
  have ha:L[a]?=some i:=by have:=congrArg (fun(l:List Nat)=>l[0]?) hL;simpa using this
  have hL1:L.drop (a+1)=L1:=by have:=congrArg List.tail hL;simpa using this
  rw[hL1];exact⟨ha,h⟩
 | @kept _ x _ W1 hx h =>
  right
  have hk:W[k]?=some x:=by have:=congrArg (fun(l:List UInt8)=>l[0]?) hW;simpa using this
  have hW1:W.drop (k+1)=W1:=by have:=congrArg List.tail hW;simpa using this
  refine⟨x,hx,hk,fun e=>?_,by rw[hW1];exact h⟩
  have h0:i∈L':=by
   rw[← hL];exact List.mem_of_getElem? (i:=0) (by simpa using e)
  have:=h.ge i h0;omega
theorem rdg_rec {r:Rdg}(h:validB r=true):rdgOf (recB r)=r:=by
 have hv:=validB_iff.1 h;unfold recB;generalize ck (preB r)=q;obtain⟨a,b,c,d⟩:=r;simp only at hv;simp only[rdgOf,preB,beB,List.cons_append,List.nil_append,List.drop_succ_cons,List.drop_zero,List.take_succ_cons,List.take_zero,numB,List.foldl_cons,List.foldl_nil,byteOf_toNat,signed,Rdg.mk.injEq];refine⟨?_,?_,?_,?_⟩
 · omega
 · omega
 · omega
 · split<;>omega
theorem rec_is {r:Rdg}(h:validB r=true):isRec (recB r)=true:=by
 rw[isRec_yes (by rw[rdg_rec h];exact h),rdg_rec h];simp
theorem scan_bytes:∀(suf pre:List Rdg),(∀ r∈suf,validB r=true)→((scan (bytesOf (pre++suf)) (pre.length * 16)).map (·.1)=suf ∧
 ∀ s,(scan (bytesOf (pre++suf)) (pre.length * 16)).foldl lostStep (s,pre.length * 16)=(s,(pre++suf).length * 16))
 | [],pre,_=>by
  have:¬ pre.length * 16+16≤(bytesOf (pre++[])).length:=by rw[bytesOf_len];simp
  rw[scan_end this];simp
 | r::suf,pre,h=>by
  have hr:=h r (by simp)
  have hw:win (bytesOf (pre++r::suf)) (pre.length * 16)=recB r:=by
   have e:bytesOf (pre++r::suf)=bytesOf pre++(recB r++bytesOf suf):=by simp[bytesOf]
   rw[win,e,List.drop_append_of_le_length (by rw[bytesOf_len];exact Nat.le_refl _),List.drop_eq_nil_of_le (by rw[bytesOf_len];exact Nat.le_refl _),List.nil_append,List.take_append_of_le_length (by rw[recB_len];exact Nat.le_refl _),List.take_of_length_le (by rw[recB_len];exact Nat.le_refl _)]
  have h16:pre.length * 16+16≤(bytesOf (pre++r::suf)).length:=by rw[bytesOf_len];simp only[List.length_append,List.length_cons];omega
  have ih:=scan_bytes suf (pre++[r]) (fun x hx=>h x (by simp[hx]));rw[List.append_assoc,List.singleton_append,List.length_append,List.length_singleton,Nat.add_mul,Nat.one_mul] at ih;rw[scan_yes h16 (by rw[hw];exact rec_is hr),hw,rdg_rec hr];refine⟨by rw[List.map_cons,ih.1],fun s=>?_⟩;rw[List.foldl_cons];show(scan (bytesOf (pre++r::suf)) (pre.length * 16+16)).foldl lostStep (s++fromTo (pre.length * 16) (pre.length * 16),pre.length * 16+16)=_;rw[fromTo_nil (Nat.le_refl _),List.append_nil,ih.2 s]
theorem read_bytes {rs:List Rdg}(h:allB validB rs=true):readOf (bytesOf rs)=rs∧lostOf (bytesOf rs)=[]:=by
 have h1:=scan_bytes rs [] (fun r hr=>by
  obtain⟨i,hi⟩:=List.getElem?_of_mem hr
  exact allB_iff.1 h i r hi)
 simp only[List.nil_append,List.length_nil,Nat.zero_mul] at h1;refine⟨h1.1,?_⟩;rw[lostOf,lostAcc,h1.2 []];simp only[List.nil_append];exact fromTo_nil (by rw[bytesOf_len];exact Nat.le_refl _)
end Go.Proofs.YtkhcliibilkefaaGreatDoor.Ga
namespace Go.Proofs.YtkhcliibilkefaaGreatDoor
open Lib (hid)
open Go.RowKit
section
variable (F:List UInt8→List Rdg)
theorem buySet_rds:∀(set:List Int) (b:Sess),(buySet b set).rds=b.rds
 | [],_=>rfl
 | i::l,b=>by
  have e:buySet b (i::l)=buySet (buyOne b i) l:=rfl;rw[e,buySet_rds l];unfold buyOne
  split<;>rfl
theorem ifV_rds {b t:Sess}(h:t.rds=b.rds):(ifV b t).1.rds=b.rds:=by
 unfold ifV
 split
 · rfl
 · exact h
theorem word_rds (b:Sess)(m:Int)(wd:Wd)(l:List Int):(sWord F b m wd l).1.rds=b.rds:=by
 cases wd<;>simp only[sWord,sBed,sLeast,sGround,sCell,sLink,sAlarm,sWeather,sParcel,sSteps,sSlide,sWay,sEvid,sBuy]<;>(repeat' split)<;>first
  | rfl
  | exact ifV_rds rfl
  | exact buySet_rds _ _
def heardL (s:List UInt8):List Rdg:=match parseP s with
 | .text t=>match wireP t with
  | some w=>F (w.map UInt8.ofNat)
  | none=>[]
 | _=>[]
theorem step_rds0 {b:Sess}{m:Int}{s:List UInt8}(h:(stepP F b m s).2=0):(stepP F b m s).1.rds=b.rds++heardL F s:=by
 unfold stepP at h ⊢;unfold heardL
 cases hp:parseP s with
 | bad=>rw[hp] at h;simp[refuse] at h
 | nums wd l=>simp only[word_rds,List.append_nil]
 | text t =>
  rw[hp] at h;dsimp only[sHear] at h ⊢
  cases hw:wireP t with
  | none=>rw[hw] at h;simp[refuse] at h
  | some w =>
   rw[hw] at h;dsimp only at h ⊢
   by_cases h1:(F (w.map UInt8.ofNat)).length=0
   · rw[if_pos h1] at h;simp[refuse] at h
   · rw[if_neg h1] at h ⊢
     by_cases h2:200<b.rds.length+(F (w.map UInt8.ofNat)).length
     · rw[if_pos h2] at h;simp[refuse] at h
     · rw[if_neg h2];rfl
theorem step_rds (b:Sess)(m:Int)(s:List UInt8):(stepP F b m s).1.rds=b.rds++(if (stepP F b m s).2=0 then heardL F s else []):=by
 by_cases h:(stepP F b m s).2=0
 · rw[if_pos h];exact step_rds0 F h
 · rw[if_neg h,step_err F h,List.append_nil]
theorem heard_some {b:Sess}{m:Int}{s t:List UInt8}(hp:parseP s=.text t)(h:(stepP F b m s).2=0):∃ w,wireP t=some w∧(F (w.map UInt8.ofNat)).length≠0∧heardL F s=F (w.map UInt8.ofNat):=by
 unfold stepP at h;rw[hp] at h;dsimp only[sHear] at h;unfold heardL;rw[hp]
 cases hw:wireP t with
 | none=>rw[hw] at h;simp[refuse] at h
 | some w =>
  rw[hw] at h;refine⟨w,rfl,fun h0=>?_,by simp only[hw]⟩;dsimp only at h;rw[if_pos h0] at h;simp[refuse] at h
def heardP:List (List UInt8)→List Int→List Rdg
 | s::l,e::es=>(if e=0 then heardL F s else [])++heardP l es
 | _,_=>[]
theorem run_rds (line more:Int):∀(l:List (List UInt8)) (b:Sess) (now:Int),(runP F line more b now l).1.rds=b.rds++heardP F l (runP F line more b now l).2
 | [],b,now=>by simp[runP,heardP]
 | s::l,b,now=>by
  rw[runP];dsimp only;rw[run_rds line more l,step_rds,heardP,List.append_assoc]
theorem heard_snoc:∀ {l:List (List UInt8)} {es:List Int} (s:List UInt8) (e:Int),es.length=l.length→heardP F (l++[s]) (es++[e])=heardP F l es++(if e=0 then heardL F s else [])
 | [],[],s,e,_=>by simp[heardP]
 | [],_::_,s,e,h=>by simp at h
 | _::_,[],s,e,h=>by simp at h
 | t::l,f::es,s,e,h=>by
  rw[List.cons_append,List.cons_append,heardP,heardP,heard_snoc s e (by simpa using h),List.append_assoc]
theorem heard_app:∀(l r:List (List UInt8)) (es fs:List Int),es.length=l.length→heardP F (l++r) (es++fs)=heardP F l es++heardP F r fs
 | [],r,[],fs,_=>by simp[heardP]
 | [],r,_::_,_,h=>by simp at h
 | _::_,_,[],_,h=>by simp at h
 | t::l,r,f::es,fs,h=>by
  rw[List.cons_append,List.cons_append,heardP,heardP,heard_app l r es fs (by simpa using h),List.append_assoc]
theorem heard_take {l:List (List UInt8)}{es:List Int}{j:Nat}{s:List UInt8}{e:Int}(hl:es.length=l.length)(hs:l[j]?=some s)(he:es[j]?=some e) :
 heardP F (l.take (j+1)) (es.take (j+1))=heardP F (l.take j) (es.take j)++(if e=0 then heardL F s else []):=by
 rw[List.take_add_one,List.take_add_one,hs,he,Option.toList_some,Option.toList_some,heard_snoc F _ _ (by rw[List.length_take,List.length_take,hl])]
theorem heard_pre {l:List (List UInt8)}{es:List Int}(j:Nat)(hl:es.length=l.length):∃ t,heardP F l es=heardP F (l.take j) (es.take j)++t:=by
 have e:heardP F (l.take j++l.drop j) (es.take j++es.drop j)=_:=heard_app F (l.take j) (l.drop j) (es.take j) (es.drop j) (by rw[List.length_take,List.length_take,hl]);rw[List.take_append_drop,List.take_append_drop] at e;exact⟨_,e⟩
end
theorem run_at (F:List UInt8→List Rdg)(line more:Int):∀(l:List (List UInt8)) (b:Sess) (now:Int) (k:Nat) (s:List UInt8),l[k]?=some s→∃(b':Sess) (m:Int),(runP F line more b now l).2[k]?=some (stepP F b' m s).2
 | [],_,_,_,_,h=>by simp at h
 | t::l,b,now,0,s,h=>by
  simp at h;subst h;exact⟨b,_,by rw[runP];rfl⟩
 | t::l,b,now,k+1,s,h=>by
  rw[runP];exact run_at F line more l _ _ k s (by simpa using h)
theorem heard_valid:∀(l:List (List UInt8)) (es:List Int),∀ r∈heardP Ga.readOf l es,Ga.validB r=true
 | [],es,r,h=>by cases es<;>simp[heardP] at h
 | _::_,[],r,h=>by simp[heardP] at h
 | s::l,e::es,r,h=>by
  rw[heardP] at h
  rcases List.mem_append.1 h with h | h
  · split at h
    · unfold heardL at h
      split at h
      · split at h
        · next t w hw =>
          obtain⟨y,hy,rfl⟩:=List.mem_map.1 h;have:=Ga.scan_at (bs:=w.map UInt8.ofNat) (w.map UInt8.ofNat).length 0 (by omega) y hy;cases hv:Ga.validB y.1
          · rw[this.2.2.2] at hv
            rw[Ga.isRec_no hv] at this;exact absurd this.2.2.1 (by simp)
          · rfl
        · cases h
      · cases h
    · cases h
  · exact heard_valid l es r h
theorem partsH_none (c:UInt8):∀ {l:List UInt8},(∀ x∈l,x≠c)→partsP c l=[l]
 | [],_=>rfl
 | x::l,h=>by
  rw[partsP,if_neg (h x (by simp)),partsH_none c fun y hy=>h y (by simp[hy])]
def hexD (k:Nat):UInt8:=if k<10 then UInt8.ofNat (48+k) else UInt8.ofNat (87+k)
def hexB (x:UInt8):List UInt8:=[hexD (x.toNat / 16),hexD (x.toNat % 16)]
def hexL (l:List UInt8):List UInt8:=l.flatMap hexB
theorem hexD_val:∀ k,k<16→hexP (hexD k)=some k∧hexD k≠32:=by decide
theorem hexL_len (l:List UInt8):(hexL l).length=2 * l.length:=by
 induction l with
 | nil=>rfl
 | cons x l ih=>rw[hexL,List.flatMap_cons,List.length_append,← hexL,ih];simp[hexB];omega
theorem wire_hex:∀ l:List UInt8,wireP (hexL l)=some (l.map UInt8.toNat)
 | []=>rfl
 | x::l=>by
  have h8:=x.toNat_lt;have e:hexL (x::l)=hexD (x.toNat / 16)::hexD (x.toNat % 16)::hexL l:=rfl;rw[e,wireP,(hexD_val _ (by omega)).1,(hexD_val _ (Nat.mod_lt _ (by decide))).1,wire_hex l];simp;omega
theorem map_back (l:List UInt8):(l.map UInt8.toNat).map UInt8.ofNat=l:=by
 rw[List.map_map]
 have:(UInt8.ofNat ∘ UInt8.toNat)=id:=by funext x;simp
 rw[this,List.map_id]
theorem hex_blank (l:List UInt8):∀ x∈hexL l,x≠32:=by
 intro x hx;obtain⟨y,_,hx⟩:=List.mem_flatMap.1 hx;have h8:=y.toNat_lt;simp only[hexB,List.mem_cons,List.not_mem_nil,or_false] at hx
 rcases hx with rfl | rfl
 · exact(hexD_val _ (by omega)).2
 · exact(hexD_val _ (Nat.mod_lt _ (by decide))).2
theorem hear_parse (l:List UInt8):parseP ([104,101,97,114,32]++hexL l)=.text (hexL l):=by
 have e:([104,101,97,114,32]:List UInt8)++hexL l=Wd.name .hear++32::hexL l:=rfl;unfold parseP;rw[e,parts_pre 32 (hexL l) (Wd.name .hear) (by decide),partsH_none 32 (hex_blank l)]
 rfl
theorem hear_run {l:List UInt8}{R:List Rdg}(h:Ga.readOf l=R)(h0:R.length≠0)(h2:R.length≤200):(runP Ga.readOf (-1) 0 begS 0 [[104,101,97,114,32]++hexL l]).1.rds=R:=by
 rw[runP];dsimp only[runP];unfold stepP;rw[hear_parse];dsimp only[sHear];rw[wire_hex];dsimp only;rw[map_back,h,if_neg h0,if_neg (by simp[begS];omega)];simp[done,begS]
end Go.Proofs.YtkhcliibilkefaaGreatDoor
