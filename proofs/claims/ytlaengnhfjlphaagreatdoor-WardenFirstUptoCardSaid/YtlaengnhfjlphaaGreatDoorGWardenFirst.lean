/- The line that raises to a level is the first weather line with at least this level; a greater level is raised by no earlier line (the second form: the arguments are together of a bounded bulk).
Conditions: none beyond the given statement: for every input the law returns true, and its arguments read as before; the listed variables are tied to the program's text. -/
import Derived.Test.YtlaengnhfjlphaaGreatDoorCards
import Derived.Test.YtlaengnhfjlphaaGreatDoorTie
import Derived.Test.YtlaengnhfjlphaaGreatDoorYLawFirst
import Derived.WalkKit
import Derived.ProofKit
import Derived.OpenShut
import Derived.ShutString
import Derived.ChangeOld
import Derived.Below
import Derived.LaidOnce
import Derived.SevenTiedAt
set_option linter.unusedVariables false
set_option linter.unusedSimpArgs false
set_option maxRecDepth 100000
set_option maxHeartbeats 8000000
namespace Go.Proofs.YtlaengnhfjlphaaGreatDoor.wardenFirst
open Go.ChangeShapes Go.WideShapes Go.ChangeAt Go.RowKit
open Go.ChangeMaps (open_string shut_string)
theorem own:ownKnob Tryz.prog.godebug=none:=by kernel_rfl
theorem laidOut:laidOutB Tryz.prog=true:=by kernel_rfl
theorem powE:(Rows.laid_internal_strconv_uint64pow10:DataW Unit)=Lib.tabData .u64 Lib.pow10Tab:=by kernel_rfl
theorem reads (os:Os){H:Type}(enc:TypeId × Value→H):∃ x,DataW.whole enc Tryz.prog ((World.laidAll Tryz.prog os Rows.wardenFirstUptoRow.laid).forCall (fun _ _=>0) ⟨#[],#[.slice none 0 0,.int .u8 0],[]⟩).memory Tryz.f6.params.toList Rows.wardenFirstSpec.vars false #[.slice none 0 0,.int .u8 0].toList 8=some x∧Rows.uptoSmall H (x.1++x.2.1)=true:=by
 have h:(match DataW.whole enc Tryz.prog ((World.laidAll Tryz.prog os Rows.wardenFirstUptoRow.laid).forCall (fun _ _=>0) ⟨#[],#[.slice none 0 0,.int .u8 0],[]⟩).memory Tryz.f6.params.toList Rows.wardenFirstSpec.vars false #[.slice none 0 0,.int .u8 0].toList 8 with | some x=>Rows.uptoSmall H (x.1++x.2.1) | none=>false)=true:=by kernel_rfl
 split at h
 · next x hx=>exact⟨x,hx,h⟩
 · cases h
theorem lifted (os:Os)(started:os.Started)(H:Type)(enc:TypeId × Value→H)(Fi:Stop.Interp) :
 ReturnsInHanded {} Tryz.checked os 6 .any ((Rows.OpenSpec.upto Rows.wardenFirstSpec).preRow enc Tryz.prog Tryz.f6 Rows.wardenFirstUptoRow.domain false Rows.wardenFirstUptoRow.laid) (((Rows.OpenSpec.upto Rows.wardenFirstSpec).at Fi).post enc Tryz.prog Tryz.f6 false true false false):=by
 obtain⟨x0,hx0,hk0⟩:=reads os enc
 refine returnsInHanded_of_row (C:=Tryz.checked) (s:=(Rows.OpenSpec.upto Rows.wardenFirstSpec)) own started (by kernel_rfl) Tryz.func6
  (witness_row (enc:=enc) (C:=Tryz.checked) (World.laidAll Tryz.prog os Rows.wardenFirstUptoRow.laid) #[.slice none 0 0,.int .u8 0] (World.laidAll_os _ _ _) (World.shaped_of_ZipB (by kernel_rfl) (by kernel_rfl)) (by kernel_rfl)
   (OpenSpec.preRow_of_cond 8 hx0 (by rfl) (fun k hk=>by cases hk;exact hk0) (by kernel_rfl) (by rw[MakeChecks.laidMetH_plain _ _ _ (by kernel_rfl)];exact laidMet_laidAll _ (by kernel_rfl) (by kernel_rfl)))) ?_
 intro W base args ds gs before hval0 hW hcnd hcond _ hLm hsh _;have hval:∀(j:Nat) t v,Tryz.f6.params[j]?=some t→args[j]?=some v→Value.okWide Tryz.prog W .any base t v:=hval0;have hW':=hW;obtain⟨p,q,hA0,hV,rfl,hfz,hnd⟩:=hW;have hA:DataW.TrodAll enc Tryz.prog W 0 (fun _=>true) true Tryz.f6.params.toList args.toList ds p:=hA0;rw[Tryz.params6] at hA hval;rw[MakeChecks.laidMetH_plain _ _ _ (by kernel_rfl)] at hLm;have hlay:Lay W:=lay_of hLm hsh (d1:=Rows.laid_strconv_ErrSyntax) (d2:=Rows.laid_strconv_ErrRange) (.tail _ (.tail _ (.tail _ (.tail _ (.tail _ (.head _)))))) (.tail _ (.tail _ (.tail _ (.tail _ (.head _))))) (by rw[← powE];exact .tail _ (.tail _ (.head _)));obtain⟨v0,vs0,d0,ds0,p0,q0,hargs,rfl,rfl,h0,r0⟩:=trodAll_cons hA;obtain⟨v1,vs1,d1,ds1,p1,q1,rfl,rfl,rfl,h1,r1⟩:=trodAll_cons r0;obtain⟨rfl,rfl,rfl⟩:=trodAll_nil r1
 obtain rfl:args=#[v0,v1]:=by cases args;simp_all
 obtain⟨rfl,rfl⟩:=trodVars_none hV;obtain⟨a0,len0,cap0,rfl⟩:=okWide_slice Tryz.underlying22 (hval 0 22 v0 rfl rfl);have k0:=h0
 have lt0:∀ x∈p0,x.block < W.heap.size:=by obtain⟨m,hm⟩:=k0;exact DataW.trod_lt m _ _ _ hm
 obtain⟨l0,rd0,hc0,hm0⟩:=rd_texts_of Tryz.underlying22 Tryz.underlying9 (by kernel_rfl) h0;obtain⟨a1,rfl,rfl,rfl,w1⟩:=open_int Tryz.underlying5 (hval 1 5 v1 rfl rfl) h1;have hx1:=w1;simp[Lit.wf,IntKind.min,IntKind.max,IntKind.signed,IntKind.bits] at hx1;obtain⟨m1,rfl⟩:∃ m:Nat,a1=m:=⟨a1.toNat,by omega⟩;have hbk:Rows.uptoBulkAll _≤1048576:=of_decide_eq_true (hcond _ rfl);simp only[List.cons_append,List.nil_append,List.append_nil,Rows.uptoBulkAll] at hbk;have ts0:=texts_small Tryz.underlying22 Tryz.underlying9 (by kernel_rfl) h0 rd0 (B:=1048576) (by omega);clear hA0 hval0;refine(WardenFirst_w rd0 ts0.2 ts0.1 hlay (by omega)).mono fun e W' ⟨he,bel⟩=>?_;subst he;exact⟨_,rfl,_,_,_,[],_,[],hW',trodAll_mk1 (shut_bool Tryz.underlying4 _),(trodAll_cons_mk (Below.trod laidOut (by kernel_rfl) (of_decide_eq_true (by kernel_rfl)) k0 bel lt0) (trodAll_cons_mk (shut_int Tryz.underlying5 w1) trodAll_mk0)),rfl,bel.frame _,fun h=>by cases h⟩
theorem over:Rows.wardenFirstUptoRow.holds Tryz.pinned (Rows.OpenSpec.upto Rows.wardenFirstSpec) :=
 OpenClaim.holds_of_cond 6 Tryz.f6 rfl rfl rfl rfl rfl rfl rfl ⟨rfl,rfl,rfl,rfl,rfl⟩ rfl rfl rfl rfl rfl (by kernel_rfl) Tryz.func6 (by kernel_rfl)
  (of_decide_eq_true (by kernel_rfl)) (by unfold Func.isWrapper;first | (rw[if_pos (by decide +kernel)];kernel_rfl) | (rw[if_neg (by decide +kernel)];exact⟨rfl,rfl⟩))
  (fun os started H enc _ Fi=>by rw[OpenClaim.pre_eq_preRow];exact lifted os started H enc Fi)
theorem card:Rows.WardenFirstUptoCardSaid :=
 Claim7.holds_tied_plain_at .later [] [.data,.data,.data,.data,.sentinel,.sentinel,.pinned] true (true,"943d012f1c7e515ed54296a0093d634e757821eec766ebd1a8bf152a890be344") true over (fun _ h=>by cases h) (by kernel_rfl) (fun _ h=>by cases h) wardenFirstUpto_row_tie rfl ⟨rfl,rfl⟩ (by kernel_rfl) rfl
  (fun f fn hf hfn=>by
   obtain rfl:f=6:=Option.some.inj ((show Tryz.prog.funcNamed "sackung/sackunglaw12.WardenFirst"=some 6 by kernel_rfl).symm.trans hf) |>.symm
   obtain rfl:fn=Tryz.f6:=(Option.some.inj (Tryz.func6.symm.trans hfn)).symm
   exact⟨by kernel_rfl,fun j t ht=>by
    rw[Tryz.params6] at ht
    have hm:t∈[22,5]:=by simpa using Array.mem_of_getElem? ht
    have hall:([22,5].all fun u=>!Tryz.prog.wantsStandIn u)=true:=by kernel_rfl
    exact(show Tryz.prog.wantsStandIn t=false by simpa using List.all_eq_true.1 hall t hm)⟩)
  (by kernel_rfl)
end Go.Proofs.YtlaengnhfjlphaaGreatDoor.wardenFirst
namespace Go.Proofs.YtlaengnhfjlphaaGreatDoor
theorem wardenFirst_holds:Rows.WardenFirstUptoCardSaid:=wardenFirst.card
#print axioms wardenFirst_holds
end Go.Proofs.YtlaengnhfjlphaaGreatDoor
