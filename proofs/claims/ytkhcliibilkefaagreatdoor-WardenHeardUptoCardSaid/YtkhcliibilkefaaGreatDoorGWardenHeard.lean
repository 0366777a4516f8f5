/- Readings are those of all accepted hear lines, in their order; the bytes of up to nine of them, written and heard at once, are the same readings (the second form: the arguments are together of a bounded bulk).
Conditions: none beyond the given statement: for every input the law returns true, and its arguments read as before; the listed variables are tied to the program's text. -/
import Derived.Test.YtkhcliibilkefaaGreatDoorCards
import Derived.Test.YtkhcliibilkefaaGreatDoorTie
import Derived.Test.YtkhcliibilkefaaGreatDoorYLawHeard
import Derived.WalkKit
import Derived.ProofKit
import Derived.OpenShut
import Derived.ShutString
import Derived.ChangeOld
import Derived.Below
import Derived.LaidOnce
import Derived.SevenTiedAt
set_option linter.unusedVariables false
set_option linter.unusedSimpArgs false
set_option maxRecDepth 100000
set_option maxHeartbeats 8000000
namespace Go.Proofs.YtkhcliibilkefaaGreatDoor.wardenHeard
open Go.ChangeShapes Go.WideShapes Go.ChangeAt Go.RowKit
open Go.ChangeMaps (open_string shut_string)
theorem own:ownKnob Tryz.prog.godebug=none:=by kernel_rfl
theorem laidOut:laidOutB Tryz.prog=true:=by kernel_rfl
theorem powE:(Rows.laid_internal_strconv_uint64pow10:DataW Unit)=Lib.tabData .u64 Lib.pow10Tab:=by kernel_rfl
theorem reads (os:Os){H:Type}(enc:TypeId×Value→H):∃ x,DataW.whole enc Tryz.prog ((World.laidAll Tryz.prog os Rows.wardenHeardUptoRow.laid).forCall (fun _ _=>0) ⟨#[],#[.slice none 0 0],[]⟩).memory Tryz.f3.params.toList Rows.wardenHeardSpec.vars false #[.slice none 0 0].toList 8=some x∧Rows.uptoSmall H (x.1++x.2.1)=true:=by
 have h:(match DataW.whole enc Tryz.prog ((World.laidAll Tryz.prog os Rows.wardenHeardUptoRow.laid).forCall (fun _ _=>0) ⟨#[],#[.slice none 0 0],[]⟩).memory Tryz.f3.params.toList Rows.wardenHeardSpec.vars false #[.slice none 0 0].toList 8 with | some x=>Rows.uptoSmall H (x.1++x.2.1) | none=>false)=true:=by kernel_rfl
 split at h
 · next x hx=>exact⟨x,hx,h⟩
 · cases h
theorem lifted (os:Os)(started:os.Started)(H:Type)(enc:TypeId×Value→H)(Fi:Stop.Interp) :
 ReturnsInHanded {} Tryz.checked os 3 .any ((Rows.OpenSpec.upto Rows.wardenHeardSpec).preRow enc Tryz.prog Tryz.f3 Rows.wardenHeardUptoRow.domain false Rows.wardenHeardUptoRow.laid) (((Rows.OpenSpec.upto Rows.wardenHeardSpec).at Fi).post enc Tryz.prog Tryz.f3 false true false false):=by
 obtain⟨x0,hx0,hk0⟩:=reads os enc
 refine returnsInHanded_of_row (C:=Tryz.checked) (s:=(Rows.OpenSpec.upto Rows.wardenHeardSpec)) own started (by kernel_rfl) Tryz.func3
  (witness_row (enc:=enc) (C:=Tryz.checked) (World.laidAll Tryz.prog os Rows.wardenHeardUptoRow.laid) #[.slice none 0 0] (World.laidAll_os _ _ _) (World.shaped_of_ZipB (by kernel_rfl) (by kernel_rfl)) (by kernel_rfl)
   (OpenSpec.preRow_of_cond 8 hx0 (by rfl) (fun k hk=>by cases hk;exact hk0) (by kernel_rfl) (by rw[MakeChecks.laidMetH_plain _ _ _ (by kernel_rfl)];exact laidMet_laidAll _ (by kernel_rfl) (by kernel_rfl)))) ?_
 intro W base args ds gs before hval0 hW hcnd hcond _ hLm hsh _;have hval:∀(j:Nat) t v,Tryz.f3.params[j]?=some t→args[j]?=some v→Value.okWide Tryz.prog W .any base t v:=hval0;have hW':=hW;obtain⟨p,q,hA0,hV,rfl,hfz,hnd⟩:=hW;have hA:DataW.TrodAll enc Tryz.prog W 0 (fun _=>true) true Tryz.f3.params.toList args.toList ds p:=hA0;rw[Tryz.params3] at hA hval;rw[MakeChecks.laidMetH_plain _ _ _ (by kernel_rfl)] at hLm;have hlay:Lay W:=lay_of hLm hsh (d1:=Rows.laid_strconv_ErrSyntax) (d2:=Rows.laid_strconv_ErrRange) (.tail _ (.tail _ (.tail _ (.tail _ (.tail _ (.head _)))))) (.tail _ (.tail _ (.tail _ (.tail _ (.head _))))) (by rw[← powE];exact .tail _ (.tail _ (.head _)));obtain⟨v0,vs0,d0,ds0,p0,q0,hargs,rfl,rfl,h0,r0⟩:=trodAll_cons hA;obtain⟨rfl,rfl,rfl⟩:=trodAll_nil r0
 obtain rfl:args=#[v0]:=by cases args;simp_all
 obtain⟨rfl,rfl⟩:=trodVars_none hV;obtain⟨a0,len0,cap0,rfl⟩:=okWide_slice Tryz.underlying22 (hval 0 22 v0 rfl rfl);have k0:=h0
 have lt0:∀ x∈p0,x.block<W.heap.size:=by obtain⟨m,hm⟩:=k0;exact DataW.trod_lt m _ _ _ hm
 obtain⟨l0,rd0,hc0,hm0⟩:=rd_texts_of Tryz.underlying22 Tryz.underlying9 (by kernel_rfl) h0;have hbk:Rows.uptoBulkAll _≤1048576:=of_decide_eq_true (hcond _ rfl);simp only[List.cons_append,List.nil_append,List.append_nil,Rows.uptoBulkAll] at hbk;have ts0:=texts_small Tryz.underlying22 Tryz.underlying9 (by kernel_rfl) h0 rd0 (B:=1048576) (by omega);clear hA0 hval0;refine(WardenHeard_w rd0 ts0.2 ts0.1 hlay).mono fun e W' ⟨he,bel⟩=>?_;subst he;exact⟨_,rfl,_,_,_,[],_,[],hW',trodAll_mk1 (shut_bool Tryz.underlying4 _),(trodAll_cons_mk (Below.trod laidOut (by kernel_rfl) (of_decide_eq_true (by kernel_rfl)) k0 bel lt0) trodAll_mk0),rfl,bel.frame _,fun h=>by cases h⟩
theorem over:Rows.wardenHeardUptoRow.holds Tryz.pinned (Rows.OpenSpec.upto Rows.wardenHeardSpec) :=
 OpenClaim.holds_of_cond 3 Tryz.f3 rfl rfl rfl rfl rfl rfl rfl ⟨rfl,rfl,rfl,rfl,rfl⟩ rfl rfl rfl rfl rfl (by kernel_rfl) Tryz.func3 (by kernel_rfl)
  (of_decide_eq_true (by kernel_rfl)) (by unfold Func.isWrapper;first | (rw[if_pos (by decide +kernel)];kernel_rfl) | (rw[if_neg (by decide +kernel)];exact⟨rfl,rfl⟩))
  (fun os started H enc _ Fi=>by rw[OpenClaim.pre_eq_preRow];exact lifted os started H enc Fi)
theorem card:Rows.WardenHeardUptoCardSaid :=
 Claim7.holds_tied_plain_at .later [] [.data,.data,.data,.data,.sentinel,.sentinel,.pinned] true (true,"0e4592127db01ef88d95aa5fdc45a37e7b30ff5c2d0c971b8e1b593eae3ae633") true over (fun _ h=>by cases h) (by kernel_rfl) (fun _ h=>by cases h) wardenHeardUpto_row_tie rfl ⟨rfl,rfl⟩ (by kernel_rfl) rfl
  (fun f fn hf hfn=>by
   obtain rfl:f=3:=Option.some.inj ((show Tryz.prog.funcNamed "sackung/sackunglaw12.WardenHeard"=some 3 by kernel_rfl).symm.trans hf) |>.symm
   obtain rfl:fn=Tryz.f3:=(Option.some.inj (Tryz.func3.symm.trans hfn)).symm
   exact⟨by kernel_rfl,fun j t ht=>by
    rw[Tryz.params3] at ht
    have hm:t∈[22]:=by simpa using Array.mem_of_getElem? ht
    have hall:([22].all fun u=>!Tryz.prog.wantsStandIn u)=true:=by kernel_rfl
    exact(show Tryz.prog.wantsStandIn t=false by simpa using List.all_eq_true.1 hall t hm)⟩)
  (by kernel_rfl)
end Go.Proofs.YtkhcliibilkefaaGreatDoor.wardenHeard
namespace Go.Proofs.YtkhcliibilkefaaGreatDoor
theorem wardenHeard_holds:Rows.WardenHeardUptoCardSaid:=wardenHeard.card
#print axioms wardenHeard_holds
end Go.Proofs.YtkhcliibilkefaaGreatDoor
