/- THE CONTRACT of Buy's inner function try: the tries over the parcels. -/
import Derived.Test.YtkhcliibilkefaaGreatDoorZFr
import Derived.Deep.RegionHeld3
import Derived.Deep.DeepCutAuto
set_option linter.unusedVariables false
set_option linter.unusedSimpArgs false
set_option maxRecDepth 100000
set_option maxHeartbeats 8000000
namespace Go.Proofs.YtkhcliibilkefaaGreatDoor
open Lib (hid)
open Go.RowKit Go.Proofs
attribute [local go_sem ↓] Go.wp_at_zero Go.wp_at_succ
structure Env where
 Bb:Nat
 Bt:Nat
 Bs:Nat
 Bg:Nat
 Bf:Nat
 Bv:Nat
 gg:Nat
 base:Nat
 PA:Option Addr
 pn:Nat
 pc:Nat
 SA:Option Addr
 sn:Nat
 sc:Nat
 v:Vly
 B:Int
 G:List Int
def Env.cap (E:Env):Array Value:=#[.pointer (some ⟨E.Bb,0,none⟩),.pointer (some ⟨E.Bt,0,none⟩),.pointer (some ⟨E.Bs,0,none⟩),.pointer (some ⟨E.Bg,0,none⟩),.pointer (some ⟨E.Bf,0,none⟩),.pointer (some ⟨E.Bv,0,none⟩)]
structure Env.Ok (E:Env) (w0:World):Prop where
 lt:E.Bb<E.base∧E.Bt<E.base∧E.Bs<E.base∧E.Bg<E.base∧E.Bf<E.base∧E.Bv<E.base∧E.gg<E.base
 net:E.Bb≠E.Bt∧E.Bs≠E.Bt∧E.Bg≠E.Bt∧E.Bf≠E.Bt∧E.Bv≠E.Bt∧E.gg≠E.Bt
 nes:E.Bb≠E.Bs∧E.Bg≠E.Bs∧E.Bf≠E.Bs∧E.Bv≠E.Bs∧E.gg≠E.Bs
 ge:w0.heap.size≤E.Bt∧w0.heap.size≤E.Bs∧w0.heap.size≤E.base
 ok:VOk E.v
 gl:E.G.length=E.pn
 gb:∀ x∈E.G,0≤x∧x≤10000000
 rd:RdV w0 E.PA E.pn E.SA E.sn E.v
structure TFix (E:Env) (w0 w:World):Prop where
 bud:Blk w E.Bb 3 #[.int .i64 E.B]
 gbox:Blk w E.Bg 28 #[.slice (some ⟨E.gg,0,none⟩) E.pn E.pn]
 grow:Blk w E.gg 3 (intsA E.G)
 fn:Blk w E.Bf 232 #[.func (.func 144) #[] E.cap]
 val:Blk w E.Bv 39 (vA E.PA E.pn E.pc E.SA E.sn E.sc E.v)
 below:Below w0.heap.size w0 w
 size:E.base≤w.heap.size
structure StB (st:Bst):Prop where
 g:0≤st.gain∧st.gain≤200000000
 c:0≤st.cost∧st.cost≤200000000
 l:st.set.length≤12
structure TSt (E:Env) (w:World) (st:Bst) (A:Option Addr) (n c:Nat):Prop where
 best:Blk w E.Bt 231 #[.int .i64 st.gain,.int .i64 st.cost]
 set:Blk w E.Bs 28 #[.slice A n c]
 rd:Rd enc1 1 w A n st.set
 ok:StB st
 le:n≤12
 far:∀ a,A=some a→E.base≤a.block∧a.block<w.heap.size
def Ex (E:Env)(v:Value)(g:Nat):Prop:=g=E.Bt∨g=E.Bs∨v.ownBlock=some g
theorem own_base_ge {w:World}{base:Nat}{e:TypeId}{size n:Nat}{v:Value}{xs:List Value}(h:w.ownsRow base e size v n xs){g:Nat}(hg:v.ownBlock=some g):base≤g:=Nat.le_of_not_lt fun hlt=>own_ge h hlt hg.symm
theorem TFix.fr {E:Env}{w0 w w':World}{P:Nat→Prop}(h:TFix E w0 w)(hE:E.Ok w0)(hf:Fr P w w')(hP:∀ g,P g→g=E.Bt∨g=E.Bs∨E.base≤g):TFix E w0 w':=by
 have hn:∀ g,g<E.base→g≠E.Bt→g≠E.Bs→¬ P g:=fun g h1 h2 h3 h4=>by
  rcases hP g h4 with h5 | h5 | h5
  · exact h2 h5
  · exact h3 h5
  · omega
 have l:=hE.lt;have t:=hE.net;have s:=hE.nes;refine⟨hf.blk h.bud (hn _ l.1 t.1 s.1),hf.blk h.gbox (hn _ l.2.2.2.1 t.2.2.1 s.2.1),hf.blk h.grow (hn _ l.2.2.2.2.2.2 t.2.2.2.2.2 s.2.2.2.2),hf.blk h.fn (hn _ l.2.2.2.2.1 t.2.2.2.1 s.2.2.1),hf.blk h.val (hn _ l.2.2.2.2.2.1 t.2.2.2.2.1 s.2.2.2.1),?_,Nat.le_trans h.size hf.size⟩;refine h.below.trans (hf.below h.below.size fun g hg=>?_);have:=hE.ge
 rcases hP g hg with h5 | h5 | h5<;>omega
theorem TFix.of_below {E:Env}{w0 w w':World}(h:TFix E w0 w)(hE:E.Ok w0)(hb:Below w.heap.size w w'):TFix E w0 w':=h.fr hE (Fr.of_below hb (fun _=>False)) (fun _ h=>h.elim)
theorem TSt.of_below {E:Env}{w w':World}{st:Bst}{A:Option Addr}{n c:Nat}(h:TSt E w st A n c)(hb:Below w.heap.size w w'):TSt E w' st A n c :=
 ⟨h.best.below hb h.best.lt,h.set.below hb h.set.lt,h.rd.below hb,h.ok,h.le,fun a ha=>⟨(h.far a ha).1,Nat.lt_of_lt_of_le (h.far a ha).2 hb.size⟩⟩
theorem TSt.fr {E:Env}{w w':World}{P:Nat→Prop}{st:Bst}{A:Option Addr}{n c:Nat}(h:TSt E w st A n c)(hf:Fr P w w')(h1:¬ P E.Bt)(h2:¬ P E.Bs)(h3:∀ a,A=some a→¬ P a.block):TSt E w' st A n c :=
 ⟨hf.blk h.best h1,hf.blk h.set h2,hf.rd h.rd h3,h.ok,h.le,fun a ha=>⟨(h.far a ha).1,Nat.lt_of_lt_of_le (h.far a ha).2 hf.size⟩⟩
theorem updB_ok {g c:Int}{l:List Int}{st:Bst}(h:StB st)(hg:0≤g∧g≤200000000)(hc:0≤c∧c≤200000000)(hl:l.length≤12):StB (updB g c l st):=by
 unfold updB
 split
 · exact⟨hg,hc,hl⟩
 · exact h
def TryP (E:Env)(w0 w:World)(vv:Value)(n:Nat)(l:List Int)(A:Option Addr)(st':Bst)(e:Ending)(w':World):Prop :=
 e=.returned (.tuple #[])∧∃ A' n' c',TSt E w' st' A' n' c'∧TFix E w0 w'∧w'.ownsRow E.base 3 1 vv n (l.flatMap enc1)∧(A'=A∨∀ a,A'=some a→w.heap.size≤a.block)∧Fr (Ex E vv) w w'
theorem tryP_out {E:Env}{w0 w:World}{vv:Value}{n:Nat}{l:List Int}{A:Option Addr}{st':Bst}{e:Ending}{w':World}(h:TryP E w0 w vv n l A st' e w') :
 e=.returned (.tuple #[])∧∃ A' n' c',TSt E w' st' A' n' c'∧TFix E w0 w'∧w'.ownsRow E.base 3 1 vv n (l.flatMap enc1)∧(A'=A∨∀ a,A'=some a→w.heap.size≤a.block)∧Fr (Ex E vv) w w':=h
theorem try_c {E:Env}{w0:World}(hE:E.Ok w0):∀(k:Nat) (w:World) (i:Nat) (g c:Int) (l:List Int) (vv:Value) (n:Nat) (st:Bst) (A:Option Addr) (sn sc:Nat),i+k=E.pn→l.length=n→n≤i →
 (0≤g∧g≤10000000 * i)→(0≤c∧c≤100000 * i)→TFix E w0 w→TSt E w st A sn sc→w.ownsRow E.base 3 1 vv n (l.flatMap enc1)→(∀ a,A=some a→vv.ownBlock≠some a.block) →
 Calls Tryz.prog 144 (#[.int .i64 i,.agg #[.int .i64 g,.int .i64 c],vv]++E.cap) w fun e w'=>TryP E w0 w vv n l A (tryB E.G (E.v.pars.map (·.price)) E.B k i g c l st) e w':=by
 obtain⟨Ps,hPs⟩:∃ Ps,Ps=E.v.pars.map (·.price):=⟨_,rfl⟩;rw[← hPs];have HPS:=hid hPs;clear hPs;intro k
 induction k using Nat.strongRecOn with
 | ind k ih =>
 intro w i g c l vv n st A sn sc hik hln hni hg hc hfix hst hown hfar;have hpl:=hE.rd.pars.len;have hpn:=hE.ok.pn
 have hi12:i≤12:=by omega
 have HFX:=hid hfix;have HST:=hid hst;have HOW:=hid hown;have HFAR:=hid hfar;have HE:=hid hE;have IH:=hid ih;have hb0:Below w.heap.size w (w.alloc (.cells #[.int .i64 g,.int .i64 c] 231)):=(Below.refl _ w).alloc (Nat.le_refl _) _;have HB0:=hid hb0;have HNB:=hid (Blk.new w 231 #[.int .i64 g,.int .i64 c]);have d3:=hfix.bud.cell 0;have hbs:=hfix.bud.lt;simp at d3;unfold Env.cap;simp only[List.append_toArray,List.cons_append,List.nil_append]
 by_cases hbud:E.B<c
 · have hres:tryB E.G Ps E.B k i g c l st=st:=by unfold tryB;rw[if_pos hbud]
   rw[hres]
   have HP:TryP E w0 w vv n l A st (.returned (.tuple #[])) (w.alloc (.cells #[.int .i64 g,.int .i64 c] 231)) :=
    ⟨rfl,A,sn,sc,HST.out.of_below hb0,HFX.out.of_below HE.out hb0,own_mono HOW.out hb0,.inl rfl,Fr.of_below hb0 _⟩
   have HPH:=hid HP;clear ih hE hfix hst hown hfar hb0 HP hres
   go_enter Tryz.func144,Tryz.ntmps144
   go_wp2_with fail
   exact bodyPost_ret (results_none rfl _ _ _) rfl HPH.out
 · have hcb:¬ E.B<c:=hbud
   have hbud2:c≤E.B:=by omega
   have hres:tryB E.G Ps E.B k i g c l st=loopB E.G Ps E.B k i g c l (updB g c l st):=by unfold tryB;rw[if_neg hbud]
   rw[hres];obtain⟨VA,vc,rfl,hvc⟩:=own_form hown;have hrl:Rd enc1 1 w VA n l:=Rd.of_own enc1_len hown hln;have hso:=hst.ok;have HBT:=hid (better_c (g:=g) (c:=c) (cp:=vc) (cp':=sc) (hrl.below hb0) (hst.rd.below hb0) (by omega) (by have:=hst.le;omega) (by omega) (by have:=hso.g;have:=hso.c;omega));have hsu:=updB_ok (g:=g) (c:=c) (l:=l) hso (by omega) (by omega) (by omega);have HSU:=hid hsu;have e0:=hst.best.cell 0;have e1:=hst.best.cell 1;have e2:=hst.set.cell 0;simp at e0 e1 e2;have hbt:=hst.best.lt;have hbs2:=hst.set.lt
   have hupd:updB g c l st=if betterB g c l st then ⟨g,c,l⟩ else st:=rfl
   have HVL:=hid (fun b (hb:(Value.slice VA n vc).ownBlock=some b)=>(hown.lt b hb).2);have HK12:=hid (And.intro hst.best.lt hst.set.lt);clear ih hE hfix hst hown hfar hres hrl;obtain⟨NT,hNT⟩:∃ NT,NT=updB g c l st:=⟨_,rfl⟩;rw[← hNT];rw[← hNT] at hupd HSU;have HUP:=hid hupd;obtain⟨RES,hRES⟩:∃ RES,RES=loopB E.G Ps E.B k i g c l NT:=⟨_,rfl⟩;rw[← hRES];have HRES:=hid hRES;clear hupd hNT hsu hRES
   go_enter Tryz.func144,Tryz.ntmps144
   go_upto_if 21 with (go_at_call 145;refine HBT.out.mono ?_;rintro e w2 ⟨rfl,hb2⟩)
   have HB2:=hid (below_tr HB0.out hb2);have HN2:=hid (HNB.out.below hb2 (by simp));have HST2:=hid (HST.out.of_below HB2.out);have HFX2:=hid (HFX.out.of_below HE.out HB2.out);have HOW2:=hid (own_mono HOW.out HB2.out);clear hb2 HBT e0 e1 e2 d3 hbt hbs2 hbs hb0 HB0 HNB
   go_cut [] (fun wx=>∃ A' n' c',TSt E wx NT A' n' c'∧TFix E w0 wx∧wx.ownsRow E.base 3 1 (.slice VA n vc) n (l.flatMap enc1)∧Blk wx w.heap.size 231 #[.int .i64 g,.int .i64 c]∧(A'=A∨∀ a,A'=some a→w.heap.size≤a.block)∧Fr (Ex E (.slice VA n vc)) w wx)
   case first =>
    cases hbb:betterB g c l st
    · rw[hbb] at HUP
      have hn:=HUP.out;simp at hn;subst hn
      go_wp2_with fail
      go_meet
      exact⟨A,sn,sc,HST2.out,HFX2.out,HOW2.out,HN2.out,.inl rfl,Fr.of_below HB2.out _⟩
    · rw[hbb] at HUP
      have hn:=HUP.out;simp at hn;subst hn;have HCL:=hid (fun W (hW:Below w2.heap.size w2 W)=>clone_c (c:=vc) ((Rd.of_own enc1_len HOW2.out hln).below hW) (by omega));have n0:=HN2.out.cell 0;have n1:=HN2.out.cell 1;simp at n0 n1;have hnlt:=HN2.out.lt
      have hk1:¬(E.Bt=w.heap.size):=by have:=HST.out.best.lt;omega
      have hk2:¬(E.Bs=w.heap.size):=by have:=HST.out.set.lt;omega
      have hk3:¬(w.heap.size=E.Bt):=fun e=>hk1 e.symm;have hk4:¬(w.heap.size=E.Bs):=fun e=>hk2 e.symm
      go_wp2_with fail
      go_region_held3 (fun w'=>w'.cell? ⟨w.heap.size,0,none⟩=some (.int .i64 g)∧w'.cell? ⟨w.heap.size,1,none⟩=some (.int .i64 c))
       (first | exact⟨n0,n1⟩ | exact⟨m0,m1⟩ | (go_keep;done))
       ((go_at_call 98;refine(HCL.out _ (Below.refl _ _).drew).mono ?_;rintro e w3 ⟨u,rfl,hownu,hbc⟩;obtain⟨UA,uc,rfl,huc⟩:=own_form hownu;have hb3:=(Below.refl w2.heap.size w2).drew.trans hbc;have HB3:=hid hb3;have m0:=(hb3.cell (p:=⟨w.heap.size,0,none⟩) hnlt).trans n0;have m1:=(hb3.cell (p:=⟨w.heap.size,1,none⟩) hnlt).trans n1;have HST3:=hid (HST2.out.of_below hb3);have q0:=HST3.out.best.cell 0;have q1:=HST3.out.best.cell 1;have q2:=HST3.out.set.cell 0;have r0:=HST3.out.best.frozen 0;have r1:=HST3.out.best.frozen 1;have r2:=HST3.out.set.frozen 0;simp at q0 q1 q2;have hst1:=HE.out.net.2.1;have hst2:=Ne.symm hst1))
      all_goals
       have F34:Fr (fun b=>b=E.Bt∨b=E.Bs) w3 (((w3.setCell ⟨E.Bt,0,none⟩ (.int .i64 g)).setCell ⟨E.Bt,1,none⟩ (.int .i64 c)).setCell ⟨E.Bs,0,none⟩ (.slice UA n uc)) :=
        (((Fr.refl _ w3).setAt (.inl (.inl rfl)) _).setAt (.inl (.inl rfl)) _).setAt (.inl (.inr rfl)) _
       have hx1:=((HST3.out.best.set_ 0 (.int .i64 g)).set_ 1 (.int .i64 c)).far (p:=⟨E.Bs,0,none⟩) hst2 (.slice UA n uc);have hx2:=((HST3.out.set.far (p:=⟨E.Bt,0,none⟩) hst1 (.int .i64 g)).far (p:=⟨E.Bt,1,none⟩) hst1 (.int .i64 c)).set_ 0 (.slice UA n uc)
       have hub:∀ a,UA=some a→w2.heap.size≤a.block∧a.block<w3.heap.size:=fun a ha=>by
        subst ha
        rcases hownu.2 with ⟨h0,_⟩ | ⟨gu,_,_,he,hbu,hgu,_⟩
        · cases h0
        · cases he
          exact⟨hbu,(Array.getElem?_eq_some_iff.1 hgu).1⟩
       have hsz2:=HFX2.out.size;have hlt1:=HE.out.lt;have hrd3:=F34.rd (Rd.of_own enc1_len hownu hln) (fun a ha hh=>by have:=hub a ha;rcases hh with h5 | h5<;>omega);have hfx3:=(HFX2.out.of_below HE.out HB3.out).fr HE.out F34 (fun b hb=>by rcases hb with h5 | h5;exact .inl h5;exact .inr (.inl h5));have hrow3:=F34.row (own_mono HOW2.out HB3.out) (fun b hb hh=>by have:=own_base_ge HOW2.out hb;rcases hh with h5 | h5<;>omega);have hnow3:=F34.blk (HN2.out.below HB3.out HN2.out.lt) (fun hh=>by rcases hh with h5 | h5;exact hk3 h5;exact hk4 h5);have hfr3:Fr (Ex E (.slice VA n vc)) w _:=(Fr.of_below (HB2.out.trans (HB3.out.mono HB2.out.size)) (Ex E (.slice VA n vc))).comp F34 (fun b hb=>by rcases hb with h5 | h5;exact .inl (.inl h5);exact .inl (.inr (.inl h5)));have hsz23:=HB2.out.size
       go_wp2_with fail
       go_meet
       refine⟨UA,n,uc,⟨hx1,hx2,hrd3,HSU.out,by omega,fun a ha=>⟨?_,?_⟩⟩,hfx3,hrow3,hnow3,.inr fun a ha=>?_,hfr3⟩
       · have:=hub a ha;omega
       · have:=hub a ha;have:=F34.size;omega
       · have:=hub a ha;omega
   case rest =>
    obtain⟨A1,n1,c1,hst1,hfx1,hrow1,hnow1,hA1,hfr1⟩:=hcut;have HS1:=hid hst1;have HF1:=hid hfx1;have HR1:=hid hrow1;have HN1:=hid hnow1;have HA1:=hid hA1;have HFR1:=hid hfr1;have e6:=hfx1.gbox.cell 0;simp at e6;have HSL:=hid (fun k i g c l st=>loopB_succ E.G Ps E.B k i g c l st);have HSZ:=hid (fun i g c l st=>loopB_zero E.G Ps E.B i g c l st);clear hst1 hfx1 hrow1 hnow1 hA1 hfr1 HST2 HFX2 HOW2 HN2 HB2 HUP HSU HOW HST HFX
    go_wp2_with fail
    go_loopw [12] (fun x wr=>∃(j:Nat) (A2:Option Addr) (n2 c2:Nat) (st2:Bst),i≤j∧j≤E.pn∧x=.int .i64 j∧RES=loopB E.G Ps E.B (E.pn - j) j g c l st2∧TSt E wr st2 A2 n2 c2∧TFix E w0 wr∧wr.ownsRow E.base 3 1 (.slice VA n vc) n (l.flatMap enc1) ∧
     Blk wr w.heap.size 231 #[.int .i64 g,.int .i64 c]∧(A2=A∨∀ a,A2=some a→w.heap.size≤a.block)∧Fr (Ex E (.slice VA n vc)) w wr) (fun x _=>E.pn - (intOf x).toNat)
    case atStart=>exact⟨i,A1,n1,c1,NT,Nat.le_refl _,by omega,rfl,by rw[HRES.out];congr 1;omega,HS1.out,HF1.out,HR1.out,HN1.out,HA1.out,HFR1.out⟩
    case round =>
     obtain⟨j,A2,n2,c2,st2,hij,hjp,rfl,hres2,hst2,hfx2,hrow2,hnow2,hA2,hfr2⟩:=hrel;have HRES2:=hid hres2;have HS2:=hid hst2;have HF2:=hid hfx2;have HR2:=hid hrow2;have HN2:=hid hnow2;have HA2:=hid hA2;have HFR2:=hid hfr2;have f6:=hfx2.gbox.cell 0;simp at f6;clear hres2 hst2 hrow2 hnow2 hA2 hfr2
     by_cases hlt:j<E.pn
     · obtain⟨i0,hi0,hz0,hz1,hz2⟩:=info_parts infoZ
       obtain⟨b,o,p,hA,hb,hp,_,pp,_,_⟩:=(HE.out.rd.pars).atP hlt;have hgj:E.G[j]?=some (E.G[j]'(by rw[HE.out.gl];exact hlt)):=List.getElem?_eq_getElem _;obtain⟨x,hx⟩:∃ x,x=E.G[j]'(by rw[HE.out.gl];exact hlt):=⟨_,rfl⟩;rw[← hx] at hgj;have hxb:0≤x∧x≤10000000:=HE.out.gb x (List.mem_of_getElem? hgj);have hpb:=HE.out.ok.parcel hp
       have hPj:Ps[j]?=some p.price:=by rw[HPS.out,List.getElem?_map,hp];rfl
       have hS:∀ W,TFix E w0 W→Blk W w.heap.size 231 #[.int .i64 g,.int .i64 c]→W.cell? ⟨E.Bf,0,none⟩=some (.func (.func 144) #[] E.cap)∧W.cell? ⟨w.heap.size,0,none⟩=some (.int .i64 g)∧W.cell? ⟨w.heap.size,1,none⟩=some (.int .i64 c)∧W.cell? ⟨E.Bg,0,none⟩=some (.slice (some ⟨E.gg,0,none⟩) E.pn E.pn)∧W.cell? ⟨E.gg,j,none⟩=some (.int .i64 x) ∧
        W.cell? ⟨E.Bv,0,none⟩=some (.slice (some ⟨b,o,none⟩) E.pn E.pc)∧W.cell? ⟨b,o+j * 4+1,none⟩=some (.int .i64 p.price):=fun W hW hN=>by
        refine⟨?_,?_,?_,?_,?_,?_,?_⟩
        · rw[hW.fn.cell 0];rfl
        · rw[hN.cell 0];rfl
        · rw[hN.cell 1];rfl
        · rw[hW.gbox.cell 0];rfl
        · rw[hW.grow.cell j,intsA_get,hgj];rfl
        · rw[hW.val.cell 0,← hA];rfl
        · exact(hW.below.cell (p:=⟨b,_,none⟩) hb).trans pp
       have hbA:Below wr.heap.size wr (wr.alloc (.cells #[.int .i64 (j:Int)] 3)).drew:=((Below.refl _ wr).alloc (Nat.le_refl _) _).drew;have hfA:=HF2.out.of_below HE.out hbA;have hnA:=HN2.out.below hbA HN2.out.lt;have hsA:=HS2.out.of_below hbA
       obtain⟨v5,w5,hrun,hown5,hgr5,hbk5,hold5⟩:=run_app1 (P:=Tryz.prog) (wr.alloc (.cells #[.int .i64 (j:Int)] 3)).drew E.base 28 28 3 i0 (.int .i64 0) Tryz.underlying28 hi0 hz0 hz1 hz2 rfl (.slice VA n vc) n (l.flatMap enc1) (own_mono HR2.out hbA) ⟨wr.heap.size,0,none⟩ 1 (.int .i64 (j:Int))
        (by simp) rfl (by omega) (by have:=hfA.size;omega)
       have F5:Fr (fun b=>(Value.slice VA n vc).ownBlock=some b) (wr.alloc (.cells #[.int .i64 (j:Int)] 3)).drew w5:=Fr.of_grown hgr5 (fun b hb _=>hb);have hob:∀ b,(Value.slice VA n vc).ownBlock=some b→E.base≤b∧b<wr.heap.size:=fun b hb=>⟨own_base_ge HR2.out hb,(HR2.out.lt b hb).2⟩;have hlt1:=HE.out.lt;have hf5:=hfA.fr HE.out F5 (fun b hb=>.inr (.inr (hob b hb).1))
       have hA2f:∀ a,A2=some a→(Value.slice VA n vc).ownBlock≠some a.block:=fun a ha he=>by
        rcases HA2.out with h5 | h5
        · exact HFAR.out a (by rw[← h5];exact ha) he
        · have h6:=h5 a ha
          have h7:=HVL.out a.block he;omega
       have hvl:=HVL.out;have hk12:=HK12.out
       have hnb5:∀ b,(Value.slice VA n vc).ownBlock=some b→¬ w.heap.size=b:=fun b hb he=>by have:=hvl b hb;omega
       have hn5:=F5.blk hnA (fun hh=>hnb5 _ hh rfl);have hs5:=hsA.fr F5 (fun hh=>by have:=hob _ hh;omega) (fun hh=>by have:=hob _ hh;omega) hA2f
       have hwsz:(wr.alloc (.cells #[.int .i64 (j:Int)] 3)).drew.heap.size=wr.heap.size+1:=by simp
       have hfar5:∀ a,A2=some a→v5.ownBlock≠some a.block:=fun a ha he=>by
        rcases hbk5 with h5 | h5
        · exact hA2f a ha (by rw[← h5];exact he)
        · rw[h5,hwsz] at he
          have h6:=(HS2.out.far a ha).2
          injection he with he
          omega
       have hflat:(l++[(j:Int)]).flatMap enc1=l.flatMap enc1++[.int .i64 (j:Int)]:=by rw[List.flatMap_append];rfl
       have hgA:gAt E.G j=x:=gAt_of hgj;have hpA:gAt Ps j=p.price:=gAt_of hPj
       have hjc:((j+1:Nat):Int)=(j:Int)+1:=by push_cast;rfl
       have hij2:(i:Int)≤(j:Int):=by omega
       have hih:=IH.out (E.pn - (j+1)) (by omega) w5 (j+1) (g+x) (c+p.price) (l++[(j:Int)]) v5 (n+1) st2 A2 n2 c2 (by omega) (by simp[hln]) (by omega) (by rw[hjc];omega) (by rw[hjc];omega) hf5 hs5 (by rw[hflat];exact hown5) hfar5;have hwj:IntKind.i64.wrap ((j:Int)+1)=(j:Int)+1:=wi (by omega);rw[hjc,← hwj] at hih;have HIH:=hid hih;clear hwj;have S0:=hS wr HF2.out HN2.out;have S1:=hS _ hfA hnA;have S5:=hS _ hf5 hn5;have hres5:=HRES2.out;rw[show E.pn - j=(E.pn - (j+1))+1 by omega,HSL.out,hgA,hpA] at hres5;have HR5:=hid hres5;have HF5:=hid F5;have HN5:=hid hn5;have HOLD5:=hid hold5;have HOWN5:=hid hown5;have HBK5:=hid hbk5;have HOB:=hid hob;have HBA:=hid hbA;have HHF5:=hid hf5;have hw1:IntKind.i64.wrap (g+x)=g+x:=wi (by omega);have hw2:IntKind.i64.wrap (c+p.price)=c+p.price:=wi (by omega)
       have hj0:(0:Int)≤(j:Int):=by omega
       have hjn:(j:Int)<(E.pn:Int):=by omega
       have hfs5:=hf5.size;have HSS:=hid hS
       have HNX:Hid (¬ Ex E v5 w.heap.size):=hid (fun hh=>by
        have hwle:=HFR2.out.size
        rcases hh with h8 | h8 | h8
        · omega
        · omega
        · rcases HBK5.out with h5 | h5
          · exact hnb5 _ (by rw[← h5];exact h8) rfl
          · rw[h5,hwsz] at h8;injection h8 with h8;omega)
       clear hbA hfA hnA hsA hgr5 hbk5 hold5 F5 hob hf5 hA2f hn5 hs5 hfar5 hflat hih hres5 hown5 hgA hpA hgj hx hPj hp hS hvl
       go_wp2_with fail
       go_region_held3 (fun w'=>w'.cell? ⟨E.Bf,0,none⟩=some (.func (.func 144) #[] E.cap)∧w'.cell? ⟨w.heap.size,0,none⟩=some (.int .i64 g)∧w'.cell? ⟨w.heap.size,1,none⟩=some (.int .i64 c)∧w'.cell? ⟨E.Bg,0,none⟩=some (.slice (some ⟨E.gg,0,none⟩) E.pn E.pn)∧w'.cell? ⟨E.gg,j,none⟩=some (.int .i64 x) ∧
        w'.cell? ⟨E.Bv,0,none⟩=some (.slice (some ⟨b,o,none⟩) E.pn E.pc)∧w'.cell? ⟨b,o+j * 4+1,none⟩=some (.int .i64 p.price))
        (first | exact S0 | exact S1 | exact S5 | exact S6 | assumption)
        (first
         | (refine step_append_run (by rfl) (.tmp 52) (.tmp 54) 28 (by rfl) (.slice VA n vc) (.slice (some ⟨wr.heap.size,0,none⟩) 1 1) v5 w5 (by rfl) (by rfl) ?_ ?_;(go_must (with_reducible exact hrun)))
         | (with_reducible refine HIH.out.mono ?_;intro e w6 hTP;obtain⟨rfl,A6,n6,c6,ht6,hf6,ho6,ha6,hfr6⟩:=tryP_out hTP;have hnow6:=hfr6.blk HN5.out HNX.out;have S6:=HSS.out w6 hf6 hnow6))
       all_goals
        have hlb:=HE.out.lt
        have hnbt:¬ w.heap.size=E.Bt:=by have:=HK12.out.1;omega
        have hnbs:¬ w.heap.size=E.Bs:=by have:=HK12.out.2;omega
        have hflat:(l++[(j:Int)]).flatMap enc1=l.flatMap enc1++[.int .i64 (j:Int)]:=by rw[List.flatMap_append];rfl
        have hwsz:(wr.alloc (.cells #[.int .i64 (j:Int)] 3)).drew.heap.size=wr.heap.size+1:=by simp
        have hwle:=HFR2.out.size
        have hrow6:w6.ownsRow E.base 3 1 (.slice VA n vc) n (l.flatMap enc1):=by
         rcases HBK5.out with h5 | h5
         · exact own_pre HOLD5.out HOWN5.out h5 (by rw[← hflat];exact ho6)
         · refine hfr6.row HOLD5.out (fun b hb hh=>?_)
           have h7:=HOB.out b hb
           rcases hh with h8 | h8 | h8
           · omega
           · omega
           · rw[h5,hwsz] at h8;injection h8 with h8;omega
        have hw5:wr.heap.size+1≤w5.heap.size:=by have:=HF5.out.size;omega
        have hA6:A6=A∨∀ a,A6=some a→w.heap.size≤a.block:=by
         rcases ha6 with h8 | h8
         · rw[h8];exact HA2.out
         · exact .inr fun a ha=>by have:=h8 a ha;omega
        have hfr9:Fr (Ex E (.slice VA n vc)) w w6:=by
         refine((HFR2.out.comp (Fr.of_below HBA.out (fun _=>False)) (fun _ h=>h.elim)).comp HF5.out (fun b hb=>.inl (.inr (.inr hb)))).comp hfr6 (fun b hb=>?_)
         rcases hb with h8 | h8 | h8
         · exact .inl (.inl h8)
         · exact .inl (.inr (.inl h8))
         · rcases HBK5.out with h5 | h5
           · exact .inl (.inr (.inr (by rw[← h5];exact h8)))
           · rw[h5,hwsz] at h8;injection h8 with h8;exact .inr (by omega)
        have HH:=hid (And.intro hrow6 (And.intro hnow6 (And.intro hA6 (And.intro hfr9 (And.intro ht6 hf6)))));clear hrow6 hnow6 hA6 hfr9 ht6 hf6 hflat hwsz hw5 ho6 ha6 hfr6
        go_wp2_with fail
        go_roundw
        case rel=>exact⟨j+1,A6,n6,c6,_,by omega,by omega,by go_num,HR5.out,HH.out.2.2.2.2.1,HH.out.2.2.2.2.2,HH.out.1,HH.out.2.1,HH.out.2.2.1,HH.out.2.2.2.1⟩
        case measure=>simp[intOf]<;>omega
     · obtain rfl:j=E.pn:=by omega
       have hfin:=HRES2.out;rw[Nat.sub_self,HSZ.out] at hfin;have HPH:=hid (show TryP E w0 w (.slice VA n vc) n l A RES (.returned (.tuple #[])) wr from by rw[hfin];exact⟨rfl,A2,n2,c2,HS2.out,HF2.out,HR2.out,HA2.out,HFR2.out⟩);clear hfin hfx2
       go_wp2_with fail
       exact bodyPost_ret (results_none rfl _ _ _) rfl HPH.out
end Go.Proofs.YtkhcliibilkefaaGreatDoor
