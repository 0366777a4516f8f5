/- THE CONTRACT of Buy's inner function try: the tries over the parcels. -/
import Derived.Test.YtkhcliibilkefaaGreatDoorZFr
import Derived.Deep.RegionHeld3
import Derived.Deep.DeepCutAuto
import Derived.Test.YtkhcliibilkefaaGreatDoorYTOpen
import Derived.Deep.DrawnRows
set_option linter.unusedVariables false
set_option linter.unusedSimpArgs false
set_option maxRecDepth 100000
set_option maxHeartbeats 8000000
namespace Go.Proofs.YtkhcliibilkefaaGreatDoor
open Lib (hid)
open Go.RowKit Go.Proofs
attribute [local go_sem ↓] Go.wp_at_zero Go.wp_at_succ
structure Env where
 Bb:Nat
 Bt:Nat
 Bs:Nat
 Bg:Nat
 Bf:Nat
 Bv:Nat
 gg:Nat
 base:Nat
 PA:Option Addr
 pn:Nat
 pc:Nat
 SA:Option Addr
 sn:Nat
 sc:Nat
 v:Vly
 B:Int
 G:List Int
def Env.cap (E:Env):Array Value:=#[.pointer (some ⟨E.Bb,0,none⟩),.pointer (some ⟨E.Bt,0,none⟩),.pointer (some ⟨E.Bs,0,none⟩),.pointer (some ⟨E.Bg,0,none⟩),.pointer (some ⟨E.Bf,0,none⟩),.pointer (some ⟨E.Bv,0,none⟩)]
structure Env.Ok (E:Env) (w0:World):Prop where
 lt:E.Bb<E.base∧E.Bt<E.base∧E.Bs<E.base∧E.Bg<E.base∧E.Bf<E.base∧E.Bv<E.base∧E.gg<E.base
 net:E.Bb≠E.Bt∧E.Bs≠E.Bt∧E.Bg≠E.Bt∧E.Bf≠E.Bt∧E.Bv≠E.Bt∧E.gg≠E.Bt
 nes:E.Bb≠E.Bs∧E.Bg≠E.Bs∧E.Bf≠E.Bs∧E.Bv≠E.Bs∧E.gg≠E.Bs
 ge:w0.heap.size≤E.Bt∧w0.heap.size≤E.Bs∧w0.heap.size≤E.base
 ok:VOk E.v
 gl:E.G.length=E.pn
 gb:∀ x∈E.G,0≤x∧x≤10000000
 rd:RdV w0 E.PA E.pn E.SA E.sn E.v
structure TFix (E:Env) (w0 w:World):Prop where
 bud:Blk w E.Bb 3 #[.int .i64 E.B]
 gbox:Blk w E.Bg 28 #[.slice (some ⟨E.gg,0,none⟩) E.pn E.pn]
 grow:Blk w E.gg 3 (intsA E.G)
 fn:Blk w E.Bf 232 #[.func (.func 144) #[] E.cap]
 val:Blk w E.Bv 39 (vA E.PA E.pn E.pc E.SA E.sn E.sc E.v)
 below:Below w0.heap.size w0 w
 size:E.base≤w.heap.size
structure StB (st:Bst):Prop where
 g:0≤st.gain∧st.gain≤200000000
 c:0≤st.cost∧st.cost≤200000000
 l:st.set.length≤12
structure TSt (E:Env) (w:World) (st:Bst) (A:Option Addr) (n c:Nat):Prop where
 best:Blk w E.Bt 231 #[.int .i64 st.gain,.int .i64 st.cost]
 set:Blk w E.Bs 28 #[.slice A n c]
 rd:Rd enc1 1 w A n st.set
 ok:StB st
 le:n≤12
 far:∀ a,A=some a→E.base≤a.block∧a.block<w.heap.size
def Ex (E:Env)(v:Value)(g:Nat):Prop:=g=E.Bt∨g=E.Bs∨v.ownBlock=some g
theorem own_base_ge {w:World}{base:Nat}{e:TypeId}{size n:Nat}{v:Value}{xs:List Value}(h:w.ownsRow base e size v n xs){g:Nat}(hg:v.ownBlock=some g):base≤g:=Nat.le_of_not_lt fun hlt=>own_ge h hlt hg.symm
theorem TFix.fr {E:Env}{w0 w w':World}{P:Nat→Prop}(h:TFix E w0 w)(hE:E.Ok w0)(hf:Fr P w w')(hP:∀ g,P g→g=E.Bt∨g=E.Bs∨E.base≤g):TFix E w0 w':=by
 have hn:∀ g,g<E.base→g≠E.Bt→g≠E.Bs→¬ P g:=fun g h1 h2 h3 h4=>by
  rcases hP g h4 with h5 | h5 | h5
  · exact h2 h5
  · exact h3 h5
  · omega
 have l:=hE.lt;have t:=hE.net;have s:=hE.nes;refine⟨hf.blk h.bud (hn _ l.1 t.1 s.1),hf.blk h.gbox (hn _ l.2.2.2.1 t.2.2.1 s.2.1),hf.blk h.grow (hn _ l.2.2.2.2.2.2 t.2.2.2.2.2 s.2.2.2.2),hf.blk h.fn (hn _ l.2.2.2.2.1 t.2.2.2.1 s.2.2.1),hf.blk h.val (hn _ l.2.2.2.2.2.1 t.2.2.2.2.1 s.2.2.2.1),?_,Nat.le_trans h.size hf.size⟩;refine h.below.trans (hf.below h.below.size fun g hg=>?_);have:=hE.ge
 rcases hP g hg with h5 | h5 | h5<;>omega
theorem TFix.of_below {E:Env}{w0 w w':World}(h:TFix E w0 w)(hE:E.Ok w0)(hb:Below w.heap.size w w'):TFix E w0 w':=h.fr hE (Fr.of_below hb (fun _=>False)) (fun _ h=>h.elim)
theorem TSt.of_below {E:Env}{w w':World}{st:Bst}{A:Option Addr}{n c:Nat}(h:TSt E w st A n c)(hb:Below w.heap.size w w'):TSt E w' st A n c :=
 ⟨h.best.below hb h.best.lt,h.set.below hb h.set.lt,h.rd.below hb,h.ok,h.le,fun a ha=>⟨(h.far a ha).1,Nat.lt_of_lt_of_le (h.far a ha).2 hb.size⟩⟩
theorem TSt.fr {E:Env}{w w':World}{P:Nat→Prop}{st:Bst}{A:Option Addr}{n c:Nat}(h:TSt E w st A n c)(hf:Fr P w w')(h1:¬ P E.Bt)(h2:¬ P E.Bs)(h3:∀ a,A=some a→¬ P a.block):TSt E w' st A n c :=
 ⟨hf.blk h.best h1,hf.blk h.set h2,hf.rd h.rd h3,h.ok,h.le,fun a ha=>⟨(h.far a ha).1,Nat.lt_of_lt_of_le (h.far a ha).2 hf.size⟩⟩
theorem updB_ok {g c:Int}{l:List Int}{st:Bst}(h:StB st)(hg:0≤g∧g≤200000000)(hc:0≤c∧c≤200000000)(hl:l.length≤12):StB (updB g c l st):=by
 unfold updB
 split
 · exact⟨hg,hc,hl⟩
 · exact h
def TryP (E:Env)(w0 w:World)(vv:Value)(n:Nat)(l:List Int)(A:Option Addr)(st':Bst)(e:Ending)(w':World):Prop :=
 e=.returned (.tuple #[])∧∃ A' n' c',TSt E w' st' A' n' c'∧TFix E w0 w'∧w'.ownsRow E.base 3 1 vv n (l.flatMap enc1)∧(A'=A∨∀ a,A'=some a→w.heap.size≤a.block)∧Fr (Ex E vv) w w'
theorem tryP_out {E:Env}{w0 w:World}{vv:Value}{n:Nat}{l:List Int}{A:Option Addr}{st':Bst}{e:Ending}{w':World}(h:TryP E w0 w vv n l A st' e w') :
 e=.returned (.tuple #[])∧∃ A' n' c',TSt E w' st' A' n' c'∧TFix E w0 w'∧w'.ownsRow E.base 3 1 vv n (l.flatMap enc1)∧(A'=A∨∀ a,A'=some a→w.heap.size≤a.block)∧Fr (Ex E vv) w w':=h
theorem try_c {E:Env}{w0:World}(hE:E.Ok w0):∀(k:Nat) (w:World) (i:Nat) (g c:Int) (l:List Int) (vv:Value) (n:Nat) (st:Bst) (A:Option Addr) (sn sc:Nat),i+k=E.pn→l.length=n→n≤i →
 (0≤g∧g≤10000000 * i)→(0≤c∧c≤100000 * i)→TFix E w0 w→TSt E w st A sn sc→w.ownsRow E.base 3 1 vv n (l.flatMap enc1)→(∀ a,A=some a→vv.ownBlock≠some a.block) →
 Calls Tryz.prog 144 (#[.int .i64 i,.agg #[.int .i64 g,.int .i64 c],vv]++E.cap) w fun e w'=>TryP E w0 w vv n l A (tryB E.G (E.v.pars.map (·.price)) E.B k i g c l st) e w':=by
 obtain⟨Ps,hPs⟩:∃ Ps,Ps=E.v.pars.map (·.price):=⟨_,rfl⟩;rw[← hPs];have HPS:=hid hPs;clear hPs;intro k
 induction k using Nat.strongRecOn with
 | ind k ih =>
 intro w i g c l vv n st A sn sc hik hln hni hg hc hfix hst hown hfar;have hpl:=hE.rd.pars.len;have hpn:=hE.ok.pn
 have hi12:i≤12:=by omega
 have HFX:=hid hfix;have HST:=hid hst;have HOW:=hid hown;have HFAR:=hid hfar;have HE:=hid hE;have IH:=hid ih;have hb0:Below w.heap.size w (w.alloc (.cells #[.int .i64 g,.int .i64 c] 231)):=(Below.refl _ w).alloc (Nat.le_refl _) _;have HB0:=hid hb0;have HNB:=hid (Blk.new w 231 #[.int .i64 g,.int .i64 c]);have d3:=hfix.bud.cell 0;have hbs:=hfix.bud.lt;simp at d3;unfold Env.cap;simp only[List.append_toArray,List.cons_append,List.nil_append]
 by_cases hbud:E.B<c
 · have hres:tryB E.G Ps E.B k i g c l st=st:=by unfold tryB;rw[if_pos hbud]
   rw[hres]
   have HP:TryP E w0 w vv n l A st (.returned (.tuple #[])) (w.alloc (.cells #[.int .i64 g,.int .i64 c] 231)) :=
    ⟨rfl,A,sn,sc,HST.out.of_below hb0,HFX.out.of_below HE.out hb0,own_mono HOW.out hb0,.inl rfl,Fr.of_below hb0 _⟩
   have HPH:=hid HP;clear ih hE hfix hst hown hfar hb0 HP hres
   go_enter Tryz.func144,Tryz.ntmps144
   go_wp2_with fail
   exact bodyPost_ret (results_none rfl _ _ _) rfl HPH.out
 · have hcb:¬ E.B<c:=hbud
   have hbud2:c≤E.B:=by omega
   have hres:tryB E.G Ps E.B k i g c l st=loopB E.G Ps E.B k i g c l (updB g c l st):=by unfold tryB;rw[if_neg hbud]
   rw[hres];obtain⟨VA,vc,rfl,hvc⟩:=own_form hown;have hrl:Rd enc1 1 w VA n l:=Rd.of_own enc1_len hown hln;have hso:=hst.ok;have HBT:=hid (better_c (g:=g) (c:=c) (cp:=vc) (cp':=sc) (hrl.below hb0) (hst.rd.below hb0) (by omega) (by have:=hst.le;omega) (by omega) (by have:=hso.g;have:=hso.c;omega));have hsu:=updB_ok (g:=g) (c:=c) (l:=l) hso (by omega) (by omega) (by omega);have HSU:=hid hsu;have e0:=hst.best.cell 0;have e1:=hst.best.cell 1;have e2:=hst.set.cell 0;simp at e0 e1 e2;have hbt:=hst.best.lt;have hbs2:=hst.set.lt
   have hupd:updB g c l st=if betterB g c l st then ⟨g,c,l⟩ else st:=rfl
   have HVL:=hid (fun b (hb:(Value.slice VA n vc).ownBlock=some b)=>(hown.lt b hb).2);have HK12:=hid (And.intro hst.best.lt hst.set.lt);clear ih hE hfix hst hown hfar hres hrl;obtain⟨NT,hNT⟩:∃ NT,NT=updB g c l st:=⟨_,rfl⟩;rw[← hNT];rw[← hNT] at hupd HSU;have HUP:=hid hupd;obtain⟨RES,hRES⟩:∃ RES,RES=loopB E.G Ps E.B k i g c l NT:=⟨_,rfl⟩;rw[← hRES];have HRES:=hid hRES;clear hupd hNT hsu hRES
   go_enter Tryz.func144,Tryz.ntmps144
   go_upto_if 21 with (go_at_call 145;refine HBT.out.mono ?_;rintro e w2 ⟨rfl,hb2⟩)
   have HB2:=hid (below_tr HB0.out hb2);have HN2:=hid (HNB.out.below hb2 (by simp));have HST2:=hid (HST.out.of_below HB2.out);have HFX2:=hid (HFX.out.of_below HE.out HB2.out);have HOW2:=hid (own_mono HOW.out HB2.out);clear hb2 HBT e0 e1 e2 d3 hbt hbs2 hbs hb0 HB0 HNB
   go_cut [] (fun wx=>∃ A' n' c',TSt E wx NT A' n' c'∧TFix E w0 wx∧wx.ownsRow E.base 3 1 (.slice VA n vc) n (l.flatMap enc1)∧Blk wx w.heap.size 231 #[.int .i64 g,.int .i64 c]∧(A'=A∨∀ a,A'=some a→w.heap.size≤a.block)∧Fr (Ex E (.slice VA n vc)) w wx)
   case first =>
    cases hbb:betterB g c l st
    · rw[hbb] at HUP
      have hn:=HUP.out;simp at hn;subst hn
      go_wp2_with fail
      go_meet
      exact⟨A,sn,sc,HST2.out,HFX2.out,HOW2.out,HN2.out,.inl rfl,Fr.of_below HB2.out _⟩
    · rw[hbb] at HUP
      have hn:=HUP.out;simp at hn;subst hn;have HCL:=hid (fun W (hW:Below w2.heap.size w2 W)=>clone_c (c:=vc) ((Rd.of_own enc1_len HOW2.out hln).below hW) (by omega));have n0:=HN2.out.cell 0;have n1:=HN2.out.cell 1;simp at n0 n1;have hnlt:=HN2.out.lt
      have hk1:¬(E.Bt=w.heap.size):=by have:=HST.out.best.lt;omega
      have hk2:¬(E.Bs=w.heap.size):=by have:=HST.out.set.lt;omega
      have hk3:¬(w.heap.size=E.Bt):=fun e=>hk1 e.symm;have hk4:¬(w.heap.size=E.Bs):=fun e=>hk2 e.symm
      go_wp2_with fail
      go_region_held3 (fun w'=>w'.cell? ⟨w.heap.size,0,none⟩=some (.int .i64 g)∧w'.cell? ⟨w.heap.size,1,none⟩=some (.int .i64 c))
       (first | exact⟨n0,n1⟩ | exact⟨m0,m1⟩ | (go_keep;done))
       ((go_at_call 98;refine(HCL.out _ (Below.refl _ _).drew).mono ?_;rintro e w3 ⟨u,rfl,hownu,hbc⟩;obtain⟨UA,uc,rfl,huc⟩:=own_form hownu;have hb3:=(Below.refl w2.heap.size w2).drew.trans hbc;have HB3:=hid hb3;have m0:=(hb3.cell (p:=⟨w.heap.size,0,none⟩) hnlt).trans n0;have m1:=(hb3.cell (p:=⟨w.heap.size,1,none⟩) hnlt).trans n1;have HST3:=hid (HST2.out.of_below hb3);have q0:=HST3.out.best.cell 0;have q1:=HST3.out.best.cell 1;have q2:=HST3.out.set.cell 0;have r0:=HST3.out.best.frozen 0;have r1:=HST3.out.best.frozen 1;have r2:=HST3.out.set.frozen 0;simp at q0 q1 q2;have hst1:=HE.out.net.2.1;have hst2:=Ne.symm hst1))
      all_goals
       have F34:Fr (fun b=>b=E.Bt∨b=E.Bs) w3 (((w3.setCell ⟨E.Bt,0,none⟩ (.int .i64 g)).setCell ⟨E.Bt,1,none⟩ (.int .i64 c)).setCell ⟨E.Bs,0,none⟩ (.slice UA n uc)) :=
        (((Fr.refl _ w3).setAt (.inl (.inl rfl)) _).setAt (.inl (.inl rfl)) _).setAt (.inl (.inr rfl)) _
       have hx1:=((HST3.out.best.set_ 0 (.int .i64 g)).set_ 1 (.int .i64 c)).far (p:=⟨E.Bs,0,none⟩) hst2 (.slice UA n uc);have hx2:=((HST3.out.set.far (p:=⟨E.Bt,0,none⟩) hst1 (.int .i64 g)).far (p:=⟨E.Bt,1,none⟩) hst1 (.int .i64 c)).set_ 0 (.slice UA n uc)
       have hub:∀ a,UA=some a→w2.heap.size≤a.block∧a.block<w3.heap.size:=fun a ha=>by
        subst ha
        rcases hownu.2 with ⟨h0,_⟩ | ⟨gu,_,_,he,hbu,hgu,_⟩
        · cases h0
        · cases he
          exact⟨hbu,(Array.getElem?_eq_some_iff.1 hgu).1⟩
       have hsz2:=HFX2.out.size;have hlt1:=HE.out.lt;have hrd3:=F34.rd (Rd.of_own enc1_len hownu hln) (fun a ha hh=>by have:=hub a ha;rcases hh with h5 | h5<;>omega);have hfx3:=(HFX2.out.of_below HE.out HB3.out).fr HE.out F34 (fun b hb=>by rcases hb with h5 | h5;exact .inl h5;exact .inr (.inl h5));have hrow3:=F34.row (own_mono HOW2.out HB3.out) (fun b hb hh=>by have:=own_base_ge HOW2.out hb;rcases hh with h5 | h5<;>omega);have hnow3:=F34.blk (HN2.out.below HB3.out HN2.out.lt) (fun hh=>by rcases hh with h5 | h5;exact hk3 h5;exact hk4 h5);have hfr3:Fr (Ex E (.slice VA n vc)) w _:=(Fr.of_below (HB2.out.trans (HB3.out.mono HB2.out.size)) (Ex E (.slice VA n vc))).comp F34 (fun b hb=>by rcases hb with h5 | h5;exact .inl (.inl h5);exact .inl (.inr (.inl h5)));have hsz23:=HB2.out.size
       go_wp2_with fail
       go_meet
       refine⟨UA,n,uc,⟨hx1,hx2,hrd3,HSU.out,by omega,fun a ha=>⟨?_,?_⟩⟩,hfx3,hrow3,hnow3,.inr fun a ha=>?_,hfr3⟩
       · have:=hub a ha;omega
       · have:=hub a ha;have:=F34.size;omega
       · have:=hub a ha;omega
   case rest =>
    obtain⟨A1,n1,c1,hst1,hfx1,hrow1,hnow1,hA1,hfr1⟩:=hcut;have HS1:=hid hst1;have HF1:=hid hfx1;have HR1:=hid hrow1;have HN1:=hid hnow1;have HA1:=hid hA1;have HFR1:=hid hfr1;have e6:=hfx1.gbox.cell 0;simp at e6;have HSL:=hid (fun k i g c l st=>loopB_succ E.G Ps E.B k i g c l st);have HSZ:=hid (fun i g c l st=>loopB_zero E.G Ps E.B i g c l st);clear hst1 hfx1 hrow1 hnow1 hA1 hfr1 HST2 HFX2 HOW2 HN2 HB2 HUP HSU HOW HST HFX
    go_wp2_with fail
    go_loopw [12] (fun x wr=>∃(j:Nat) (A2:Option Addr) (n2 c2:Nat) (st2:Bst),i≤j∧j≤E.pn∧x=.int .i64 j∧RES=loopB E.G Ps E.B (E.pn - j) j g c l st2∧TSt E wr st2 A2 n2 c2∧TFix E w0 wr∧wr.ownsRow E.base 3 1 (.slice VA n vc) n (l.flatMap enc1) ∧
     Blk wr w.heap.size 231 #[.int .i64 g,.int .i64 c]∧(A2=A∨∀ a,A2=some a→w.heap.size≤a.block)∧Fr (Ex E (.slice VA n vc)) w wr) (fun x _=>E.pn - (intOf x).toNat)
    case atStart=>exact⟨i,A1,n1,c1,NT,Nat.le_refl _,by omega,rfl,by rw[HRES.out];congr 1;omega,HS1.out,HF1.out,HR1.out,HN1.out,HA1.out,HFR1.out⟩
    case round =>
     obtain⟨j,A2,n2,c2,st2,hij,hjp,rfl,hres2,hst2,hfx2,hrow2,hnow2,hA2,hfr2⟩:=hrel;have HRES2:=hid hres2;have HS2:=hid hst2;have HF2:=hid hfx2;have HR2:=hid hrow2;have HN2:=hid hnow2;have HA2:=hid hA2;have HFR2:=hid hfr2;have f6:=hfx2.gbox.cell 0;simp at f6;clear hres2 hst2 hrow2 hnow2 hA2 hfr2
     by_cases hlt:j<E.pn
     · obtain⟨i0,hi0,hz0,hz1,hz2⟩:=info_parts infoZ
       obtain⟨b,o,p,hA,hb,hp,_,pp,_,_⟩:=(HE.out.rd.pars).atP hlt;have hgj:E.G[j]?=some (E.G[j]'(by rw[HE.out.gl];exact hlt)):=List.getElem?_eq_getElem _;obtain⟨x,hx⟩:∃ x,x=E.G[j]'(by rw[HE.out.gl];exact hlt):=⟨_,rfl⟩;rw[← hx] at hgj;have hxb:0≤x∧x≤10000000:=HE.out.gb x (List.mem_of_getElem? hgj);have hpb:=HE.out.ok.parcel hp
       have hPj:Ps[j]?=some p.price:=by rw[HPS.out,List.getElem?_map,hp];rfl
       have hS:∀ W,TFix E w0 W→Blk W w.heap.size 231 #[.int .i64 g,.int .i64 c]→W.cell? ⟨E.Bf,0,none⟩=some (.func (.func 144) #[] E.cap)∧W.cell? ⟨w.heap.size,0,none⟩=some (.int .i64 g)∧W.cell? ⟨w.heap.size,1,none⟩=some (.int .i64 c)∧W.cell? ⟨E.Bg,0,none⟩=some (.slice (some ⟨E.gg,0,none⟩) E.pn E.pn)∧W.cell? ⟨E.gg,j,none⟩=some (.int .i64 x) ∧
        W.cell? ⟨E.Bv,0,none⟩=some (.slice (some ⟨b,o,none⟩) E.pn E.pc)∧W.cell? ⟨b,o+j * 4+1,none⟩=some (.int .i64 p.price):=fun W hW hN=>by
        refine⟨?_,?_,?_,?_,?_,?_,?_⟩
        · rw[hW.fn.cell 0];rfl
        · rw[hN.cell 0];rfl
        · rw[hN.cell 1];rfl
        · rw[hW.gbox.cell 0];rfl
        · rw[hW.grow.cell j,intsA_get,hgj];rfl
        · rw[hW.val.cell 0,← hA];rfl
        · exact(hW.below.cell (p:=⟨b,_,none⟩) hb).trans pp
       have hbA:Below wr.heap.size wr (wr.alloc (.cells #[.int .i64 (j:Int)] 3)).drew:=((Below.refl _ wr).alloc (Nat.le_refl _) _).drew;have hfA:=HF2.out.of_below HE.out hbA;have hnA:=HN2.out.below hbA HN2.out.lt;have hsA:=HS2.out.of_below hbA
       obtain⟨v5,w5,hrun,hown5,hgr5,hbk5,hold5⟩:=run_app1 (P:=Tryz.prog) (wr.alloc (.cells #[.int .i64 (j:Int)] 3)).drew E.base 28 28 3 i0 (.int .i64 0) Tryz.underlying28 hi0 hz0 hz1 hz2 rfl (.slice VA n vc) n (l.flatMap enc1) (own_mono HR2.out hbA) ⟨wr.heap.size,0,none⟩ 1 (.int .i64 (j:Int))
        (by simp) rfl (by omega) (by have:=hfA.size;omega)
       have F5:Fr (fun b=>(Value.slice VA n vc).ownBlock=some b) (wr.alloc (.cells #[.int .i64 (j:Int)] 3)).drew w5:=Fr.of_grown hgr5 (fun b hb _=>hb);have hob:∀ b,(Value.slice VA n vc).ownBlock=some b→E.base≤b∧b<wr.heap.size:=fun b hb=>⟨own_base_ge HR2.out hb,(HR2.out.lt b hb).2⟩;have hlt1:=HE.out.lt;have hf5:=hfA.fr HE.out F5 (fun b hb=>.inr (.inr (hob b hb).1))
       have hA2f:∀ a,A2=some a→(Value.slice VA n vc).ownBlock≠some a.block:=fun a ha he=>by
        rcases HA2.out with h5 | h5
        · exact HFAR.out a (by rw[← h5];exact ha) he
        · have h6:=h5 a ha
          have h7:=HVL.out a.block he;omega
       have hvl:=HVL.out;have hk12:=HK12.out
       have hnb5:∀ b,(Value.slice VA n vc).ownBlock=some b→¬ w.heap.size=b:=fun b hb he=>by have:=hvl b hb;omega
       have hn5:=F5.blk hnA (fun hh=>hnb5 _ hh rfl);have hs5:=hsA.fr F5 (fun hh=>by have:=hob _ hh;omega) (fun hh=>by have:=hob _ hh;omega) hA2f
       have hwsz:(wr.alloc (.cells #[.int .i64 (j:Int)] 3)).drew.heap.size=wr.heap.size+1:=by simp
       have hfar5:∀ a,A2=some a→v5.ownBlock≠some a.block:=fun a ha he=>by
        rcases hbk5 with h5 | h5
        · exact hA2f a ha (by rw[← h5];exact he)
        · rw[h5,hwsz] at he
          have h6:=(HS2.out.far a ha).2
          injection he with he
          omega
       have hflat:(l++[(j:Int)]).flatMap enc1=l.flatMap enc1++[.int .i64 (j:Int)]:=by rw[List.flatMap_append];rfl
       have hgA:gAt E.G j=x:=gAt_of hgj;have hpA:gAt Ps j=p.price:=gAt_of hPj
       have hjc:((j+1:Nat):Int)=(j:Int)+1:=by push_cast;rfl
       have hij2:(i:Int)≤(j:Int):=by omega
       have hih:=IH.out (E.pn - (j+1)) (by omega) w5 (j+1) (g+x) (c+p.price) (l++[(j:Int)]) v5 (n+1) st2 A2 n2 c2 (by omega) (by simp[hln]) (by omega) (by rw[hjc];omega) (by rw[hjc];omega) hf5 hs5 (by rw[hflat];exact hown5) hfar5;have hwj:IntKind.i64.wrap ((j:Int)+1)=(j:Int)+1:=wi (by omega);rw[hjc,← hwj] at hih;have HIH:=hid hih;clear hwj;have S0:=hS wr HF2.out HN2.out;have S1:=hS _ hfA hnA;have S5:=hS _ hf5 hn5;have hres5:=HRES2.out;rw[show E.pn - j=(E.pn - (j+1))+1 by omega,HSL.out,hgA,hpA] at hres5;have HR5:=hid hres5;have HF5:=hid F5;have HN5:=hid hn5;have HOLD5:=hid hold5;have HOWN5:=hid hown5;have HBK5:=hid hbk5;have HOB:=hid hob;have HBA:=hid hbA;have HHF5:=hid hf5;have hw1:IntKind.i64.wrap (g+x)=g+x:=wi (by omega);have hw2:IntKind.i64.wrap (c+p.price)=c+p.price:=wi (by omega)
       have hj0:(0:Int)≤(j:Int):=by omega
       have hjn:(j:Int)<(E.pn:Int):=by omega
       have hfs5:=hf5.size;have HSS:=hid hS
       have HNX:Hid (¬ Ex E v5 w.heap.size):=hid (fun hh=>by
        have hwle:=HFR2.out.size
        rcases hh with h8 | h8 | h8
        · omega
        · omega
        · rcases HBK5.out with h5 | h5
          · exact hnb5 _ (by rw[← h5];exact h8) rfl
          · rw[h5,hwsz] at h8;injection h8 with h8;omega)
       clear hbA hfA hnA hsA hgr5 hbk5 hold5 F5 hob hf5 hA2f hn5 hs5 hfar5 hflat hih hres5 hown5 hgA hpA hgj hx hPj hp hS hvl
       go_wp2_with fail
       go_region_held3 (fun w'=>w'.cell? ⟨E.Bf,0,none⟩=some (.func (.func 144) #[] E.cap)∧w'.cell? ⟨w.heap.size,0,none⟩=some (.int .i64 g)∧w'.cell? ⟨w.heap.size,1,none⟩=some (.int .i64 c)∧w'.cell? ⟨E.Bg,0,none⟩=some (.slice (some ⟨E.gg,0,none⟩) E.pn E.pn)∧w'.cell? ⟨E.gg,j,none⟩=some (.int .i64 x) ∧
        w'.cell? ⟨E.Bv,0,none⟩=some (.slice (some ⟨b,o,none⟩) E.pn E.pc)∧w'.cell? ⟨b,o+j * 4+1,none⟩=some (.int .i64 p.price))
        (first | exact S0 | exact S1 | exact S5 | exact S6 | assumption)
        (first
         | (refine step_append_run (by rfl) (.tmp 52) (.tmp 54) 28 (by rfl) (.slice VA n vc) (.slice (some ⟨wr.heap.size,0,none⟩) 1 1) v5 w5 (by rfl) (by rfl) ?_ ?_;(go_must (with_reducible exact hrun)))
         | (with_reducible refine HIH.out.mono ?_;intro e w6 hTP;obtain⟨rfl,A6,n6,c6,ht6,hf6,ho6,ha6,hfr6⟩:=tryP_out hTP;have hnow6:=hfr6.blk HN5.out HNX.out;have S6:=HSS.out w6 hf6 hnow6))
       all_goals
        have hlb:=HE.out.lt
        have hnbt:¬ w.heap.size=E.Bt:=by have:=HK12.out.1;omega
        have hnbs:¬ w.heap.size=E.Bs:=by have:=HK12.out.2;omega
        have hflat:(l++[(j:Int)]).flatMap enc1=l.flatMap enc1++[.int .i64 (j:Int)]:=by rw[List.flatMap_append];rfl
        have hwsz:(wr.alloc (.cells #[.int .i64 (j:Int)] 3)).drew.heap.size=wr.heap.size+1:=by simp
        have hwle:=HFR2.out.size
        have hrow6:w6.ownsRow E.base 3 1 (.slice VA n vc) n (l.flatMap enc1):=by
         rcases HBK5.out with h5 | h5
         · exact own_pre HOLD5.out HOWN5.out h5 (by rw[← hflat];exact ho6)
         · refine hfr6.row HOLD5.out (fun b hb hh=>?_)
           have h7:=HOB.out b hb
           rcases hh with h8 | h8 | h8
           · omega
           · omega
           · rw[h5,hwsz] at h8;injection h8 with h8;omega
        have hw5:wr.heap.size+1≤w5.heap.size:=by have:=HF5.out.size;omega
        have hA6:A6=A∨∀ a,A6=some a→w.heap.size≤a.block:=by
         rcases ha6 with h8 | h8
         · rw[h8];exact HA2.out
         · exact .inr fun a ha=>by have:=h8 a ha;omega
        have hfr9:Fr (Ex E (.slice VA n vc)) w w6:=by
         refine((HFR2.out.comp (Fr.of_below HBA.out (fun _=>False)) (fun _ h=>h.elim)).comp HF5.out (fun b hb=>.inl (.inr (.inr hb)))).comp hfr6 (fun b hb=>?_)
         rcases hb with h8 | h8 | h8
         · exact .inl (.inl h8)
         · exact .inl (.inr (.inl h8))
         · rcases HBK5.out with h5 | h5
           · exact .inl (.inr (.inr (by rw[← h5];exact h8)))
           · rw[h5,hwsz] at h8;injection h8 with h8;exact .inr (by omega)
        have HH:=hid (And.intro hrow6 (And.intro hnow6 (And.intro hA6 (And.intro hfr9 (And.intro ht6 hf6)))));clear hrow6 hnow6 hA6 hfr9 ht6 hf6 hflat hwsz hw5 ho6 ha6 hfr6
        go_wp2_with fail
        go_roundw
        case rel=>exact⟨j+1,A6,n6,c6,_,by omega,by omega,by go_num,HR5.out,HH.out.2.2.2.2.1,HH.out.2.2.2.2.2,HH.out.1,HH.out.2.1,HH.out.2.2.1,HH.out.2.2.2.1⟩
        case measure=>simp[intOf]<;>omega
     · obtain rfl:j=E.pn:=by omega
       have hfin:=HRES2.out;rw[Nat.sub_self,HSZ.out] at hfin;have HPH:=hid (show TryP E w0 w (.slice VA n vc) n l A RES (.returned (.tuple #[])) wr from by rw[hfin];exact⟨rfl,A2,n2,c2,HS2.out,HF2.out,HR2.out,HA2.out,HFR2.out⟩);clear hfin hfx2
       go_wp2_with fail
       exact bodyPost_ret (results_none rfl _ _ _) rfl HPH.out
theorem rd_drew {α:Type}{enc:α→List Value}{k:Nat}{w:World}{A:Option Addr}{n:Nat}{l:List α}(h:Rd enc k w A n l):Rd enc k w.drew A n l:=h
def pricesL (v:Vly):List Int:=v.pars.map (·.price)
theorem Buy_fund {v:Vly}{PA SA:Option Addr}{pn pc sn sc:Nat}{B:Int}{w:World}(h:RdV w PA pn SA sn v)(hok:VOk v)(hf:inB B 0 100000000=false) :
 Calls Tryz.prog 108 #[.agg #[.slice PA pn pc,.slice SA sn sc,.int .i64 v.s0,.int .i64 v.s1,.int .i64 v.s2],.int .i64 B] w
  fun e w'=>e=.returned (.tuple #[.slice none 0 0,.int .i64 0,.int .i64 2])∧Below w.heap.size w w':=by
 have hlp:=h.pars.len;have hls:=h.sls.len;have hpn:=hok.pn;have hsn:=hok.sn;obtain⟨W,hW⟩:∃ W,W=((w.alloc (.cells (vA PA pn pc SA sn sc v) 39)).alloc (.cells #[.int .i64 B] 3)).alloc (.cells #[.slice none 0 0] 28):=⟨_,rfl⟩
 have hb0:Below w.heap.size w W:=by rw[hW];exact(((Below.refl _ w).alloc (Nat.le_refl _) _).alloc (by simp) _).alloc (by simp;omega) _
 have hx:=Blk.new ((w.alloc (.cells (vA PA pn pc SA sn sc v) 39)).alloc (.cells #[.int .i64 B] 3)) 28 #[.slice none 0 0];have hy:=(Blk.new (w.alloc (.cells (vA PA pn pc SA sn sc v) 39)) 3 #[.int .i64 B]).alloc (.cells #[.slice none 0 0] 28);simp only[World.size_alloc] at hx hy;rw[← hW] at hx hy;have HC:=hid (checkV_c (pc:=pc) (sc:=sc) (h.below hb0) (by unfold maxLen;omega) (by unfold maxLen;omega));rw[errV_zero.2 hok,hW] at HC;have HF:=hid (fun W=>fund_c B W);rw[hf] at HF;have HB:=hid hb0;have HX:=hid hx;have HW:=hid hW;have HY:=hid hy;clear h hb0 hx hW hy hok hf
 go_enter Tryz.func108,Tryz.ntmps108
 go_wp2_with fail
 refine HC.out.mono ?_;rintro e w2 ⟨rfl,hb⟩;rw[← HW.out] at hb;have HB2:=hid (below_tr HB.out hb);have hx2:=HX.out.below hb HX.out.lt;have hy2:=HY.out.below hb HY.out.lt;have c0:=hx2.cell 0;have f0:=hx2.frozen 0;have d0:=hy2.cell 0;simp at c0 d0;have HX2:=hid hx2;clear hb hx2 hy2
 go_wp2_with fail
 refine(HF.out _).mono ?_;rintro e w3 ⟨rfl,rfl⟩
 go_wp2_with fail
 have hx3:=HX2.out.set_ 0 (.slice none 0 0);have c3:=hx3.cell 0;simp at c3;refine bodyPost_ret (v:=.tuple #[.slice none 0 0,.int .i64 0,.int .i64 2]) ?_ rfl ⟨rfl,HB2.out.setCell (by simp;omega) _⟩;simp[results,Tryz.f108,go_sem,c3]
theorem Buy_ok {v:Vly}{PA SA:Option Addr}{pn pc sn sc:Nat}{B:Int}{w:World}(h:RdV w PA pn SA sn v)(hok:VOk v)(hf:inB B 0 100000000=true) :
 Calls Tryz.prog 108 #[.agg #[.slice PA pn pc,.slice SA sn sc,.int .i64 v.s0,.int .i64 v.s1,.int .i64 v.s2],.int .i64 B] w
  fun e w'=>∃ A n c,e=.returned (.tuple #[.slice A n c,.int .i64 (bestB (gainsL v) (pricesL v) B).gain,.int .i64 0])∧n≤12∧(∀ ad,A=some ad→w.heap.size≤ad.block)∧Rd enc1 1 w' A n (bestB (gainsL v) (pricesL v) B).set∧Below w.heap.size w w':=by
 have hlp:=h.pars.len;have hls:=h.sls.len;have hpn:=hok.pn;have hsn:=hok.sn;obtain⟨W,hW⟩:∃ W,W=((w.alloc (.cells (vA PA pn pc SA sn sc v) 39)).alloc (.cells #[.int .i64 B] 3)).alloc (.cells #[.slice none 0 0] 28):=⟨_,rfl⟩
 have hb0:Below w.heap.size w W:=by rw[hW];exact(((Below.refl _ w).alloc (Nat.le_refl _) _).alloc (by simp) _).alloc (by simp;omega) _
 have hx:=Blk.new ((w.alloc (.cells (vA PA pn pc SA sn sc v) 39)).alloc (.cells #[.int .i64 B] 3)) 28 #[.slice none 0 0];have hy:=(Blk.new (w.alloc (.cells (vA PA pn pc SA sn sc v) 39)) 3 #[.int .i64 B]).alloc (.cells #[.slice none 0 0] 28);have hz:=((Blk.new w 39 (vA PA pn pc SA sn sc v)).alloc (.cells #[.int .i64 B] 3)).alloc (.cells #[.slice none 0 0] 28);simp only[World.size_alloc] at hx hy;rw[← hW] at hx hy hz;have HC:=hid (checkV_c (pc:=pc) (sc:=sc) (h.below hb0) (by unfold maxLen;omega) (by unfold maxLen;omega));rw[errV_zero.2 hok,hW] at HC;have HF:=hid (fun W=>fund_c B W);rw[hf] at HF
 have hsW:W.heap.size=w.heap.size+1+1+1:=by rw[hW];simp
 have HV:=hid h;have HOK:=hid hok;have HB:=hid hb0;have HX:=hid hx;have HW:=hid hW;have HY:=hid hy;have HZ:=hid hz
 have hGl:(gainsL v).length=pn:=by rw[gainsL_len,hlp]
 have hGb:=gainsL_bd hok;obtain⟨G,hG⟩:∃ G,G=gainsL v:=⟨_,rfl⟩;have HG:=hid hG;have HRS:=hid (show bestB G (pricesL v) B=tryB G (v.pars.map (·.price)) B pn 0 0 0 [] ⟨0,0,[]⟩ by unfold bestB;rw[hG,hGl];rfl);rw[← hG] at hGl hGb ⊢;obtain⟨RS,hRS⟩:∃ RS,RS=bestB G (pricesL v) B:=⟨_,rfl⟩;rw[← hRS] at HRS ⊢;clear h hb0 hx hW hy hz hok hf hG hRS
 go_enter Tryz.func108,Tryz.ntmps108
 go_wp2_with fail
 refine HC.out.mono ?_;rintro e w2 ⟨rfl,hb⟩;rw[← HW.out] at hb;have HB2:=hid (below_tr HB.out hb);have HX2:=hid (HX.out.below hb HX.out.lt);have HY2:=hid (HY.out.below hb HY.out.lt);have HZ2:=hid (HZ.out.below hb HZ.out.lt);have hs2:=hb.size;have c0:=HX2.out.cell 0;have d0:=HY2.out.cell 0;simp at c0 d0;obtain⟨q0,q1,q2,q3,q4⟩:=(show SV w2 w.heap.size (vA PA pn pc SA sn sc v) w2 from⟨Below.refl _ _,HZ2.out⟩).cells;have HGN:=hid (gains_c (pc:=pc) (sc:=sc) (HV.out.below HB2.out) HOK.out);rw[← HG.out] at HGN;clear hb HX HY HZ HC
 go_wp2_with fail
 refine(HF.out _).mono ?_;rintro e w2' ⟨rfl,rfl⟩
 go_wp2_with fail
 refine HGN.out.mono ?_;rintro e w3 ⟨gg,rfl,hgg,hgr,hb⟩;have HB3:=hid (below_tr HB2.out hb);have HX3:=hid (HX2.out.below hb HX2.out.lt);have HY3:=hid (HY2.out.below hb HY2.out.lt);have HZ3:=hid (HZ2.out.below hb HZ2.out.lt);have HGR:=hid hgr;have hs3:=hb.size;have hgl:=hgr.lt;clear hb hgr HX2 HY2 HZ2 HGN HF c0 d0 q0 q1 q2 q3 q4
 go_wp2_with fail
 obtain⟨E,hE⟩:∃ E:Env,E={ Bb:=w.heap.size+1,Bt:=w3.heap.size+1,Bs:=w.heap.size+1+1,Bg:=w3.heap.size,Bf:=w3.heap.size+1+1,Bv:=w.heap.size,gg:=gg,base:=w3.heap.size+1+1+1,PA:=PA,pn:=pn,pc:=pc,SA:=SA,sn:=sn,sc:=sc,v:=v,B:=B,G:=G }:=⟨_,rfl⟩;obtain⟨W4,hW4⟩:∃ W4:World,W4=((w3.alloc (.cells #[.slice (some ⟨gg,0,none⟩) pn pn] 28)).alloc (.cells #[.int .i64 0,.int .i64 0] 231)).alloc (.cells #[.func (.func 144) #[] E.cap] 232):=⟨_,rfl⟩
 have hb4:Below w3.heap.size w3 W4:=by rw[hW4];exact(((Below.refl _ w3).alloc (Nat.le_refl _) _).alloc (by simp) _).alloc (by simp;omega) _
 have k1:=((Blk.new w3 28 #[.slice (some ⟨gg,0,none⟩) pn pn]).alloc (.cells #[.int .i64 0,.int .i64 0] 231)).alloc (.cells #[.func (.func 144) #[] E.cap] 232);have k2:=(Blk.new (w3.alloc (.cells #[.slice (some ⟨gg,0,none⟩) pn pn] 28)) 231 #[.int .i64 0,.int .i64 0]).alloc (.cells #[.func (.func 144) #[] E.cap] 232);have k3:=Blk.new ((w3.alloc (.cells #[.slice (some ⟨gg,0,none⟩) pn pn] 28)).alloc (.cells #[.int .i64 0,.int .i64 0] 231)) 232 #[.func (.func 144) #[] E.cap];simp only[World.size_alloc] at k2 k3;rw[← hW4] at k1 k2 k3
 have hs4:W4.heap.size=w3.heap.size+1+1+1:=by rw[hW4];simp
 have hEok:E.Ok w:=by
  subst hE;refine⟨?_,?_,?_,?_,HOK.out,hGl,hGb,HV.out⟩
  all_goals (simp only;omega)
 have hfix:TFix E w W4:=by
  subst hE;exact⟨HY3.out.below hb4 HY3.out.lt,k1,HGR.out.below hb4 hgl,k3,HZ3.out.below hb4 HZ3.out.lt,HB3.out.trans (hb4.mono HB3.out.size),by simp only;omega⟩
 have hst:TSt E W4 ⟨0,0,[]⟩ none 0 0:=by
  subst hE;exact⟨k2,HX3.out.below hb4 HX3.out.lt,Rd.nil _ _ _ _,⟨by simp,by simp,by simp⟩,by omega,fun a ha=>by cases ha⟩
 have hcall:=try_c hEok pn W4 0 0 0 [] (.slice none 0 0) 0 ⟨0,0,[]⟩ none 0 0 (by subst hE;simp) rfl (Nat.le_refl _) (by simp) (by simp) hfix hst (World.ownsRow_nil _ _ _ _) (fun a ha=>by cases ha)
 have hEv:E.v=v∧E.G=G∧E.B=B:=by subst hE;exact⟨rfl,rfl,rfl⟩
 rw[hEv.1,hEv.2.1,hEv.2.2,← HRS.out] at hcall
 have hbase:E.base=w3.heap.size+1+1+1∧E.Bt=w3.heap.size+1∧E.Bs=w.heap.size+1+1:=by subst hE;exact⟨rfl,rfl,rfl⟩
 rw[hW4] at hcall
 have hcap:E.cap=#[.pointer (some ⟨w.heap.size+1,0,none⟩),.pointer (some ⟨w3.heap.size+1,0,none⟩),.pointer (some ⟨w.heap.size+1+1,0,none⟩),.pointer (some ⟨w3.heap.size,0,none⟩),.pointer (some ⟨w3.heap.size+1+1,0,none⟩),.pointer (some ⟨w.heap.size,0,none⟩)]:=by subst hE;rfl
 rw[hcap] at hcall;have HH:=hid (And.intro hEok (And.intro hbase (And.intro hW4 (And.intro hb4 hcap))));clear hEok hfix hst hEv hbase hb4 k1 k2 k3 hW4 hE hcap;refine hcall.mono ?_;intro e w5 hTP;obtain⟨rfl,A5,n5,c5,ht5,hf5,_,_,hfr5⟩:=tryP_out hTP;have hbest:=ht5.best;have hset:=ht5.set;rw[HH.out.2.1.2.1] at hbest;rw[HH.out.2.1.2.2] at hset;have c0:=hbest.cell 0;have d0:=hset.cell 0;have f0:=hset.frozen 0;simp at c0 d0;have HST:=hid hset;have HT5:=hid ht5;have HB5:=hid hf5.below;have hbs:=HH.out.2.1.1;clear hbest hset ht5 hf5 hfr5 hTP hcall HH
 have hne:¬ w.heap.size+1+1=w3.heap.size+1:=by have:=HB3.out.size;omega
 go_wp2_with fail
 go_region
 all_goals
  go_wp2_with fail
  have hx3:=HST.out.set_ 0 (.slice A5 n5 c5);have c3:=hx3.cell 0;simp at c3;refine bodyPost_ret (v:=.tuple #[.slice A5 n5 c5,.int .i64 RS.gain,.int .i64 0]) ?_ rfl ⟨A5,n5,c5,rfl,HT5.out.le,fun a ha=>by have:=(HT5.out.far a ha).1;have:=HB3.out.size;omega,?_,?_⟩
  · simp[results,Tryz.f108,go_sem,c3]
  · refine rd_drew (((Fr.refl (fun b=>b=w.heap.size+1+1) w5).setAt (p:=⟨w.heap.size+1+1,0,none⟩) (.inl rfl) (.slice A5 n5 c5)).rd HT5.out.rd fun a ha hh=>?_)
    have:=(HT5.out.far a ha).1;have:=HB3.out.size;omega
  · exact(HB5.out.setCell (by simp;omega) _).drew
end Go.Proofs.YtkhcliibilkefaaGreatDoor
namespace Go.Proofs.YtkhcliibilkefaaGreatDoor.Ga
open Lib (hid)
open Go.RowKit Go.Proofs
attribute [local go_sem ↓] Go.wp_at_zero Go.wp_at_succ
theorem num_at {bs:List UInt8}{B o n c T:Nat}{w:World}(h:Blk w B T (cellsB bs))(ho:o+n≤bs.length)(hn:n≤4) :
 Calls Tryz.prog 60 #[.slice (some ⟨B,o,none⟩) n c] w fun e w'=>e=.returned (.int .i64 (numB ((bs.drop o).take n)))∧w=w':=by
 refine number_c ⟨by simp;omega,fun _=>⟨B,o,rfl,h.lt,fun i x hx j v hv=>?_⟩⟩ hn
 match j,hv with
 | 0,hv =>
  simp[encB] at hv;subst hv;rw[h.cell];rw[List.getElem?_take] at hx
  split at hx
  · rw[List.getElem?_drop] at hx
    simp[cellsB,hx]
  · cases hx
def signed (z:Int):Int:=if z<2147483648 then z else z - 4294967296
def rdgOf (bs:List UInt8):Rdg:=⟨numB ((bs.drop 1).take 1),numB ((bs.drop 2).take 2),numB ((bs.drop 4).take 4),signed (numB ((bs.drop 8).take 4))⟩
theorem ins_of {bs:List UInt8}{b1:UInt8}(h:bs[1]?=some b1):(rdgOf bs).ins=(b1.toNat:Int):=by
 have h1:(bs.drop 1).take 1=[b1]:=by
  match bs,h with
  | _::b::r,h=>simp at h;subst h;rfl
 show numB ((bs.drop 1).take 1)=_;rw[h1];simp[numB]
theorem val_of (l:List UInt8)(h:l.length≤4):IntKind.i64.wrap (IntKind.i32.wrap (IntKind.u32.wrap (numB l)))=signed (numB l):=by
 have hb:=numB_bd l
 have h4:(256:Int) ^ l.length≤4294967296:=by
  have:=Nat.pow_le_pow_right (n:=256) (by omega) h
  have h5:(256:Nat) ^ 4=4294967296:=by decide
  rw[h5] at this;have h6:=Int.ofNat_le.2 this;rw[Int.natCast_pow] at h6;exact h6
 have h0:0≤numB l∧numB l<4294967296:=by omega
 generalize numB l=x at *;clear hb h4
 have hu:IntKind.u32.wrap x=x:=by simp[IntKind.wrap,IntKind.bits,IntKind.signed];omega
 have hi:IntKind.i32.wrap x=if x<2147483648 then x else x - 4294967296:=by
  simp[IntKind.wrap,IntKind.bits,IntKind.signed]
  split<;>split<;>omega
 rw[hu,hi];unfold signed
 split
 · exact wi (by omega)
 · exact wi (by omega)
def isRec (bs:List UInt8):Bool:=validB (rdgOf bs) && decide (recB (rdgOf bs)=bs)
theorem isRec_no {bs:List UInt8}(h:validB (rdgOf bs)=false):isRec bs=false:=by simp[isRec,h]
theorem isRec_yes {bs:List UInt8}(h:validB (rdgOf bs)=true):isRec bs=decide (recB (rdgOf bs)=bs):=by simp[isRec,h]
theorem res_two {ty:TypeId}{u x v y:Value}{a:Addr}{P:Program}{w:World}(hu:u=.pointer (some a))(hx:x=y)(hl:(loadVar ty a).run P w=.ok v w) :
 ((asAddr u).run P w).andThen (fun a w₁=>((loadVar ty a).run P w₁).andThen fun v w₂=>.ok (Value.tuple #[v,x]) w₂)=.ok (Value.tuple #[v,y]) w:=by
 subst hu;subst hx;simp only[asAddr,Sem.run_pure,Result.andThen_ok,hl]
theorem blk3 (w:World)(X Y Z:Array Value)(a b c:TypeId):Blk (((w.alloc (.cells X a)).alloc (.cells Y b)).alloc (.cells Z c)).drew (w.heap.size+1+1) c Z ∧
 Blk (((w.alloc (.cells X a)).alloc (.cells Y b)).alloc (.cells Z c)).drew w.heap.size a X∧Blk (((w.alloc (.cells X a)).alloc (.cells Y b)).alloc (.cells Z c)).drew (w.heap.size+1) b Y ∧
 Below w.heap.size w (((w.alloc (.cells X a)).alloc (.cells Y b)).alloc (.cells Z c)).drew:=by
 refine⟨?_,?_,?_,?_⟩
 · have:=Blk.new ((w.alloc (.cells X a)).alloc (.cells Y b)) c Z
   simp only[World.size_alloc] at this;exact this
 · exact(((Blk.new w a X).alloc _).alloc _).drewN 1
 · have:=(Blk.new (w.alloc (.cells X a)) b Y).alloc (.cells Z c)
   simp only[World.size_alloc] at this;exact this
 · exact((((Below.refl _ _).alloc (Nat.le_refl _) _).alloc (by simp) _).alloc (by simp;omega) _).drew
theorem reading_c (bs:List UInt8)(w:World)(hl:bs.length=16) :
 Calls Tryz.prog 43 #[.agg (cellsB bs)] w fun e w'=>(e=.returned (.tuple #[.agg #[.int .i64 (rdgOf bs).ins,.int .i64 (rdgOf bs).num,.int .i64 (rdgOf bs).tim,.int .i64 (rdgOf bs).val],.bool (isRec bs)]))∧Below w.heap.size w w':=by
 have HL:=hid hl;clear hl;have hb0:=Blk.new w 92 (cellsB bs);obtain⟨b1,hb1⟩:∃ b:UInt8,bs[1]?=some b:=⟨_,List.getElem?_eq_getElem (by rw[HL.out];omega)⟩
 have hc1:(w.alloc (.cells (cellsB bs) 92)).cell? ⟨w.heap.size,1,none⟩=some (.int .u8 (b1.toNat:Int)):=by
  rw[hb0.cell];simp[cellsB,hb1]
 have HB1:=hid hb1;clear hb1;have hb0':Blk ((w.alloc (.cells (cellsB bs) 92)).alloc (.cells #[.int .i64 0,.int .i64 0,.int .i64 0,.int .i64 0] 86)) w.heap.size 92 (cellsB bs):=hb0.alloc _
 have e0:IntKind.i64.wrap (b1.toNat:Int)=(rdgOf bs).ins:=by
  rw[wi (by have:=b1.toNat_lt;omega)];exact(ins_of HB1.out).symm
 have e3:IntKind.i64.wrap (IntKind.i32.wrap (IntKind.u32.wrap (numB (List.take 4 (List.drop 8 bs)))))=(rdgOf bs).val :=
  val_of _ (by rw[List.length_take,List.length_drop,HL.out];omega)
 go_enter Tryz.func43,Tryz.ntmps43
 go_upto_region 1 with fail
 go_cut [4] (fun s4 wx=>s4=.pointer (some ⟨w.heap.size+1+1,0,none⟩)∧Blk wx (w.heap.size+1+1) 86 #[.int .i64 (rdgOf bs).ins,.int .i64 (rdgOf bs).num,.int .i64 (rdgOf bs).tim,.int .i64 (rdgOf bs).val]∧Blk wx w.heap.size 92 (cellsB bs) ∧
  Blk wx (w.heap.size+1) 86 #[.int .i64 0,.int .i64 0,.int .i64 0,.int .i64 0]∧Below w.heap.size w wx)
 case first =>
  go_region_held3 (fun w'=>w'.cell? ⟨w.heap.size,1,none⟩=some (.int .u8 (b1.toNat:Int))∧Blk w' w.heap.size 92 (cellsB bs)) (first | (go_keep;done) | exact hb0' | (exact Blk.alloc (by assumption) _) | (show _∧_;refine And.intro ?_ ?_<;>first | (go_keep;done) | exact hb0' | (exact Blk.alloc (by assumption) _) | (exact Blk.far (Blk.far (Blk.far (Blk.far (by assumption) (by simp;omega) _) (by simp;omega) _) (by simp;omega) _) (by simp;omega) _))) ((go_at_call 60;refine(num_at (T:=92) (bs:=bs) ?_ ?_ ?_).mono ?_;(first | exact hb0' | exact Blk.alloc hb0' _ | assumption);(rw[HL.out];omega);omega;rintro e w' ⟨rfl,rfl⟩))
  all_goals
   go_wp2_with fail
   go_meet
   exact⟨rfl,blk3 _ _ _ _ _ _ _⟩
 case rest =>
  obtain⟨rfl,hG,hB,hR,hbel⟩:=hcut;clear hc1 hb0 hb0' e0 e3;have hlR:=hR.lt;have hlG:=hG.lt;have hlB:=hB.lt;have g0:=hG.cell 0;have g1:=hG.cell 1;have g2:=hG.cell 2;have g3:=hG.cell 3;simp at g0 g1 g2 g3;have r0:=hR.cell 0;have r1:=hR.cell 1;have r2:=hR.cell 2;have r3:=hR.cell 3;simp at r0 r1 r2 r3;have f0:=hR.frozen 0;have f1:=hR.frozen 1;have f2:=hR.frozen 2;have f3:=hR.frozen 3;obtain⟨cs,hcs⟩:∃ cs:List Value,cs=(cellsB bs).toList:=⟨_,rfl⟩
  have hlen:cs.length=16:=by rw[hcs];simp[cellsB,HL.out]
  have hrange:wc.rangeAt w.heap.size 0 cs:=fun j v hv=>by rw[Nat.zero_add,hB.cell];rw[hcs] at hv;simpa using hv
  have hsz:(Tryz.prog.info? 92).map (·.size)=some cs.length:=by rw[hlen];kernel_rfl
  have hu:=Tryz.underlying92
  have hone:∀ v∈cs,v.oneCell'=true:=by
   rw[hcs];intro v hv;simp[cellsB] at hv;obtain⟨u,_,rfl⟩:=hv;rfl
  have hkeep:∀ W:World,Below wc.heap.size wc W →
   (W.cell? ⟨w.heap.size+1+1,0,none⟩=some (.int .i64 (rdgOf bs).ins)∧W.cell? ⟨w.heap.size+1+1,1,none⟩=some (.int .i64 (rdgOf bs).num)∧W.cell? ⟨w.heap.size+1+1,2,none⟩=some (.int .i64 (rdgOf bs).tim) ∧
   W.cell? ⟨w.heap.size+1+1,3,none⟩=some (.int .i64 (rdgOf bs).val)∧W.rangeAt w.heap.size 0 cs) ∧
   (W.cell? ⟨w.heap.size+1,0,none⟩=some (.int .i64 0)∧W.cell? ⟨w.heap.size+1,1,none⟩=some (.int .i64 0)∧W.cell? ⟨w.heap.size+1,2,none⟩=some (.int .i64 0)∧W.cell? ⟨w.heap.size+1,3,none⟩=some (.int .i64 0)) ∧
   (W.frozen? ⟨w.heap.size+1,0,none⟩=false∧W.frozen? ⟨w.heap.size+1,1,none⟩=false∧W.frozen? ⟨w.heap.size+1,2,none⟩=false∧W.frozen? ⟨w.heap.size+1,3,none⟩=false):=fun W hW =>
   ⟨⟨(hW.cell (p:=⟨_,0,none⟩) hlG).trans g0,(hW.cell (p:=⟨_,1,none⟩) hlG).trans g1,(hW.cell (p:=⟨_,2,none⟩) hlG).trans g2,(hW.cell (p:=⟨_,3,none⟩) hlG).trans g3,
    fun j v hv=>(hW.cell (p:=⟨_,_,none⟩) hlB).trans (hrange j v hv)⟩,
    ⟨(hW.cell (p:=⟨_,0,none⟩) hlR).trans r0,(hW.cell (p:=⟨_,1,none⟩) hlR).trans r1,(hW.cell (p:=⟨_,2,none⟩) hlR).trans r2,(hW.cell (p:=⟨_,3,none⟩) hlR).trans r3⟩,
    ⟨(hW.frozen (p:=⟨_,0,none⟩) hlR).trans f0,(hW.frozen (p:=⟨_,1,none⟩) hlR).trans f1,(hW.frozen (p:=⟨_,2,none⟩) hlR).trans f2,(hW.frozen (p:=⟨_,3,none⟩) hlR).trans f3⟩⟩
  have HK:=hid hkeep;clear hkeep
  have hkeep2:∀ W:World,Below wc.heap.size wc W→∀ W',W'=(((W.setCell ⟨w.heap.size+1,0,none⟩ (.int .i64 (rdgOf bs).ins)).setCell ⟨w.heap.size+1,1,none⟩ (.int .i64 (rdgOf bs).num)).setCell ⟨w.heap.size+1,2,none⟩ (.int .i64 (rdgOf bs).tim)).setCell ⟨w.heap.size+1,3,none⟩ (.int .i64 (rdgOf bs).val) →
   (W'.cell? ⟨w.heap.size+1+1,0,none⟩=some (.int .i64 (rdgOf bs).ins)∧W'.cell? ⟨w.heap.size+1+1,1,none⟩=some (.int .i64 (rdgOf bs).num)∧W'.cell? ⟨w.heap.size+1+1,2,none⟩=some (.int .i64 (rdgOf bs).tim) ∧
   W'.cell? ⟨w.heap.size+1+1,3,none⟩=some (.int .i64 (rdgOf bs).val)∧W'.rangeAt w.heap.size 0 cs):=by
   rintro W hW _ rfl
   have key:∀ b o,b≠w.heap.size+1→((((W.setCell ⟨w.heap.size+1,0,none⟩ (.int .i64 (rdgOf bs).ins)).setCell ⟨w.heap.size+1,1,none⟩ (.int .i64 (rdgOf bs).num)).setCell ⟨w.heap.size+1,2,none⟩ (.int .i64 (rdgOf bs).tim)).setCell ⟨w.heap.size+1,3,none⟩ (.int .i64 (rdgOf bs).val)).cell? ⟨b,o,none⟩=W.cell? ⟨b,o,none⟩:=by
    intro b o hb;rw[World.cell?_setCell_other _ _ _ _ (fun e=>hb (by cases e;rfl)),World.cell?_setCell_other _ _ _ _ (fun e=>hb (by cases e;rfl)),World.cell?_setCell_other _ _ _ _ (fun e=>hb (by cases e;rfl)),World.cell?_setCell_other _ _ _ _ (fun e=>hb (by cases e;rfl))]
   obtain⟨⟨k0,k1,k2,k3,kr⟩,_⟩:=HK.out W hW;refine⟨?_,?_,?_,?_,fun j v hv=>?_⟩
   · rw[key _ _ (by omega)];exact k0
   · rw[key _ _ (by omega)];exact k1
   · rw[key _ _ (by omega)];exact k2
   · rw[key _ _ (by omega)];exact k3
   · rw[key _ _ (by omega)];exact kr j v hv
  have HK2:=hid hkeep2;clear hkeep2
  have hfin:∀ W:World,Below wc.heap.size wc W→(loadVar 86 ⟨w.heap.size+1,0,none⟩).run Tryz.prog ((((W.setCell ⟨w.heap.size+1,0,none⟩ (.int .i64 (rdgOf bs).ins)).setCell ⟨w.heap.size+1,1,none⟩ (.int .i64 (rdgOf bs).num)).setCell ⟨w.heap.size+1,2,none⟩ (.int .i64 (rdgOf bs).tim)).setCell ⟨w.heap.size+1,3,none⟩ (.int .i64 (rdgOf bs).val)) =
   .ok (.agg #[.int .i64 (rdgOf bs).ins,.int .i64 (rdgOf bs).num,.int .i64 (rdgOf bs).tim,.int .i64 (rdgOf bs).val]) ((((W.setCell ⟨w.heap.size+1,0,none⟩ (.int .i64 (rdgOf bs).ins)).setCell ⟨w.heap.size+1,1,none⟩ (.int .i64 (rdgOf bs).num)).setCell ⟨w.heap.size+1,2,none⟩ (.int .i64 (rdgOf bs).tim)).setCell ⟨w.heap.size+1,3,none⟩ (.int .i64 (rdgOf bs).val)):=by
   intro W hW;have hk:=((((hR.below hW hlR).set_ 0 (.int .i64 (rdgOf bs).ins)).set_ 1 (.int .i64 (rdgOf bs).num)).set_ 2 (.int .i64 (rdgOf bs).tim)).set_ 3 (.int .i64 (rdgOf bs).val);exact run_loadVar_mid _ _ _ _ [.int .i64 (rdgOf bs).ins,.int .i64 (rdgOf bs).num,.int .i64 (rdgOf bs).tim,.int .i64 (rdgOf bs).val] _ (fun j v hv=>by rw[Nat.zero_add,hk.cell];simpa using hv) Tryz.underlying86 rfl (by kernel_rfl)
  have HF:=hid hfin;clear hfin
  have hbelow:∀ W:World,Below wc.heap.size wc W→Below w.heap.size w ((((W.setCell ⟨w.heap.size+1,0,none⟩ (.int .i64 (rdgOf bs).ins)).setCell ⟨w.heap.size+1,1,none⟩ (.int .i64 (rdgOf bs).num)).setCell ⟨w.heap.size+1,2,none⟩ (.int .i64 (rdgOf bs).tim)).setCell ⟨w.heap.size+1,3,none⟩ (.int .i64 (rdgOf bs).val)):=fun W hW =>
   ((((hbel.trans (hW.mono hbel.size)).setCell (p:=⟨w.heap.size+1,0,none⟩) (by simp) _).setCell (p:=⟨w.heap.size+1,1,none⟩) (by simp) _).setCell (p:=⟨w.heap.size+1,2,none⟩) (by simp) _).setCell (p:=⟨w.heap.size+1,3,none⟩) (by simp) _
  have HBe:=hid hbelow;clear hbelow;cases hv:validB (rdgOf bs)
  · have HI:=hid (isRec_no hv)
    have hvc:=fun W=>valid_c (rdgOf bs) W;rw[hv] at hvc;have HV:=hid hvc;clear hvc
    go_wp2_with fail
    -- [A
    go_region_with (go_at_call 48;refine(HV.out _).mono ?_;rintro e w1 ⟨rfl,hb1⟩;have hbb:Below wc.heap.size wc w1:=((Below.refl _ wc).drew.trans hb1);obtain⟨⟨b0,b1,b2,b3,_⟩,⟨a0,a1,a2,a3⟩,⟨a4,a5,a6,a7⟩⟩:=HK.out _ hbb)
    all_goals go_wp2_with fail
    all_goals
     refine bodyPost_ret (v:=.tuple #[.agg #[.int .i64 (rdgOf bs).ins,.int .i64 (rdgOf bs).num,.int .i64 (rdgOf bs).tim,.int .i64 (rdgOf bs).val],.bool false]) ?_ rfl ⟨by rw[HI.out],?_⟩
     · rw[results_cell_tmp Tryz.results43];exact res_two rfl rfl (HF.out _ hbb)
     · exact HBe.out _ hbb
    -- A]
  · have HI:=hid (isRec_yes hv)
    have hvc:=fun W=>valid_c (rdgOf bs) W;rw[hv] at hvc;have HV:=hid hvc;clear hvc;have heq:=fun W=>run_eql_rec (recB (rdgOf bs)) bs (recB_len _) HL.out W
    go_wp2_with fail
    go_region_held3 (fun w'=>w'.cell? ⟨w.heap.size+1+1,0,none⟩=some (.int .i64 (rdgOf bs).ins)∧w'.cell? ⟨w.heap.size+1+1,1,none⟩=some (.int .i64 (rdgOf bs).num)∧w'.cell? ⟨w.heap.size+1+1,2,none⟩=some (.int .i64 (rdgOf bs).tim) ∧
     w'.cell? ⟨w.heap.size+1+1,3,none⟩=some (.int .i64 (rdgOf bs).val)∧w'.rangeAt w.heap.size 0 cs)
     (first | (exact(HK.out _ (by assumption)).1) | (exact(HK.out _ ((Below.refl _ _).drew)).1) | (exact HK2.out _ (by assumption) _ rfl) | (go_keep_ranges;done))
     (first | (go_at_call 48;refine(HV.out _).mono ?_;rintro e w1 ⟨rfl,hb1⟩;have hbb:Below wc.heap.size wc w1:=((Below.refl _ wc).drew.trans hb1)) | (go_at_call 33;refine(record_c (rdgOf bs) _).mono ?_;rintro e w2 ⟨rfl,hb2⟩;have hbb2:Below wc.heap.size wc w2:=Below.trans (by assumption) (hb2.mono (Below.size (by assumption:Below wc.heap.size wc _)));obtain⟨_,⟨a0,a1,a2,a3⟩,⟨a4,a5,a6,a7⟩⟩:=HK.out _ hbb2))
    all_goals go_wp2_with fail
    all_goals
     refine bodyPost_ret (v:=.tuple #[.agg #[.int .i64 (rdgOf bs).ins,.int .i64 (rdgOf bs).num,.int .i64 (rdgOf bs).tim,.int .i64 (rdgOf bs).val],.bool (decide (recB (rdgOf bs)=bs))]) ?_ rfl ⟨by rw[HI.out],?_⟩
     · rw[results_cell_tmp Tryz.results43];exact res_two rfl rfl (HF.out _ (by assumption))
     · exact HBe.out _ (by assumption)
end Go.Proofs.YtkhcliibilkefaaGreatDoor.Ga
