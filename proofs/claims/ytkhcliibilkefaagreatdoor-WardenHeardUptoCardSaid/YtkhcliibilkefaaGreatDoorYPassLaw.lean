/- THE CONTRACT of gauge.Read. -/
import Derived.Test.YtkhcliibilkefaaGreatDoorLose
import Derived.Maps.OwnIn
import Derived.Laws.EntriesVeiled
import Derived.Deep.AppendLies
import Derived.Test.YtkhcliibilkefaaGreatDoorYGround2
import Derived.BigQuiet
set_option linter.unusedVariables false
set_option linter.unusedSimpArgs false
set_option maxRecDepth 100000
set_option maxHeartbeats 8000000
namespace Go.Proofs.YtkhcliibilkefaaGreatDoor.Ga
open Lib (hid)
open Go.RowKit Go.Proofs Go.Shelf
attribute [local go_sem] Oper.semAt_some
def rds (pre:List Stand):List Rdg:=pre.map fun x=>x.1.1
def acc (pre:List Stand):List Nat×Nat:=lostAcc (pre.map (·.1))
theorem rds_snoc (pre:List Stand)(x:Stand):rds (pre++[x])=rds pre++[x.1.1]:=by simp[rds]
theorem acc_snoc (pre:List Stand)(x:Stand):acc (pre++[x])=lostStep (acc pre) x.1:=by simp[acc,lostAcc]
theorem rds_len (pre:List Stand):(rds pre).length=pre.length:=by simp[rds]
theorem acc_bd (pre:List Stand):(acc pre).1.length≤pre.length * 10000∧(acc pre).2≤10016:=by
 have:=lostAcc_bd (pre.map (·.1)) 10000 (fun x hx=>by obtain⟨y,_,rfl⟩:=List.mem_map.1 hx;exact y.2)
 simpa[acc] using this
def loseV (s:Nat):Value:=.func (.func 30) #[] #[.pointer (some ⟨s+1+1,0,none⟩),.pointer (some ⟨s+1,0,none⟩)]
def RI (w:World)(s base:Nat)(pre:List Stand)(W:World):Prop :=
 ((∃ v,Boxed W s 40 v∧W.ownsRow base 86 4 v pre.length ((rds pre).flatMap encR)∧True) ∧
  (∃ v,Boxed W (s+1) 28 v∧W.ownsRow base 3 1 v (acc pre).1.length (natV (acc pre).1)∧True)) ∧
 (Boxed W (s+1+1) 3 (.int .i64 ((acc pre).2:Int))∧Boxed W (s+1+1+1) 81 (loseV s))∧Below s w W∧base≤W.heap.size
theorem RI_own (w:World)(s base:Nat)(hs:s≤w.heap.size){B:Nat}(hB:s≤B):OwnFrom B (RI w s base) :=
 OwnFrom.and (OwnFrom.and (Own.from (holdsRow_own base s _ _ 4 (fun pre:List Stand=>pre.length) (fun pre=>(rds pre).flatMap encR) (fun _ _=>True)) _) (Own.from (holdsRow_own base (s+1) _ _ 1 (fun pre:List Stand=>(acc pre).1.length) (fun pre=>natV (acc pre).1) (fun _ _=>True)) _))
  (OwnFrom.and (OwnFrom.and (Own.from (boxed_own _ _ _) _) (Own.from (boxed_own _ _ _) _)) (OwnFrom.and (ownFrom_below hs hB) (fun _ _ _ _ hs hg _=>Nat.le_trans hs hg.size)))
theorem own_ty {W:World}{base:Nat}{e:TypeId}{size n:Nat}{v:Value}{xs:List Value}(h:W.ownsRow base e size v n xs){g:Nat}(hg:v.ownBlock=some g):∃ cur,W.heap[g]?=some (.cells cur e (0,0)):=by
 rcases h.2 with ⟨rfl,_⟩ | ⟨g',cap,cur,rfl,_,hb,_⟩
 · simp[Value.ownBlock] at hg
 · simp[Value.ownBlock] at hg;subst hg;exact⟨cur,hb⟩
theorem own_own_ne {W:World}{base base':Nat}{e e':TypeId}{size size' n n':Nat}{v v':Value}{xs xs':List Value}(h:W.ownsRow base e size v n xs)(h':W.ownsRow base' e' size' v' n' xs')(hne:e≠e'){g:Nat}(hg:v.ownBlock=some g):v'.ownBlock≠some g:=by
 intro hg';obtain⟨c1,h1⟩:=own_ty h hg;obtain⟨c2,h2⟩:=own_ty h' hg'
 rw[h1] at h2;injection h2 with h2;injection h2 with _ h2;exact hne h2
theorem own_blk_ne {W:World}{base:Nat}{e t:TypeId}{size n g:Nat}{v:Value}{xs:List Value}{cs:Array Value}(h:W.ownsRow base e size v n xs)(hb:Blk W g t cs)(hne:e≠t):v.ownBlock≠some g:=by
 intro hg;obtain⟨c1,h1⟩:=own_ty h hg
 rw[show W.heap[g]?=_ from hb] at h1;injection h1 with h1;injection h1 with _ h2;exact hne h2.symm
theorem infoR:(Tryz.prog.info? 86).map (fun i=>(i.zero,i.size,i.bytes))=some (some (.agg #[.int .i64 0,.int .i64 0,.int .i64 0,.int .i64 0]),4,32):=by kernel_rfl
theorem Fr.keeps {E:Nat→Prop}{B:Nat}{W w1:World}(h:Fr E W w1)(hE:∀ g o,E g→B≤g→W.heap[g]?=some o→o.isCells=true):KeepsFrom B W w1 :=
 ⟨h.size,fun k o hk ho hc=>h.kept ho fun he=>by rw[hE k o he hk ho] at hc;cases hc⟩
theorem Read_in (A:Option Addr)(n c:Nat)(bs:List UInt8)(w:World)(h:Rd encB 1 w A n bs)(hc:n≤c)(hlen:n≤10000) :
 CallsIn Fence.wide 8 Tryz.prog 11 #[.slice A n c] w fun e w'=>∃ A1 n1 c1 A2 n2 c2,e=.returned (.tuple #[.slice A1 n1 c1,.slice A2 n2 c2,.int .i64 0])∧n1≤c1∧n2≤c2 ∧
  Rd encR 4 w' A1 n1 (readOf bs)∧Rd enc1 1 w' A2 n2 ((lostOf bs).map Int.ofNat)∧Below w.heap.size w w':=by
 have HL:=hid h.len;have H0:=hid h;clear h;have hmf:∀(fn:Fn) (first cap:Array Value) (w:World),(Instr.makeFunc fn first cap).run Tryz.prog w=.ok (.func fn first cap) w:=fun _ _ _ _=>rfl;have kb:=Blk.new (((w.alloc (.cells #[.slice none 0 0] 40)).alloc (.cells #[.slice none 0 0] 28)).alloc (.cells #[.int .i64 0] 3)) 81 #[.nilFunc];simp only[World.size_alloc] at kb;have e5:World.cell? _ ⟨_,0,none⟩=some Value.nilFunc:=kb.cell 0;have f5:=kb.frozen 0;clear kb;refine callsIn_of_wp_marks Tryz.func11 rfl trivial ?_ rfl;simp only[Tryz.ntmps11,List.size_toArray,List.length_cons,List.length_nil,Nat.reduceAdd,Nat.reduceSub,Array.replicate_succ,Array.replicate_zero,List.push_toArray,List.append_toArray,List.nil_append,List.cons_append]
 gi_wp2_with (refine⟨trivial,?_⟩;gi_at_call 31;refine(stands_c _ _ _ _ _).mono ?_;rintro e w' ⟨rfl,rfl⟩)
 obtain⟨W0,hW0⟩:∃ W0:World,((((w.alloc (.cells #[.slice none 0 0] 40)).alloc (.cells #[.slice none 0 0] 28)).alloc (.cells #[.int .i64 0] 3)).alloc (.cells #[loseV w.heap.size] 81)).alloc (.cells #[.slice A n c] 54)=W0:=⟨_,rfl⟩;have b1:=((((Boxed.new w 40 (.slice none 0 0)).alloc (.cells #[.slice none 0 0] 28)).alloc (.cells #[.int .i64 0] 3)).alloc (.cells #[loseV w.heap.size] 81)).alloc (.cells #[.slice A n c] 54);have b2:=(((Boxed.new (w.alloc (.cells #[.slice none 0 0] 40)) 28 (.slice none 0 0)).alloc (.cells #[.int .i64 0] 3)).alloc (.cells #[loseV w.heap.size] 81)).alloc (.cells #[.slice A n c] 54);have b3:=((Boxed.new ((w.alloc (.cells #[.slice none 0 0] 40)).alloc (.cells #[.slice none 0 0] 28)) 3 (.int .i64 0)).alloc (.cells #[loseV w.heap.size] 81)).alloc (.cells #[.slice A n c] 54);have b4:=(Boxed.new (((w.alloc (.cells #[.slice none 0 0] 40)).alloc (.cells #[.slice none 0 0] 28)).alloc (.cells #[.int .i64 0] 3)) 81 (loseV w.heap.size)).alloc (.cells #[.slice A n c] 54);have b5:=Boxed.new ((((w.alloc (.cells #[.slice none 0 0] 40)).alloc (.cells #[.slice none 0 0] 28)).alloc (.cells #[.int .i64 0] 3)).alloc (.cells #[loseV w.heap.size] 81)) 54 (.slice A n c);simp only[World.size_alloc] at b2 b3 b4 b5
 have hbel:Below w.heap.size w W0:=by
  rw[← hW0];exact(((((Below.refl _ w).alloc (Nat.le_refl _) _).alloc (by simp) _).alloc (by simp;omega) _).alloc (by simp;omega) _).alloc (by simp;omega) _
 have hsz:W0.heap.size=w.heap.size+1+1+1+1+1:=by rw[← hW0];simp
 rw[hW0] at b1 b2 b3 b4 b5;have hW1:=hW0;unfold loseV at hW1;rw[hW1];clear hW1 hW0 e5 f5
 have hA:16≤n→∀ b o,A=some ⟨b,o,none⟩→b<w.heap.size:=fun h16 b o e=>by
  obtain⟨b',o',e',hlt,_⟩:=H0.out.2 (by omega);rw[e] at e';cases e';exact hlt
 refine wpIn_rangeFunc_ownH rfl (by omega) (gf:=42) (lb:=#[.pointer (some ⟨w.heap.size+1+1+1+1,0,none⟩)]) rfl trivial (enters_of Tryz.func42 (by kernel_rfl) rfl)
  (stands_stops 7 (by omega) (w.heap.size+1+1+1+1) w.heap.size n c n A bs W0 (H0.out.below hbel) hA hlen hc (by have:=scan_len (bs:=bs) n 0 (by rw[HL.out];omega);rw[HL.out] at this;omega) (by omega) b5) kpS_t (kpS_b (by omega)) (Below.refl _ _) (fun _=>rfl)
  (RI w w.heap.size W0.heap.size)
  (fun _ _ _=>False)
  (RI_own w _ _ (Nat.le_refl _) (by omega))
  (fun _ _ _ _ _ hs _ _=>hs)
  ⟨⟨⟨_,b1,World.ownsRow_nil _ _ _ _,trivial⟩,⟨_,b2,World.ownsRow_nil _ _ _ _,trivial⟩⟩,⟨b3,b4⟩,hbel,Nat.le_refl _⟩
  (fun x a' W=>∃ Bx,w.heap.size+1+1+1<Bx∧Blk W Bx 88 #[.int .i64 x.1.1.ins,.int .i64 x.1.1.num,.int .i64 x.1.1.tim,.int .i64 x.1.1.val,.int .i64 (x.1.2:Int)] ∧
   a'={ tmps:=#[.slice A n c,undef,.pointer (some ⟨w.heap.size,0,none⟩),.pointer (some ⟨w.heap.size+1,0,none⟩),.int .i64 0,.pointer (some ⟨w.heap.size+1+1,0,none⟩),.pointer (some ⟨w.heap.size+1+1+1,0,none⟩),.pointer (some ⟨Bx,0,none⟩),
    .slice A n c,.int .i64 n,.bool (decide (10000<(n:Int))),loseV w.heap.size,.slice A n c,.func (.func 42) #[] #[.pointer (some ⟨w.heap.size+1+1+1+1,0,none⟩)],.agg #[.int .i64 x.1.1.ins,.int .i64 x.1.1.num,.int .i64 x.1.1.tim,.int .i64 x.1.1.val,.int .i64 (x.1.2:Int)],
    undef,undef,undef,undef,undef,undef,undef,undef,undef,undef,undef,undef,undef,undef,undef,undef,undef,undef],defers:=[] })
  (fun x a' _ X Y row hs hg hr=>by
   obtain⟨Bx,h1,h2,h3⟩:=hs
   exact⟨Bx,h1,h2.grown hg (fun e=>by obtain⟨_,o,ho,hc⟩:=hr Bx e.symm;rw[show X.heap[Bx]?=_ from h2] at ho;cases ho;cases hc),h3⟩)
  ?assign ?body ?done ?stop
 case assign =>
  rintro l pre x W K hI hK;dsimp only[encS]
  gi_wp2
  exact hK _ _ ((KeepsOthers.alloc _ _).from _) ⟨(Below.refl _ W).alloc hI.2.2.1.size _,fun v hv=>hv.alloc _⟩ ((RI_own w _ _ (Nat.le_refl _) (by omega:w.heap.size≤w.heap.size)).alloc _ hI) ⟨W.heap.size,hI.2.1.2.lt,Blk.new W _ _,rfl⟩
 case body =>
  rintro l pre x a' W hl ⟨r,hr⟩ ⟨⟨⟨v1,hb1,hr1,_⟩,⟨v2,hb2,hr2,_⟩⟩,⟨hb3,hb4⟩,hB,hbs⟩ ⟨Bx,hBx,hbx,rfl⟩ hlt;have x0:=hbx.cell 0;have x1:=hbx.cell 1;have x2:=hbx.cell 2;have x3:=hbx.cell 3;have x4:=hbx.cell 4;simp at x0 x1 x2 x3 x4;have c4:=hb4.cell;unfold loseV at c4;have hlose:=lose_c (upt:=x.1.2) hb3 hb2 hr2 (by have:=(acc_bd pre).1;omega) (by have:=(acc_bd pre).2;omega) (by have:=x.2;omega) hbs (by omega) (by omega);have HLO:=hid hlose;have HB1:=hid hb1;have HB2:=hid hb2;have HB3:=hid hb3;have HB4:=hid hb4;have HR1:=hid hr1;have HR2:=hid hr2;have HBX:=hid hbx;have HB:=hid hB;clear hlose hb1 hb2 hb3 hb4 hr1 hr2 hbx hB
  gi_wp2
  refine⟨trivial,?_⟩;refine(CallsIn.inRound l (callsIn_wide.2 HLO.out)).mono ?_;rintro e w1 ⟨rfl,v2',k3,k2,r2,hfr⟩
  have nE:∀ g,g<W0.heap.size→g≠w.heap.size+1+1→g≠w.heap.size+1→¬(g=w.heap.size+1+1∨g=w.heap.size+1∨v2.ownBlock=some g):=fun g hg h1 h2 h3=>by
   rcases h3 with h3 | h3 | h3
   · exact h1 h3
   · exact h2 h3
   · exact own_ge HR2.out hg h3.symm
  have k1:=hfr.boxed HB1.out (nE _ (by omega) (by omega) (by omega));have k4:=hfr.boxed HB4.out (nE _ (by omega) (by omega) (by omega))
  have r1:=hfr.row HR1.out (fun g hg he=>by
   rcases he with h3 | h3 | h3
   · exact own_ge HR1.out (by omega) hg.symm
   · exact own_ge HR1.out (by omega) hg.symm
   · exact own_own_ne HR1.out HR2.out (by decide) hg h3)
  have kx:Blk w1 Bx 88 _:=hfr.kept HBX.out (by
   rintro(h3 | h3 | h3)
   · omega
   · omega
   · exact own_blk_ne HR2.out HBX.out (by decide) h3)
  have x0:=kx.cell 0;have x1:=kx.cell 1;have x2:=kx.cell 2;have x3:=kx.cell 3;have x4:=kx.cell 4;simp at x0 x1 x2 x3 x4;have c1:=k1.cell;have HFR:=hid hfr;have K1:=hid k1;have K2:=hid k2;have K3:=hid k3;have K4:=hid k4;have R1:=hid r1;have R2:=hid r2;have KX:=hid kx;have NE:=hid nE;clear hfr k1 k2 k3 k4 r1 r2 kx nE;obtain⟨i0,hi0,hz0,hz1,hz2⟩:=info_parts infoR;have HI:=hid hi0;have HZ0:=hid hz0;have HZ1:=hid hz1;have HZ2:=hid hz2;clear hi0 hz0 hz1 hz2;have hbig:=x.2;have hsz1:=HFR.out.size
  have hN:pre.length<10000:=by omega
  gi_wp2_with (gi_at_builtin;refine wpListIn_append_own_at _ rfl _ _ 40 rfl W0.heap.size 86 i0 _ 4 32 Tryz.underlying40 HI.out HZ0.out HZ1.out HZ2.out rfl (by decide) _ _ _ rfl (R1.out.alloc _) ⟨w1.heap.size,0,none⟩ 1 1 (encR x.1.1) rfl rfl (fun j u hj=>World.news_of_block (cs:=#[.int .i64 x.1.1.ins,.int .i64 x.1.1.num,.int .i64 x.1.1.tim,.int .i64 x.1.1.val]) (t:=86) (fr:=(0,0)) (heap_alloc_new w1 _) j u hj) (by simp[Value.oneCell',encR]) (by unfold maxLen;omega) (by omega) (by simp;omega) ?_;intro v3 W2 hown hgrow _ hwh;obtain⟨g3,cap3,rfl⟩:=ownsRow_succ hown;have HG:=hid hgrow;have HO:=hid hown;have HWH:=hid hwh;clear hown hgrow hwh;have m1:Boxed W2 w.heap.size 40 v1:=(K1.out.alloc _).kept HG.out (own_ge R1.out (by omega));have m3:Boxed W2 (w.heap.size+1+1) 3 _:=(K3.out.alloc _).kept HG.out (own_ge R1.out (by omega));have mx:Blk W2 Bx 88 _:=(KX.out.alloc _).grown HG.out (fun e=>own_blk_ne R1.out KX.out (by decide) e.symm);have d1:=m1.cell;have d1f:=m1.frozen;have d3:=m3.cell;have d3f:=m3.frozen;have y4:=mx.cell 4;have M1:=hid m1;have M3:=hid m3;have MX:=hid mx;clear m1 m3 mx;simp at y4;have hbn:Bx≠w.heap.size:=(by omega);have hbn':w.heap.size≠Bx:=(by omega))
  have F3:Fr (fun g=>g=w.heap.size∨g=w.heap.size+1∨g=w.heap.size+1+1∨v1.ownBlock=some g∨v2.ownBlock=some g) W W2:=by
   refine((HFR.out.wide (fun g _ h=>?_)).step (World.grownBy_alloc w1 _ none) (fun _ h=>by cases h)).step HG.out (fun g hg=>.inl (.inr (.inr (.inr (.inl hg)))))
   rcases h with h | h | h
   · exact .inr (.inr (.inl h))
   · exact .inr (.inl h)
   · exact .inr (.inr (.inr (.inr h)))
  have F4:=(F3.setCell (g:=w.heap.size) (.inl (.inl rfl)) (.slice (some ⟨g3,0,none⟩) (pre.length+1) cap3)).setCell (g:=w.heap.size+1+1) (.inl (.inr (.inr (.inl rfl)))) (.int .i64 ((x.1.2:Int)+16))
  have F5:Fr (fun g=>g=w.heap.size∨g=w.heap.size+1+1∨v1.ownBlock=some g) w1 W2 :=
   ((Fr.refl _ w1).step (World.grownBy_alloc w1 _ none) (fun _ h=>by cases h)).step HG.out (fun g hg=>.inl (.inr (.inr hg)))
  have F6:=(F5.setCell (g:=w.heap.size) (.inl (.inl rfl)) (.slice (some ⟨g3,0,none⟩) (pre.length+1) cap3)).setCell (g:=w.heap.size+1+1) (.inl (.inr (.inl rfl))) (.int .i64 ((x.1.2:Int)+16));have n1:∀ g,v1.ownBlock=some g→W0.heap.size≤g:=fun g hg=>Nat.le_of_not_lt fun h=>own_ge HR1.out h hg.symm;have n2:∀ g,v2.ownBlock=some g→W0.heap.size≤g:=fun g hg=>Nat.le_of_not_lt fun h=>own_ge HR2.out h hg.symm
  have hbf:Below w.heap.size W _:=F4.below HB.out.size (fun g hg=>by
   rcases hg with h | h | h | h | h
   · omega
   · omega
   · omega
   · have:=n1 g h;omega
   · have:=n2 g h;omega)
  refine⟨F4.keeps (fun g o hE hg ho=>?_),⟨hbf,fun v hv=>F4.boxed hv ?_⟩,⟨⟨_,(M1.out.set _).other (by omega) _,?_,trivial⟩,v2',F6.boxed K2.out ?_,?_,trivial⟩,⟨?_,F6.boxed K4.out ?_⟩,HB.out.trans hbf,Nat.le_trans hbs F4.size⟩
  · rcases hE with h | h | h | h | h
    · omega
    · omega
    · omega
    · obtain⟨cur,hc2⟩:=own_ty HR1.out h
      rw[hc2] at ho;cases ho;rfl
    · obtain⟨cur,hc2⟩:=own_ty HR2.out h
      rw[hc2] at ho;cases ho;rfl
  · rintro(h | h | h | h | h)
    · omega
    · omega
    · omega
    · have:=n1 _ h;omega
    · have:=n2 _ h;omega
  · rw[rds_snoc,List.flatMap_append,List.length_append]
    have:=(HO.out.kept (grownBy_setCell' W2 w.heap.size (.slice (some ⟨g3,0,none⟩) (pre.length+1) cap3)) (.inr (own_ge HO.out (by omega)).symm)).kept (grownBy_setCell' _ (w.heap.size+1+1) (.int .i64 ((x.1.2:Int)+16))) (.inr (own_ge HO.out (by omega)).symm)
    simpa using this
  · rintro(h | h | h)
    · omega
    · omega
    · have:=n1 _ h;omega
  · rw[acc_snoc]
    refine F6.row R2.out (fun g hg h=>?_)
    rcases h with h | h | h
    · exact own_ge R2.out (by omega) hg.symm
    · exact own_ge R2.out (by omega) hg.symm
    · exact own_own_ne R2.out R1.out (by decide) hg h
  · rw[acc_snoc]
    have:=(M3.out.other (B':=w.heap.size) (by omega) (.slice (some ⟨g3,0,none⟩) (pre.length+1) cap3)).set (.int .i64 ((x.1.2:Int)+16))
    simpa[lostStep] using this
  · rintro(h | h | h)
    · omega
    · omega
    · have:=n1 _ h;omega
 case done =>
  rintro D ys W hD hys ⟨⟨⟨v1,hb1,hr1,_⟩,⟨v2,hb2,hr2,_⟩⟩,⟨hb3,hb4⟩,hB,hbs⟩ hK;have c4:=hb4.cell;unfold loseV at c4
  have hyl:ys.length≤10000:=by
   have h1:=congrArg List.length hys;have h2:=scan_len (bs:=bs) n 0 (by rw[HL.out];omega);rw[HL.out] at h2;simp only[List.length_map] at h1;omega
  have hlose:=lose_c (upt:=n) hb3 hb2 hr2 (by have:=(acc_bd ys).1;omega) (by have:=(acc_bd ys).2;omega) (by omega) hbs (by omega) (by omega);have HLO:=hid hlose;have HB1:=hid hb1;have HB2:=hid hb2;have HB3:=hid hb3;have HB4:=hid hb4;have HR1:=hid hr1;have HR2:=hid hr2;have HB:=hid hB;have HK:=hid hK;have HYS:=hid hys;clear hlose hb1 hb2 hb3 hb4 hr1 hr2 hB hK hys
  gi_wp2
  refine⟨trivial,?_⟩;refine(callsIn_wide.2 HLO.out).mono ?_;rintro e w1 ⟨rfl,v2',k3,k2,r2,hfr⟩
  have nE:∀ g,g<W0.heap.size→g≠w.heap.size+1+1→g≠w.heap.size+1→¬(g=w.heap.size+1+1∨g=w.heap.size+1∨v2.ownBlock=some g):=fun g hg h1 h2 h3=>by
   rcases h3 with h3 | h3 | h3
   · exact h1 h3
   · exact h2 h3
   · exact own_ge HR2.out hg h3.symm
  have k1:=hfr.boxed HB1.out (nE _ (by omega) (by omega) (by omega))
  have r1:=hfr.row HR1.out (fun g hg he=>by
   rcases he with h3 | h3 | h3
   · exact own_ge HR1.out (by omega) hg.symm
   · exact own_ge HR1.out (by omega) hg.symm
   · exact own_own_ne HR1.out HR2.out (by decide) hg h3)
  have kK:=hfr.kept HK.out (by
   rintro(h | h | h)
   · omega
   · omega
   · obtain⟨cur,hc2⟩:=own_ty HR2.out h
     rw[HK.out] at hc2;cases hc2)
  obtain⟨A1,d1,rfl,hd1⟩:=own_form r1;obtain⟨A2,d2,rfl,hd2⟩:=own_form r2;have c1:=k1.cell;have f1:=k1.frozen;have c2:=k2.cell;have f2:=k2.frozen;have HFR:=hid hfr;have K1:=hid k1;have K2:=hid k2;have R1:=hid r1;have R2:=hid r2;have KK:=hid kK;clear hfr k1 k2 k3 r1 r2 nE kK
  gi_wp2
  gi_region
  all_goals
   gi_wp2
   refine⟨by simp,.inl ?_⟩;obtain⟨Wf,hWf⟩:∃ Wf:World,Wf=((w1.setCell ⟨w.heap.size,0,none⟩ (.slice A1 ys.length d1)).setCell ⟨w.heap.size+1,0,none⟩ (.slice A2 ((acc ys).1.length+(fromTo (acc ys).2 n).length) d2)).drew:=⟨_,rfl⟩;rw[← hWf]
   have e1:Boxed Wf w.heap.size 40 (.slice A1 ys.length d1):=by rw[hWf];exact(K1.out.set _).other (by omega) _
   have e2:Boxed Wf (w.heap.size+1) 28 (.slice A2 ((acc ys).1.length+(fromTo (acc ys).2 n).length) d2):=by
    rw[hWf];have:=(K2.out.other (B':=w.heap.size) (by omega) (.slice A1 ys.length d1)).set (.slice A2 ((acc ys).1.length+(fromTo (acc ys).2 n).length) d2);exact this
   have eK:Wf.heap[D]?=some (.deferred (some [])):=by
    rw[hWf];exact((KeepsOthers.setCell _ _ _).trans (KeepsOthers.setCell _ _ _)).same D _ KK.out rfl
   have o1:Wf.ownsRow W0.heap.size 86 4 (.slice A1 ys.length d1) ys.length ((rds ys).flatMap encR):=by
    rw[hWf];have q1:=(R1.out.kept (grownBy_setCell' w1 w.heap.size (.slice A1 ys.length d1)) (.inr (own_ge R1.out (by omega:w.heap.size<W0.heap.size)).symm)).kept (grownBy_setCell' _ (w.heap.size+1) (.slice A2 ((acc ys).1.length+(fromTo (acc ys).2 n).length) d2)) (.inr (own_ge R1.out (by omega:w.heap.size+1<W0.heap.size)).symm);exact q1
   have o2:Wf.ownsRow W0.heap.size 3 1 (.slice A2 ((acc ys).1++fromTo (acc ys).2 n).length d2) ((acc ys).1++fromTo (acc ys).2 n).length (natV ((acc ys).1++fromTo (acc ys).2 n)):=by
    rw[hWf];have q1:=(R2.out.kept (grownBy_setCell' w1 w.heap.size (.slice A1 ys.length d1)) (.inr (own_ge R2.out (by omega:w.heap.size<W0.heap.size)).symm)).kept (grownBy_setCell' _ (w.heap.size+1) (.slice A2 ((acc ys).1.length+(fromTo (acc ys).2 n).length) d2)) (.inr (own_ge R2.out (by omega:w.heap.size+1<W0.heap.size)).symm);exact q1
   have hbf:Below w.heap.size w1 Wf:=by
    rw[hWf];exact(((Below.refl w.heap.size w1).setCell (p:=⟨w.heap.size,0,none⟩) (Nat.le_refl _) _).setCell (p:=⟨w.heap.size+1,0,none⟩) (by simp) _).drew
   clear hWf;refine⟨_,_,rfl,run_takeDeferred eK,?_⟩;have gD:=grownBy_putObj' Wf D (.deferred none);have p1:=(e1.kept gD (by simp;omega)).cell;have p2:=(e2.kept gD (by simp;omega)).cell;have q1:=ownsRow_putObj o1 (.deferred none) eK rfl;have q2:=ownsRow_putObj o2 (.deferred none) eK rfl
   have hfin:Below w.heap.size w (Wf.putObj D (.deferred none)) :=
    HB.out.trans (((HFR.out.below HB.out.size (fun g hg=>by
     rcases hg with h | h | h
     · omega
     · omega
     · have:=Nat.le_of_not_lt fun h'=>own_ge HR2.out h' h.symm
       omega)).trans hbf).trans (belowK_b (w:=w) (Nat.le_refl _) Wf D _ _ (by omega) eK rfl rfl))
   have hrds:rds ys=readOf bs:=by rw[readOf,← HYS.out];simp[rds]
   have hacc:(acc ys).1++fromTo (acc ys).2 n=lostOf bs:=by rw[lostOf,← HYS.out,HL.out];rfl
   have rr1:=Rd.of_own encR_len q1 (by rw[rds_len]);rw[hrds] at rr1
   have hint:natV ((acc ys).1++fromTo (acc ys).2 n)=(((acc ys).1++fromTo (acc ys).2 n).map Int.ofNat).flatMap enc1:=by
    generalize (acc ys).1++fromTo (acc ys).2 n=l
    induction l with
    | nil=>rfl
    | cons a l ih=>simp[natV,enc1] at ih ⊢;exact ih
   rw[hint] at q2;have rr2:=Rd.of_own enc1_len q2 (by simp);rw[hacc] at rr2;refine⟨.tuple #[.slice A1 ys.length d1,.slice A2 ((acc ys).1.length+(fromTo (acc ys).2 n).length) d2,.int .i64 0],?_,⟨A1,_,d1,A2,_,d2,rfl,hd1,?_,rr1,?_,hfin⟩⟩
   · simp[results,Tryz.f11,go_sem,p1,p2]
   · rw[← List.length_append];exact hd2
   · rw[← List.length_append,hacc];exact rr2
 case stop =>
  rintro D c pre W _ _ h _;exact h.elim
theorem Read_c {A:Option Addr}{n c:Nat}{bs:List UInt8}{w:World}(h:Rd encB 1 w A n bs)(hc:n≤c)(hlen:n≤10000) :
 Calls Tryz.prog 11 #[.slice A n c] w fun e w'=>∃ A1 n1 c1 A2 n2 c2,e=.returned (.tuple #[.slice A1 n1 c1,.slice A2 n2 c2,.int .i64 0])∧n1≤c1∧n2≤c2 ∧
  Rd encR 4 w' A1 n1 (readOf bs)∧Rd enc1 1 w' A2 n2 ((lostOf bs).map Int.ofNat)∧Below w.heap.size w w':=callsIn_wide.1 (Read_in A n c bs w h hc hlen)
end Go.Proofs.YtkhcliibilkefaaGreatDoor.Ga
namespace Go.Proofs.YtkhcliibilkefaaGreatDoor
open Lib (hid)
open Go.RowKit Go.Proofs
attribute [local go_sem ↓] Go.wp_at_zero Go.wp_at_succ
def wayC (CA:Slc)(sn0 sn1 so0 so1 melt:Int)(DS:Slc)(tsn tso:Int)(LV RN:Slc)(lv:Nat→Int)(snow left:Int):Array Value :=
 #[CA.v,.int .i64 sn0,.int .i64 sn1,.int .i64 so0,.int .i64 so1,.int .i64 melt,DS.v,.int .i64 tsn,.int .i64 tso,LV.v,RN.v,
  .int .i64 (lv 0),.int .i64 (lv 1),.int .i64 (lv 2),.int .i64 (lv 3),.int .i64 (lv 4),.int .i64 (lv 5),.int .i64 (lv 6),.int .i64 (lv 7),.int .i64 snow,.int .i64 left]
section
variable {CA:Slc} {sn0 sn1 so0 so1 melt:Int} {DS:Slc} {tsn tso:Int} {LV RN:Slc} {lv:Nat→Int} {snow left:Int}
theorem wayC_lv {i:Nat}(hi:i<8):(wayC CA sn0 sn1 so0 so1 melt DS tsn tso LV RN lv snow left)[11+i]?=some (.int .i64 (lv i)):=by
 have:i=0∨i=1∨i=2∨i=3∨i=4∨i=5∨i=6∨i=7:=by omega
 rcases this with rfl | rfl | rfl | rfl | rfl | rfl | rfl | rfl<;>rfl
theorem wayC_left (v:Int):(wayC CA sn0 sn1 so0 so1 melt DS tsn tso LV RN lv snow left).setIfInBounds 20 (.int .i64 v)=wayC CA sn0 sn1 so0 so1 melt DS tsn tso LV RN lv snow v:=rfl
theorem wayC_set {i:Nat}(hi:i<8)(v:Int):(wayC CA sn0 sn1 so0 so1 melt DS tsn tso LV RN lv snow left).setIfInBounds (11+i) (.int .i64 v)=wayC CA sn0 sn1 so0 so1 melt DS tsn tso LV RN (fun j=>if j=i then v else lv j) snow left:=by
 have:i=0∨i=1∨i=2∨i=3∨i=4∨i=5∨i=6∨i=7:=by omega
 rcases this with rfl | rfl | rfl | rfl | rfl | rfl | rfl | rfl<;>rfl
end
theorem wsum_c {l:List Int}{A:Option Addr}{n c:Nat}{w:World}(h:Rd enc1 1 w A n l)(hn:n≤1000000)(hs:SumOk l) :
 Calls Tryz.prog 211 #[.slice A n c] w fun e w'=>e=.returned (.int .i64 (sumL l))∧w=w':=by
 have HL:=hid h.len;have HS:=hid hs;clear hs
 go_enter Tryz.func211,Tryz.ntmps211
 go_wp2_with fail
 go_loopw [2,7] (fun o i wr=>∃ k:Nat,k≤n∧i=.int .i64 k∧o=.int .i64 (sumL (l.take k))∧wr=w) (fun _ i _=>n - (intOf i).toNat)
 case atStart=>exact⟨0,Nat.zero_le _,rfl,rfl,rfl⟩
 case round =>
  obtain⟨k,hk,rfl,rfl,rfl⟩:=hrel
  by_cases hlt:k<n
  · obtain⟨b,o,x,hA,_,hx,h0⟩:=h.at1 hlt
    subst hA;have hsk:=HS.out k;have hsk1:=HS.out (k+1);have hsx:=sumL_succ hx;rw[hsx] at hsk1;have HX:=hid hsx;generalize sumL (l.take k)=z at hsk hsk1 HX ⊢;have hw1:IntKind.i64.wrap (z+x)=z+x:=wi (by omega);clear hsx hx
    go_wp2_with fail
    go_roundw
    case rel=>exact⟨k+1,by omega,by go_num,by rw[HX.out],trivial⟩
    case measure=>simp[intOf]<;>omega
  · obtain rfl:k=n:=by omega
    rw[List.take_of_length_le (by rw[HL.out];exact Nat.le_refl _)]
    go_wp2_with fail
    go_ret
    exact⟨rfl,rfl⟩
theorem fall_c {CA:Slc}{sn0 sn1 so0 so1 melt:Int}{DS:Slc}{tsn tso:Int}{LV RN:Slc}{lv:Nat→Int}{snow left:Int}{W0:Nat}{w:World}{D:List Dy}{rain:List Int}{i:Nat}{d:Dy}{r:Int}
 (h:Blk w W0 219 (wayC CA sn0 sn1 so0 so1 melt DS tsn tso LV RN lv snow left)) (hd:Rd encDy 3 w DS.A DS.n D) (hr:Rd enc1 1 w RN.A RN.n rain)
 (hi:D[i]?=some d) (hj:rain[i]?=some r) (hm:i<1000000) (h1:-1000000000≤snow∧snow≤1000000000) (h2:-1000000≤r∧r≤1000000) (h3:0≤melt∧melt≤50) (h4:-50≤d.warm∧d.warm≤50) :
 Calls Tryz.prog 175 #[.pointer (some ⟨W0,0,none⟩),.int .i64 (i:Int)] w fun e w'=>e=.returned (.int .i64 (fallW melt snow r d.warm).1) ∧
  Blk w' W0 219 (wayC CA sn0 sn1 so0 so1 melt DS tsn tso LV RN lv (fallW melt snow r d.warm).2 left)∧Fr (fun g=>g=W0) w w':=by
 have hil:i<DS.n:=by have:=(List.getElem?_eq_some_iff.1 hi).1;have:=hd.len;omega
 have hjl:i<RN.n:=by have:=(List.getElem?_eq_some_iff.1 hj).1;have:=hr.len;omega
 obtain⟨b,o,x,hA,hbl,hx,y0,y1,y2⟩:=hd.atDy hil;obtain⟨b',o',x',hA',hbl',hx',z0⟩:=hr.at1 hjl
 obtain rfl:x=d:=by rw[hi] at hx;exact(Option.some.inj hx).symm
 obtain rfl:x'=r:=by rw[hj] at hx';exact(Option.some.inj hx').symm
 have c3:=h.cell 3;have c5:=h.cell 5;have c6:=h.cell 6;have c10:=h.cell 10;have c19:=h.cell 19;have z19:=h.frozen 19;have HH:=hid h;clear h;simp[wayC,Slc.v,hA,hA'] at c3 c5 c6 c10 c19
 rcases Int.lt_or_le 0 x.warm with hw | hw
 · have hf:fallW melt snow x' x.warm=(x'+min snow (melt * x.warm),snow - min snow (melt * x.warm)):=by unfold fallW;rw[if_neg (by omega)]
   rw[hf]
   have hp:0≤melt * x.warm∧melt * x.warm≤2500:=by
    have a1:=Int.mul_nonneg h3.1 (Int.le_of_lt hw);have a2:=Int.mul_le_mul h3.2 h4.2 (Int.le_of_lt hw) (by omega:(0:Int)≤50);omega
   have w0:IntKind.i64.wrap (melt * x.warm)=melt * x.warm:=wi (by omega);have w1:IntKind.i64.wrap (snow - min snow (melt * x.warm))=snow - min snow (melt * x.warm):=wi (by omega);have w2:IntKind.i64.wrap (x'+min snow (melt * x.warm))=x'+min snow (melt * x.warm):=wi (by omega);clear hf hd hr hi hj hx hx' h3 h4
   rcases Int.lt_or_le (melt * x.warm) snow with hs | hs
   · rw[Int.min_eq_right (Int.le_of_lt hs)] at w1 w2 ⊢
     go_enter Tryz.func175,Tryz.ntmps175
     go_upto_region 1 with fail
     go_quiet (fail)
     go_upto_region 5 with fail
     refine wp_region_till [] (fun U=>U.cell? ⟨W0,19,none⟩=some (.int .i64 snow)∧U.cell? ⟨W0,5,none⟩=some (.int .i64 melt)) (by kernel_rfl) (by exact⟨c19,c5⟩) (fun hHeld=>?_);skip;refine tk 0 0 ?_;refine tk 0 1 ?_;refine tk 0 2 ?_;refine tk 0 3 ?_;refine tk 0 4 ?_;refine tk 0 5 ?_;refine tk 0 6 ?_;refine tk 0 7 ?_;refine tk 0 8 ?_;refine tk 0 9 ?_;refine tk 0 10 ?_;refine tk 0 11 ?_;refine tk 0 12 ?_;refine td ?_
     go_wp2_with fail
     go_ret
     refine⟨rfl,?_,?_⟩
     · exact(show Blk ((w.drewN nq).drew) W0 _ _ from HH.out).set_ 19 _
     · exact Fr.setAt (E:=fun g=>g=W0) (Fr.of_below (below_drewN (Below.refl _ _) _).drew _) (.inl rfl) _
   · rw[Int.min_eq_left hs] at w1 w2 ⊢
     go_enter Tryz.func175,Tryz.ntmps175
     go_upto_region 1 with fail
     go_quiet (fail)
     go_upto_region 5 with fail
     refine wp_region_till [] (fun U=>U.cell? ⟨W0,19,none⟩=some (.int .i64 snow)∧U.cell? ⟨W0,5,none⟩=some (.int .i64 melt)) (by kernel_rfl) (by exact⟨c19,c5⟩) (fun hHeld=>?_);skip;refine tk 0 0 ?_;refine tk 0 1 ?_;refine tk 0 2 ?_;refine tk 0 3 ?_;refine tk 0 4 ?_;refine tk 0 5 ?_;refine tk 0 6 ?_;refine tk 0 7 ?_;refine tk 0 8 ?_;refine tk 0 9 ?_;refine tk 0 10 ?_;refine tk 0 11 ?_;refine tk 0 12 ?_;refine td ?_
     go_wp2_with fail
     go_ret
     refine⟨rfl,?_,?_⟩
     · exact(show Blk ((w.drewN nq).drew) W0 _ _ from HH.out).set_ 19 _
     · exact Fr.setAt (E:=fun g=>g=W0) (Fr.of_below (below_drewN (Below.refl _ _) _).drew _) (.inl rfl) _
 · have hf:fallW melt snow x' x.warm=(0,snow+x'):=by unfold fallW;rw[if_pos hw]
   rw[hf]
   go_enter Tryz.func175,Tryz.ntmps175
   go_upto_region 1 with fail
   go_quiet (fail)
   have w1:IntKind.i64.wrap (snow+x')=snow+x':=wi (by omega)
   go_wp2_with fail
   go_ret
   exact⟨rfl,(show Blk (w.drewN _) W0 _ _ from HH.out).set_ 19 _,Fr.setAt (E:=fun g=>g=W0) (Fr.of_below (below_drewN (Below.refl _ _) _) _) (.inl rfl) _⟩
end Go.Proofs.YtkhcliibilkefaaGreatDoor
namespace Go.Proofs.YtkhcliibilkefaaGreatDoor
open Lib (hid)
open Go.RowKit Go.Proofs
def arr8 (f:Nat→Int):Array Value:=#[.int .i64 (f 0),.int .i64 (f 1),.int .i64 (f 2),.int .i64 (f 3),.int .i64 (f 4),.int .i64 (f 5),.int .i64 (f 6),.int .i64 (f 7)]
theorem arr8_get {f:Nat→Int}{i:Nat}(hi:i<8):(arr8 f)[i]?=some (.int .i64 (f i)):=by
 have:i=0∨i=1∨i=2∨i=3∨i=4∨i=5∨i=6∨i=7:=by omega
 rcases this with rfl | rfl | rfl | rfl | rfl | rfl | rfl | rfl<;>rfl
theorem arr8_set {f:Nat→Int}{i:Nat}(hi:i<8)(v:Int):(arr8 f).setIfInBounds i (.int .i64 v)=arr8 fun j=>if j=i then v else f j:=by
 have:i=0∨i=1∨i=2∨i=3∨i=4∨i=5∨i=6∨i=7:=by omega
 rcases this with rfl | rfl | rfl | rfl | rfl | rfl | rfl | rfl<;>rfl
theorem wayC_congr {CA:Slc}{sn0 sn1 so0 so1 melt:Int}{DS:Slc}{tsn tso:Int}{LV RN:Slc}{f g:Nat→Int}{snow left:Int}(h:∀ j,j<8→f j=g j) :
 wayC CA sn0 sn1 so0 so1 melt DS tsn tso LV RN f snow left=wayC CA sn0 sn1 so0 so1 melt DS tsn tso LV RN g snow left:=by
 unfold wayC;rw[h 0 (by omega),h 1 (by omega),h 2 (by omega),h 3 (by omega),h 4 (by omega),h 5 (by omega),h 6 (by omega),h 7 (by omega)]
def LvB (L:List Int):Prop:=∀ i,0≤lvA L i∧lvA L i≤100000
section
variable {n:Nat} {C:List Cel} {L:List Int}
theorem on_x {c:Cel}{l:Int}(hc:celOk n c)(hl:0≤l∧l≤100000) :
 (0≤takenW c l∧takenW c l≤100000)∧(0≤staysW c l∧staysW c l≤100000)∧(0≤max 0 (staysW c l - c.keep) * c.pass∧max 0 (staysW c l - c.keep) * c.pass≤100000000)∧(0≤onW c l∧onW c l≤staysW c l):=by
 obtain⟨hcap,hlev,hk,hp,hto,hpu⟩:=hc
 have h1:0≤takenW c l∧takenW c l≤100000:=by unfold takenW;omega
 have h2:0≤staysW c l∧staysW c l≤100000:=by unfold staysW takenW;omega
 have hx:0≤max 0 (staysW c l - c.keep)∧max 0 (staysW c l - c.keep)≤100000:=by omega
 refine⟨h1,h2,⟨Int.mul_nonneg hx.1 hp.1,?_⟩,on_nn hp.1,on_le hk.1 hp⟩;have:=Int.mul_le_mul hx.2 hp.2 hp.1 (by omega:(0:Int)≤100000);omega
theorem now_bd {s:Int}(hC:∀ c∈C,celOk n c)(hL:LvB L)(hs:0≤s∧s≤1000000):∀ k j,0≤nowW C L s k j∧nowW C L s k j≤(k:Int) * 2000000
 | 0,_=>by simp[nowW]
 | k+1,j=>by
  have ih:=now_bd hC hL hs k j;have h:=on_x (celA_ok hC k) (hL k);unfold nowW
  split<;>split<;>omega
theorem left_bd {d s:Int}(hC:∀ c∈C,celOk n c)(hL:LvB L)(hd:s≤d∧d≤1000000)(hs:0≤s):∀ k,0≤leftW C L d s k∧leftW C L d s k≤(k:Int) * 2000000
 | 0=>by simp[leftW]
 | k+1=>by
  have ih:=left_bd hC hL hd hs k;have h:=on_x (celA_ok hC k) (hL k);unfold leftW
  split<;>omega
theorem over_bd {s:Int}(hC:∀ c∈C,celOk n c)(hL:LvB L)(hs:0≤s∧s≤1000000)(hn:C.length≤8):∀ k,0≤overW C L s k∧overW C L s k≤(k:Int) * 20000000
 | 0=>by simp[overW]
 | k+1=>by
  have ih:=over_bd hC hL hs hn k;have h:=now_bd hC hL hs C.length k;have hc:=(celA_ok hC k).1;unfold overW;omega
end
theorem now_step {C:List Cel}{L:List Int}{s:Int}{k:Nat}(j:Nat)(c:Cel)(hc:celA C k=c) :
 nowW C L s (k+1) j=nowW C L s k j+(if j=k then staysW c (lvA L k) - onW c (lvA L k)+s else 0)+(if c.to=(j:Int) then onW c (lvA L k) else 0):=by
 subst hc;rfl
theorem left_step {C:List Cel}{L:List Int}{d s:Int}{k:Nat}(c:Cel)(hc:celA C k=c) :
 leftW C L d s (k+1)=leftW C L d s k+((d - s)+takenW c (lvA L k))+(if c.to=-1 then onW c (lvA L k) else 0):=by
 subst hc;rfl
theorem celA_at {C:List Cel}{k:Nat}{c:Cel}(h:C[k]?=some c):celA C k=c:=by unfold celA;rw[List.getD_eq_getElem?_getD,h];rfl
theorem SumOk.two {a b:Int}(ha:0≤a∧a≤1000000000)(hb:0≤b∧b≤1000000000):SumOk [a,b] :=
 SumOk.of (M:=1000000000) (by omega) (fun x hx=>by simp at hx;rcases hx with rfl | rfl<;>omega) (by simp)
theorem sumL_two (a b:Int):sumL [a,b]=a+b:=by simp[sumL]
theorem wsum2_c {a b:Int}{A:Option Addr}{c:Nat}{w:World}(h:Rd enc1 1 w A 2 [a,b])(ha:0≤a∧a≤1000000000)(hb:0≤b∧b≤1000000000) :
 Calls Tryz.prog 211 #[.slice A 2 c] w fun e w'=>e=.returned (.int .i64 (a+b))∧Below w.heap.size w w':=by
 have:=wsum_c (c:=c) h (by omega) (SumOk.two ha hb);rw[sumL_two] at this;exact this.mono fun e w' ⟨h1,h2⟩=>⟨h1,by rw[← h2];exact Below.refl _ _⟩
theorem now_river {C:List Cel}{L:List Int}{s:Int}{k:Nat}{x:Cel}(hc:celA C k=x)(hr:x.to=-1){v:Int}(hv:v=nowW C L s k k+(staysW x (lvA L k) - onW x (lvA L k)+s)) :
 (fun j=>if j=k then v else nowW C L s k j)=nowW C L s (k+1):=by
 funext j
 rw[now_step j x hc,hr,if_neg (by omega:¬(-1:Int)=(j:Int))]
 split
 · rename_i h;subst h;rw[hv]<;>omega
 · omega
theorem now_to {C:List Cel}{L:List Int}{s:Int}{k m:Nat}{x:Cel}(hc:celA C k=x)(hr:x.to=(m:Int)){v u:Int}(hv:v=nowW C L s k k+(staysW x (lvA L k) - onW x (lvA L k)+s))(hu:u=(if m=k then v else nowW C L s k m)+onW x (lvA L k)) :
 (fun j=>if j=m then u else if j=k then v else nowW C L s k j)=nowW C L s (k+1):=by
 funext j
 rw[now_step j x hc,hr]
 by_cases h1:j=m
 · subst h1
   rw[if_pos rfl,if_pos rfl,hu]
   split
   · rename_i h;subst h;rw[hv]<;>omega
   · omega
 · rw[if_neg h1,if_neg (by omega:¬(m:Int)=(j:Int))]
   split
   · rename_i h;subst h;rw[hv]<;>omega
   · omega
theorem left_river {C:List Cel}{L:List Int}{d s:Int}{k:Nat}{x:Cel}(hc:celA C k=x)(hr:x.to=-1){v:Int}(hv:v=leftW C L d s k+(d - s+takenW x (lvA L k))+onW x (lvA L k)):v=leftW C L d s (k+1):=by
 rw[left_step x hc,hr,if_pos rfl,hv]
theorem left_to {C:List Cel}{L:List Int}{d s:Int}{k:Nat}{x:Cel}(hc:celA C k=x)(hr:x.to≠-1){v:Int}(hv:v=leftW C L d s k+(d - s+takenW x (lvA L k))):v=leftW C L d s (k+1):=by
 rw[left_step x hc,if_neg hr,hv];omega
end Go.Proofs.YtkhcliibilkefaaGreatDoor
