/- CONTRACT of warden.Resume: the book that goes on with more lines. -/
import Derived.Laws.BytesArg
import Derived.Test.YtkhcliibilkefaaGreatDoorYTaken
set_option linter.unusedVariables false
set_option linter.unusedSimpArgs false
set_option maxRecDepth 100000
set_option maxHeartbeats 8000000
namespace Go.Proofs.YtkhcliibilkefaaGreatDoor
open Lib (hid)
open Go.RowKit Go.Proofs
attribute [local go_sem ↓] Go.wp_at_zero Go.wp_at_succ
def resJ (L0 MM:List ByteArray)(j:Nat):Sess×List Int:=runP Ga.readOf (-1) 0 (runP Ga.readOf (-1) 0 begS 0 (linesB L0)).1 0 ((linesB MM).take j)
theorem resJ_succ {L0 MM:List ByteArray}{j:Nat}{p:ByteArray}(h:MM[j]?=some p):resJ L0 MM (j+1) =
 ((stepP Ga.readOf (resJ L0 MM j).1 0 p.data.toList).1,(resJ L0 MM j).2++[(stepP Ga.readOf (resJ L0 MM j).1 0 p.data.toList).2]):=by
 unfold resJ;rw[List.take_add_one,linesB_at h,Option.toList_some,runP_snoc,moreAt_zero]
theorem resJ_ok (L0 MM:List ByteArray)(j:Nat):SOk (resJ L0 MM j).1:=runP_okM _ _ _ _ _ (runP_okM _ _ _ _ _ begS_ok)
structure ResI (w:World) (s:Nat) (L0 MM:List ByteArray) (j:Nat) (v:Value) (L:List ByteArray) (x:SAd) (W:World):Prop where
 at_:SAt W s x (resJ L0 MM j).1 ((L0.length:Int)+(j:Int)) (-1) 0
 own:W.ownsRow w.heap.size 9 1 v L.length (L.flatMap encStr)
 lin:linesB L=linesB L0++takenP ((linesB MM).take j) (resJ L0 MM j).2
 all:∀ p∈L,p.size≤300
 len:L.length≤L0.length+j
 away:∀ G,v.ownBlock=some G→Away x G
 lo:w.heap.size≤s
 bel:Below w.heap.size w W
theorem taken_step {L0 MM L:List ByteArray}{j:Nat}{p:ByteArray}(hp:MM[j]?=some p)(hl:linesB L=linesB L0++takenP ((linesB MM).take j) (resJ L0 MM j).2) :
 ((stepP Ga.readOf (resJ L0 MM j).1 0 p.data.toList).2=0→linesB (L++[p])=linesB L0++takenP ((linesB MM).take (j+1)) (resJ L0 MM (j+1)).2) ∧
 ((stepP Ga.readOf (resJ L0 MM j).1 0 p.data.toList).2≠0→linesB L=linesB L0++takenP ((linesB MM).take (j+1)) (resJ L0 MM (j+1)).2):=by
 have hlen:(resJ L0 MM j).2.length=((linesB MM).take j).length:=by unfold resJ;rw[runP_len]
 rw[resJ_succ hp];dsimp only;rw[List.take_add_one,linesB_at hp,Option.toList_some,taken_snoc _ _ hlen,← List.append_assoc,← hl];refine⟨fun h=>?_,fun h=>?_⟩
 · rw[if_pos h];simp[linesB]
 · rw[if_neg h,List.append_nil]
theorem ResI.next {w W W':World}{s j:Nat}{L0 MM L:List ByteArray}{v:Value}{x x':SAd}(h:ResI w s L0 MM j v L x W)(haw:∀ G,G<W.heap.size→Away x G→Away x' G)(hf:FrS s W W') :
 (∀ G,v.ownBlock=some G→Away x' G)∧W'.ownsRow w.heap.size 9 1 v L.length (L.flatMap encStr)∧Below w.heap.size w W' :=
 ⟨fun G hG=>haw G (h.own.lt G hG).2 (h.away G hG),hf.row h.own fun q hq e=>own_blk_ne h.own h.at_.blk (by decide) (by rw[hq,e]),h.bel.trans (hf.below h.bel.size fun q e=>by have:=h.lo;omega)⟩
theorem ResI.grow {w W W':World}{s j:Nat}{L0 MM L:List ByteArray}{v v':Value}{x':SAd}{p:ByteArray}(hlo:w.heap.size≤s)(hat:SAt W s x' (resJ L0 MM (j+1)).1 ((L0.length:Int)+((j+1:Nat):Int)) (-1) 0)
 (haw:∀ G,v.ownBlock=some G→Away x' G) (hown0:W.ownsRow w.heap.size 9 1 v L.length (L.flatMap encStr)) (hb:Below w.heap.size w W) (hlin:linesB (L++[p])=linesB L0++takenP ((linesB MM).take (j+1)) (resJ L0 MM (j+1)).2)
 (hall:∀ q∈L++[p],q.size≤300) (hlen:L.length≤L0.length+j)
 (hown:W'.ownsRow w.heap.size 9 1 v' (L.length+1) ((L++[p]).flatMap encStr)) (hgr:W.grownBy W' v.ownBlock) (hnew:∀ G,v'.ownBlock=some G→v.ownBlock=some G∨W.heap.size≤G):ResI w s L0 MM (j+1) v' (L++[p]) x' W':=by
 have hf:Fr (fun q=>v.ownBlock=some q) W W':=Fr.of_grown hgr fun q e _=>e;refine⟨⟨hf.blk hat.blk fun e=>own_blk_ne hown0 hat.blk (by decide) e,hat.rows.away hf haw⟩,by rw[List.length_append];exact hown,hlin,hall,by rw[List.length_append];simp;omega,fun G hG=>?_,hlo,hb.trans (hf.below hb.size fun q e=>?_)⟩
 · rcases hnew G hG with h | h
   · exact haw G h
   · exact hat.away (resJ_ok _ _ _) h
 · have:=(hown0.lt q e).1;omega
theorem Resume_c {A B:Option Addr}{n c m cm:Nat}{bs:List UInt8}{MM:List ByteArray}{w:World}(h:Rd encB 1 w A n bs)(hc:n≤c)(hlen:n≤20000)(hm:Rd encStr 1 w B m MM)(hl:Lay w)(hck:checkL MM=0)
 (hG:(goesP Ga.readOf (readW 60 bs 5).1 (linesB MM)).length≤60) (h3:∀ s∈(readW 60 bs 5).1,s.length≤300) (h6:(readW 60 bs 5).1.length≤60) :
 Calls Tryz.prog 17 #[.slice A n c,.slice B m cm] w fun e w'=>∃ v,e=.returned (.tuple #[v,.int .i64 0])∧w'.ownsRow w.heap.size 5 1 v (bookW (goesP Ga.readOf (readW 60 bs 5).1 (linesB MM)) 5).length ((bookW (goesP Ga.readOf (readW 60 bs 5).1 (linesB MM)) 5).map u8V)∧Below w.heap.size w w':=by
 have HA:=hid h;have HM:=hid hm;have HL:=hid hl;have HB:=hid (Below.refl w.heap.size w);have HCK:=hid hck;have HG:=hid hG;have H3:=hid h3;have H6:=hid h6;have HML:=hid hm.len;obtain⟨hm60,hm3⟩:=checkL_zero hck;rw[hm.len] at hm60;have HM3:=hid hm3;have HMW:=hid hm;clear h hm hl hck hG h3 h6 hm3;obtain⟨i0,hi0,hz0,hz1,hz2⟩:=info_parts infoStr;have HI:=hid hi0;have HZ0:=hid hz0;have HZ1:=hid hz1;have HZ2:=hid hz2;clear hi0 hz0 hz1 hz2
 go_enter Tryz.func17,Tryz.ntmps17
 go_wp2_with fail
 go_at_call 24;refine((chkL_c HM.out)).mono ?_;rintro e w1 ⟨rfl,hb9⟩;rw[HCK.out];replace HB:=hdT HB hb9;replace HA:=hid (HA.out.below hb9);replace HM:=hid (HM.out.below hb9);clear hb9 
 go_wp2_with fail
 go_at_call 18;refine(Recover_c HA.out hc hlen).mono ?_;rintro e w2 ⟨v0,k0,L0,rfl,hown0,⟨hL0,hk0⟩,hb9⟩;have hown0:=own_lower hown0 HB.out.size;replace HB:=hdT HB hb9;replace HA:=hid (HA.out.below hb9);replace HM:=hid (HM.out.below hb9);have HL0:=hid hL0
 have hl60:L0.length≤60:=by have:=H6.out;rw[← hL0] at this;unfold linesB at this;rwa [List.length_map] at this
 have hl3:∀ p∈L0,p.size≤300:=fun p hp=>H3.out p.data.toList (by rw[← hL0];exact List.mem_map.2 ⟨p,hp,rfl⟩);obtain⟨A0,c0,rfl,hc0⟩:=own_form hown0;have HOW0:=hid hown0;have hlay:=HL.out.below HB.out;have hr0:=Rd.of_own encStr_len hown0 rfl;have HRC:=hid (wrun_c (c:=c0) (line:=-1) (more:=0) hr0 hl60 hl3 hlay ⟨Int.le_refl _,by omega⟩);have HL3:=hid hl3;have HBA:=hid (Nat.le_refl w2.heap.size);clear hL0 hk0 hb9 hl3 hc0 hlay hr0 hown0
 go_wp2_with fail
 go_at_call 25;refine HRC.out.mono ?_;rintro e w3 ⟨s,x,ve,rfl,hat,_,⟨hge,hold⟩,hb9⟩;have hown3:=own_mono HOW0.out hb9
 have hri:ResI w s L0 MM 0 (.slice A0 L0.length c0) L0 x w3:=by
  refine⟨by simpa[resJ,runP] using hat,hown3,by simp[takenP],HL3.out,by omega,fun G hG=>hold G (HOW0.out.lt G hG).2,Nat.le_trans HB.out.size hge,below_tr HB.out hb9⟩
 replace HB:=hdT HB hb9;replace HA:=hid (HA.out.below hb9);replace HM:=hid (HM.out.below hb9);have HRI:=hid hri;clear hb9 hri hown3 hat hge hold HRC HOW0 HBA HB
 go_wp2_with fail
 go_loopw [7,30] (fun lv iv wr=>∃(j:Nat) (v:Value) (L:List ByteArray) (x:SAd),j≤m∧iv=.int .i64 j∧v=lv∧ResI w s L0 MM j v L x wr) (fun _ iv _=>m - (intOf iv).toNat)
 case atStart=>exact⟨0,_,L0,x,Nat.zero_le _,rfl,rfl,HRI.out⟩
 case round =>
  obtain⟨j,v,L,x,hj,rfl,rfl,hri⟩:=hrel;clear HRI;have HRI:=hid hri;clear hri
  by_cases hlt:j<m
  · obtain⟨b,o,p,rfl,hp,c0⟩:=str_at (HMW.out.below HRI.out.bel) hlt
    have hi1:(j:Int)<(m:Int):=by omega
    have hi0:(0:Int)≤(j:Int):=by omega
    have hps:=HM3.out p (List.mem_of_getElem? hp);have hnl:=next_line (text:=p) HRI.out.at_ (resJ_ok L0 MM j) (HL.out.below HRI.out.bel) (Nat.le_trans HL.out.size HRI.out.lo) (by omega) ⟨by omega,by omega⟩ ⟨Int.le_refl _,by omega⟩;rw[moreAt_zero] at hnl;have hst:=taken_step hp HRI.out.lin;have hsu:=resJ_succ (L0:=L0) hp;obtain⟨Rr,hRr⟩:∃ Rr,Rr=stepP Ga.readOf (resJ L0 MM j).1 0 p.data.toList:=⟨_,rfl⟩;rw[← hRr] at hnl hst hsu;have HNL:=hid hnl;have HST:=hid hst;have HSU:=hid hsu;have HP:=hid hp;have HPS:=hid hps;clear hp hps hnl hst hsu hRr
    go_wp2_with fail
    refine HNL.out.mono ?_;rintro e w5 ⟨rfl,⟨x',hat,haw⟩,hf⟩;obtain⟨haw2,hown2,hb2⟩:=HRI.out.next haw hf
    have hat2:SAt w5 s x' (resJ L0 MM (j+1)).1 ((L0.length:Int)+((j+1:Nat):Int)) (-1) 0:=by
     rw[HSU.out]
     have e9:(L0.length:Int)+((j+1:Nat):Int)=(L0.length:Int)+(j:Int)+1:=by omega
     rw[e9];exact hat
    have hall:=HRI.out.all;have hlen:=HRI.out.len;have hlo:=HRI.out.lo;have HALL:=hid hall;have HLO:=hid hlo;have HAW:=hid haw2;have HOWN:=hid hown2;have HB2:=hid hb2;have HAT:=hid hat2;clear hat haw hf haw2 hown2 hb2 hat2 hall hlo HNL HRI c0
    by_cases hz:Rr.2=0
    · have hlin:=HST.out.1 hz
      have HLIN:=hid hlin;rw[hz];clear hz hlin HST;have hal:=(Below.refl w5.heap.size w5).alloc (Nat.le_refl _) (.cells #[.string p] 9);have hat3:=HAT.out.below hal;have hown3:=own_mono HOWN.out hal;have hb3:=below_tr HB2.out hal;have HAT3:=hid hat3;have HOWN3:=hid hown3;have HB3:=hid hb3;clear hal hat3 hown3 hb3
      go_wp2_with (at_builtin;go_must (refine wpList_append_own_at _ rfl _ _ 22 rfl w.heap.size 9 i0 _ 1 16 Tryz.underlying22 HI.out HZ0.out HZ1.out HZ2.out rfl (by decide) v L.length (L.flatMap encStr) rfl HOWN3.out ⟨w5.heap.size,0,none⟩ 1 1 (encStr p) rfl rfl (fun j u hj=>World.news_of_block (cs:=#[.string p]) (t:=9) (fr:=(0,0)) (heap_alloc_new w5 _) j u hj) (by simp[Value.oneCell',encStr]) (by unfold maxLen;omega) (by omega) HB3.out.size ?_;intro v' w6 hown hgr _ hob))
      have hgrow:ResI w s L0 MM (j+1) v' (L++[p]) x' w6:=by
       refine ResI.grow HLO.out HAT3.out HAW.out HOWN3.out HB3.out HLIN.out (fun q hq=>?_) hlen ?_ hgr fun G hG=>?_
       · rcases List.mem_append.1 hq with h9 | h9
         · exact HALL.out q h9
         · obtain rfl:q=p:=by simpa using h9
           exact HPS.out
       · rw[List.flatMap_append];simpa using hown
       · rcases hob with h | h
         · rw[h] at hG;exact .inl hG
         · rw[h] at hG;exact .inr (by have:=Option.some.inj hG;omega)
      refine⟨⟨j+1,v',L++[p],x',by omega,by go_num,rfl,hgrow⟩,by simp[intOf];omega⟩
    · have hlin:=HST.out.2 hz
      have ez:(Rr.2 == 0)=false:=beq_eq_false_iff_ne.2 hz;have hri:ResI w s L0 MM (j+1) v L x' w5:=⟨HAT.out,HOWN.out,hlin,HALL.out,by omega,HAW.out,HLO.out,HB2.out⟩;have HRI2:=hid hri;clear hri hlin hz HST
      go_wp2_with fail
      refine⟨⟨j+1,v,L,x',by omega,by go_num,rfl,HRI2.out⟩,by simp[intOf];omega⟩
  · obtain rfl:j=m:=by omega
    have hlin:=HRI.out.lin
    have hls:(linesB MM).length=j:=by unfold linesB;rw[List.length_map,HML.out]
    have hgp:linesB L=goesP Ga.readOf (readW 60 bs 5).1 (linesB MM):=by
     rw[hlin,← HL0.out];unfold goesP resJ;rw[List.take_of_length_le (by rw[hls];exact Nat.le_refl _)]
    have hl6:L.length≤60:=by have h9:=HG.out;rw[← hgp] at h9;unfold linesB at h9;rwa [List.length_map] at h9
    obtain⟨AL,cl,rfl,_⟩:=own_form HRI.out.own;have hrl:=Rd.of_own encStr_len HRI.out.own rfl;have HW:=hid (written_c (c:=cl) hrl (by omega) (fun p hp=>by have:=HRI.out.all p hp;omega))
    have g1:¬(L.length:Int)>60:=by omega
    have HGP:=hid hgp;have HBB:=hid HRI.out.bel;clear hlin hls hgp hrl HRI hlt hj
    go_wp2_with fail
    go_at_call 34;refine HW.out.mono ?_;rintro e w7 ⟨v7,rfl,hown7,hb7⟩;have hown7:=own_lower hown7 HBB.out.size;rw[HGP.out] at hown7;have hb8:=below_tr HBB.out hb7;clear hb7 HW
    go_wp2_with fail
    go_ret2
    exact⟨v7,rfl,hown7,hb8⟩
theorem linesB_inj {a b:List ByteArray}(h:linesB a=linesB b):a=b:=by
 unfold linesB at h
 exact List.map_inj_right (f:=fun p:ByteArray=>p.data.toList) (fun x y e=>arr_ext e) |>.1 h
theorem cutB {A:Option Addr}{n c k:Nat}(hk:k≤c){i:Int}(hi:i=(k:Int))(W:World):(Instr.slice 54 (.slice A n c) none (some (.int .i64 i)) none).run Tryz.prog W=.ok (.slice A k c) W:=by
 subst hi;exact cut_to_gen Tryz.underlying54 (fun _=>by kernel_rfl:∀ W,(sizeOf 5).run Tryz.prog W=.ok 1 W) A hk W
theorem write_list {A:Option Addr}{n c:Nat}{LL:List ByteArray}{W:World}(h:Rd encStr 1 W A n LL)(hck:checkL LL=0) :
 Calls Tryz.prog 16 #[.slice A n c] W fun e w'=>∃ AB cB,e=.returned (.tuple #[.slice AB (bookW (linesB LL) 5).length cB,.int .i64 0])∧Rd encB 1 w' AB (bookW (linesB LL) 5).length (bookW (linesB LL) 5)∧(bookW (linesB LL) 5).length≤cB∧Below W.heap.size W w':=by
 refine(Write_c h).mono ?_;rintro e w' ⟨v,rfl,hwo,_,hb⟩;have hwo:=hwo hck;obtain⟨AB,cB,rfl,hcb⟩:=own_form hwo;exact⟨AB,cB,by rw[hck],Rd.of_own encB_len (by rw[flat_u8];exact hwo) rfl,hcb,hb⟩
end Go.Proofs.YtkhcliibilkefaaGreatDoor
namespace Go.Proofs.YtkhcliibilkefaaGreatDoor
open Lib (hid)
open Go.RowKit Go.Proofs
theorem rd_drop {α:Type}{enc:α→List Value}{k:Nat}{w:World}{b o n j:Nat}{l:List α}(h:Rd enc k w (some ⟨b,o,none⟩) n l)(hj:j≤n):Rd enc k w (some ⟨b,o+j * k,none⟩) (n - j) (l.drop j):=by
 refine⟨by rw[List.length_drop,h.1],fun h0=>?_⟩;obtain⟨b',o',e,hlt,hc⟩:=h.2 (by omega);cases e;refine⟨b,o+j * k,rfl,hlt,fun i x hx q v hv=>?_⟩;rw[List.getElem?_drop] at hx;have:=hc (j+i) x hx q v hv
 rwa [show o+j * k+i * k+q=o+(j+i) * k+q from by rw[Nat.add_mul];omega]
theorem dropS {A:Option Addr}{n c k:Nat}{LL:List ByteArray}{W0:World}(h0:Rd encStr 1 W0 A n LL)(hk:k≤n)(hc:n≤c) :
 ∃ A',(∀ W,(Instr.slice 22 (.slice A n c) (some (.int .i64 (k:Int))) none none).run Tryz.prog W=.ok (.slice A' (n - k) (c - k)) W)∧∀ W,Rd encStr 1 W A n LL→Rd encStr 1 W A' (n - k) (LL.drop k):=by
 have hz:∀ W,(sizeOf 9).run Tryz.prog W=.ok 1 W:=fun _=>by kernel_rfl
 refine⟨A.map fun a=>if c=k then a else a.add (k * 1),fun W=>?_,fun W hr=>?_⟩
 · cases A<;>by_cases h1:c=k<;>simp[Instr.slice,run_underlying Tryz.underlying22,run_sliceBounds_from W hk,hz,h1]
 · rcases Nat.eq_zero_or_pos (n - k) with h9 | h9
   · have hl:=hr.len
     rw[h9,List.drop_eq_nil_of_le (by omega)];exact Rd.nil _ _ _ _
   · obtain⟨b,o,rfl,_,_⟩:=hr.2 (by omega)
     have h1:¬ c=k:=by omega
     have h2:=rd_drop hr (j:=k) hk
     have e:(Option.map (fun a:Addr=>if c=k then a else a.add (k * 1)) (some ⟨b,o,none⟩))=some ⟨b,o+k * 1,none⟩:=by
      simp[h1,Addr.add]
     rw[e];exact h2
theorem conv_rd2 {A:Option Addr}{n c:Nat}{l:List UInt8}{W:World}(h:Rd encB 1 W A n l):(convert 54 9 (.slice A n c)).run Tryz.prog W=.ok (str l) W:=by
 have hl:=h.len
 rcases Nat.eq_zero_or_pos n with h0 | h0
 · obtain rfl:l=[]:=List.length_eq_zero_iff.1 (by omega)
   cases A with
   | none=>exact run_convert_bytes_nil W 54 5 Tryz.underlying54 Tryz.underlying5 n c _ Tryz.underlying9
   | some a =>
    subst h0;exact run_convert_bytes_back (P:=Tryz.prog) W 54 9 5 a c [] Tryz.underlying54 Tryz.underlying5 Tryz.underlying9 (fun j hj=>absurd hj (Nat.not_lt_zero _))
 · obtain⟨b,o,rfl,_,hc⟩:=h.2 h0
   exact run_textB hl fun i x hx=>by
    have:=hc i x hx 0 _ rfl
    simpa using this
attribute [local go_sem ↓] Go.wp_at_zero Go.wp_at_succ
theorem taken_all {LL L1:List ByteArray}(h:linesB L1=takenP (linesB LL) (runP Ga.readOf (-1) 0 begS 0 (linesB LL)).2):∀ e∈(runP Ga.readOf (-1) 0 begS 0 (linesB L1)).2,e=0:=by
 rw[h];exact(run_taken Ga.readOf (-1) (linesB LL) begS 0).2
theorem check_drop {LL:List ByteArray}(h:checkL LL=0)(k:Nat):checkL (LL.drop k)=0:=by
 obtain⟨h1,h2⟩:=checkL_zero h;unfold checkL;rw[if_neg (by rw[List.length_drop];omega),if_pos (fun p hp=>h2 p (List.mem_of_mem_drop hp))]
theorem WardenGoesOn_w {A:Option Addr}{n c at_:Nat}{LL:List ByteArray}{w:World}(h:Rd encStr 1 w A n LL)(hs:∀ p∈LL,p.size≤1048576)(hn:n≤1048576)(hl:Lay w)(ha:at_<65536) :
 Calls Tryz.prog 4 #[.slice A n c,.int .u16 at_] w fun e w'=>e=.returned (.bool true)∧Below w.heap.size w w':=by
 have HR:=hid h;have HL:=hid hl;have HB:=hid (Below.refl w.heap.size w);have HLEN:=hid h.len;have HS:=hid hs;clear h hl hs
 go_enter Tryz.func4,Tryz.ntmps4
 go_wp2_with fail
 go_at_call 5;refine((ready_c HR.out HS.out hn)).mono ?_;rintro e w1 ⟨bR,rfl,hbr,hb9⟩;replace HB:=hdT HB hb9;replace HR:=hid (HR.out.below hb9);clear hb9 
 cases bR with
 | false =>
  clear hbr
  go_wp2_with fail
  go_at_call 6;refine((wakes_ok _ (HL.out.below HB.out))).mono ?_;rintro e v2 ⟨rfl,hb9⟩;replace HB:=hdT HB hb9;replace HR:=hid (HR.out.below hb9);clear hb9 
  go_wp2_with fail
  (try rw[Exit.noGoto_ret])
  go_ret
  exact⟨rfl,HB.out⟩
 | true =>
  have hr:=hbr rfl;have hck:=right_check hr
  have hn60:n≤60:=by have:=hr.2;have:=HLEN.out;omega
  have HCK:=hid hck;have HRT:=hid hr;clear hbr hck hr
  go_wp2_with fail
  go_at_call 8;refine((list_c HR.out (by omega))).mono ?_;rintro e w2 ⟨A2,c2,rfl,hown2,hr2,hc2,hb9⟩;replace HB:=hdT HB hb9;replace HR:=hid (HR.out.below hb9);have HR2:=hid hr2;clear hb9 hr2;clear hown2 hc2
  go_wp2_with fail
  go_at_call 7;refine(Run_c HR2.out (HL.out.below HB.out)).mono ?_;rintro e w3 ⟨s,x,b,mm,ve,es,rfl,hrows,hown,hem,hok,_,hb9⟩;obtain⟨hbb,hes⟩:=hok HCK.out;have hlen:=runP_len Ga.readOf (-1) 0 (linesB LL) begS 0;rw[← hes,show(linesB LL).length=n from by unfold linesB;rw[List.length_map,HLEN.out]] at hlen
  obtain rfl:mm=n:=by omega
  obtain⟨EA,ec,rfl,_⟩:=own_form hown;rw[HCK.out];have her:Rd enc1 1 w3 EA mm es:=Rd.of_own enc1_len hown hem;have HES:=hid hes;have HEL:=hid hlen;clear HR2 hrows hown hok hem hbb hes hlen;have hb2:=below_tr HB.out hb9;have hrb:=HR.out.below hb9;clear HB HR hb9;have HR:=hid hrb;clear hrb;have HTH:=hid (show World.there (w3.alloc (.cells (stateL ad0 zeroS).toArray 42)) w3.heap.size 0 22 from there_of_blk (cs:=stateL ad0 zeroS) (Blk.new w3 42 (stateL ad0 zeroS).toArray));obtain⟨cs,hcs⟩:∃ cs,cs=(stateL x b).toArray:=⟨_,rfl⟩
  have hcn:cs.size=22:=by rw[hcs];rfl
  have hc1:cs.all (·.oneCell')=true:=by rw[hcs];exact stateL_one x b
  rw[← hcs];have HCS:=hid hcs;have HCN:=hid hcn;have HC1:=hid hc1;clear hcs hcn hc1
  go_upto_region 4 with (refine wpList_store_mid rfl 42 (.tmp 5) (.tmp 24) rfl w3.heap.size 0 cs rfl rfl (by rw[HCN.out];exact HTH.out) (by rw[HCN.out];exact stateN) HC1.out ?_)
  have hblk:=blk_cells (stateL x b) 0 (w3.alloc (.cells (stateL ad0 zeroS).toArray 42)) [] (stateL ad0 zeroS) (Blk.new w3 42 (stateL ad0 zeroS).toArray) rfl rfl
  have hb3:Below w3.heap.size w3 ((w3.alloc (.cells (stateL ad0 zeroS).toArray 42)).setCells w3.heap.size 0 (stateL x b)) :=
   (((Below.refl w3.heap.size w3).alloc (Nat.le_refl _) (.cells (stateL ad0 zeroS).toArray 42)).trans ((grown_cells (g:=w3.heap.size) (stateL x b) 0 _).below (by simp) fun q e=>Nat.le_of_eq e.symm))
  generalize hw4:(World.setCells _ w3.heap.size 0 cs.toList)=w4
  have e9:(w3.alloc (.cells (stateL ad0 zeroS).toArray 42)).setCells w3.heap.size 0 (stateL x b)=w4:=by rw[← hw4,HCS.out];rfl
  rw[e9] at hblk hb3
  have hbk:Blk w4 w3.heap.size 42 (stateL x b).toArray:=by simpa using hblk
  clear hw4 e9 hblk HTH HCN HC1;have HB:=hid (below_tr hb2 hb3);have HER:=hid (her.below hb3);have HST:=hid hbk;have hrb:=HR.out.below hb3;clear hb2 her hbk HCS HR;have HR:=hid hrb;clear hrb;obtain⟨S0,hS0⟩:∃ S0,S0=w3.heap.size:=⟨_,rfl⟩;rw[← hS0] at HST ⊢;clear hS0 hb3;clear HST
  go_wp2_with fail
  go_at_call 15;refine((taken_c (c:=c) (ec:=ec) HR.out HER.out hn60)).mono ?_;rintro e w9 ⟨v1,L1,rfl,hown1,hL1,hall1,hlen1,hb9⟩;replace HB:=hdT HB hb9;replace HR:=hid (HR.out.below hb9);replace HER:=hid (HER.out.below hb9);clear hb9 ;rw[HES.out] at hL1
  have hck1:checkL L1=0:=by unfold checkL;rw[if_neg (by omega),if_pos (fun p hp=>HRT.out.1 p (hall1 p hp))]
  obtain⟨AL,cl,rfl,hcl⟩:=own_form hown1;have hr1:=Rd.of_own encStr_len hown1 rfl;obtain⟨k1,hk1⟩:∃ k1,k1=L1.length:=⟨_,rfl⟩;rw[← hk1] at hr1 hcl hlen1 ⊢;have HK1:=hid hk1;have HL1:=hid hL1;have HCK1:=hid hck1;have HRL:=hid hr1;have HCL:=hid hcl
  have hs3:∀ s∈linesB L1,s.length≤300:=fun s hs=>by
   obtain⟨p,hp,rfl⟩:=List.mem_map.1 hs;exact HRT.out.1 p (hall1 p hp)
  have hs6:(linesB L1).length≤60:=by unfold linesB;rw[List.length_map,← hk1];omega
  obtain⟨BK,hBK⟩:∃ BK,BK=bookW (linesB L1) 5:=⟨_,rfl⟩;obtain⟨m,hm⟩:∃ m,m=BK.length:=⟨_,rfl⟩
  have hm4:m≤60 * 314:=by
   have:=bk_size (fun p hp=>HRT.out.1 p (hall1 p hp)) (by rw[← hk1];omega) k1;rw[List.take_of_length_le (by unfold linesB;rw[List.length_map,← hk1];exact Nat.le_refl _),← hBK,← hm] at this;exact this
  have hgp:goesP Ga.readOf (readW 60 ([]:List UInt8) 5).1 (linesB LL)=linesB L1:=by
   rw[read_nil,hL1];rfl
  have hall0:=taken_all hL1;have HBK:=hid hBK;have HM:=hid hm;have HGP:=hid hgp;have HS3:=hid hs3;have HS6:=hid hs6;have HALL0:=hid hall0;clear hown1 hr1 hk1 hL1 hck1 hall1 hcl hBK hm hgp hs3 hs6 hall0 HER
  go_wp2_with fail
  go_at_call 8;refine((list_c HRL.out (by omega))).mono ?_;rintro e w5 ⟨A5,c5,rfl,hown5,hr5,hc5,hb9⟩;replace HB:=hdT HB hb9;replace HR:=hid (HR.out.below hb9);replace HRL:=hid (HRL.out.below hb9);have HR5:=hid hr5;clear hb9 hr5;clear hown5 hc5
  go_wp2_with fail
  go_at_call 16;refine((write_list HR5.out HCK1.out)).mono ?_;rintro e w6 ⟨AB,cB,rfl,hrb,hcb,hb9⟩;rw[← HBK.out,← HM.out] at hrb hcb ⊢;have HCB:=hid hcb;replace HB:=hdT HB hb9;replace HR:=hid (HR.out.below hb9);replace HRL:=hid (HRL.out.below hb9);replace HR5:=hid (HR5.out.below hb9);have HRB:=hid hrb;clear hb9 hrb;clear HR5 hcb
  go_wp2_with fail
  go_at_call 8;refine((list_c HR.out (by omega))).mono ?_;rintro e w7 ⟨A7,c7,rfl,hown7,hr7,hc7,hb9⟩;replace HB:=hdT HB hb9;replace HR:=hid (HR.out.below hb9);replace HRL:=hid (HRL.out.below hb9);replace HRB:=hid (HRB.out.below hb9);have HR7:=hid hr7;clear hb9 hr7;clear hown7 hc7
  go_wp2_with fail
  go_at_call 17;refine((Resume_c (c:=0) (bs:=[]) (Rd.nil _ _ _ _) (Nat.le_refl _) (by omega) HR7.out (HL.out.below HB.out) HCK.out (by rw[HGP.out];exact HS6.out) (by rw[read_nil];simp) (by rw[read_nil];simp))).mono ?_;rintro e w8 ⟨v8,rfl,hown8,hb9⟩;rw[HGP.out,← HBK.out,← HM.out] at hown8;obtain⟨AX,cX,rfl,_⟩:=own_form hown8;have hrx:=Rd.of_own encB_len (by rw[flat_u8];exact hown8) HM.out.symm;clear hown8;replace HB:=hdT HB hb9;replace HR:=hid (HR.out.below hb9);replace HRL:=hid (HRL.out.below hb9);replace HRB:=hid (HRB.out.below hb9);replace HR7:=hid (HR7.out.below hb9);have HRX:=hid hrx;clear hb9 hrx;clear HR7;have nq:=fun W=>str_neq BK BK W;have ne:=fun W=>str_eql BK BK W;rw[decide_eq_true rfl] at nq ne;have ng:=str_guard BK BK;have hcv1:=conv_rd2 (c:=cX) HRX.out;have hcv2:=conv_rd2 (c:=cB) HRB.out;obtain⟨cut,hcut⟩:∃ cut,cut=at_ % (m+1):=⟨_,rfl⟩
  have hcm:cut≤m:=by have:=Nat.mod_lt at_ (show 0<m+1 by omega);omega
  have hrem:(at_:Int).tmod ((m:Int)+1)=(cut:Int):=by
   rw[show(m:Int)+1=((m+1:Nat):Int) from by omega,hcut,Int.tmod_eq_emod_of_nonneg (by omega)];exact(Int.natCast_emod _ _).symm
  have hw1:IntKind.i64.wrap (at_:Int)=(at_:Int):=wi (by omega);have hw2:IntKind.i64.wrap ((m:Int)+1)=(m:Int)+1:=wi (by omega);have hw3:IntKind.i64.wrap (cut:Int)=(cut:Int):=wi (by omega)
  have hm1:¬(m:Int)+1=0:=by omega
  have hm2:((m:Int)+1 == 0)=false:=beq_eq_false_iff_ne.2 hm1;have s10:=fun W=>cutB (A:=AB) (n:=m) (c:=cB) (k:=cut) (by have:=HCB.out;omega) (i:=(cut:Int)) rfl W;obtain⟨k2,hk2,hrdk⟩:=read_cut_book HS3.out HS6.out (cut:=cut) (by rw[← HBK.out,← HM.out];exact hcm);rw[← HBK.out,← linesB_take] at hrdk
  have hk21:k2≤k1:=by rw[HK1.out];unfold linesB at hk2;rwa [List.length_map] at hk2
  have HRDK:=hid hrdk;have HRBT:=hid (rd_take HRB.out (b:=cut) hcm)
  have hbt:(BK.take cut).length=cut:=by rw[List.length_take,← HM.out];omega
  have HBT:=hid hbt;obtain⟨i1,hi1',hz10,hz11,hz12⟩:=info_parts infoByte;have HI:=hid hi1';have HZ0:=hid hz10;have HZ1:=hid hz11;have HZ2:=hid hz12;clear hi1' hz10 hz11 hz12 hcut hk2 hrdk hbt
  go_upto_region 10 with fail
  clear hcv1 hcv2 hrem hw1 hw2 hw3 hm1 hm2 HRX;have hal:=(Below.refl w8.heap.size w8).alloc (Nat.le_refl _) (.cells #[] 5)
  go_wp2_with (at_builtin;go_must (refine wpList_append_rd rfl _ _ 54 rfl w8.heap.size 5 i1 _ 1 1 Tryz.underlying54 HI.out HZ0.out HZ1.out HZ2.out rfl (by decide) _ _ _ rfl (own_empty w8 5 1) encB_len oneByte AB cut cB (BK.take cut) rfl (HRBT.out.below hal) (by unfold maxLen;omega) (by omega) (by simp) ?_;intro v9 wa hown9 hgr9))
  have hown9:wa.ownsRow w8.heap.size 5 1 v9 cut ((BK.take cut).flatMap encB):=by simpa using hown9
  obtain⟨A9,c9,rfl,hc9⟩:=own_form hown9;have hba:=hal.trans (Fr.of_grown hgr9 (E:=fun q=>w8.heap.size≤q) (fun q e _=>by first | (simp[Value.ownBlock] at e;omega) | (cases e;exact Nat.le_refl _)) |>.below (by simp) fun q hq=>hq);have hr9:=Rd.of_own encB_len hown9 HBT.out;clear hown9 hgr9 hal;replace HB:=hdT HB hba;replace HR:=hid (HR.out.below hba);replace HRL:=hid (HRL.out.below hba);replace HRB:=hid (HRB.out.below hba);replace HRBT:=hid (HRBT.out.below hba);clear hba;go_at_call 18;refine(Recover_c hr9 hc9 (by omega)).mono ?_;rintro e wb ⟨vb,kb,L2,rfl,hownb,⟨hL2,hkb⟩,hbb⟩;have hL2:L2=L1.take k2:=linesB_inj (by rw[hL2,HRDK.out]);subst hL2;obtain⟨Ab,cb,rfl,hcb⟩:=own_form hownb
  have hl2:(L1.take k2).length=k2:=by rw[List.length_take,← HK1.out];omega
  rw[hl2];clear hr9 hc9 hownb hkb hcb hl2;replace HB:=hdT HB hbb;replace HR:=hid (HR.out.below hbb);replace HRL:=hid (HRL.out.below hbb);replace HRB:=hid (HRB.out.below hbb);replace HRBT:=hid (HRBT.out.below hbb);clear hbb
  have g11:¬(k2:Int)>(k1:Int):=by omega
  obtain⟨AD,hdr,hdr2⟩:=dropS (c:=cl) HRL.out hk21 HCL.out;have HRD:=hid (hdr2 _ HRL.out);clear hdr2
  have hgc:goesP Ga.readOf (readW 60 (BK.take cut) 5).1 (linesB (L1.drop k2))=linesB L1:=by
   rw[HRDK.out,linesB_take,show linesB (L1.drop k2)=(linesB L1).drop k2 from by unfold linesB;rw[List.map_drop]];exact goes_cut Ga.readOf HALL0.out k2
  have HGC:=hid hgc;have HGL:=hid (show(goesP Ga.readOf (readW 60 (BK.take cut) 5).1 (linesB (L1.drop k2))).length≤60 from by rw[hgc];exact HS6.out);have HG3:=hid (show ∀ s∈(readW 60 (BK.take cut) 5).1,s.length≤300 from by rw[HRDK.out,linesB_take];exact fun s hs=>HS3.out s (List.mem_of_mem_take hs));have HG6:=hid (show(readW 60 (BK.take cut) 5).1.length≤60 from by rw[HRDK.out,linesB_take,List.length_take];have:=HS6.out;omega);have HCKD:=hid (check_drop HCK1.out k2);clear hgc
  go_upto_region 13 with fail
  clear g11;refine wp_region_till [] (fun _=>True) (by kernel_rfl) (by trivial) (fun hHeld=>?_);have hb9:=(Below.refl wb.heap.size wb).drew;replace HB:=hdT HB hb9;replace HR:=hid (HR.out.below hb9);replace HRB:=hid (HRB.out.below hb9);replace HRBT:=hid (HRBT.out.below hb9);replace HRD:=hid (HRD.out.below hb9);clear hb9;revert hHeld HB HR HRB HRBT HRD;generalize wb.drew=u0;intro hHeld HB HR HRB HRBT HRD;have hbq:=Below.refl u0.heap.size u0;refine tk 0 1 ?_;refine tk 0 2 ?_;refine tk 0 3 ?_;refine tk 0 5 ?_;refine tk 0 6 ?_;refine tk 0 7 ?_;refine tk 0 8 ?_;refine ar [0] (ac (fun K hK=>?_) an);go_simp;have hn:=fun(W:World) (hW:u0.heap.size≤W.heap.size)=>own_lower (own_empty W 5 1) hW;have hn:=hn _ hbq.size;(try replace hown9:=own_mono hown9 ((Below.refl _ _).alloc (Nat.le_refl _) (.cells #[] 5)));have hbq:=hbq.alloc hbq.size (.cells #[] 5);(try clear hHeld);refine hK.out _ _ (by(try dsimp only);all_goals trivial) (fun hHeld=>?_);clear hK K;refine pt ?_;refine ar [4] (ac (fun K hK=>?_) an);refine step_append_rd rfl _ _ 54 rfl u0.heap.size 5 i1 _ 1 1 Tryz.underlying54 HI.out HZ0.out HZ1.out HZ2.out rfl (by decide) _ _ _ rfl hn encB_len oneByte AB cut cB (BK.take cut) rfl (HRBT.out.below hbq) (by unfold maxLen;omega) (by omega) hbq.size ?_;intro v' v4 hown4 hgr4
  have hown4:v4.ownsRow u0.heap.size 5 1 v' cut ((BK.take cut).flatMap encB):=by simpa using hown4
  (try replace hown9:=(Fr.of_grown hgr4 (E:=fun q=>Value.ownBlock _=some q) (fun q e _=>e)).row hown9 (fun q hq e=>own_own_ne hown9 hn (by decide) hq e));have hbq:=hbq.trans (Fr.of_grown hgr4 (E:=fun q=>u0.heap.size≤q) (fun q e _=>(hn.lt q e).1) |>.below hbq.size fun q hq=>hq);obtain⟨A4,c4,rfl,hc4⟩:=own_form hown4;clear hgr4 hn;(try clear hHeld);refine hK.out _ _ (by(try dsimp only);all_goals trivial) (fun hHeld=>?_);clear hK K;refine pt ?_;refine ar [9] (ac (fun K hK=>?_) an);go_simp;go_at_call 8;refine(list_c (HRD.out.below hbq) (by omega)).mono ?_;rintro e v9 ⟨A9,c9,rfl,hown9,_,_,hb9⟩;have hown9:=own_lower hown9 hbq.size;(try replace hn:=own_mono hn hb9);(try replace hown4:=own_mono hown4 hb9);have hbq:=below_tr hbq hb9;clear hb9;(try go_wp2_with fail);(try clear hHeld);refine hK.out _ _ (by(try dsimp only);all_goals trivial) (fun hHeld=>?_);clear hK K;refine pt ?_;refine ar [10] (ac (fun K hK=>?_) an);go_simp;have hr4:=Rd.of_own encB_len hown4 HBT.out;have hr9:=Rd.of_own encStr_len hown9 (by rw[List.length_drop,← HK1.out]);go_at_call 17;refine(Resume_c hr4 hc4 (by omega) hr9 (HL.out.below (below_tr HB.out hbq)) HCKD.out HGL.out HG3.out HG6.out).mono ?_;rintro e v5 ⟨v5',rfl,hown5,hb5⟩;have hbq:=below_tr hbq hb5;rw[HGC.out,← HBK.out,← HM.out] at hown5;obtain⟨A5,c5,rfl,_⟩:=own_form hown5;have hr5:=Rd.of_own encB_len (by rw[flat_u8];exact hown5) HM.out.symm;clear hb5 hown5 hown4 hown9 hr4 hr9 hc4;(try go_wp2_with fail);(try clear hHeld)
  refine hK.out _ _ (by(try dsimp only);all_goals trivial) (fun hHeld=>?_);clear hK K;refine pt ?_;refine tk 0 11 ?_;refine tk 0 12 ?_;refine tk 0 13 ?_;refine tk 0 14 ?_;refine tk 0 15 ?_;refine td ?_;(try clear hHeld);replace HB:=hdT HB hbq;replace HR:=hid (HR.out.below hbq);replace HRB:=hid (HRB.out.below hbq);replace HRBT:=hid (HRBT.out.below hbq);replace HRD:=hid (HRD.out.below hbq);clear hbq;have hcv1:=conv_rd2 (c:=c5) hr5;have hcv2:=conv_rd2 (c:=cB) HRB.out
  go_wp2_with fail
  clear hcv1 hcv2 hr5;go_at_call 6;refine((wakes_ok _ (HL.out.below HB.out))).mono ?_;rintro e v6 ⟨rfl,hb9⟩;replace HB:=hdT HB hb9;clear hb9 
  go_wp2_with fail
  (try rw[Exit.noGoto_ret])
  go_ret
  exact⟨rfl,HB.out⟩
end Go.Proofs.YtkhcliibilkefaaGreatDoor
