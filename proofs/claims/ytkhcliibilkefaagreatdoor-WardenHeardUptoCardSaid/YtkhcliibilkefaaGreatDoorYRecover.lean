/- CONTRACTS of begin and run: a new session; all lines. -/
import Derived.Test.YtkhcliibilkefaaGreatDoorYLine
import Derived.Test.YtkhcliibilkefaaGreatDoorYUpto
import Derived.Deep.MidRow
import Derived.Maps.OwnIn
import Derived.Laws.EntriesVeiled
import Derived.Deep.AppendLies
set_option linter.unusedVariables false
set_option linter.unusedSimpArgs false
set_option maxRecDepth 100000
set_option maxHeartbeats 8000000
namespace Go.Proofs.YtkhcliibilkefaaGreatDoor
open Lib (hid)
open Go.RowKit Go.Proofs
attribute [local go_sem ↓] Go.wp_at_zero Go.wp_at_succ
theorem begin_rows (w:World)(s:Nat):SRows w s ad0 begS:=by
 refine⟨SRow.nil _ _ _ _,rfl,fun i r hr=>by simp[ad0] at hr,SRow.nil _ _ _ _,SRow.nil _ _ _ _,SRow.nil _ _ _ _,SRow.nil _ _ _ _,SRow.nil _ _ _ _,SRow.nil _ _ _ _,rfl,fun i y hy=>by simp[ad0] at hy,SRow.nil _ _ _ _,SRow.nil _ _ _ _⟩
theorem wbegin_c (w:World):Calls Tryz.prog 41 #[] w fun e w'=>∃ s,e=.returned (.pointer (some ⟨s,0,none⟩))∧SAt w' s ad0 begS 0 (-1) 0∧w.heap.size≤s∧Below w.heap.size w w':=by
 go_enter Tryz.func41,Tryz.ntmps41
 go_wp2_with fail
 go_ret
 exact⟨w.heap.size,rfl,⟨Blk.new w 75 (sessV ad0 begS 0 (-1) 0),begin_rows _ _⟩,Nat.le_refl _,(Below.refl _ w).alloc (Nat.le_refl _) _⟩
theorem infoErr:(Tryz.prog.info? 44).map (fun i=>(i.zero,i.size,i.bytes))=some (some (.int .i64 0),1,8):=by kernel_rfl
theorem runP_snoc (F:List UInt8→List Rdg)(line more:Int):∀(l:List (List UInt8)) (b:Sess) (now:Int) (s:List UInt8),runP F line more b now (l++[s]) =
 ((stepP F (runP F line more b now l).1 (moreAt (now+l.length) line more) s).1,(runP F line more b now l).2++[(stepP F (runP F line more b now l).1 (moreAt (now+l.length) line more) s).2])
 | [],b,now,s=>by simp[runP]
 | t::l,b,now,s=>by
  rw[List.cons_append,runP,runP_snoc F line more l,runP]
  have e:now+1+(l.length:Int)=now+((t::l).length:Int):=by simp;omega
  rw[e];rfl
theorem runP_len (F:List UInt8→List Rdg)(line more:Int):∀(l:List (List UInt8)) (b:Sess) (now:Int),(runP F line more b now l).2.length=l.length
 | [],_,_=>rfl
 | t::l,b,now=>by rw[runP,List.length_cons,runP_len F line more l];rfl
theorem SAt.away {w:World}{s:Nat}{x:SAd}{b:Sess}{now line more:Int}(h:SAt w s x b now line more)(hok:SOk b){G:Nat}(hG:w.heap.size≤G):Away x G:=by
 have key:∀ {α:Type} {enc:α→List Value} {k:Nat} {y:Slc} {l:List α},SRow s w enc k y l→∀ ad,y.A=some ad→0<y.n→ad.block≠G:=by
  intro α enc k y l hr ad e hn;obtain⟨b',o,e',hlt,_⟩:=hr.rd.2 hn;rw[e] at e';cases e';dsimp only;omega
 refine⟨key h.rows.co,key h.rows.li,key h.rows.ce,key h.rows.da,key h.rows.le,key h.rows.pa,key h.rows.sl,key h.rows.bo,key h.rows.rd,fun i r hr ad e=>key (h.rows.cbed i r hr) ad e Nat.one_pos,fun i y hy ad e=>?_⟩;refine key (h.rows.sway i y hy) ad e ?_;have hl:=(h.rows.sway i y hy).rd.len
 have hm:(b.sls)[i]?=some (pslOf y):=by rw[← h.rows.slc,List.getElem?_map,hy];rfl
 dsimp only at hl ⊢;rw[← hl]
 rcases hok.val with h1 | h1
 · have:=(List.getElem?_eq_some_iff.1 hm).1
   omega
 · have h2:=h1.slide (k:=i) (s:=(pslOf y).sli) (by simp[Sess.vly,hm])
   have h3:=h2.2.1;simp only[PSl.sli,pslOf] at h3;omega
theorem SRows.away {w w':World}{s:Nat}{x:SAd}{b:Sess}(h:SRows w s x b){E:Nat→Prop}(hf:Fr E w w')(ha:∀ G,E G→Away x G):SRows w' s x b:=by
 have key:∀ {α:Type} {enc:α→List Value} {k:Nat} {y:Slc} {l:List α},SRow s w enc k y l→(∀ G,E G→∀ ad,y.A=some ad→0<y.n→ad.block≠G)→SRow s w' enc k y l:=by
  intro α enc k y l hr hn;refine⟨Rd.frz hf hr.rd fun ad e=>?_,hr.cap,hr.far⟩
  rcases Nat.eq_zero_or_pos y.n with h0 | h0
  · exact .inl h0
  · exact .inr fun hE=>hn _ hE ad e h0 rfl
 exact⟨key h.co fun G hG=>(ha G hG).co,h.col,fun i r hr=>key (h.cbed i r hr) fun G hG ad e _=>(ha G hG).CL i r hr ad e,key h.li fun G hG=>(ha G hG).li,key h.ce fun G hG=>(ha G hG).ce,key h.da fun G hG=>(ha G hG).da,key h.le fun G hG=>(ha G hG).le,key h.pa fun G hG=>(ha G hG).pa,key h.sl fun G hG=>(ha G hG).sl,h.slc,fun i y hy=>key (h.sway i y hy) fun G hG ad e _=>(ha G hG).SL i y hy ad e,key h.bo fun G hG=>(ha G hG).bo,key h.rd fun G hG=>(ha G hG).rd⟩
theorem ad0_away (G:Nat):Away ad0 G:=by
 refine⟨?_,?_,?_,?_,?_,?_,?_,?_,?_,?_,?_⟩<;>simp[ad0,slc0]
def runJ (line more:Int)(LL:List ByteArray)(j:Nat):Sess×List Int:=runP Ga.readOf line more begS 0 ((linesB LL).take j)
theorem runJ_succ {line more:Int}{LL:List ByteArray}{j:Nat}{p:ByteArray}(h:LL[j]?=some p):runJ line more LL (j+1) =
 ((stepP Ga.readOf (runJ line more LL j).1 (moreAt j line more) p.data.toList).1,(runJ line more LL j).2++[(stepP Ga.readOf (runJ line more LL j).1 (moreAt j line more) p.data.toList).2]):=by
 have hj:=(List.getElem?_eq_some_iff.1 h).1;unfold runJ;rw[List.take_add_one,linesB_at h,Option.toList_some,runP_snoc]
 have e:((0:Int)+(((linesB LL).take j).length:Int))=(j:Int):=by
  rw[List.length_take];unfold linesB;rw[List.length_map];omega
 rw[e]
theorem stepP_okM {b:Sess}(h:SOk b)(more:Int)(t:List UInt8):SOk (stepP Ga.readOf b more t).1:=stepP_ok h
theorem runP_okM (line more:Int):∀(l:List (List UInt8)) (b:Sess) (now:Int),SOk b→SOk (runP Ga.readOf line more b now l).1
 | [],_,_,h=>h
 | t::l,b,now,h=>by rw[runP];exact runP_okM line more l _ _ (stepP_okM h _ _)
structure RunI (w:World) (s B1:Nat) (line more:Int) (LL:List ByteArray) (j:Nat) (v:Value) (x:SAd) (W:World):Prop where
 at_:SAt W s x (runJ line more LL j).1 j line more
 own:W.ownsRow B1 44 1 v j ((runJ line more LL j).2.flatMap enc1)
 away:∀ G,v.ownBlock=some G→Away x G
 lo:s<B1∧w.heap.size≤s
 bel:Below w.heap.size w W
 sz:B1≤W.heap.size
 old:∀ G,G<w.heap.size→Away x G
theorem RunI.next {w W W':World}{s B1 j:Nat}{line more:Int}{LL:List ByteArray}{v:Value}{x x':SAd}{b:Sess}(h:RunI w s B1 line more LL j v x W)(hat:SAt W' s x' b (j+1) line more)(haw:∀ G,G<W.heap.size→Away x G→Away x' G)(hf:FrS s W W') :
 (∀ G,v.ownBlock=some G→Away x' G)∧W'.ownsRow B1 44 1 v j ((runJ line more LL j).2.flatMap enc1)∧Below w.heap.size w W'∧B1≤W'.heap.size∧∀ G,G<w.heap.size→Away x' G :=
 ⟨fun G hG=>haw G (h.own.lt G hG).2 (h.away G hG),hf.row h.own fun q hq e=>by have:=(h.own.lt q hq).1;have:=h.lo.1;omega,h.bel.trans (hf.below h.bel.size fun q e=>by have:=h.lo.2;omega),Nat.le_trans h.sz hf.size,fun G hG=>haw G (Nat.lt_of_lt_of_le hG h.bel.size) (h.old G hG)⟩
theorem RunI.grow {w W W':World}{s B1 j:Nat}{line more:Int}{LL:List ByteArray}{v v':Value}{x':SAd}{p:ByteArray}(hp:LL[j]?=some p)(hlo:s<B1∧w.heap.size≤s)(hat:SAt W s x' (runJ line more LL (j+1)).1 (j+1:Nat) line more)(hok:SOk (runJ line more LL (j+1)).1)
 (haw:∀ G,v.ownBlock=some G→Away x' G) (hown0:W.ownsRow B1 44 1 v j ((runJ line more LL j).2.flatMap enc1)) (hb:Below w.heap.size w W) (hsz:B1≤W.heap.size) (hold:∀ G,G<w.heap.size→Away x' G)
 (hown:W'.ownsRow B1 44 1 v' (j+1) ((runJ line more LL (j+1)).2.flatMap enc1)) (hgr:W.grownBy W' v.ownBlock) (hnew:∀ G,v'.ownBlock=some G→v.ownBlock=some G∨W.heap.size≤G):RunI w s B1 line more LL (j+1) v' x' W':=by
 have hf:Fr (fun q=>v.ownBlock=some q) W W':=Fr.of_grown hgr fun q e _=>e;refine⟨⟨hf.blk hat.blk fun e=>own_blk_ne hown0 hat.blk (by decide) e,hat.rows.away hf haw⟩,hown,fun G hG=>?_,hlo,hb.trans (hf.below hb.size fun q e=>?_),Nat.le_trans hsz hf.size,hold⟩
 · rcases hnew G hG with h | h
   · exact haw G h
   · exact hat.away hok h
 · have:=(hown0.lt q e).1;omega
theorem wrun_c {A:Option Addr}{n c:Nat}{LL:List ByteArray}{line more:Int}{w:World}(h:Rd encStr 1 w A n LL)(hn:n≤60)(hs:∀ p∈LL,p.size≤300)(hl:Lay w)(hmo:0≤more∧more≤1000) :
 Calls Tryz.prog 25 #[.slice A n c,.int .i64 line,.int .i64 more] w fun e w'=>∃(s:Nat) (x:SAd) (ve:Value),e=.returned (.tuple #[.pointer (some ⟨s,0,none⟩),ve])∧SAt w' s x (runP Ga.readOf line more begS 0 (linesB LL)).1 n line more ∧
  w'.ownsRow w.heap.size 44 1 ve n ((runP Ga.readOf line more begS 0 (linesB LL)).2.flatMap enc1)∧(w.heap.size≤s∧∀ G,G<w.heap.size→Away x G)∧Below w.heap.size w w':=by
 have H:=hid h;have HL:=hid hl;have HS:=hid hs;have HMO:=hid hmo;have HLEN:=hid h.len;have HB:=hid (Below.refl w.heap.size w);clear h hl hs hmo;have hmf:∀(fn:Fn) (first cap:Array Value) (w:World),(Instr.makeFunc fn first cap).run Tryz.prog w=.ok (.func fn first cap) w:=fun _ _ _ _=>rfl;obtain⟨i0,hi0,hz0,hz1,hz2⟩:=info_parts infoErr;have HI:=hid hi0;have HZ0:=hid hz0;have HZ1:=hid hz1;have HZ2:=hid hz2;clear hi0 hz0 hz1 hz2
 go_enter Tryz.func25,Tryz.ntmps25
 go_wp2_with fail
 go_at_call 41;refine(wbegin_c _).mono ?_;rintro e w1 ⟨s,rfl,hsa,hge,hb9⟩;have HGE:=hid (Nat.le_trans HB.out.size hge);have HSA:=hid hsa;clear hge hsa;replace HB:=hdT HB hb9;clear hb9 ;have d2:=HSA.out.blk.cell 23;have f2:=HSA.out.blk.frozen 23;have d3:=HSA.out.blk.cell 24;have f3:=HSA.out.blk.frozen 24;simp[sessV] at d2 d3
 go_wp2_with fail
 clear hmf d2 d3 f2 f3
 have hat0:SAt ((w1.setCell ⟨s,23,none⟩ (.int .i64 line)).setCell ⟨s,24,none⟩ (.int .i64 more)) s ad0 (runJ line more LL 0).1 ((0:Nat):Int) line more :=
  ⟨by simpa[sessV,runJ,runP] using (HSA.out.blk.set_ 23 (.int .i64 line)).set_ 24 (.int .i64 more),HSA.out.rows.fr (((FrS.refl s w1).set _).set _)⟩
 have hb0:=(HB.out.setCell (p:=⟨s,23,none⟩) HGE.out (.int .i64 line)).setCell (p:=⟨s,24,none⟩) HGE.out (.int .i64 more);have hsz0:s<w1.heap.size:=HSA.out.blk.lt
 have hr0:RunI w s ((w1.setCell ⟨s,23,none⟩ (.int .i64 line)).setCell ⟨s,24,none⟩ (.int .i64 more)).heap.size line more LL 0 (.slice none 0 0) ad0 ((w1.setCell ⟨s,23,none⟩ (.int .i64 line)).setCell ⟨s,24,none⟩ (.int .i64 more)) :=
  ⟨hat0,World.ownsRow_nil _ _ _ _,fun G hG=>by simp[Value.ownBlock] at hG,⟨by simpa[World.setCell] using hsz0,HGE.out⟩,hb0,Nat.le_refl _,fun G _=>ad0_away G⟩
 clear hat0 hb0 hsz0 HSA HGE HB;obtain⟨W0,hW0⟩:∃ W0,W0=((w1.setCell ⟨s,23,none⟩ (.int .i64 line)).setCell ⟨s,24,none⟩ (.int .i64 more)):=⟨_,rfl⟩;rw[← hW0] at hr0 ⊢;clear hW0;obtain⟨B1,hB1⟩:∃ B1,B1=W0.heap.size:=⟨_,rfl⟩;rw[← hB1] at hr0;have HR0:=hid hr0;clear hr0 hB1
 go_loopw [10,26] (fun ev iv wr=>∃(j:Nat) (v:Value) (x:SAd),j≤n∧iv=.int .i64 j∧v=ev∧RunI w s B1 line more LL j v x wr) (fun _ iv _=>n - (intOf iv).toNat)
 case atStart=>exact⟨0,_,ad0,Nat.zero_le _,rfl,rfl,HR0.out⟩
 case round =>
  obtain⟨j,v,x,hj,rfl,rfl,hri⟩:=hrel;clear HR0;have HRI:=hid hri;clear hri
  by_cases hlt:j<n
  · obtain⟨b,o,p,rfl,hp,c0⟩:=str_at (H.out.below HRI.out.bel) hlt
    have HP:=hid hp
    have hi1:(j:Int)<(n:Int):=by omega
    have hi0:(0:Int)≤(j:Int):=by omega
    have hps:=HS.out p (List.mem_of_getElem? hp);have hok:SOk (runJ line more LL j).1:=runP_okM _ _ _ _ _ begS_ok;have hnl:=next_line (text:=p) HRI.out.at_ hok (HL.out.below HRI.out.bel) (Nat.le_trans HL.out.size HRI.out.lo.2) (by omega) ⟨by omega,by omega⟩ HMO.out;have HNL:=hid hnl;have hsu:=runJ_succ (line:=line) (more:=more) hp;have hok2:SOk (runJ line more LL (j+1)).1:=runP_okM _ _ _ _ _ begS_ok;obtain⟨R,hR⟩:∃ R,R=stepP Ga.readOf (runJ line more LL j).1 (moreAt j line more) p.data.toList:=⟨_,rfl⟩;rw[← hR] at HNL hsu;have HSU:=hid hsu;have HOK2:=hid hok2;clear hp hps hok hnl hsu hok2 hR
    go_wp2_with fail
    refine HNL.out.mono ?_;rintro e w2 ⟨rfl,⟨x',hat,haw⟩,hf⟩;obtain⟨haw2,hown2,hb2,hsz2,hold2⟩:=HRI.out.next (by simpa using hat) haw hf
    have hat2:SAt w2 s x' (runJ line more LL (j+1)).1 ((j+1:Nat):Int) line more:=by rw[HSU.out];simpa using hat
    have hlo:=HRI.out.lo;have HLO:=hid hlo;have HAW:=hid haw2;have HOWN:=hid hown2;have HB2:=hid hb2;have HSZ:=hid hsz2;have HAT:=hid hat2;have HOLD:=hid hold2;clear hat haw hf haw2 hown2 hb2 hsz2 hat2 hold2 HNL HRI c0 hlo;have hal:=(Below.refl w2.heap.size w2).alloc (Nat.le_refl _) (.cells #[.int .i64 R.2] 44);have hat3:=HAT.out.below hal;have hown3:=own_mono HOWN.out hal;have hb3:=below_tr HB2.out hal;have hsz3:=Nat.le_trans HSZ.out (Below.size hal);have HAT3:=hid hat3;have HOWN3:=hid hown3;have HB3:=hid hb3;have HSZ3:=hid hsz3;clear hal hat3 hown3 hb3 hsz3
    go_wp2_with (at_builtin;go_must (refine wpList_append_own_at _ rfl _ _ 43 rfl B1 44 i0 _ 1 8 Tryz.underlying43 HI.out HZ0.out HZ1.out HZ2.out rfl (by decide) v j ((runJ line more LL j).2.flatMap enc1) rfl HOWN3.out ⟨w2.heap.size,0,none⟩ 1 1 (enc1 R.2) rfl rfl (fun j u hj=>World.news_of_block (cs:=#[.int .i64 R.2]) (t:=44) (fr:=(0,0)) (heap_alloc_new w2 _) j u hj) (by simp[Value.oneCell',enc1]) (by unfold maxLen;omega) (by omega) HSZ3.out ?_;intro v' w4 hown hgr _ hob))
    have hgrow:RunI w s B1 line more LL (j+1) v' x' w4:=by
     refine RunI.grow HP.out HLO.out HAT3.out HOK2.out HAW.out HOWN3.out HB3.out HSZ3.out HOLD.out ?_ hgr fun G hG=>?_
     · rw[HSU.out,List.flatMap_append];simpa using hown
     · rcases hob with h | h
       · rw[h] at hG;exact .inl hG
       · rw[h] at hG;exact .inr (by have:=Option.some.inj hG;omega)
    refine⟨⟨j+1,v',x',by omega,by go_num,rfl,hgrow⟩,by simp[intOf];omega⟩
  · obtain rfl:j=n:=by omega
    have hall:(linesB LL).take j=linesB LL:=by rw[List.take_of_length_le (by unfold linesB;rw[List.length_map,HLEN.out];exact Nat.le_refl _)]
    have hat:=HRI.out.at_;have hown:=HRI.out.own;unfold runJ at hat hown;rw[hall] at hat hown;have HAT:=hid hat;have HOWN:=hid hown;clear hat hown hall
    go_wp2_with fail
    go_ret2
    exact⟨s,x,v,rfl,HAT.out,own_lower HOWN.out (by have:=HRI.out.lo;omega),⟨HRI.out.lo.2,HRI.out.old⟩,HRI.out.bel⟩
def stateL (x:SAd)(b:Sess):List Value:=[.slice x.co.A x.co.n x.co.c,.int .i64 b.least,.slice x.li.A x.li.n x.li.c,.slice x.ce.A x.ce.n x.ce.c,.int .i64 b.sn0,.int .i64 b.sn1,.int .i64 b.so0,.int .i64 b.so1,.int .i64 b.melt,.slice x.da.A x.da.n x.da.c,.int .i64 b.a0,.int .i64 b.a1,.int .i64 b.a2,.slice x.le.A x.le.n x.le.c,.slice x.pa.A x.pa.n x.pa.c,.slice x.sl.A x.sl.n x.sl.c,.int .i64 b.t0,.int .i64 b.t1,.int .i64 b.t2,.int .i64 b.spent,.slice x.bo.A x.bo.n x.bo.c,.slice x.rd.A x.rd.n x.rd.c]
theorem sessV_eq (x:SAd)(b:Sess)(now line more:Int):sessV x b now line more=(stateL x b++([.int .i64 now,.int .i64 line,.int .i64 more]:List Value)).toArray:=rfl
def zeroS:Sess:=⟨[],0,[],[],0,0,0,0,0,[],0,0,0,[],[],[],0,0,0,0,[],[]⟩
theorem grown_cells {g:Nat}:∀(vs:List Value) (o:Nat) (w:World),Fr (fun q=>q=g) w (w.setCells g o vs)
 | [],_,w=>Fr.refl _ w
 | v::vs,o,w=>(Fr.setAt (E:=fun q=>q=g) (Fr.refl _ w) (p:=⟨g,o,none⟩) (.inl rfl) v).trans (grown_cells vs (o+1) _)
theorem blk_cells {g:Nat}{t:TypeId}:∀(vs:List Value) (o:Nat) (w:World) (pre z:List Value),Blk w g t (pre++z).toArray→pre.length=o→z.length=vs.length→Blk (w.setCells g o vs) g t (pre++vs).toArray
 | [],o,w,pre,z,h,_,hz=>by
  obtain rfl:z=[]:=List.length_eq_zero_iff.1 hz;exact h
 | v::vs,o,w,pre,z,h,ho,hz=>by
  cases z with
  | nil=>simp at hz
  | cons y z =>
   have h1:=h.set_ o v;rw[List.setIfInBounds_toArray,List.set_append_right _ _ (by omega),ho,Nat.sub_self,List.set_cons_zero] at h1;have h2:=blk_cells vs (o+1) (w.setCell ⟨g,o,none⟩ v) (pre++[v]) z (by simpa using h1) (by simp[ho]) (by simpa using hz);rw[show w.setCells g o (v::vs)=(w.setCell ⟨g,o,none⟩ v).setCells g (o+1) vs from rfl]
   simpa using h2
theorem stateL_one (x:SAd)(b:Sess):(stateL x b).toArray.all (·.oneCell')=true:=by simp[stateL,Value.oneCell']
theorem range_of_blk {w:World}{g:Nat}{t:TypeId}{cs ds:List Value}(h:Blk w g t (cs++ds).toArray):w.rangeAt g 0 cs:=fun j v hv=>by
 rw[Nat.zero_add,h.cell,List.getElem?_toArray,List.getElem?_append_left (List.getElem?_eq_some_iff.1 hv).1,hv]
theorem there_of_blk {w:World}{g:Nat}{t:TypeId}{cs:List Value}(h:Blk w g t cs.toArray):w.there g 0 cs.length:=fun j hj=>by
 refine⟨?_,h.frozen _⟩;rw[Nat.zero_add,h.cell,List.getElem?_toArray,List.getElem?_eq_getElem hj];rfl
theorem results_ctt {P:Program}{fn:Func}{p u v:Tmp}{ty:TypeId}(h:fn.results=#[.cell p ty,.tmp u,.tmp v])(tmps:Array Value){W:World}{g:Nat}{x y z:Value}(hp:tmps.getD p undef=.pointer (some ⟨g,0,none⟩))(hl:(loadVar ty ⟨g,0,none⟩).run P W=.ok x W)(hy:tmps.getD u undef=y)(hz:tmps.getD v undef=z) :
 (results fn tmps).run P W=.ok (.tuple #[x,y,z]) W:=by
 subst hy hz
 have hp':tmps[p]?.getD undef=.pointer (some ⟨g,0,none⟩):=by simpa using hp
 simp only[results,h];simp[Sem.run_bind,Result.andThen,hp',asAddr,hl]
theorem stateN:(Tryz.prog.info? 42).map (·.size)=some 22:=by kernel_rfl
theorem checkL_zero {LL:List ByteArray}(h:checkL LL=0):LL.length≤60∧∀ p∈LL,p.size≤300:=by
 unfold checkL at h
 split at h
 · cases h
 · split at h
   · rename_i h1 h2;exact⟨by omega,h2⟩
   · cases h
def RunR (w:World)(LL:List ByteArray)(e:Ending)(w':World):Prop:=∃(s:Nat) (x:SAd) (b:Sess) (m:Nat) (ve:Value) (es:List Int),e=.returned (.tuple #[.agg (stateL x b).toArray,ve,.int .i64 (checkL LL)])∧SRows w' s x b∧w'.ownsRow w.heap.size 44 1 ve m (es.flatMap enc1)∧es.length=m ∧
 (checkL LL=0→b=(runP Ga.readOf (-1) 0 begS 0 (linesB LL)).1∧es=(runP Ga.readOf (-1) 0 begS 0 (linesB LL)).2)∧(checkL LL≠0→b=zeroS∧es=[])∧Below w.heap.size w w'
theorem Run_c {A:Option Addr}{n c:Nat}{LL:List ByteArray}{w:World}(h:Rd encStr 1 w A n LL)(hl:Lay w) :
 Calls Tryz.prog 7 #[.slice A n c] w fun e w'=>RunR w LL e w':=by
 have H:=hid h;have HB:=hid (Below.refl w.heap.size w);have HLEN:=hid h.len;have HL:=hid hl;have hck:=fun W (hW:Below w.heap.size w W)=>chkL_c (c:=c) (h.below hW);have HCK:=hid hck;clear h hck hl;obtain⟨E,hE⟩:∃ E,E=checkL LL:=⟨_,rfl⟩;rw[← hE] at HCK
 go_enter Tryz.func7,Tryz.ntmps7
 go_upto_region 1 with fail
 have hb9:=(Below.refl w.heap.size w).alloc (Nat.le_refl _) (.cells #[.slice none 0 0,.int .i64 0,.slice none 0 0,.slice none 0 0,.int .i64 0,.int .i64 0,.int .i64 0,.int .i64 0,.int .i64 0,.slice none 0 0,.int .i64 0,.int .i64 0,.int .i64 0,.slice none 0 0,.slice none 0 0,.slice none 0 0,.int .i64 0,.int .i64 0,.int .i64 0,.int .i64 0,.slice none 0 0,.slice none 0 0] 42);have hn:=Blk.new w 42 #[.slice none 0 0,.int .i64 0,.slice none 0 0,.slice none 0 0,.int .i64 0,.int .i64 0,.int .i64 0,.int .i64 0,.int .i64 0,.slice none 0 0,.int .i64 0,.int .i64 0,.int .i64 0,.slice none 0 0,.slice none 0 0,.slice none 0 0,.int .i64 0,.int .i64 0,.int .i64 0,.int .i64 0,.slice none 0 0,.slice none 0 0];replace HB:=hdT HB hb9;have HG:=hid hn;clear hb9 hn;revert HB HG;generalize (World.alloc w (.cells #[.slice none 0 0,.int .i64 0,.slice none 0 0,.slice none 0 0,.int .i64 0,.int .i64 0,.int .i64 0,.int .i64 0,.int .i64 0,.slice none 0 0,.int .i64 0,.int .i64 0,.int .i64 0,.slice none 0 0,.slice none 0 0,.slice none 0 0,.int .i64 0,.int .i64 0,.int .i64 0,.int .i64 0,.slice none 0 0,.slice none 0 0] 42))=w1;intro HB HG
 go_wp2_with fail
 go_at_call 24;refine(HCK.out _ HB.out).mono ?_;rintro e w2 ⟨rfl,hb9⟩;replace HB:=hdT HB hb9;replace HG:=hdB HG hb9;clear hb9 ;clear HCK
 by_cases h0:E=0
 · obtain⟨hn,hs⟩:=checkL_zero (hE.symm.trans h0)
   subst h0;have hrun:=fun W (hW:Below w.heap.size w W)=>wrun_c (c:=c) (line:=-1) (more:=0) (H.out.below hW) (by have:=HLEN.out;omega) hs (HL.out.below hW) (by omega);have HRUN:=hid hrun;have HE:=hid hE;clear hrun hn hs hE
   go_wp2_with fail
   trace_state
   go_wp2_with fail
   go_at_call 25;refine(HRUN.out _ HB.out).mono ?_;rintro e w3 ⟨s,x,ve,rfl,hsa,hown,hge,hb9⟩
   have hown0:=hown;have hown:=own_lower hown HB.out.size;have haw:=hge.2 _ HG.out.lt;have hnb:∀ q,ve.ownBlock=some q→q≠w.heap.size:=fun q hq e=>by have h1:=(hown0.lt q hq).1;have h2:=HG.out.lt;omega
   replace HB:=hdT HB hb9;replace HG:=hdB HG hb9;have HAW:=hid haw;have HNB:=hid hnb;have HSA:=hid hsa;have HOWN:=hid hown;clear hb9 haw hnb hsa hown;clear hge hown0;obtain⟨b,hb⟩:∃ b,b=(runP Ga.readOf (-1) 0 begS 0 (linesB LL)).1:=⟨_,rfl⟩;obtain⟨es,hes⟩:∃ es,es=(runP Ga.readOf (-1) 0 begS 0 (linesB LL)).2:=⟨_,rfl⟩;rw[← hb] at HSA;rw[← hes] at HOWN;have HBB:=hid hb;have HES:=hid hes;clear hb hes;have HLD:=hid (range_of_blk (by have:=HSA.out.blk;rw[sessV_eq] at this;exact this:Blk w3 s 75 (stateL x b++_).toArray));have HTH:=hid (show World.there w3 w.heap.size 0 22 from there_of_blk (cs:=stateL ad0 zeroS) HG.out)
   go_wp2_with (first | (refine wpList_load_mid rfl 42 (.tmp 21) rfl s 0 rfl (stateL x b) _ HLD.out Tryz.underlying42 rfl stateN ?_) | (refine wpList_store_mid rfl 42 (.tmp 2) (.tmp 22) rfl w.heap.size 0 (stateL x b).toArray rfl rfl HTH.out stateN (stateL_one x b) ?_))
   have hbk:=blk_cells (stateL x b) 0 w3 [] (stateL ad0 zeroS) HG.out rfl rfl;have hf:=grown_cells (g:=w.heap.size) (stateL x b) 0 w3;have hlv:=run_loadVar_mid (P:=Tryz.prog) (w3.setCells w.heap.size 0 (stateL x b)) w.heap.size 0 42 (stateL x b) _ (range_of_blk (ds:=[]) (by simpa using hbk)) Tryz.underlying42 rfl stateN;refine bodyPost_ret (v:=.tuple #[.agg (stateL x b).toArray,ve,.int .i64 0]) (results_ctt (fn:=Tryz.f7) (p:=2) (u:=3) (v:=4) rfl _ rfl hlv rfl rfl) rfl ⟨s,x,b,n,ve,es,by rw[← HE.out],?_,?_,?_,fun _=>⟨HBB.out,HES.out⟩,fun h=>absurd HE.out.symm h,?_⟩
   · exact HSA.out.rows.away hf fun G hG=>by subst hG;exact HAW.out
   · exact hf.row HOWN.out HNB.out
   · rw[HES.out,runP_len];unfold linesB;rw[List.length_map,HLEN.out]
   · exact HB.out.trans (hf.below HB.out.size fun q e=>Nat.le_of_eq e.symm)
 · have hne:(E == 0)=false:=by simpa using h0
   have HTH:=hid (show World.there w2 w.heap.size 0 22 from there_of_blk (cs:=stateL ad0 zeroS) HG.out);have HE:=hid hE;clear hE
   go_wp2_with (refine wpList_store_mid rfl 42 (.tmp 2) (.tmp 12) rfl w.heap.size 0 (stateL ad0 zeroS).toArray rfl rfl HTH.out stateN (stateL_one ad0 zeroS) ?_)
   have hbk:=blk_cells (stateL ad0 zeroS) 0 w2 [] (stateL ad0 zeroS) HG.out rfl rfl;have hf:=grown_cells (g:=w.heap.size) (stateL ad0 zeroS) 0 w2;have hlv:=run_loadVar_mid (P:=Tryz.prog) (w2.setCells w.heap.size 0 (stateL ad0 zeroS)) w.heap.size 0 42 (stateL ad0 zeroS) _ (range_of_blk (ds:=[]) (by simpa using hbk)) Tryz.underlying42 rfl stateN;refine bodyPost_ret (v:=.tuple #[.agg (stateL ad0 zeroS).toArray,.slice none 0 0,.int .i64 E]) (results_ctt (fn:=Tryz.f7) (p:=2) (u:=3) (v:=4) rfl _ rfl hlv rfl rfl) rfl ⟨0,ad0,zeroS,0,_,[],by rw[← HE.out],?_,World.ownsRow_nil _ _ _ _,rfl,fun h=>absurd (HE.out.trans h) h0,fun _=>⟨rfl,rfl⟩,HB.out.trans (hf.below HB.out.size fun q e=>Nat.le_of_eq e.symm)⟩;refine⟨SRow.nil _ _ _ _,rfl,fun i r hr=>by simp[ad0] at hr,SRow.nil _ _ _ _,SRow.nil _ _ _ _,SRow.nil _ _ _ _,SRow.nil _ _ _ _,SRow.nil _ _ _ _,SRow.nil _ _ _ _,rfl,fun i y hy=>by simp[ad0] at hy,SRow.nil _ _ _ _,SRow.nil _ _ _ _⟩
end Go.Proofs.YtkhcliibilkefaaGreatDoor
namespace Go.Proofs.YtkhcliibilkefaaGreatDoor
open Lib (hid)
open Go.RowKit Go.Proofs Go.Shelf
attribute [local go_sem] Oper.semAt_some
section
variable {b:List UInt8} {a c:Nat}
end
theorem str_guard (a b:List UInt8)(op:BinOp)(x y:Operand)(W:World):(eqGuard op 9 x y (str a) (str b)).run Tryz.prog W=.ok () W:=by
 unfold str;simp[go_sem,eqGuard]
theorem run_textB {b o:Nat}{l:List UInt8}{n c:Nat}(hn:l.length=n){W:World}(h:∀(i:Nat) (x:UInt8),l[i]?=some x→W.cell? ⟨b,o+i,none⟩=some (.int .u8 (x.toNat:Int))) :
 (convert 54 9 (.slice (some ⟨b,o,none⟩) n c)).run Tryz.prog W=.ok (str l) W:=by
 subst hn
 exact run_convert_bytes_back (P:=Tryz.prog) W 54 9 5 ⟨b,o,none⟩ c l Tryz.underlying54 Tryz.underlying5 Tryz.underlying9 (fun j hj=>by
  rw[Addr.add_mid]
  exact h j _ (List.getElem?_eq_getElem hj))
theorem frKeeps {E:Nat→Prop}{B:Nat}{W w1:World}(h:Fr E W w1)(hE:∀ g o,E g→B≤g→W.heap[g]?=some o→o.isCells=true):KeepsFrom B W w1 :=
 ⟨h.size,fun k o hk ho hc=>h.kept ho fun he=>by rw[hE k o he hk ho] at hc;cases hc⟩
theorem infoStr:(Tryz.prog.info? 9).map (fun i=>(i.zero,i.size,i.bytes))=some (some (.string ⟨#[]⟩),1,16):=by kernel_rfl
end Go.Proofs.YtkhcliibilkefaaGreatDoor
