/- THE CONTRACT of zone.Buy. -/
import Derived.Test.YtkhcliibilkefaaGreatDoorZTry
import Derived.Test.YtkhcliibilkefaaGreatDoorYTOpen
import Derived.Deep.RegionHeld3
import Derived.Deep.DrawnRows
import Derived.Deep.DeepCutAuto
set_option linter.unusedVariables false
set_option linter.unusedSimpArgs false
set_option maxRecDepth 100000
set_option maxHeartbeats 8000000
namespace Go.Proofs.YtkhcliibilkefaaGreatDoor
open Lib (hid)
open Go.RowKit Go.Proofs
attribute [local go_sem ↓] Go.wp_at_zero Go.wp_at_succ
theorem rd_drew {α:Type}{enc:α→List Value}{k:Nat}{w:World}{A:Option Addr}{n:Nat}{l:List α}(h:Rd enc k w A n l):Rd enc k w.drew A n l:=h
def pricesL (v:Vly):List Int:=v.pars.map (·.price)
theorem Buy_fund {v:Vly}{PA SA:Option Addr}{pn pc sn sc:Nat}{B:Int}{w:World}(h:RdV w PA pn SA sn v)(hok:VOk v)(hf:inB B 0 100000000=false) :
 Calls Tryz.prog 108 #[.agg #[.slice PA pn pc,.slice SA sn sc,.int .i64 v.s0,.int .i64 v.s1,.int .i64 v.s2],.int .i64 B] w
  fun e w'=>e=.returned (.tuple #[.slice none 0 0,.int .i64 0,.int .i64 2])∧Below w.heap.size w w':=by
 have hlp:=h.pars.len;have hls:=h.sls.len;have hpn:=hok.pn;have hsn:=hok.sn;obtain⟨W,hW⟩:∃ W,W=((w.alloc (.cells (vA PA pn pc SA sn sc v) 39)).alloc (.cells #[.int .i64 B] 3)).alloc (.cells #[.slice none 0 0] 28):=⟨_,rfl⟩
 have hb0:Below w.heap.size w W:=by rw[hW];exact(((Below.refl _ w).alloc (Nat.le_refl _) _).alloc (by simp) _).alloc (by simp;omega) _
 have hx:=Blk.new ((w.alloc (.cells (vA PA pn pc SA sn sc v) 39)).alloc (.cells #[.int .i64 B] 3)) 28 #[.slice none 0 0];have hy:=(Blk.new (w.alloc (.cells (vA PA pn pc SA sn sc v) 39)) 3 #[.int .i64 B]).alloc (.cells #[.slice none 0 0] 28);simp only[World.size_alloc] at hx hy;rw[← hW] at hx hy;have HC:=hid (checkV_c (pc:=pc) (sc:=sc) (h.below hb0) (by unfold maxLen;omega) (by unfold maxLen;omega));rw[errV_zero.2 hok,hW] at HC;have HF:=hid (fun W=>fund_c B W);rw[hf] at HF;have HB:=hid hb0;have HX:=hid hx;have HW:=hid hW;have HY:=hid hy;clear h hb0 hx hW hy hok hf
 go_enter Tryz.func108,Tryz.ntmps108
 go_wp2_with fail
 refine HC.out.mono ?_;rintro e w2 ⟨rfl,hb⟩;rw[← HW.out] at hb;have HB2:=hid (below_tr HB.out hb);have hx2:=HX.out.below hb HX.out.lt;have hy2:=HY.out.below hb HY.out.lt;have c0:=hx2.cell 0;have f0:=hx2.frozen 0;have d0:=hy2.cell 0;simp at c0 d0;have HX2:=hid hx2;clear hb hx2 hy2
 go_wp2_with fail
 refine(HF.out _).mono ?_;rintro e w3 ⟨rfl,rfl⟩
 go_wp2_with fail
 have hx3:=HX2.out.set_ 0 (.slice none 0 0);have c3:=hx3.cell 0;simp at c3;refine bodyPost_ret (v:=.tuple #[.slice none 0 0,.int .i64 0,.int .i64 2]) ?_ rfl ⟨rfl,HB2.out.setCell (by simp;omega) _⟩;simp[results,Tryz.f108,go_sem,c3]
theorem Buy_ok {v:Vly}{PA SA:Option Addr}{pn pc sn sc:Nat}{B:Int}{w:World}(h:RdV w PA pn SA sn v)(hok:VOk v)(hf:inB B 0 100000000=true) :
 Calls Tryz.prog 108 #[.agg #[.slice PA pn pc,.slice SA sn sc,.int .i64 v.s0,.int .i64 v.s1,.int .i64 v.s2],.int .i64 B] w
  fun e w'=>∃ A n c,e=.returned (.tuple #[.slice A n c,.int .i64 (bestB (gainsL v) (pricesL v) B).gain,.int .i64 0])∧n≤12∧(∀ ad,A=some ad→w.heap.size≤ad.block)∧Rd enc1 1 w' A n (bestB (gainsL v) (pricesL v) B).set∧Below w.heap.size w w':=by
 have hlp:=h.pars.len;have hls:=h.sls.len;have hpn:=hok.pn;have hsn:=hok.sn;obtain⟨W,hW⟩:∃ W,W=((w.alloc (.cells (vA PA pn pc SA sn sc v) 39)).alloc (.cells #[.int .i64 B] 3)).alloc (.cells #[.slice none 0 0] 28):=⟨_,rfl⟩
 have hb0:Below w.heap.size w W:=by rw[hW];exact(((Below.refl _ w).alloc (Nat.le_refl _) _).alloc (by simp) _).alloc (by simp;omega) _
 have hx:=Blk.new ((w.alloc (.cells (vA PA pn pc SA sn sc v) 39)).alloc (.cells #[.int .i64 B] 3)) 28 #[.slice none 0 0];have hy:=(Blk.new (w.alloc (.cells (vA PA pn pc SA sn sc v) 39)) 3 #[.int .i64 B]).alloc (.cells #[.slice none 0 0] 28);have hz:=((Blk.new w 39 (vA PA pn pc SA sn sc v)).alloc (.cells #[.int .i64 B] 3)).alloc (.cells #[.slice none 0 0] 28);simp only[World.size_alloc] at hx hy;rw[← hW] at hx hy hz;have HC:=hid (checkV_c (pc:=pc) (sc:=sc) (h.below hb0) (by unfold maxLen;omega) (by unfold maxLen;omega));rw[errV_zero.2 hok,hW] at HC;have HF:=hid (fun W=>fund_c B W);rw[hf] at HF
 have hsW:W.heap.size=w.heap.size+1+1+1:=by rw[hW];simp
 have HV:=hid h;have HOK:=hid hok;have HB:=hid hb0;have HX:=hid hx;have HW:=hid hW;have HY:=hid hy;have HZ:=hid hz
 have hGl:(gainsL v).length=pn:=by rw[gainsL_len,hlp]
 have hGb:=gainsL_bd hok;obtain⟨G,hG⟩:∃ G,G=gainsL v:=⟨_,rfl⟩;have HG:=hid hG;have HRS:=hid (show bestB G (pricesL v) B=tryB G (v.pars.map (·.price)) B pn 0 0 0 [] ⟨0,0,[]⟩ by unfold bestB;rw[hG,hGl];rfl);rw[← hG] at hGl hGb ⊢;obtain⟨RS,hRS⟩:∃ RS,RS=bestB G (pricesL v) B:=⟨_,rfl⟩;rw[← hRS] at HRS ⊢;clear h hb0 hx hW hy hz hok hf hG hRS
 go_enter Tryz.func108,Tryz.ntmps108
 go_wp2_with fail
 refine HC.out.mono ?_;rintro e w2 ⟨rfl,hb⟩;rw[← HW.out] at hb;have HB2:=hid (below_tr HB.out hb);have HX2:=hid (HX.out.below hb HX.out.lt);have HY2:=hid (HY.out.below hb HY.out.lt);have HZ2:=hid (HZ.out.below hb HZ.out.lt);have hs2:=hb.size;have c0:=HX2.out.cell 0;have d0:=HY2.out.cell 0;simp at c0 d0;obtain⟨q0,q1,q2,q3,q4⟩:=(show SV w2 w.heap.size (vA PA pn pc SA sn sc v) w2 from⟨Below.refl _ _,HZ2.out⟩).cells;have HGN:=hid (gains_c (pc:=pc) (sc:=sc) (HV.out.below HB2.out) HOK.out);rw[← HG.out] at HGN;clear hb HX HY HZ HC
 go_wp2_with fail
 refine(HF.out _).mono ?_;rintro e w2' ⟨rfl,rfl⟩
 go_wp2_with fail
 refine HGN.out.mono ?_;rintro e w3 ⟨gg,rfl,hgg,hgr,hb⟩;have HB3:=hid (below_tr HB2.out hb);have HX3:=hid (HX2.out.below hb HX2.out.lt);have HY3:=hid (HY2.out.below hb HY2.out.lt);have HZ3:=hid (HZ2.out.below hb HZ2.out.lt);have HGR:=hid hgr;have hs3:=hb.size;have hgl:=hgr.lt;clear hb hgr HX2 HY2 HZ2 HGN HF c0 d0 q0 q1 q2 q3 q4
 go_wp2_with fail
 obtain⟨E,hE⟩:∃ E:Env,E={ Bb:=w.heap.size+1,Bt:=w3.heap.size+1,Bs:=w.heap.size+1+1,Bg:=w3.heap.size,Bf:=w3.heap.size+1+1,Bv:=w.heap.size,gg:=gg,base:=w3.heap.size+1+1+1,PA:=PA,pn:=pn,pc:=pc,SA:=SA,sn:=sn,sc:=sc,v:=v,B:=B,G:=G }:=⟨_,rfl⟩;obtain⟨W4,hW4⟩:∃ W4:World,W4=((w3.alloc (.cells #[.slice (some ⟨gg,0,none⟩) pn pn] 28)).alloc (.cells #[.int .i64 0,.int .i64 0] 231)).alloc (.cells #[.func (.func 144) #[] E.cap] 232):=⟨_,rfl⟩
 have hb4:Below w3.heap.size w3 W4:=by rw[hW4];exact(((Below.refl _ w3).alloc (Nat.le_refl _) _).alloc (by simp) _).alloc (by simp;omega) _
 have k1:=((Blk.new w3 28 #[.slice (some ⟨gg,0,none⟩) pn pn]).alloc (.cells #[.int .i64 0,.int .i64 0] 231)).alloc (.cells #[.func (.func 144) #[] E.cap] 232);have k2:=(Blk.new (w3.alloc (.cells #[.slice (some ⟨gg,0,none⟩) pn pn] 28)) 231 #[.int .i64 0,.int .i64 0]).alloc (.cells #[.func (.func 144) #[] E.cap] 232);have k3:=Blk.new ((w3.alloc (.cells #[.slice (some ⟨gg,0,none⟩) pn pn] 28)).alloc (.cells #[.int .i64 0,.int .i64 0] 231)) 232 #[.func (.func 144) #[] E.cap];simp only[World.size_alloc] at k2 k3;rw[← hW4] at k1 k2 k3
 have hs4:W4.heap.size=w3.heap.size+1+1+1:=by rw[hW4];simp
 have hEok:E.Ok w:=by
  subst hE;refine⟨?_,?_,?_,?_,HOK.out,hGl,hGb,HV.out⟩
  all_goals (simp only;omega)
 have hfix:TFix E w W4:=by
  subst hE;exact⟨HY3.out.below hb4 HY3.out.lt,k1,HGR.out.below hb4 hgl,k3,HZ3.out.below hb4 HZ3.out.lt,HB3.out.trans (hb4.mono HB3.out.size),by simp only;omega⟩
 have hst:TSt E W4 ⟨0,0,[]⟩ none 0 0:=by
  subst hE;exact⟨k2,HX3.out.below hb4 HX3.out.lt,Rd.nil _ _ _ _,⟨by simp,by simp,by simp⟩,by omega,fun a ha=>by cases ha⟩
 have hcall:=try_c hEok pn W4 0 0 0 [] (.slice none 0 0) 0 ⟨0,0,[]⟩ none 0 0 (by subst hE;simp) rfl (Nat.le_refl _) (by simp) (by simp) hfix hst (World.ownsRow_nil _ _ _ _) (fun a ha=>by cases ha)
 have hEv:E.v=v∧E.G=G∧E.B=B:=by subst hE;exact⟨rfl,rfl,rfl⟩
 rw[hEv.1,hEv.2.1,hEv.2.2,← HRS.out] at hcall
 have hbase:E.base=w3.heap.size+1+1+1∧E.Bt=w3.heap.size+1∧E.Bs=w.heap.size+1+1:=by subst hE;exact⟨rfl,rfl,rfl⟩
 rw[hW4] at hcall
 have hcap:E.cap=#[.pointer (some ⟨w.heap.size+1,0,none⟩),.pointer (some ⟨w3.heap.size+1,0,none⟩),.pointer (some ⟨w.heap.size+1+1,0,none⟩),.pointer (some ⟨w3.heap.size,0,none⟩),.pointer (some ⟨w3.heap.size+1+1,0,none⟩),.pointer (some ⟨w.heap.size,0,none⟩)]:=by subst hE;rfl
 rw[hcap] at hcall;have HH:=hid (And.intro hEok (And.intro hbase (And.intro hW4 (And.intro hb4 hcap))));clear hEok hfix hst hEv hbase hb4 k1 k2 k3 hW4 hE hcap;refine hcall.mono ?_;intro e w5 hTP;obtain⟨rfl,A5,n5,c5,ht5,hf5,_,_,hfr5⟩:=tryP_out hTP;have hbest:=ht5.best;have hset:=ht5.set;rw[HH.out.2.1.2.1] at hbest;rw[HH.out.2.1.2.2] at hset;have c0:=hbest.cell 0;have d0:=hset.cell 0;have f0:=hset.frozen 0;simp at c0 d0;have HST:=hid hset;have HT5:=hid ht5;have HB5:=hid hf5.below;have hbs:=HH.out.2.1.1;clear hbest hset ht5 hf5 hfr5 hTP hcall HH
 have hne:¬ w.heap.size+1+1=w3.heap.size+1:=by have:=HB3.out.size;omega
 go_wp2_with fail
 go_region
 all_goals
  go_wp2_with fail
  have hx3:=HST.out.set_ 0 (.slice A5 n5 c5);have c3:=hx3.cell 0;simp at c3;refine bodyPost_ret (v:=.tuple #[.slice A5 n5 c5,.int .i64 RS.gain,.int .i64 0]) ?_ rfl ⟨A5,n5,c5,rfl,HT5.out.le,fun a ha=>by have:=(HT5.out.far a ha).1;have:=HB3.out.size;omega,?_,?_⟩
  · simp[results,Tryz.f108,go_sem,c3]
  · refine rd_drew (((Fr.refl (fun b=>b=w.heap.size+1+1) w5).setAt (p:=⟨w.heap.size+1+1,0,none⟩) (.inl rfl) (.slice A5 n5 c5)).rd HT5.out.rd fun a ha hh=>?_)
    have:=(HT5.out.far a ha).1;have:=HB3.out.size;omega
  · exact(HB5.out.setCell (by simp;omega) _).drew
end Go.Proofs.YtkhcliibilkefaaGreatDoor
namespace Go.Proofs.YtkhcliibilkefaaGreatDoor.Ga
open Lib (hid)
open Go.RowKit Go.Proofs
attribute [local go_sem ↓] Go.wp_at_zero Go.wp_at_succ
theorem num_at {bs:List UInt8}{B o n c T:Nat}{w:World}(h:Blk w B T (cellsB bs))(ho:o+n≤bs.length)(hn:n≤4) :
 Calls Tryz.prog 60 #[.slice (some ⟨B,o,none⟩) n c] w fun e w'=>e=.returned (.int .i64 (numB ((bs.drop o).take n)))∧w=w':=by
 refine number_c ⟨by simp;omega,fun _=>⟨B,o,rfl,h.lt,fun i x hx j v hv=>?_⟩⟩ hn
 match j,hv with
 | 0,hv =>
  simp[encB] at hv;subst hv;rw[h.cell];rw[List.getElem?_take] at hx
  split at hx
  · rw[List.getElem?_drop] at hx
    simp[cellsB,hx]
  · cases hx
def signed (z:Int):Int:=if z<2147483648 then z else z - 4294967296
def rdgOf (bs:List UInt8):Rdg:=⟨numB ((bs.drop 1).take 1),numB ((bs.drop 2).take 2),numB ((bs.drop 4).take 4),signed (numB ((bs.drop 8).take 4))⟩
theorem ins_of {bs:List UInt8}{b1:UInt8}(h:bs[1]?=some b1):(rdgOf bs).ins=(b1.toNat:Int):=by
 have h1:(bs.drop 1).take 1=[b1]:=by
  match bs,h with
  | _::b::r,h=>simp at h;subst h;rfl
 show numB ((bs.drop 1).take 1)=_;rw[h1];simp[numB]
theorem val_of (l:List UInt8)(h:l.length≤4):IntKind.i64.wrap (IntKind.i32.wrap (IntKind.u32.wrap (numB l)))=signed (numB l):=by
 have hb:=numB_bd l
 have h4:(256:Int) ^ l.length≤4294967296:=by
  have:=Nat.pow_le_pow_right (n:=256) (by omega) h
  have h5:(256:Nat) ^ 4=4294967296:=by decide
  rw[h5] at this;have h6:=Int.ofNat_le.2 this;rw[Int.natCast_pow] at h6;exact h6
 have h0:0≤numB l∧numB l<4294967296:=by omega
 generalize numB l=x at *;clear hb h4
 have hu:IntKind.u32.wrap x=x:=by simp[IntKind.wrap,IntKind.bits,IntKind.signed];omega
 have hi:IntKind.i32.wrap x=if x<2147483648 then x else x - 4294967296:=by
  simp[IntKind.wrap,IntKind.bits,IntKind.signed]
  split<;>split<;>omega
 rw[hu,hi];unfold signed
 split
 · exact wi (by omega)
 · exact wi (by omega)
def isRec (bs:List UInt8):Bool:=validB (rdgOf bs) && decide (recB (rdgOf bs)=bs)
theorem isRec_no {bs:List UInt8}(h:validB (rdgOf bs)=false):isRec bs=false:=by simp[isRec,h]
theorem isRec_yes {bs:List UInt8}(h:validB (rdgOf bs)=true):isRec bs=decide (recB (rdgOf bs)=bs):=by simp[isRec,h]
theorem res_two {ty:TypeId}{u x v y:Value}{a:Addr}{P:Program}{w:World}(hu:u=.pointer (some a))(hx:x=y)(hl:(loadVar ty a).run P w=.ok v w) :
 ((asAddr u).run P w).andThen (fun a w₁=>((loadVar ty a).run P w₁).andThen fun v w₂=>.ok (Value.tuple #[v,x]) w₂)=.ok (Value.tuple #[v,y]) w:=by
 subst hu;subst hx;simp only[asAddr,Sem.run_pure,Result.andThen_ok,hl]
theorem blk3 (w:World)(X Y Z:Array Value)(a b c:TypeId):Blk (((w.alloc (.cells X a)).alloc (.cells Y b)).alloc (.cells Z c)).drew (w.heap.size+1+1) c Z ∧
 Blk (((w.alloc (.cells X a)).alloc (.cells Y b)).alloc (.cells Z c)).drew w.heap.size a X∧Blk (((w.alloc (.cells X a)).alloc (.cells Y b)).alloc (.cells Z c)).drew (w.heap.size+1) b Y ∧
 Below w.heap.size w (((w.alloc (.cells X a)).alloc (.cells Y b)).alloc (.cells Z c)).drew:=by
 refine⟨?_,?_,?_,?_⟩
 · have:=Blk.new ((w.alloc (.cells X a)).alloc (.cells Y b)) c Z
   simp only[World.size_alloc] at this;exact this
 · exact(((Blk.new w a X).alloc _).alloc _).drewN 1
 · have:=(Blk.new (w.alloc (.cells X a)) b Y).alloc (.cells Z c)
   simp only[World.size_alloc] at this;exact this
 · exact((((Below.refl _ _).alloc (Nat.le_refl _) _).alloc (by simp) _).alloc (by simp;omega) _).drew
theorem reading_c (bs:List UInt8)(w:World)(hl:bs.length=16) :
 Calls Tryz.prog 43 #[.agg (cellsB bs)] w fun e w'=>(e=.returned (.tuple #[.agg #[.int .i64 (rdgOf bs).ins,.int .i64 (rdgOf bs).num,.int .i64 (rdgOf bs).tim,.int .i64 (rdgOf bs).val],.bool (isRec bs)]))∧Below w.heap.size w w':=by
 have HL:=hid hl;clear hl;have hb0:=Blk.new w 92 (cellsB bs);obtain⟨b1,hb1⟩:∃ b:UInt8,bs[1]?=some b:=⟨_,List.getElem?_eq_getElem (by rw[HL.out];omega)⟩
 have hc1:(w.alloc (.cells (cellsB bs) 92)).cell? ⟨w.heap.size,1,none⟩=some (.int .u8 (b1.toNat:Int)):=by
  rw[hb0.cell];simp[cellsB,hb1]
 have HB1:=hid hb1;clear hb1;have hb0':Blk ((w.alloc (.cells (cellsB bs) 92)).alloc (.cells #[.int .i64 0,.int .i64 0,.int .i64 0,.int .i64 0] 86)) w.heap.size 92 (cellsB bs):=hb0.alloc _
 have e0:IntKind.i64.wrap (b1.toNat:Int)=(rdgOf bs).ins:=by
  rw[wi (by have:=b1.toNat_lt;omega)];exact(ins_of HB1.out).symm
 have e3:IntKind.i64.wrap (IntKind.i32.wrap (IntKind.u32.wrap (numB (List.take 4 (List.drop 8 bs)))))=(rdgOf bs).val :=
  val_of _ (by rw[List.length_take,List.length_drop,HL.out];omega)
 go_enter Tryz.func43,Tryz.ntmps43
 go_upto_region 1 with fail
 go_cut [4] (fun s4 wx=>s4=.pointer (some ⟨w.heap.size+1+1,0,none⟩)∧Blk wx (w.heap.size+1+1) 86 #[.int .i64 (rdgOf bs).ins,.int .i64 (rdgOf bs).num,.int .i64 (rdgOf bs).tim,.int .i64 (rdgOf bs).val]∧Blk wx w.heap.size 92 (cellsB bs) ∧
  Blk wx (w.heap.size+1) 86 #[.int .i64 0,.int .i64 0,.int .i64 0,.int .i64 0]∧Below w.heap.size w wx)
 case first =>
  go_region_held3 (fun w'=>w'.cell? ⟨w.heap.size,1,none⟩=some (.int .u8 (b1.toNat:Int))∧Blk w' w.heap.size 92 (cellsB bs)) (first | (go_keep;done) | exact hb0' | (exact Blk.alloc (by assumption) _) | (show _∧_;refine And.intro ?_ ?_<;>first | (go_keep;done) | exact hb0' | (exact Blk.alloc (by assumption) _) | (exact Blk.far (Blk.far (Blk.far (Blk.far (by assumption) (by simp;omega) _) (by simp;omega) _) (by simp;omega) _) (by simp;omega) _))) ((go_at_call 60;refine(num_at (T:=92) (bs:=bs) ?_ ?_ ?_).mono ?_;(first | exact hb0' | exact Blk.alloc hb0' _ | assumption);(rw[HL.out];omega);omega;rintro e w' ⟨rfl,rfl⟩))
  all_goals
   go_wp2_with fail
   go_meet
   exact⟨rfl,blk3 _ _ _ _ _ _ _⟩
 case rest =>
  obtain⟨rfl,hG,hB,hR,hbel⟩:=hcut;clear hc1 hb0 hb0' e0 e3;have hlR:=hR.lt;have hlG:=hG.lt;have hlB:=hB.lt;have g0:=hG.cell 0;have g1:=hG.cell 1;have g2:=hG.cell 2;have g3:=hG.cell 3;simp at g0 g1 g2 g3;have r0:=hR.cell 0;have r1:=hR.cell 1;have r2:=hR.cell 2;have r3:=hR.cell 3;simp at r0 r1 r2 r3;have f0:=hR.frozen 0;have f1:=hR.frozen 1;have f2:=hR.frozen 2;have f3:=hR.frozen 3;obtain⟨cs,hcs⟩:∃ cs:List Value,cs=(cellsB bs).toList:=⟨_,rfl⟩
  have hlen:cs.length=16:=by rw[hcs];simp[cellsB,HL.out]
  have hrange:wc.rangeAt w.heap.size 0 cs:=fun j v hv=>by rw[Nat.zero_add,hB.cell];rw[hcs] at hv;simpa using hv
  have hsz:(Tryz.prog.info? 92).map (·.size)=some cs.length:=by rw[hlen];kernel_rfl
  have hu:=Tryz.underlying92
  have hone:∀ v∈cs,v.oneCell'=true:=by
   rw[hcs];intro v hv;simp[cellsB] at hv;obtain⟨u,_,rfl⟩:=hv;rfl
  have hkeep:∀ W:World,Below wc.heap.size wc W →
   (W.cell? ⟨w.heap.size+1+1,0,none⟩=some (.int .i64 (rdgOf bs).ins)∧W.cell? ⟨w.heap.size+1+1,1,none⟩=some (.int .i64 (rdgOf bs).num)∧W.cell? ⟨w.heap.size+1+1,2,none⟩=some (.int .i64 (rdgOf bs).tim) ∧
   W.cell? ⟨w.heap.size+1+1,3,none⟩=some (.int .i64 (rdgOf bs).val)∧W.rangeAt w.heap.size 0 cs) ∧
   (W.cell? ⟨w.heap.size+1,0,none⟩=some (.int .i64 0)∧W.cell? ⟨w.heap.size+1,1,none⟩=some (.int .i64 0)∧W.cell? ⟨w.heap.size+1,2,none⟩=some (.int .i64 0)∧W.cell? ⟨w.heap.size+1,3,none⟩=some (.int .i64 0)) ∧
   (W.frozen? ⟨w.heap.size+1,0,none⟩=false∧W.frozen? ⟨w.heap.size+1,1,none⟩=false∧W.frozen? ⟨w.heap.size+1,2,none⟩=false∧W.frozen? ⟨w.heap.size+1,3,none⟩=false):=fun W hW =>
   ⟨⟨(hW.cell (p:=⟨_,0,none⟩) hlG).trans g0,(hW.cell (p:=⟨_,1,none⟩) hlG).trans g1,(hW.cell (p:=⟨_,2,none⟩) hlG).trans g2,(hW.cell (p:=⟨_,3,none⟩) hlG).trans g3,
    fun j v hv=>(hW.cell (p:=⟨_,_,none⟩) hlB).trans (hrange j v hv)⟩,
    ⟨(hW.cell (p:=⟨_,0,none⟩) hlR).trans r0,(hW.cell (p:=⟨_,1,none⟩) hlR).trans r1,(hW.cell (p:=⟨_,2,none⟩) hlR).trans r2,(hW.cell (p:=⟨_,3,none⟩) hlR).trans r3⟩,
    ⟨(hW.frozen (p:=⟨_,0,none⟩) hlR).trans f0,(hW.frozen (p:=⟨_,1,none⟩) hlR).trans f1,(hW.frozen (p:=⟨_,2,none⟩) hlR).trans f2,(hW.frozen (p:=⟨_,3,none⟩) hlR).trans f3⟩⟩
  have HK:=hid hkeep;clear hkeep
  have hkeep2:∀ W:World,Below wc.heap.size wc W→∀ W',W'=(((W.setCell ⟨w.heap.size+1,0,none⟩ (.int .i64 (rdgOf bs).ins)).setCell ⟨w.heap.size+1,1,none⟩ (.int .i64 (rdgOf bs).num)).setCell ⟨w.heap.size+1,2,none⟩ (.int .i64 (rdgOf bs).tim)).setCell ⟨w.heap.size+1,3,none⟩ (.int .i64 (rdgOf bs).val) →
   (W'.cell? ⟨w.heap.size+1+1,0,none⟩=some (.int .i64 (rdgOf bs).ins)∧W'.cell? ⟨w.heap.size+1+1,1,none⟩=some (.int .i64 (rdgOf bs).num)∧W'.cell? ⟨w.heap.size+1+1,2,none⟩=some (.int .i64 (rdgOf bs).tim) ∧
   W'.cell? ⟨w.heap.size+1+1,3,none⟩=some (.int .i64 (rdgOf bs).val)∧W'.rangeAt w.heap.size 0 cs):=by
   rintro W hW _ rfl
   have key:∀ b o,b≠w.heap.size+1→((((W.setCell ⟨w.heap.size+1,0,none⟩ (.int .i64 (rdgOf bs).ins)).setCell ⟨w.heap.size+1,1,none⟩ (.int .i64 (rdgOf bs).num)).setCell ⟨w.heap.size+1,2,none⟩ (.int .i64 (rdgOf bs).tim)).setCell ⟨w.heap.size+1,3,none⟩ (.int .i64 (rdgOf bs).val)).cell? ⟨b,o,none⟩=W.cell? ⟨b,o,none⟩:=by
    intro b o hb;rw[World.cell?_setCell_other _ _ _ _ (fun e=>hb (by cases e;rfl)),World.cell?_setCell_other _ _ _ _ (fun e=>hb (by cases e;rfl)),World.cell?_setCell_other _ _ _ _ (fun e=>hb (by cases e;rfl)),World.cell?_setCell_other _ _ _ _ (fun e=>hb (by cases e;rfl))]
   obtain⟨⟨k0,k1,k2,k3,kr⟩,_⟩:=HK.out W hW;refine⟨?_,?_,?_,?_,fun j v hv=>?_⟩
   · rw[key _ _ (by omega)];exact k0
   · rw[key _ _ (by omega)];exact k1
   · rw[key _ _ (by omega)];exact k2
   · rw[key _ _ (by omega)];exact k3
   · rw[key _ _ (by omega)];exact kr j v hv
  have HK2:=hid hkeep2;clear hkeep2
  have hfin:∀ W:World,Below wc.heap.size wc W→(loadVar 86 ⟨w.heap.size+1,0,none⟩).run Tryz.prog ((((W.setCell ⟨w.heap.size+1,0,none⟩ (.int .i64 (rdgOf bs).ins)).setCell ⟨w.heap.size+1,1,none⟩ (.int .i64 (rdgOf bs).num)).setCell ⟨w.heap.size+1,2,none⟩ (.int .i64 (rdgOf bs).tim)).setCell ⟨w.heap.size+1,3,none⟩ (.int .i64 (rdgOf bs).val)) =
   .ok (.agg #[.int .i64 (rdgOf bs).ins,.int .i64 (rdgOf bs).num,.int .i64 (rdgOf bs).tim,.int .i64 (rdgOf bs).val]) ((((W.setCell ⟨w.heap.size+1,0,none⟩ (.int .i64 (rdgOf bs).ins)).setCell ⟨w.heap.size+1,1,none⟩ (.int .i64 (rdgOf bs).num)).setCell ⟨w.heap.size+1,2,none⟩ (.int .i64 (rdgOf bs).tim)).setCell ⟨w.heap.size+1,3,none⟩ (.int .i64 (rdgOf bs).val)):=by
   intro W hW;have hk:=((((hR.below hW hlR).set_ 0 (.int .i64 (rdgOf bs).ins)).set_ 1 (.int .i64 (rdgOf bs).num)).set_ 2 (.int .i64 (rdgOf bs).tim)).set_ 3 (.int .i64 (rdgOf bs).val);exact run_loadVar_mid _ _ _ _ [.int .i64 (rdgOf bs).ins,.int .i64 (rdgOf bs).num,.int .i64 (rdgOf bs).tim,.int .i64 (rdgOf bs).val] _ (fun j v hv=>by rw[Nat.zero_add,hk.cell];simpa using hv) Tryz.underlying86 rfl (by kernel_rfl)
  have HF:=hid hfin;clear hfin
  have hbelow:∀ W:World,Below wc.heap.size wc W→Below w.heap.size w ((((W.setCell ⟨w.heap.size+1,0,none⟩ (.int .i64 (rdgOf bs).ins)).setCell ⟨w.heap.size+1,1,none⟩ (.int .i64 (rdgOf bs).num)).setCell ⟨w.heap.size+1,2,none⟩ (.int .i64 (rdgOf bs).tim)).setCell ⟨w.heap.size+1,3,none⟩ (.int .i64 (rdgOf bs).val)):=fun W hW =>
   ((((hbel.trans (hW.mono hbel.size)).setCell (p:=⟨w.heap.size+1,0,none⟩) (by simp) _).setCell (p:=⟨w.heap.size+1,1,none⟩) (by simp) _).setCell (p:=⟨w.heap.size+1,2,none⟩) (by simp) _).setCell (p:=⟨w.heap.size+1,3,none⟩) (by simp) _
  have HBe:=hid hbelow;clear hbelow;cases hv:validB (rdgOf bs)
  · have HI:=hid (isRec_no hv)
    have hvc:=fun W=>valid_c (rdgOf bs) W;rw[hv] at hvc;have HV:=hid hvc;clear hvc
    go_wp2_with fail
    -- [A
    go_region_with (go_at_call 48;refine(HV.out _).mono ?_;rintro e w1 ⟨rfl,hb1⟩;have hbb:Below wc.heap.size wc w1:=((Below.refl _ wc).drew.trans hb1);obtain⟨⟨b0,b1,b2,b3,_⟩,⟨a0,a1,a2,a3⟩,⟨a4,a5,a6,a7⟩⟩:=HK.out _ hbb)
    all_goals go_wp2_with fail
    all_goals
     refine bodyPost_ret (v:=.tuple #[.agg #[.int .i64 (rdgOf bs).ins,.int .i64 (rdgOf bs).num,.int .i64 (rdgOf bs).tim,.int .i64 (rdgOf bs).val],.bool false]) ?_ rfl ⟨by rw[HI.out],?_⟩
     · rw[results_cell_tmp Tryz.results43];exact res_two rfl rfl (HF.out _ hbb)
     · exact HBe.out _ hbb
    -- A]
  · have HI:=hid (isRec_yes hv)
    have hvc:=fun W=>valid_c (rdgOf bs) W;rw[hv] at hvc;have HV:=hid hvc;clear hvc;have heq:=fun W=>run_eql_rec (recB (rdgOf bs)) bs (recB_len _) HL.out W
    go_wp2_with fail
    go_region_held3 (fun w'=>w'.cell? ⟨w.heap.size+1+1,0,none⟩=some (.int .i64 (rdgOf bs).ins)∧w'.cell? ⟨w.heap.size+1+1,1,none⟩=some (.int .i64 (rdgOf bs).num)∧w'.cell? ⟨w.heap.size+1+1,2,none⟩=some (.int .i64 (rdgOf bs).tim) ∧
     w'.cell? ⟨w.heap.size+1+1,3,none⟩=some (.int .i64 (rdgOf bs).val)∧w'.rangeAt w.heap.size 0 cs)
     (first | (exact(HK.out _ (by assumption)).1) | (exact(HK.out _ ((Below.refl _ _).drew)).1) | (exact HK2.out _ (by assumption) _ rfl) | (go_keep_ranges;done))
     (first | (go_at_call 48;refine(HV.out _).mono ?_;rintro e w1 ⟨rfl,hb1⟩;have hbb:Below wc.heap.size wc w1:=((Below.refl _ wc).drew.trans hb1)) | (go_at_call 33;refine(record_c (rdgOf bs) _).mono ?_;rintro e w2 ⟨rfl,hb2⟩;have hbb2:Below wc.heap.size wc w2:=Below.trans (by assumption) (hb2.mono (Below.size (by assumption:Below wc.heap.size wc _)));obtain⟨_,⟨a0,a1,a2,a3⟩,⟨a4,a5,a6,a7⟩⟩:=HK.out _ hbb2))
    all_goals go_wp2_with fail
    all_goals
     refine bodyPost_ret (v:=.tuple #[.agg #[.int .i64 (rdgOf bs).ins,.int .i64 (rdgOf bs).num,.int .i64 (rdgOf bs).tim,.int .i64 (rdgOf bs).val],.bool (decide (recB (rdgOf bs)=bs))]) ?_ rfl ⟨by rw[HI.out],?_⟩
     · rw[results_cell_tmp Tryz.results43];exact res_two rfl rfl (HF.out _ (by assumption))
     · exact HBe.out _ (by assumption)
end Go.Proofs.YtkhcliibilkefaaGreatDoor.Ga
