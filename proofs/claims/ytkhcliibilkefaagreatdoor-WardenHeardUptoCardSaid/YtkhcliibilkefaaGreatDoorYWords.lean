/- WORDS for a word's method: its numbers in memory; what it does to the session's block. -/
import Derived.Test.YtkhcliibilkefaaGreatDoorYWith
import Derived.Recover
import Derived.Tactics
import Derived.Tactics2
import Derived.Laws.Pointers
import Derived.StringKeys
import Derived.Maps.Keyed
import Derived.MapKept
import Derived.Carry
set_option linter.unusedVariables false
set_option linter.unusedSimpArgs false
set_option maxRecDepth 100000
set_option maxHeartbeats 8000000
namespace Go.Proofs.YtkhcliibilkefaaGreatDoor
open Lib (hid)
open Go.RowKit Go.Proofs
structure NumsAt (w:World) (s g n:Nat) (l:List Int):Prop where
 rd:Rd enc1 1 w (some ⟨g,0,none⟩) n l
 ne:g≠s
 bd:∀ x∈l,-999999999≤x∧x≤999999999
section
variable {w w':World} {s g n:Nat} {l:List Int}
theorem NumsAt.below (h:NumsAt w s g n l)(hb:Below w.heap.size w w'):NumsAt w' s g n l:=⟨h.rd.below hb,h.ne,h.bd⟩
theorem NumsAt.fr (h:NumsAt w s g n l)(hf:FrS s w w'):NumsAt w' s g n l:=⟨hf.rd h.rd fun ad e=>by cases e;exact h.ne,h.ne,h.bd⟩
theorem NumsAt.nb (h:NumsAt w s g n l)(i:Nat):-999999999≤nth l i∧nth l i≤999999999:=by
 unfold nth;rw[List.getD_eq_getElem?_getD]
 cases hc:l[i]? with
 | none=>simp
 | some c=>exact h.bd c (List.mem_of_getElem? hc)
theorem NumsAt.cell (h:NumsAt w s g n l){i:Nat}(hi:i<n):w.cell? ⟨g,i,none⟩=some (.int .i64 (nth l i)):=by
 obtain⟨b,o,x,e,_,hx,hc⟩:=h.rd.at_ hi;cases e;have:=hc 0 _ rfl;rw[Nat.zero_add,Nat.mul_one,Nat.add_zero] at this;rw[this];simp[nth,List.getD_eq_getElem?_getD,hx]
theorem NumsAt.lt (h:NumsAt w s g n l)(hn:0<n):g<w.heap.size:=by
 obtain⟨b,o,x,e,hb,_⟩:=h.rd.at_ hn;cases e;exact hb
end
structure Away (x:SAd) (G:Nat):Prop where
 co:∀ ad,x.co.A=some ad→0<x.co.n→ad.block≠G
 li:∀ ad,x.li.A=some ad→0<x.li.n→ad.block≠G
 ce:∀ ad,x.ce.A=some ad→0<x.ce.n→ad.block≠G
 da:∀ ad,x.da.A=some ad→0<x.da.n→ad.block≠G
 le:∀ ad,x.le.A=some ad→0<x.le.n→ad.block≠G
 pa:∀ ad,x.pa.A=some ad→0<x.pa.n→ad.block≠G
 sl:∀ ad,x.sl.A=some ad→0<x.sl.n→ad.block≠G
 bo:∀ ad,x.bo.A=some ad→0<x.bo.n→ad.block≠G
 rd:∀ ad,x.rd.A=some ad→0<x.rd.n→ad.block≠G
 CL:∀(i:Nat) (r:ColR),x.CL[i]?=some r→∀ ad,r.A=some ad→ad.block≠G
 SL:∀(i:Nat) (y:Sli),x.SL[i]?=some y→∀ ad,y.A=some ad→ad.block≠G
structure MethN (B0:Nat) (x0:SAd) (s g:Nat) (now line more:Int) (r:Sess×Int) (w:World) (e:Ending) (w':World):Prop where
 ok:r.2=0→e=.returned (.tuple #[])
 bad:r.2≠0→e=.panicked [{ v:=refV r.2,recovered:=false }]
 at_:∃ x,SAt w' s x r.1 now line more∧∀ G,G<B0→Away x0 G→Away x G
 fr:Fr (fun i=>i=s∨i=g) w w'
 /-- a line that is refused changes nothing of the session -/
 still:r.2≠0→FrS g w w'
theorem MethN.good {B0 s g:Nat}{now line more:Int}{b:Sess}{w w':World}{x0 x:SAd}(h:SAt w' s x b now line more)(hf:FrS s w w')(ha:∀ G,G<B0→Away x0 G→Away x G):MethN B0 x0 s g now line more (done b) w (.returned (.tuple #[])) w' :=
 ⟨fun _=>rfl,fun h=>absurd rfl h,⟨x,h,ha⟩,hf.wide fun i _ e=>.inl e,fun h=>absurd rfl h⟩
theorem MethN.no {B0 s g:Nat}{now line more:Int}{b:Sess}{w w':World}{x:SAd}{E:Int}(hE:E≠0)(h:SAt w' s x b now line more)(hf:FrS g w w'):MethN B0 x s g now line more (refuse b E) w (.panicked [{ v:=refV E,recovered:=false }]) w' :=
 ⟨fun h=>absurd h hE,fun _=>rfl,⟨x,h,fun _ _ h=>h⟩,hf.wide fun i _ e=>.inr e,fun _=>hf⟩
theorem MethN.from_ {B0 s g:Nat}{x0:SAd}{now line more:Int}{r:Sess×Int}{w w1 w':World}{e:Ending}(hb:Below w.heap.size w w1)(h:MethN B0 x0 s g now line more r w1 e w'):MethN B0 x0 s g now line more r w e w' :=
 ⟨h.ok,h.bad,h.at_,(Fr.of_below hb _).trans h.fr,fun hr=>(Fr.of_below hb _).trans (h.still hr)⟩
theorem Rd.put1 {α:Type}{enc:α→List Value}{k:Nat}(hk:∀ x,(enc x).length=k){w:World}{g o n:Nat}{l:List α}(h:Rd enc k w (some ⟨g,o,none⟩) n l){i r:Nat}{x x':α}{u:Value}(hx:l[i]?=some x)(hr:r<k)
 (hu:(enc x')[r]?=some u) (hrest:∀ j,j<k→j≠r→(enc x')[j]?=(enc x)[j]?):Rd enc k (w.setCell ⟨g,o+i * k+r,none⟩ u) (some ⟨g,o,none⟩) n (l.set i x'):=by
 refine⟨by rw[List.length_set];exact h.1,fun hn=>?_⟩;obtain⟨b,o',e,hlt,hc⟩:=h.2 hn;cases e;refine⟨g,o,rfl,by simpa[World.setCell] using hlt,fun i' y hy j v hv=>?_⟩
 have hjk:j<k:=by have:=(List.getElem?_eq_some_iff.1 hv).1;rw[hk] at this;exact this
 rw[List.getElem?_set] at hy
 by_cases hi:i=i'
 · subst hi
   have hil:=(List.getElem?_eq_some_iff.1 hx).1;rw[if_pos rfl,if_pos hil] at hy;cases hy
   by_cases hj:j=r
   · subst hj
     rw[hu] at hv;cases hv;obtain⟨z,hz⟩:∃ z,(enc x)[j]?=some z:=⟨_,List.getElem?_eq_getElem (by rw[hk];exact hr)⟩;exact World.cell?_setCell_same _ _ _ (hc i x hx j z hz)
   · rw[World.cell?_setCell_other _ _ _ _ (fun e=>hj (by injection e with e1 e2;omega))]
     exact hc i x hx j v (by rw[← hrest j hjk hj];exact hv)
 · rw[if_neg hi] at hy
   rw[World.cell?_setCell_other _ _ _ _ (fun e=>hi (by
    injection e with e1 e2
    rcases Nat.lt_trichotomy i i' with h1 | h1 | h1
    · have:(i+1) * k≤i' * k:=Nat.mul_le_mul_right _ h1
      rw[Nat.add_mul] at this;omega
    · exact h1
    · have:(i'+1) * k≤i * k:=Nat.mul_le_mul_right _ h1
      rw[Nat.add_mul] at this;omega))]
   exact hc i' y hy j v hv
structure RowW (w:World) (t:TypeId) {α:Type} (enc:α→List Value) (k g n:Nat) (l:List α):Prop where
 rd:Rd enc k w (some ⟨g,0,none⟩) n l
 blk:∃ cur,Blk w g t cur
section
variable {w w':World} {t:TypeId} {α:Type} {enc:α→List Value} {k g n:Nat} {l:List α}
theorem RowW.below (h:RowW w t enc k g n l)(hb:Below w.heap.size w w'):RowW w' t enc k g n l:=⟨h.rd.below hb,by obtain⟨c,hc⟩:=h.blk;exact⟨c,hc.below hb hc.lt⟩⟩
theorem RowW.fr {E:Nat→Prop}(h:RowW w t enc k g n l)(hf:Fr E w w')(hE:¬ E g):RowW w' t enc k g n l:=⟨hf.rd h.rd fun ad e=>by cases e;exact hE,by obtain⟨c,hc⟩:=h.blk;exact⟨c,hf.blk hc hE⟩⟩
theorem RowW.frozen (h:RowW w t enc k g n l)(j:Nat):w.frozen? ⟨g,j,none⟩=false:=by obtain⟨c,hc⟩:=h.blk;exact hc.frozen j
theorem RowW.lt (h:RowW w t enc k g n l):g<w.heap.size:=by obtain⟨c,hc⟩:=h.blk;exact hc.lt
theorem RowW.cell {j i:Nat}{x:α}{v:Value}(h:RowW w t enc k g n l)(hx:l[i]?=some x)(hv:(enc x)[j]?=some v):w.cell? ⟨g,i * k+j,none⟩=some v:=by
 have hi:i<n:=by rw[← h.rd.len];exact(List.getElem?_eq_some_iff.1 hx).1
 obtain⟨b,o,y,e,_,hy,hc⟩:=h.rd.at_ hi;cases e;have:=Option.some.inj (hx.symm.trans hy);subst this
 simpa using hc j v hv
theorem RowW.put1 (hk:∀ x,(enc x).length=k)(h:RowW w t enc k g n l){i r:Nat}{x x':α}{u:Value}(hx:l[i]?=some x)(hr:r<k)
 (hu:(enc x')[r]?=some u) (hrest:∀ j,j<k→j≠r→(enc x')[j]?=(enc x)[j]?):RowW (w.setCell ⟨g,i * k+r,none⟩ u) t enc k g n (l.set i x') :=
 ⟨by simpa using Rd.put1 hk h.rd hx hr hu hrest,by obtain⟨c,hc⟩:=h.blk;exact⟨_,hc.set_ (i * k+r) u⟩⟩
theorem RowW.of_own (hk:∀ x,(enc x).length=k)(hk0:0<k){base:Nat}{v:Value}(h:w.ownsRow base t k v n (l.flatMap enc))(hl:l.length=n)(hn:0<n) :
 ∃ g c,v=.slice (some ⟨g,0,none⟩) n c∧base≤g∧n≤c∧RowW w t enc k g n l:=by
 obtain⟨g,c,rfl,hb,hc,hrd⟩:=own_rd hk hk0 h hl hn;obtain⟨cur,hcur⟩:=own_ty h (g:=g) rfl;exact⟨g,c,rfl,hb,hc,hrd,cur,hcur⟩
end
attribute [local go_sem ↓] Go.wp_at_zero Go.wp_at_succ
theorem catch_bad (B E s:Nat)(now err x0:Int)(older:List PanicEntry)(w:World)(hn:0≤now∧now≤1000000)(hB:w.cell? ⟨B,0,none⟩=some (.pointer (some ⟨s,0,none⟩)))(hc:w.cell? ⟨s,22,none⟩=some (.int .i64 now))(hz:w.frozen? ⟨s,22,none⟩=false)(he:w.cell? ⟨E,0,none⟩=some (.int .i64 x0))(hz2:w.frozen? ⟨E,0,none⟩=false)(hne:E≠s)(hEl:E<w.heap.size) :
 CallsD Tryz.prog 51 #[.pointer (some ⟨B,0,none⟩),.pointer (some ⟨E,0,none⟩)] (.panicking ({ v:=refV err,recovered:=false }::older)) w fun e u' w' =>
  e=.returned (.tuple #[])∧u'=.panicking ({ v:=refV err,recovered:=true }::older)∧w'=((w.setCell ⟨s,22,none⟩ (.int .i64 (now+1))).alloc (.cells #[.int .i64 err] 122)).setCell ⟨E,0,none⟩ (.int .i64 err):=by
 refine callsD_of_wpS Tryz.func51 rfl fun c₀ cs hu=>?_
 apply wpS_seq
 refine wpS_of_wp ?_;simp only[Tryz.ntmps51,List.size_toArray,List.length_cons,List.length_nil,Nat.reduceAdd,Nat.reduceSub,Array.replicate_succ,Array.replicate_zero,List.push_toArray,List.append_toArray,List.nil_append,List.cons_append]
 go_wp2
 simp only[Exit.thenS]
 apply wpS_seq
 apply wpS_region
 unfold refV at hu;simp[wpOpsS,go_sem,recoverD,hu,Exit.thenS];refine wpS_of_wp (wp_mono (Q:=fun e a' w'=>e=.normal∧a'.defers=[]∧w'=((w.setCell ⟨s,22,none⟩ (.int .i64 (now+1))).alloc (.cells #[.int .i64 err] 122)).setCell ⟨E,0,none⟩ (.int .i64 err)) ?_ ?_)
 · clear hu
   have he2:(w.setCell ⟨s,22,none⟩ (.int .i64 (now+1))).cell? ⟨E,0,none⟩=some (.int .i64 x0):=by rw[World.cell?_setCell_other _ _ _ _ (fun e=>hne (by injection e with e1 _;exact e1.symm ▸ rfl))];exact he
   have hn1:IntKind.i64.wrap (now+1)=now+1:=wi (by omega)
   have ta:∀ W:World,(Instr.typeAssert (.iface 122 (.agg #[.int .i64 err])) 20 122 true).run Tryz.prog W=.ok (.tuple #[.agg #[.int .i64 err],.bool true]) W:=fun W=>by
    simp[Instr.typeAssert,Tryz.underlying20,Tryz.underlying122]
   go_wp2
 · rintro e a' w' ⟨rfl,hd,rfl⟩
   refine⟨hd,_,rfl,_,results_none rfl _ _ _,rfl,?_,rfl⟩;simp[refV]
theorem catch_good (B E s:Nat)(now:Int)(w:World)(hn:0≤now∧now≤1000000)(hB:w.cell? ⟨B,0,none⟩=some (.pointer (some ⟨s,0,none⟩)))(hc:w.cell? ⟨s,22,none⟩=some (.int .i64 now))(hz:w.frozen? ⟨s,22,none⟩=false) :
 CallsD Tryz.prog 51 #[.pointer (some ⟨B,0,none⟩),.pointer (some ⟨E,0,none⟩)] .returning w fun e u' w' =>
  e=.returned (.tuple #[])∧u'=.returning∧w'=w.setCell ⟨s,22,none⟩ (.int .i64 (now+1)):=by
 refine callsD_of_wpS Tryz.func51 rfl fun c₀ cs hu=>?_
 apply wpS_seq
 refine wpS_of_wp ?_;simp only[Tryz.ntmps51,List.size_toArray,List.length_cons,List.length_nil,Nat.reduceAdd,Nat.reduceSub,Array.replicate_succ,Array.replicate_zero,List.push_toArray,List.append_toArray,List.nil_append,List.cons_append]
 go_wp2
 simp only[Exit.thenS]
 apply wpS_seq
 apply wpS_region
 simp[wpOpsS,go_sem,recoverD,hu,Exit.thenS];refine wpS_of_wp (wp_mono (Q:=fun e a' w'=>e=.normal∧a'.defers=[]∧w'=w.setCell ⟨s,22,none⟩ (.int .i64 (now+1))) ?_ ?_)
 · clear hu
   go_wp2
 · rintro e a' w' ⟨rfl,hd,rfl⟩
   refine⟨hd,.returning,?_,_,results_none rfl _ _ _,rfl,rfl,rfl⟩;cases c₀
   simp_all
end Go.Proofs.YtkhcliibilkefaaGreatDoor
namespace Go.Proofs.YtkhcliibilkefaaGreatDoor
open Lib (hid)
open Go.RowKit Go.Proofs Go.WideMaps
attribute [local go_sem ↓] Go.wp_at_zero Go.wp_at_succ
theorem lawW:KeyLaw Tryz.prog 9:=string_law Tryz.underlying9
def wordFn:Wd→FuncId
 | .bed=>71
 | .least=>72
 | .ground=>73
 | .cell=>74
 | .link=>75
 | .alarm=>76
 | .weather=>77
 | .parcel=>78
 | .steps=>79
 | .slide=>80
 | .way=>81
 | .evidence=>82
 | .buy=>83
 | .hear=>84
def wordV (x:Wd):Value:=match x with
 | .hear=>.agg #[.int .i64 0,.nilFunc,.func (.func (wordFn .hear)) #[] #[]]
 | x=>.agg #[.int .i64 x.many,.func (.func (wordFn x)) #[] #[],.nilFunc]
def wordK (x:Wd):Value:=.string ⟨x.name.toArray⟩
def entW (i:Nat)(x:Wd):MapEntry:=⟨wordK x,wordV x,i⟩
def entsW (ps:List Wd):Array MapEntry:=(ps.mapIdx entW).toArray
def IsW (w:World)(M:Nat)(ps:List Wd):Prop:=w.heap[M]?=some (.map (entsW ps) ps.length)
def putW (w:World)(M:Nat)(ps:List Wd):World:={ w with heap:=w.heap.setIfInBounds M (.map (entsW ps) ps.length) }
theorem entsW_get (ps:List Wd)(i:Nat):(entsW ps).toList[i]?=ps[i]?.map (entW i):=by simp[entsW]
theorem IsW.lt {w:World}{M:Nat}{ps:List Wd}(h:IsW w M ps):M<w.heap.size:=(Array.getElem?_eq_some_iff.1 h).1
theorem IsW.put {w:World}{M:Nat}{ps:List Wd}(h:IsW w M ps)(qs:List Wd):IsW (putW w M qs) M qs:=by
 have:=h.lt;unfold IsW putW;simp[this]
theorem putW_below {a w:World}{M:Nat}{n:Nat}(h:Below n a w)(hM:n≤M)(qs:List Wd):Below n a (putW w M qs):=by
 refine⟨h.os,h.tape,h.output,by simpa[putW] using h.size,fun k hk=>?_⟩
 have:M≠k:=by omega
 have:=h.block k hk;simp[putW,Array.getElem?_setIfInBounds, *]
theorem IsW.below {w w':World}{M:Nat}{ps:List Wd}(h:IsW w M ps)(hb:Below w.heap.size w w'):IsW w' M ps:=(hb.block M h.lt).trans h
theorem name_inj {x y:Wd}(h:x.name=y.name):x=y:=by cases x<;>cases y<;>first | rfl | (exfalso;revert h;decide)
theorem wordK_inj {x y:Wd}(h:wordK x=wordK y):x=y:=by
 unfold wordK at h
 injection h with h
 injection h with h
 exact name_inj (by simpa using congrArg Array.toList h)
theorem keyOf_w {s:ByteArray}(hs:s.size≤maxLen):∃ l,keyOf Tryz.prog 9 (.string s)=some l:=⟨_,keyOf_string_mk Tryz.underlying9 hs⟩
theorem name_len (x:Wd):(⟨x.name.toArray⟩:ByteArray).size≤maxLen:=by cases x<;>(unfold maxLen;decide)
def DistW (ps:List Wd):Prop:=∀(i j:Nat) (y:Wd),ps[i]?=some y→ps[j]?=some y→i=j
theorem dist_all:DistW Wd.all:=fun i j y hi hj=>by
 have h1:=(List.getElem?_eq_some_iff.1 hi).1;have h2:=(List.getElem?_eq_some_iff.1 hj).1
 have h:∀ i:Fin 14,∀ j:Fin 14,Wd.all[i.1]?=Wd.all[j.1]?→i.1=j.1:=by decide
 exact h ⟨i,h1⟩ ⟨j,h2⟩ (hi.trans hj.symm)
theorem keys_w (ps:List Wd):∀ e∈(entsW ps).toList,∃ l,keyOf Tryz.prog 9 e.key=some l:=by
 intro e he;obtain⟨i,hi⟩:=List.getElem?_of_mem he;rw[entsW_get] at hi;obtain⟨p,hp,rfl⟩:=Option.map_eq_some_iff.1 hi;exact keyOf_w (name_len p)
theorem findW_no {ps:List Wd}{s:ByteArray}(hs:s.size≤maxLen)(hno:∀ x∈ps,wordK x≠.string s)(W:World):(Instr.findKey 9 (.string s) (entsW ps).toList).run Tryz.prog W=.ok none W:=by
 obtain⟨l,hl⟩:=keyOf_w hs
 rcases lawW.find W hl (entsW ps).toList (keys_w ps) with ⟨h,_⟩ | ⟨j,e,_,he,hek⟩
 · exact h
 · exfalso
   rw[entsW_get] at he;obtain⟨p,hp,rfl⟩:=Option.map_eq_some_iff.1 he;exact hno p (List.mem_of_getElem? hp) hek
theorem findW_yes {ps:List Wd}(hd:DistW ps){x:Wd}{j:Nat}(hj:ps[j]?=some x)(W:World):(Instr.findKey 9 (wordK x) (entsW ps).toList).run Tryz.prog W=.ok (some (j,wordV x)) W:=by
 obtain⟨l,hl⟩:=keyOf_w (name_len x)
 rcases lawW.find W hl (entsW ps).toList (keys_w ps) with ⟨_,h⟩ | ⟨j',e,h,he,hek⟩
 · exfalso
   exact h (entW j x) (List.mem_of_getElem? (by rw[entsW_get,hj];rfl)) rfl
 · rw[entsW_get] at he
   obtain⟨y,hp,rfl⟩:=Option.map_eq_some_iff.1 he;obtain rfl:y=x:=wordK_inj hek;obtain rfl:j'=j:=hd _ _ _ hp hj;exact h
theorem checkW {s:ByteArray}(hs:s.size≤maxLen)(em:Bool)(W:World):(Instr.checkKey em 10000 9 (.string s)).run Tryz.prog W=.ok () W:=by
 obtain⟨l,hl⟩:=keyOf_w hs;exact lawW.check W em hl
theorem get_w {ps:List Wd}{W:World}{M:Nat}(h:IsW W M ps):(getObj M).run Tryz.prog W=.ok (.map (entsW ps) ps.length) W:=by
 simp[getObj,Sem.run,show W.heap[M]?=_ from h]
theorem set_w {ps:List Wd}{W:World}{M:Nat}(h:IsW W M ps)(o:Obj):(setObj M o).run Tryz.prog W=.ok () { W with heap:=W.heap.setIfInBounds M o }:=by
 simp[setObj,Sem.run,show W.heap[M]?=_ from h]
theorem entsW_push (ps:List Wd)(x:Wd):(entsW ps).push ⟨wordK x,wordV x,ps.length⟩=entsW (ps++[x]):=by
 simp[entsW,List.mapIdx_concat,entW]
theorem updW {ps:List Wd}{W:World}{M:Nat}(h:IsW W M ps){x:Wd}(hno:x ∉ ps) :
 (Instr.mapUpdate 129 (.map (some M)) (wordK x) (wordV x)).run Tryz.prog W=.ok () (putW W M (ps++[x])):=by
 have hf:=findW_no (ps:=ps) (s:=⟨x.name.toArray⟩) (name_len x) (fun y hy e=>hno (by rw[← wordK_inj (x:=y) (y:=x) e];exact hy)) W;have hc:=checkW (name_len x);have hp:=entsW_push ps x;unfold wordK at hp ⊢;simp[Instr.mapUpdate,run_underlying Tryz.underlying129,get_w h,hc,hf,set_w h,hp,putW]
theorem lookW_yes {ps:List Wd}{W:World}{M:Nat}(h:IsW W M ps)(hd:DistW ps){x:Wd}(hx:x∈ps) :
 (Instr.lookup 129 (.map (some M)) (wordK x) true).run Tryz.prog W=.ok (.tuple #[wordV x,.bool true]) W:=by
 obtain⟨j,hj⟩:=List.getElem?_of_mem hx;have hf:=findW_yes hd hj W;have hc:=checkW (name_len x);unfold wordK at hf ⊢;simp[Instr.lookup,run_underlying Tryz.underlying129,get_w h,hc,hf]
theorem lookW_no {ps:List Wd}{W:World}{M:Nat}(h:IsW W M ps){s:ByteArray}(hs:s.size≤maxLen)(hno:∀ x∈ps,wordK x≠.string s) :
 (Instr.lookup 129 (.map (some M)) (.string s) true).run Tryz.prog W=.ok (.tuple #[.agg #[.int .i64 0,.nilFunc,.nilFunc],.bool false]) W:=by
 have hc:=checkW hs;simp[Instr.lookup,run_underlying Tryz.underlying129,get_w h,hc,findW_no hs hno,Tryz.zeroValue127]
theorem words_c (w:World):Calls Tryz.prog 53 #[] w fun e w'=>e=.returned (.map (some w.heap.size))∧IsW w' w.heap.size Wd.all∧Below w.heap.size w w':=by
 obtain⟨M,hM⟩:∃ M,M=w.heap.size:=⟨_,rfl⟩
 have h0:IsW (w.alloc (.map #[] 0)) M []:=by rw[hM];exact heap_alloc_new w _
 have b0:Below w.heap.size w (w.alloc (.map #[] 0)):=(Below.refl _ w).alloc (Nat.le_refl _) _;obtain⟨W0,hW0⟩:∃ W0,W0=w.alloc (.map #[] 0):=⟨_,rfl⟩;rw[← hW0] at h0 b0;obtain⟨W1,hW1⟩:∃ V,V=putW W0 M ([.bed]:List Wd):=⟨_,rfl⟩
 have u0:(Instr.mapUpdate 129 (.map (some M)) (.string ⟨#[98,101,100]⟩) (.agg #[.int .i64 8,.func (.func 71) #[] #[],.nilFunc])).run Tryz.prog W0=.ok () W1:=by rw[hW1];exact updW (ps:=[]) (x:=.bed) h0 (by decide)
 have h1:IsW W1 M [.bed]:=by rw[hW1];exact h0.put _
 have b1:Below w.heap.size w W1:=by rw[hW1];exact putW_below b0 (by omega) _
 obtain⟨W2,hW2⟩:∃ V,V=putW W1 M ([.bed,.least]:List Wd):=⟨_,rfl⟩
 have u1:(Instr.mapUpdate 129 (.map (some M)) (.string ⟨#[108,101,97,115,116]⟩) (.agg #[.int .i64 1,.func (.func 72) #[] #[],.nilFunc])).run Tryz.prog W1=.ok () W2:=by rw[hW2];exact updW (ps:=[.bed]) (x:=.least) h1 (by decide)
 have h2:IsW W2 M [.bed,.least]:=by rw[hW2];exact h1.put _
 have b2:Below w.heap.size w W2:=by rw[hW2];exact putW_below b1 (by omega) _
 obtain⟨W3,hW3⟩:∃ V,V=putW W2 M ([.bed,.least,.ground]:List Wd):=⟨_,rfl⟩
 have u2:(Instr.mapUpdate 129 (.map (some M)) (.string ⟨#[103,114,111,117,110,100]⟩) (.agg #[.int .i64 5,.func (.func 73) #[] #[],.nilFunc])).run Tryz.prog W2=.ok () W3:=by rw[hW3];exact updW (ps:=[.bed,.least]) (x:=.ground) h2 (by decide)
 have h3:IsW W3 M [.bed,.least,.ground]:=by rw[hW3];exact h2.put _
 have b3:Below w.heap.size w W3:=by rw[hW3];exact putW_below b2 (by omega) _
 obtain⟨W4,hW4⟩:∃ V,V=putW W3 M ([.bed,.least,.ground,.cell]:List Wd):=⟨_,rfl⟩
 have u3:(Instr.mapUpdate 129 (.map (some M)) (.string ⟨#[99,101,108,108]⟩) (.agg #[.int .i64 7,.func (.func 74) #[] #[],.nilFunc])).run Tryz.prog W3=.ok () W4:=by rw[hW4];exact updW (ps:=[.bed,.least,.ground]) (x:=.cell) h3 (by decide)
 have h4:IsW W4 M [.bed,.least,.ground,.cell]:=by rw[hW4];exact h3.put _
 have b4:Below w.heap.size w W4:=by rw[hW4];exact putW_below b3 (by omega) _
 obtain⟨W5,hW5⟩:∃ V,V=putW W4 M ([.bed,.least,.ground,.cell,.link]:List Wd):=⟨_,rfl⟩
 have u4:(Instr.mapUpdate 129 (.map (some M)) (.string ⟨#[108,105,110,107]⟩) (.agg #[.int .i64 2,.func (.func 75) #[] #[],.nilFunc])).run Tryz.prog W4=.ok () W5:=by rw[hW5];exact updW (ps:=[.bed,.least,.ground,.cell]) (x:=.link) h4 (by decide)
 have h5:IsW W5 M [.bed,.least,.ground,.cell,.link]:=by rw[hW5];exact h4.put _
 have b5:Below w.heap.size w W5:=by rw[hW5];exact putW_below b4 (by omega) _
 obtain⟨W6,hW6⟩:∃ V,V=putW W5 M ([.bed,.least,.ground,.cell,.link,.alarm]:List Wd):=⟨_,rfl⟩
 have u5:(Instr.mapUpdate 129 (.map (some M)) (.string ⟨#[97,108,97,114,109]⟩) (.agg #[.int .i64 3,.func (.func 76) #[] #[],.nilFunc])).run Tryz.prog W5=.ok () W6:=by rw[hW6];exact updW (ps:=[.bed,.least,.ground,.cell,.link]) (x:=.alarm) h5 (by decide)
 have h6:IsW W6 M [.bed,.least,.ground,.cell,.link,.alarm]:=by rw[hW6];exact h5.put _
 have b6:Below w.heap.size w W6:=by rw[hW6];exact putW_below b5 (by omega) _
 obtain⟨W7,hW7⟩:∃ V,V=putW W6 M ([.bed,.least,.ground,.cell,.link,.alarm,.weather]:List Wd):=⟨_,rfl⟩
 have u6:(Instr.mapUpdate 129 (.map (some M)) (.string ⟨#[119,101,97,116,104,101,114]⟩) (.agg #[.int .i64 3,.func (.func 77) #[] #[],.nilFunc])).run Tryz.prog W6=.ok () W7:=by rw[hW7];exact updW (ps:=[.bed,.least,.ground,.cell,.link,.alarm]) (x:=.weather) h6 (by decide)
 have h7:IsW W7 M [.bed,.least,.ground,.cell,.link,.alarm,.weather]:=by rw[hW7];exact h6.put _
 have b7:Below w.heap.size w W7:=by rw[hW7];exact putW_below b6 (by omega) _
 obtain⟨W8,hW8⟩:∃ V,V=putW W7 M ([.bed,.least,.ground,.cell,.link,.alarm,.weather,.parcel]:List Wd):=⟨_,rfl⟩
 have u7:(Instr.mapUpdate 129 (.map (some M)) (.string ⟨#[112,97,114,99,101,108]⟩) (.agg #[.int .i64 4,.func (.func 78) #[] #[],.nilFunc])).run Tryz.prog W7=.ok () W8:=by rw[hW8];exact updW (ps:=[.bed,.least,.ground,.cell,.link,.alarm,.weather]) (x:=.parcel) h7 (by decide)
 have h8:IsW W8 M [.bed,.least,.ground,.cell,.link,.alarm,.weather,.parcel]:=by rw[hW8];exact h7.put _
 have b8:Below w.heap.size w W8:=by rw[hW8];exact putW_below b7 (by omega) _
 obtain⟨W9,hW9⟩:∃ V,V=putW W8 M ([.bed,.least,.ground,.cell,.link,.alarm,.weather,.parcel,.steps]:List Wd):=⟨_,rfl⟩
 have u8:(Instr.mapUpdate 129 (.map (some M)) (.string ⟨#[115,116,101,112,115]⟩) (.agg #[.int .i64 3,.func (.func 79) #[] #[],.nilFunc])).run Tryz.prog W8=.ok () W9:=by rw[hW9];exact updW (ps:=[.bed,.least,.ground,.cell,.link,.alarm,.weather,.parcel]) (x:=.steps) h8 (by decide)
 have h9:IsW W9 M [.bed,.least,.ground,.cell,.link,.alarm,.weather,.parcel,.steps]:=by rw[hW9];exact h8.put _
 have b9:Below w.heap.size w W9:=by rw[hW9];exact putW_below b8 (by omega) _
 obtain⟨W10,hW10⟩:∃ V,V=putW W9 M ([.bed,.least,.ground,.cell,.link,.alarm,.weather,.parcel,.steps,.slide]:List Wd):=⟨_,rfl⟩
 have u9:(Instr.mapUpdate 129 (.map (some M)) (.string ⟨#[115,108,105,100,101]⟩) (.agg #[.int .i64 2,.func (.func 80) #[] #[],.nilFunc])).run Tryz.prog W9=.ok () W10:=by rw[hW10];exact updW (ps:=[.bed,.least,.ground,.cell,.link,.alarm,.weather,.parcel,.steps]) (x:=.slide) h9 (by decide)
 have h10:IsW W10 M [.bed,.least,.ground,.cell,.link,.alarm,.weather,.parcel,.steps,.slide]:=by rw[hW10];exact h9.put _
 have b10:Below w.heap.size w W10:=by rw[hW10];exact putW_below b9 (by omega) _
 obtain⟨W11,hW11⟩:∃ V,V=putW W10 M ([.bed,.least,.ground,.cell,.link,.alarm,.weather,.parcel,.steps,.slide,.way]:List Wd):=⟨_,rfl⟩
 have u10:(Instr.mapUpdate 129 (.map (some M)) (.string ⟨#[119,97,121]⟩) (.agg #[.int .i64 2,.func (.func 81) #[] #[],.nilFunc])).run Tryz.prog W10=.ok () W11:=by rw[hW11];exact updW (ps:=[.bed,.least,.ground,.cell,.link,.alarm,.weather,.parcel,.steps,.slide]) (x:=.way) h10 (by decide)
 have h11:IsW W11 M [.bed,.least,.ground,.cell,.link,.alarm,.weather,.parcel,.steps,.slide,.way]:=by rw[hW11];exact h10.put _
 have b11:Below w.heap.size w W11:=by rw[hW11];exact putW_below b10 (by omega) _
 obtain⟨W12,hW12⟩:∃ V,V=putW W11 M ([.bed,.least,.ground,.cell,.link,.alarm,.weather,.parcel,.steps,.slide,.way,.evidence]:List Wd):=⟨_,rfl⟩
 have u11:(Instr.mapUpdate 129 (.map (some M)) (.string ⟨#[101,118,105,100,101,110,99,101]⟩) (.agg #[.int .i64 3,.func (.func 82) #[] #[],.nilFunc])).run Tryz.prog W11=.ok () W12:=by rw[hW12];exact updW (ps:=[.bed,.least,.ground,.cell,.link,.alarm,.weather,.parcel,.steps,.slide,.way]) (x:=.evidence) h11 (by decide)
 have h12:IsW W12 M [.bed,.least,.ground,.cell,.link,.alarm,.weather,.parcel,.steps,.slide,.way,.evidence]:=by rw[hW12];exact h11.put _
 have b12:Below w.heap.size w W12:=by rw[hW12];exact putW_below b11 (by omega) _
 obtain⟨W13,hW13⟩:∃ V,V=putW W12 M ([.bed,.least,.ground,.cell,.link,.alarm,.weather,.parcel,.steps,.slide,.way,.evidence,.buy]:List Wd):=⟨_,rfl⟩
 have u12:(Instr.mapUpdate 129 (.map (some M)) (.string ⟨#[98,117,121]⟩) (.agg #[.int .i64 1,.func (.func 83) #[] #[],.nilFunc])).run Tryz.prog W12=.ok () W13:=by rw[hW13];exact updW (ps:=[.bed,.least,.ground,.cell,.link,.alarm,.weather,.parcel,.steps,.slide,.way,.evidence]) (x:=.buy) h12 (by decide)
 have h13:IsW W13 M [.bed,.least,.ground,.cell,.link,.alarm,.weather,.parcel,.steps,.slide,.way,.evidence,.buy]:=by rw[hW13];exact h12.put _
 have b13:Below w.heap.size w W13:=by rw[hW13];exact putW_below b12 (by omega) _
 obtain⟨W14,hW14⟩:∃ V,V=putW W13 M ([.bed,.least,.ground,.cell,.link,.alarm,.weather,.parcel,.steps,.slide,.way,.evidence,.buy,.hear]:List Wd):=⟨_,rfl⟩
 have u13:(Instr.mapUpdate 129 (.map (some M)) (.string ⟨#[104,101,97,114]⟩) (.agg #[.int .i64 0,.nilFunc,.func (.func 84) #[] #[]])).run Tryz.prog W13=.ok () W14:=by rw[hW14];exact updW (ps:=[.bed,.least,.ground,.cell,.link,.alarm,.weather,.parcel,.steps,.slide,.way,.evidence,.buy]) (x:=.hear) h13 (by decide)
 have h14:IsW W14 M [.bed,.least,.ground,.cell,.link,.alarm,.weather,.parcel,.steps,.slide,.way,.evidence,.buy,.hear]:=by rw[hW14];exact h13.put _
 have b14:Below w.heap.size w W14:=by rw[hW14];exact putW_below b13 (by omega) _
 have HE:=hid h14;have HB:=hid b14;have HM:=hid hM;have HW0:=hid hW0;rw[← hM]
 have hmm:(Instr.makeMap 129 none).run Tryz.prog w=.ok (.map (some M)) W0:=by rw[hM,hW0];exact run_makeMap _ w
 clear hM hW0 hW1 h1 b1 hW2 h2 b2 hW3 h3 b3 hW4 h4 b4 hW5 h5 b5 hW6 h6 b6 hW7 h7 b7 hW8 h8 b8 hW9 h9 b9 hW10 h10 b10 hW11 h11 b11 hW12 h12 b12 hW13 h13 b13 hW14 h14 b14 h0 b0
 go_enter Tryz.func53,Tryz.ntmps53
 go_wp2_with fail
 go_ret
 exact⟨rfl,HE.out,by have h:=HB.out;rw[← HM.out] at h;exact h⟩
end Go.Proofs.YtkhcliibilkefaaGreatDoor
