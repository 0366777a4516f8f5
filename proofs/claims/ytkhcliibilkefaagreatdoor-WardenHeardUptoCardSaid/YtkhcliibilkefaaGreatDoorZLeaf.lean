/- WORDS FOR MEMORY: a slice of records that reads as a list, and the small facts on worlds that every walk of this seat uses. No program in sight. -/
import Derived.WalkKit
import Derived.WalkSpells
import Derived.WalkLawsBesides
import Derived.Deep.Draws
import Derived.Lib.Hide
import Derived.Maps.AppendAt
import Derived.Test.YtkhcliibilkefaaGreatDoorProg
set_option linter.unusedVariables false
set_option linter.unusedSimpArgs false
set_option maxRecDepth 100000
set_option maxHeartbeats 8000000
namespace Go.Proofs.YtkhcliibilkefaaGreatDoor
open Lib (hid)
open Go.RowKit
def Rd {α:Type}(enc:α→List Value)(k:Nat)(w:World)(A:Option Addr)(n:Nat)(l:List α):Prop :=
 l.length=n∧(0<n→∃ b o,A=some ⟨b,o,none⟩∧b<w.heap.size∧∀ i x,l[i]?=some x→∀ j v,(enc x)[j]?=some v→w.cell? ⟨b,o+i * k+j,none⟩=some v)
section
variable {α:Type} {enc:α→List Value} {k:Nat} {w w':World} {A:Option Addr} {n:Nat} {l:List α}
theorem below_tr {a b c:World}(h:Below a.heap.size a b)(h':Below b.heap.size b c):Below a.heap.size a c:=h.trans (h'.mono h.size)
theorem below_drewN {B:Nat}{a w:World}(h:Below B a w)(n:Nat):Below B a (w.drewN n):=⟨h.os,h.tape,h.output,h.size,h.block⟩
theorem Rd.nil (enc:α→List Value)(k:Nat)(w:World)(A:Option Addr):Rd enc k w A 0 []:=⟨rfl,fun h=>absurd h (by omega)⟩
theorem Rd.mono (h:Rd enc k w A n l)(hb:Below w.heap.size w w'):Rd enc k w' A n l :=
 ⟨h.1,fun hn=>by
  obtain⟨b,o,e,hlt,hc⟩:=h.2 hn
  exact⟨b,o,e,Nat.lt_of_lt_of_le hlt hb.size,fun i x hx j v hv=>(hb.cell (p:=⟨b,_,none⟩) hlt).trans (hc i x hx j v hv)⟩⟩
theorem Rd.below {w0:World}(h:Rd enc k w0 A n l)(hb:Below w0.heap.size w0 w):Rd enc k w A n l:=h.mono hb
theorem Rd.at_ (h:Rd enc k w A n l){i:Nat}(hi:i<n):∃ b o x,A=some ⟨b,o,none⟩∧b<w.heap.size∧l[i]?=some x∧∀ j v,(enc x)[j]?=some v→w.cell? ⟨b,o+i * k+j,none⟩=some v:=by
 obtain⟨b,o,e,hlt,hc⟩:=h.2 (by omega)
 have hl:i<l.length:=by have:=h.1;omega
 exact⟨b,o,l[i],e,hlt,List.getElem?_eq_getElem hl,hc i _ (List.getElem?_eq_getElem hl)⟩
theorem Rd.len (h:Rd enc k w A n l):l.length=n:=h.1
theorem Rd.cut (h:Rd enc k w A n l){a b cap:Nat}(hab:a≤b)(hb:b≤n)(hc:n≤cap) :
 Rd enc k w (if cap=a then A else A.map (·.add (a * k))) (b - a) ((l.take b).drop a):=by
 refine⟨by simp[h.1];omega,fun hn=>?_⟩;obtain⟨bl,o,rfl,hlt,hcell⟩:=h.2 (by omega);rw[if_neg (by omega)];refine⟨bl,o+a * k,?_,hlt,fun i x hx j v hv=>?_⟩
 · simp only[Option.map,Addr.add]
   by_cases h0:a * k=0
   · simp[h0]
   · simp[h0]
 · rw[List.getElem?_drop,List.getElem?_take] at hx
   split at hx
   · have:=hcell (a+i) x hx j v hv
     rw[Nat.add_mul] at this;rw[← this];congr 2;omega
   · cases hx
theorem run_sliceBounds_in {P:Program}{len cap lo hi:Nat}(W:World)(h1:lo≤hi)(h2:hi≤cap) :
 (Instr.sliceBounds true len cap (some (.int .i64 (lo:Int))) (some (.int .i64 (hi:Int))) none).run P W=.ok (lo,hi,cap) W:=by
 simp[Instr.sliceBounds,Instr.sliceBound,asIntOf,h1,h2]
theorem flatMap_get (henc:∀ x,(enc x).length=k)(l:List α):∀(i:Nat) (x:α) (j:Nat) (v:Value),l[i]?=some x→(enc x)[j]?=some v→(l.flatMap enc)[i * k+j]?=some v:=by
 induction l with
 | nil=>intro i x j v hx;simp at hx
 | cons y l ih =>
  intro i x j v hx hv
  have hj:j<k:=by rw[← henc x];exact(List.getElem?_eq_some_iff.1 hv).1
  rw[List.flatMap_cons]
  cases i with
  | zero =>
   simp at hx;subst hx;rw[List.getElem?_append_left (by rw[henc];omega)]
   simpa using hv
  | succ i =>
   rw[List.getElem?_append_right (by rw[henc,Nat.succ_mul];omega),henc]
   have:(i+1) * k+j - k=i * k+j:=by rw[Nat.succ_mul];omega
   rw[this];exact ih i x j v (by simpa using hx) hv
theorem Rd.of_own (henc:∀ x,(enc x).length=k){base:Nat}{e:TypeId}{c:Nat}(h:w.ownsRow base e k (.slice A n c) n (l.flatMap enc))(hl:l.length=n):Rd enc k w A n l:=by
 refine⟨hl,fun hn=>?_⟩
 rcases h.2 with ⟨_,h0⟩ | ⟨g,cap,cur,hv,hbase,hg,hnc,hm,hsz,htake⟩
 · omega
 · have hA:A=some ⟨g,0,none⟩:=by injection hv
   refine⟨g,0,hA,?_,fun i x hx j v hv=>?_⟩
   · rcases Nat.lt_or_ge g w.heap.size with hlt | hge
     · exact hlt
     · rw[Array.getElem?_eq_none hge] at hg;cases hg
   · have h1:=flatMap_get henc l i x j v hx hv
     rw[← htake,List.getElem?_take] at h1
     split at h1
     · rw[Nat.zero_add]
       rw[cell_of_row w g _ cur e (0,0) hg]
       simpa using h1
     · cases h1
theorem own_mono {base:Nat}{e:TypeId}{v:Value}{xs:List Value}(h:w.ownsRow base e k v n xs)(hb:Below w.heap.size w w'):w'.ownsRow base e k v n xs:=by
 refine⟨h.1,?_⟩
 rcases h.2 with h0 | ⟨g,cap,cur,hv,hbase,hg,hrest⟩
 · exact .inl h0
 · have hlt:g<w.heap.size:=by
    rcases Nat.lt_or_ge g w.heap.size with hlt | hge
    · exact hlt
    · rw[Array.getElem?_eq_none hge] at hg;cases hg
   exact .inr ⟨g,cap,cur,hv,hbase,(hb.block g hlt).trans hg,hrest⟩
theorem own_form {base:Nat}{e:TypeId}{v:Value}{xs:List Value}(h:w.ownsRow base e k v n xs):∃ A c,v=.slice A n c∧n≤c:=by
 rcases h.2 with ⟨rfl,rfl⟩ | ⟨g,cap,cur,rfl,_,_,hnc,_⟩
 · exact⟨none,0,rfl,Nat.le_refl _⟩
 · exact⟨some ⟨g,0,none⟩,cap,rfl,hnc⟩
end
theorem wi {e:Int}(h:-9223372036854775808≤e∧e≤9223372036854775807):IntKind.i64.wrap e=e:=IntWalk.i64_in _ (by omega)
theorem ret_bool {a b:Bool}(h:a=b):Ending.returned (.bool a)=.returned (.bool b):=by rw[h]
theorem ret_int {k:IntKind}{a b:Int}(h:a=b):Ending.returned (.int k a)=.returned (.int k b):=by rw[h]
def Blk (w:World)(g:Nat)(t:TypeId)(cs:Array Value):Prop:=w.heap[g]?=some (.cells cs t (0,0))
section
variable {w w':World} {g:Nat} {t:TypeId} {cs:Array Value}
theorem Blk.lt (h:Blk w g t cs):g<w.heap.size:=by
 rcases Nat.lt_or_ge g w.heap.size with hlt | hge
 · exact hlt
 · unfold Blk at h;rw[Array.getElem?_eq_none hge] at h;cases h
theorem Blk.cell (h:Blk w g t cs)(i:Nat):w.cell? ⟨g,i,none⟩=cs[i]?:=cell_of_row w g i cs t (0,0) h
theorem Blk.frozen (h:Blk w g t cs)(i:Nat):w.frozen? ⟨g,i,none⟩=false:=by
 unfold Blk at h;simp[World.frozen?,h]
theorem Blk.new (w:World)(t:TypeId)(cs:Array Value):Blk (w.alloc (.cells cs t)) w.heap.size t cs:=heap_alloc_new w _
theorem Blk.drewN (h:Blk w g t cs)(n:Nat):Blk (w.drewN n) g t cs:=h
theorem Blk.alloc (h:Blk w g t cs)(o:Obj):Blk (w.alloc o) g t cs:=(Below.heap_alloc w o g h.lt).trans h
theorem Blk.set_ (h:Blk w g t cs)(i:Nat)(u:Value):Blk (w.setCell ⟨g,i,none⟩ u) g t (cs.setIfInBounds i u):=by
 unfold Blk at h ⊢;simp[World.setCell,Array.getElem?_modify,h]
theorem Blk.far (h:Blk w g t cs){p:Addr}(hp:g≠p.block)(u:Value):Blk (w.setCell p u) g t cs:=(Below.heap_setCell w p u g hp).trans h
theorem Blk.below {B:Nat}(h:Blk w g t cs)(hb:Below B w w')(hg:g<B):Blk w' g t cs:=(hb.block g hg).trans h
theorem Blk.grown {row:Option Nat}(h:Blk w g t cs)(hb:w.grownBy w' row)(hg:some g≠row):Blk w' g t cs:=(hb.block g h.lt hg).trans h
end
/- facts kept hid, in the world behind a call -/
theorem hdT {a b c:World}(h:RowKit.Hid (Below a.heap.size a b))(hb:Below b.heap.size b c):RowKit.Hid (Below a.heap.size a c):=hid (below_tr h.out hb)
theorem hdB {w w':World}{g:Nat}{t:TypeId}{cs:Array Value}(h:RowKit.Hid (Blk w g t cs))(hb:Below w.heap.size w w'):RowKit.Hid (Blk w' g t cs):=hid (h.out.below hb h.out.lt)
theorem only_drewN {a w:World}{row:Option Nat}(h:a.grownBy w row)(n:Nat):a.grownBy (w.drewN n) row:=⟨h.os,h.tape,h.output,h.size,h.block⟩
theorem only_setCell {a w:World}{g:Nat}(h:a.grownBy w (some g)){p:Addr}(hp:p.block=g∨a.heap.size≤p.block)(u:Value):a.grownBy (w.setCell p u) (some g) :=
 ⟨h.os,h.tape,h.output,by simpa[World.setCell] using h.size,fun i hi hne=>(Below.heap_setCell w p u i (by
  rintro rfl
  rcases hp with hp | hp
  · exact hne (by rw[hp])
  · omega)).trans (h.block i hi hne)⟩
theorem only_of_below {a w:World}(h:Below a.heap.size a w)(row:Option Nat):a.grownBy w row:=⟨h.os,h.tape,h.output,h.size,fun i hi _=>h.block i hi⟩
def enc2 (p:Int×Int):List Value:=[.int .i64 p.1,.int .i64 p.2]
theorem enc2_len (p:Int×Int):(enc2 p).length=2:=rfl
def enc1 (n:Int):List Value:=[.int .i64 n]
theorem enc1_len (n:Int):(enc1 n).length=1:=rfl
def encB (n:UInt8):List Value:=[.int .u8 (n.toNat:Int)]
theorem encB_len (n:UInt8):(encB n).length=1:=rfl
structure Rdg where
 ins:Int
 num:Int
 tim:Int
 val:Int
 deriving DecidableEq
def encR (r:Rdg):List Value:=[.int .i64 r.ins,.int .i64 r.num,.int .i64 r.tim,.int .i64 r.val]
theorem encR_len (r:Rdg):(encR r).length=4:=rfl
structure Lst where
 A:Option Addr
 n:Nat
 c:Nat
 l:List Rdg
def encL (x:Lst):List Value:=[.slice x.A x.n x.c]
theorem encL_len (x:Lst):(encL x).length=1:=rfl
section
variable {w:World} {A:Option Addr} {n:Nat}
theorem Rd.at4 {l:List Rdg}(h:Rd encR 4 w A n l){i:Nat}(hi:i<n) :
 ∃ b o x,A=some ⟨b,o,none⟩∧b<w.heap.size∧l[i]?=some x∧w.cell? ⟨b,o+i * 4,none⟩=some (.int .i64 x.ins)∧w.cell? ⟨b,o+i * 4+1,none⟩=some (.int .i64 x.num) ∧
  w.cell? ⟨b,o+i * 4+2,none⟩=some (.int .i64 x.tim)∧w.cell? ⟨b,o+i * 4+3,none⟩=some (.int .i64 x.val):=by
 obtain⟨b,o,x,e,hb,hx,hc⟩:=h.at_ hi;exact⟨b,o,x,e,hb,hx,hc 0 _ rfl,hc 1 _ rfl,hc 2 _ rfl,hc 3 _ rfl⟩
theorem Rd.atL {l:List Lst}(h:Rd encL 1 w A n l){i:Nat}(hi:i<n) :
 ∃ b o x,A=some ⟨b,o,none⟩∧b<w.heap.size∧l[i]?=some x∧w.cell? ⟨b,o+i,none⟩=some (.slice x.A x.n x.c):=by
 obtain⟨b,o,x,e,hb,hx,hc⟩:=h.at_ hi;exact⟨b,o,x,e,hb,hx,by simpa using hc 0 _ rfl⟩
theorem Rd.at1 {l:List Int}(h:Rd enc1 1 w A n l){i:Nat}(hi:i<n) :
 ∃ b o x,A=some ⟨b,o,none⟩∧b<w.heap.size∧l[i]?=some x∧w.cell? ⟨b,o+i,none⟩=some (.int .i64 x):=by
 obtain⟨b,o,x,e,hb,hx,hc⟩:=h.at_ hi;exact⟨b,o,x,e,hb,hx,by simpa using hc 0 _ rfl⟩
theorem Rd.atB {l:List UInt8}(h:Rd encB 1 w A n l){i:Nat}(hi:i<n) :
 ∃ b o x,A=some ⟨b,o,none⟩∧b<w.heap.size∧l[i]?=some x∧w.cell? ⟨b,o+i,none⟩=some (.int .u8 (x.toNat:Int)):=by
 obtain⟨b,o,x,e,hb,hx,hc⟩:=h.at_ hi;exact⟨b,o,x,e,hb,hx,by simpa using hc 0 _ rfl⟩
end
def inB (n lo hi:Int):Bool:=decide (lo≤n) && decide (n≤hi)
theorem inB_iff {n lo hi:Int}:inB n lo hi=true↔lo≤n∧n≤hi:=by simp[inB]
theorem inB_not {n lo hi:Int}:inB n lo hi=false↔n<lo∨hi<n:=by
 rw[← Bool.not_eq_true,inB_iff];omega
def allB {α:Type}(p:α→Bool)(l:List α):Bool:=l.all p
theorem allB_iff {α:Type}{p:α→Bool}{l:List α}:allB p l=true↔∀(i:Nat) (x:α),l[i]?=some x→p x=true:=by
 simp only[allB,List.all_eq_true]
 constructor
 · intro h i x hx;exact h x (List.mem_of_getElem? hx)
 · intro h x hx;obtain⟨i,hi⟩:=List.getElem?_of_mem hx;exact h i x hi
theorem allB_not {α:Type}{p:α→Bool}{l:List α}:allB p l=false↔∃(i:Nat) (x:α),l[i]?=some x∧p x=false:=by
 rw[← Bool.not_eq_true,allB_iff]
 constructor
 · intro h
   refine Classical.byContradiction fun hn=>h fun i x hx=>?_;cases hp:p x
   · exact absurd ⟨i,x,hx,hp⟩ hn
   · rfl
 · rintro⟨i,x,hx,hp⟩ h
   rw[h i x hx] at hp;cases hp
theorem lt_of_get {α:Type}{l:List α}{i:Nat}{x:α}(h:l[i]?=some x):i<l.length:=(List.getElem?_eq_some_iff.1 h).1
structure Par where
 worth:Int
 price:Int
 people:Int
 ins:Bool
 deriving DecidableEq
def encP (p:Par):List Value:=[.int .i64 p.worth,.int .i64 p.price,.int .i64 p.people,.bool p.ins]
theorem encP_len (p:Par):(encP p).length=4:=rfl
structure Sli where
 A:Option Addr
 n:Nat
 c:Nat
 way:List Int
 rate:Int
 lo:Int
 hi:Int
def encS (s:Sli):List Value:=[.slice s.A s.n s.c,.int .i64 s.rate,.int .i64 s.lo,.int .i64 s.hi]
theorem encS_len (s:Sli):(encS s).length=4:=rfl
structure Vly where
 pars:List Par
 sls:List Sli
 s0:Int
 s1:Int
 s2:Int
def parOk (p:Par):Bool:=inB p.worth 0 100000 && inB p.price 0 100000 && inB p.people 0 1000
def upB (lo hi most:Int):Bool:=decide (0≤lo) && decide (lo≤hi) && decide (hi≤most)
theorem upB_iff {lo hi most:Int}:upB lo hi most=true↔0≤lo∧lo≤hi∧hi≤most:=by simp[upB,and_assoc]
def wayTo (np:Nat)(way:List Int)(k:Nat):Prop:=(∀ p∈way.take k,0≤p∧p<np)∧(way.take k).Nodup
def wayOk (np:Nat)(way:List Int):Bool:=way.all (fun p=>decide (0≤p∧p<np)) && decide way.Nodup
theorem wayOk_iff {np:Nat}{way:List Int}:wayOk np way=true↔wayTo np way way.length:=by
 simp[wayOk,wayTo]
theorem nodup_take_succ {l:List Int}{k:Nat}{x:Int}(h:l[k]?=some x):(l.take (k+1)).Nodup↔(l.take k).Nodup∧x ∉ l.take k:=by
 rw[List.take_add_one,h];simp only[Option.toList_some,List.nodup_append,List.nodup_cons,List.not_mem_nil,not_false_eq_true,List.nodup_nil,and_self,List.mem_singleton,true_and,forall_eq]
 constructor
 · rintro⟨h1,h2⟩;exact⟨h1,fun hm=>h2 x hm rfl⟩
 · rintro⟨h1,h2⟩;exact⟨h1,fun a ha e=>h2 (e ▸ ha)⟩
theorem wayTo_succ {np:Nat}{way:List Int}{k:Nat}{x:Int}(h:way[k]?=some x):wayTo np way (k+1)↔wayTo np way k∧(0≤x∧x<np)∧x ∉ way.take k:=by
 unfold wayTo;rw[nodup_take_succ h,List.take_add_one,h];simp only[Option.toList_some,List.mem_append,List.mem_singleton]
 constructor
 · rintro⟨h1,h2,h3⟩;exact⟨⟨fun p hp=>h1 p (.inl hp),h2⟩,h1 x (.inr rfl),h3⟩
 · rintro⟨⟨h1,h2⟩,h3,h4⟩
   refine⟨fun p hp=>?_,h2,h4⟩
   rcases hp with hp | rfl
   · exact h1 p hp
   · exact h3
theorem wayTo_mono {np:Nat}{way:List Int}{k m:Nat}(hkm:k≤m)(h:wayTo np way m):wayTo np way k:=by
 have:(way.take k).Sublist (way.take m):=by rw[← Nat.min_eq_left hkm,← List.take_take];exact List.take_sublist _ _
 exact⟨fun p hp=>h.1 p (this.subset hp),h.2.sublist this⟩
def sliOk (np:Nat)(s:Sli):Bool:=wayOk np s.way && (decide (1≤s.way.length) && inB s.rate 1 1000 && upB s.lo s.hi s.way.length)
def stepsOk (s0 s1 s2:Int):Bool:=decide (1≤s0) && decide (s0<s1) && decide (s1<s2) && decide (s2≤10000)
theorem stepsOk_iff {a b c:Int}:stepsOk a b c=true↔1≤a∧a<b∧b<c∧c≤10000:=by simp[stepsOk,and_assoc]
def errV (v:Vly):Int:=if 10<v.sls.length then 3 else if inB v.pars.length 1 12 && allB parOk v.pars && allB (sliOk v.pars.length) v.sls && stepsOk v.s0 v.s1 v.s2 then 0 else 1
structure VOk (v:Vly):Prop where
 sn:v.sls.length≤10
 pn:1≤v.pars.length∧v.pars.length≤12
 par:allB parOk v.pars=true
 sli:allB (sliOk v.pars.length) v.sls=true
 steps:stepsOk v.s0 v.s1 v.s2=true
theorem errV_zero {v:Vly}:errV v=0↔VOk v:=by
 unfold errV
 split
 · rename_i h;constructor
   · intro h';cases h'
   · intro h';have:=h'.sn;omega
 · rename_i h1
   split
   · rename_i h2
     simp only[Bool.and_eq_true,inB_iff] at h2;exact⟨fun _=>⟨by omega,by omega,h2.1.1.2,h2.1.2,h2.2⟩,fun _=>rfl⟩
   · rename_i h2
     constructor
     · intro h';cases h'
     · intro h'
       refine absurd ?_ h2;simp only[Bool.and_eq_true,inB_iff];have:=h'.pn;exact⟨⟨⟨by omega,h'.par⟩,h'.sli⟩,h'.steps⟩
theorem VOk.slide {v:Vly}(h:VOk v){k:Nat}{s:Sli}(hs:v.sls[k]?=some s):wayTo v.pars.length s.way s.way.length∧1≤s.way.length∧(1≤s.rate∧s.rate≤1000)∧0≤s.lo∧s.lo≤s.hi∧s.hi≤s.way.length:=by
 have:=allB_iff.1 h.sli k s hs;simp only[sliOk,Bool.and_eq_true,decide_eq_true_eq,inB_iff,upB_iff,wayOk_iff] at this;exact⟨this.1,this.2.1.1,this.2.1.2,this.2.2⟩
theorem VOk.parcel {v:Vly}(h:VOk v){i:Nat}{p:Par}(hp:v.pars[i]?=some p):(0≤p.worth∧p.worth≤100000)∧(0≤p.price∧p.price≤100000)∧0≤p.people∧p.people≤1000:=by
 have:=allB_iff.1 h.par i p hp;simp only[parOk,Bool.and_eq_true,inB_iff] at this;exact⟨this.1.1,this.1.2,this.2⟩
def hitBy (s:Sli)(m:Nat)(p:Int):Int:=if p∈s.way.take m then s.rate else 0
def dAt (sls:List Sli)(tr:List Int)(p:Int)(k:Nat):Int:=match sls[k]?,tr[k]? with
 | some s,some m=>hitBy s m.toNat p
 | _,_=>0
def dTo (sls:List Sli)(tr:List Int)(p:Int):Nat→Int
 | 0=>0
 | k+1=>dTo sls tr p k+dAt sls tr p k
theorem hitBy_bd {s:Sli}{m:Nat}{p:Int}(h:0≤s.rate∧s.rate≤1000):0≤hitBy s m p∧hitBy s m p≤1000:=by unfold hitBy;split<;>omega
theorem dTo_bd {sls:List Sli}{tr:List Int}(h:∀(k:Nat) (s:Sli),sls[k]?=some s→0≤s.rate∧s.rate≤1000)(p:Int):∀ k,0≤dTo sls tr p k∧dTo sls tr p k≤1000 * k
 | 0=>by simp[dTo]
 | k+1=>by
  have ih:=dTo_bd (tr:=tr) h p k
  have:0≤dAt sls tr p k∧dAt sls tr p k≤1000:=by
   unfold dAt
   split
   · rename_i s m hs hm;exact hitBy_bd (h k s hs)
   · omega
  simp only[dTo];omega
def dangs (v:Vly)(tr:List Int):List Int:=(List.range v.pars.length).map fun p:Nat=>dTo v.sls tr (p:Int) v.sls.length
def endsT (v:Vly)(high:Bool):List Int:=v.sls.map fun s=>if high then s.hi else s.lo
def Fits (v:Vly)(tr:List Int):Prop:=tr.length=v.sls.length∧∀(k:Nat) (s:Sli) (m:Int),v.sls[k]?=some s→tr[k]?=some m→s.lo≤m∧m≤s.hi
theorem endsT_fits {v:Vly}(h:VOk v)(high:Bool):Fits v (endsT v high):=by
 refine⟨by simp[endsT],fun k s m hs hm=>?_⟩;simp only[endsT,List.getElem?_map,hs,Option.map_some,Option.some.injEq] at hm;have:=h.slide hs;cases high<;>simp at hm<;>omega
theorem dangs_len {v:Vly}{tr:List Int}:(dangs v tr).length=v.pars.length:=by simp[dangs]
theorem dangs_at {v:Vly}{tr:List Int}{i:Nat}{x:Int}(h:(dangs v tr)[i]?=some x):x=dTo v.sls tr i v.sls.length:=by
 simp only[dangs,List.getElem?_map,Option.map_eq_some_iff] at h;obtain⟨a,ha,rfl⟩:=h;obtain⟨_,e⟩:=List.getElem?_eq_some_iff.1 ha;simp at e;subst e;rfl
theorem dangs_bd {v:Vly}(h:VOk v){tr:List Int}{i:Nat}{x:Int}(hx:(dangs v tr)[i]?=some x):0≤x∧x≤10000:=by
 rw[dangs_at hx];have:=dTo_bd (sls:=v.sls) (tr:=tr) (fun k s hs=>by have:=(h.slide hs).2.2.1;omega) i v.sls.length;have:=h.sn;omega
end Go.Proofs.YtkhcliibilkefaaGreatDoor
namespace Go.Proofs.YtkhcliibilkefaaGreatDoor
open Lib (hid)
structure Bst where
 gain:Int
 cost:Int
 set:List Int
def cmpL:List Int→List Int→Int
 | [],[]=>0
 | [],_::_=>-1
 | _::_,[]=>1
 | a::l,b::m=>if a=b then cmpL l m else if a<b then -1 else 1
def betterB (g c:Int)(l:List Int)(b:Bst):Bool :=
 if g=b.gain∧c=b.cost then decide (cmpL l b.set<0) else if b.gain - g=0 then decide (c - b.cost<0) else decide (b.gain - g<0)
def updB (g c:Int)(l:List Int)(st:Bst):Bst:=if betterB g c l st then ⟨g,c,l⟩ else st
def gAt (gs:List Int)(i:Nat):Int:=gs.getD i 0
theorem gAt_of {gs:List Int}{i:Nat}{x:Int}(h:gs[i]?=some x):gAt gs i=x:=by simp[gAt,List.getD,h]
def loopB (gs ps:List Int)(B:Int):Nat→Nat→Int→Int→List Int→Bst→Bst
 | 0,_,_,_,_,st=>st
 | k+1,i,g,c,l,st =>
  loopB gs ps B k (i+1) g c l
   (if B<c+gAt ps i then st else loopB gs ps B k (i+1) (g+gAt gs i) (c+gAt ps i) (l++[(i:Int)]) (updB (g+gAt gs i) (c+gAt ps i) (l++[(i:Int)]) st))
def tryB (gs ps:List Int)(B:Int)(k i:Nat)(g c:Int)(l:List Int)(st:Bst):Bst:=if B<c then st else loopB gs ps B k i g c l (updB g c l st)
theorem loopB_zero (gs ps:List Int)(B:Int)(i:Nat)(g c:Int)(l:List Int)(st:Bst):loopB gs ps B 0 i g c l st=st:=rfl
theorem loopB_succ (gs ps:List Int)(B:Int)(k i:Nat)(g c:Int)(l:List Int)(st:Bst) :
 loopB gs ps B (k+1) i g c l st=loopB gs ps B k (i+1) g c l (tryB gs ps B k (i+1) (g+gAt gs i) (c+gAt ps i) (l++[(i:Int)]) st):=rfl
def bestB (gs ps:List Int)(B:Int):Bst:=tryB gs ps B gs.length 0 0 0 [] ⟨0,0,[]⟩
open Go.RowKit Go.Proofs
section
variable {w:World} {A:Option Addr} {n:Nat}
theorem Rd.atP {l:List Par}(h:Rd encP 4 w A n l){i:Nat}(hi:i<n) :
 ∃ b o x,A=some ⟨b,o,none⟩∧b<w.heap.size∧l[i]?=some x∧w.cell? ⟨b,o+i * 4,none⟩=some (.int .i64 x.worth)∧w.cell? ⟨b,o+i * 4+1,none⟩=some (.int .i64 x.price) ∧
  w.cell? ⟨b,o+i * 4+2,none⟩=some (.int .i64 x.people)∧w.cell? ⟨b,o+i * 4+3,none⟩=some (.bool x.ins):=by
 obtain⟨b,o,x,e,hb,hx,hc⟩:=h.at_ hi;exact⟨b,o,x,e,hb,hx,hc 0 _ rfl,hc 1 _ rfl,hc 2 _ rfl,hc 3 _ rfl⟩
theorem Rd.atS {l:List Sli}(h:Rd encS 4 w A n l){i:Nat}(hi:i<n) :
 ∃ b o x,A=some ⟨b,o,none⟩∧b<w.heap.size∧l[i]?=some x∧w.cell? ⟨b,o+i * 4,none⟩=some (.slice x.A x.n x.c)∧w.cell? ⟨b,o+i * 4+1,none⟩=some (.int .i64 x.rate) ∧
  w.cell? ⟨b,o+i * 4+2,none⟩=some (.int .i64 x.lo)∧w.cell? ⟨b,o+i * 4+3,none⟩=some (.int .i64 x.hi):=by
 obtain⟨b,o,x,e,hb,hx,hc⟩:=h.at_ hi;exact⟨b,o,x,e,hb,hx,hc 0 _ rfl,hc 1 _ rfl,hc 2 _ rfl,hc 3 _ rfl⟩
end
structure RdV (w:World) (PA:Option Addr) (pn:Nat) (SA:Option Addr) (sn:Nat) (v:Vly):Prop where
 pars:Rd encP 4 w PA pn v.pars
 sls:Rd encS 4 w SA sn v.sls
 way:∀(i:Nat) (s:Sli),v.sls[i]?=some s→Rd enc1 1 w s.A s.n s.way∧s.n≤maxLen∧s.n≤s.c
theorem RdV.below {w w':World}{PA SA:Option Addr}{pn sn:Nat}{v:Vly}(h:RdV w PA pn SA sn v)(hb:Below w.heap.size w w'):RdV w' PA pn SA sn v :=
 ⟨h.pars.mono hb,h.sls.mono hb,fun i s hs=>⟨(h.way i s hs).1.mono hb,(h.way i s hs).2⟩⟩
theorem within_c (n lo hi:Int)(w:World) :
 Calls Tryz.prog 139 #[.int .i64 n,.int .i64 lo,.int .i64 hi] w fun e w'=>e=.returned (.bool (inB n lo hi))∧w=w':=by
 by_cases h:lo≤n
 · go_enter Tryz.func139,Tryz.ntmps139
   go_wp2
   go_ret
   exact⟨ret_bool (by simp[inB,h]),rfl⟩
 · have h':n<lo:=by omega
   go_enter Tryz.func139,Tryz.ntmps139
   go_wp2
   go_ret
   exact⟨ret_bool (inB_not.2 (.inl h')).symm,rfl⟩
theorem up_c (lo hi most:Int)(w:World) :
 Calls Tryz.prog 140 #[.agg #[.int .i64 lo,.int .i64 hi],.int .i64 most] w fun e w'=>e=.returned (.bool (upB lo hi most))∧Below w.heap.size w w':=by
 by_cases h:0≤lo
 · by_cases h2:lo≤hi
   · go_enter Tryz.func140,Tryz.ntmps140
     go_wp2
     go_ret
     exact⟨ret_bool (by simp[upB,h,h2]),(Below.refl _ _).alloc (Nat.le_refl _) _⟩
   · have h3:hi<lo:=by omega
     go_enter Tryz.func140,Tryz.ntmps140
     go_wp2
     go_ret
     exact⟨ret_bool (by simp[upB];omega),(Below.refl _ _).alloc (Nat.le_refl _) _⟩
 · have h':lo<0:=by omega
   go_enter Tryz.func140,Tryz.ntmps140
   go_wp2
   go_ret
   exact⟨ret_bool (by simp[upB];omega),(Below.refl _ _).alloc (Nat.le_refl _) _⟩
theorem high_c (lo hi:Int)(w:World):Calls Tryz.prog 188 #[.agg #[.int .i64 lo,.int .i64 hi]] w fun e w'=>e=.returned (.int .i64 hi)∧Below w.heap.size w w':=by
 go_enter Tryz.func188,Tryz.ntmps188
 go_wp2
 go_ret
 exact⟨rfl,(Below.refl _ _).alloc (Nat.le_refl _) _⟩
theorem parcel_c (p:Par)(w:World) :
 Calls Tryz.prog 182 #[.agg #[.int .i64 p.worth,.int .i64 p.price,.int .i64 p.people,.bool p.ins]] w fun e w'=>e=.returned (.bool (parOk p))∧Below w.heap.size w w':=by
 have hv:parOk p=(inB p.worth 0 100000 && inB p.price 0 100000 && inB p.people 0 1000):=rfl;cases h1:inB p.worth 0 100000
 · rw[h1] at hv
   have HM:=hid hv;clear hv
   go_enter Tryz.func182,Tryz.ntmps182
   go_wp2_with (go_at_call 139;refine(within_c _ _ _ _).mono ?_;rintro e w' ⟨rfl,rfl⟩)
   go_ret
   exact⟨ret_bool HM.out.symm,(Below.refl _ _).alloc (Nat.le_refl _) _⟩
 · cases h2:inB p.price 0 100000
   all_goals
    rw[h1,h2] at hv;have HM:=hid hv;clear hv
    go_enter Tryz.func182,Tryz.ntmps182
    go_wp2_with (go_at_call 139;refine(within_c _ _ _ _).mono ?_;rintro e w' ⟨rfl,rfl⟩)
    go_ret
    exact⟨ret_bool HM.out.symm,(Below.refl _ _).alloc (Nat.le_refl _) _⟩
end Go.Proofs.YtkhcliibilkefaaGreatDoor
