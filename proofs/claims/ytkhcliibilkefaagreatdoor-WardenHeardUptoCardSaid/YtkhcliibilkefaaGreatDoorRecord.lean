/- PLAIN: the bytes of a text of digits, as the program's loop makes them. -/
import Derived.Test.YtkhcliibilkefaaGreatDoorKHeld
import Derived.Lib.Bytealg
import Derived.StillTailTactics
import Derived.Deep.MidRow
set_option linter.unusedVariables false
set_option linter.unusedSimpArgs false
set_option maxRecDepth 100000
set_option maxHeartbeats 8000000
namespace Go.Proofs.YtkhcliibilkefaaGreatDoor
open Lib (hid)
def digT:List UInt8:=[48,49,50,51,52,53,54,55,56,57,97,98,99,100,101,102]
theorem ix_all:∀ k:Fin 256,Lib.indexByte digT (UInt8.ofNat k.val)=match hexP (UInt8.ofNat k.val) with | some d=>(d:Int) | none=>-1:=by decide +kernel
theorem index_hex (x:UInt8):Lib.indexByte digT x=match hexP x with | some d=>(d:Int) | none=>-1:=by
 have:=ix_all ⟨x.toNat,x.toNat_lt⟩
 simpa using this
def PairsW (t:List UInt8)(k:Nat)(o:List Nat):Prop:=o.length=k∧∀ j,j<k→∃ a b,(t[2 * j]?).bind hexP=some a∧(t[2 * j+1]?).bind hexP=some b∧o[j]?=some (16 * a+b)
theorem wire_iff:∀(k:Nat) (t:List UInt8) (o:List Nat),t.length=2 * k→(wireP t=some o↔PairsW t k o)
 | 0,t,o,h=>by
  obtain rfl:t=[]:=List.length_eq_zero_iff.1 (by omega);simp only[wireP,PairsW,Option.some.injEq]
  constructor
  · rintro rfl;exact⟨rfl,fun j hj=>absurd hj (by omega)⟩
  · rintro⟨h1,_⟩;exact(List.length_eq_zero_iff.1 h1).symm
 | k+1,[],o,h=>by simp at h
 | k+1,[_],o,h=>by simp at h;omega
 | k+1,x::y::l,o,h=>by
  have hl:l.length=2 * k:=by simp at h;omega
  rw[wireP]
  constructor
  · intro hw
    cases hx:hexP x with
    | none=>rw[hx] at hw;simp at hw
    | some a =>
     cases hy:hexP y with
     | none=>rw[hx,hy] at hw;simp at hw
     | some b =>
      cases hr:wireP l with
      | none=>rw[hx,hy,hr] at hw;simp at hw
      | some r =>
       rw[hx,hy,hr] at hw;obtain rfl:=Option.some.inj hw;obtain⟨h1,h2⟩:=(wire_iff k l r hl).1 hr;refine⟨by simp[h1],fun j hj=>?_⟩
       cases j with
       | zero=>exact⟨a,b,by simpa using hx,by simpa using hy,by simp⟩
       | succ j =>
        obtain⟨c,d,h3,h4,h5⟩:=h2 j (by omega);refine⟨c,d,?_,?_,by simpa using h5⟩
        · rw[show 2 * (j+1)=2 * j+2 by omega];simpa using h3
        · rw[show 2 * (j+1)+1=(2 * j+1)+2 by omega];simpa using h4
  · rintro⟨h1,h2⟩
    obtain⟨a,b,h3,h4,h5⟩:=h2 0 (by omega);simp at h3 h4
    match o,h1 with
    | z::r,h1 =>
     simp at h5
     have hr:wireP l=some r:=(wire_iff k l r hl).2 ⟨by simpa using h1,fun j hj=>by
      obtain⟨c,d,h6,h7,h8⟩:=h2 (j+1) (by omega);refine⟨c,d,?_,?_,by simpa using h8⟩
      · rw[show 2 * (j+1)=2 * j+2 by omega] at h6;simpa using h6
      · rw[show 2 * (j+1)+1=(2 * j+1)+2 by omega] at h7;simpa using h7⟩
     rw[h3,h4,hr,h5]
theorem wire_loop {t:List UInt8}{k:Nat}(hk:t.length=2 * k):wireP t=loopH t t.length:=by
 rw[hk]
 cases hl:loopH t (2 * k) with
 | some o=>exact(wire_iff k t o hk).2 ⟨by have:=loopH_len hl;omega,loopH_get hl⟩
 | none =>
  cases hw:wireP t with
  | none=>rfl
  | some o =>
   obtain⟨h1,h2⟩:=(wire_iff k t o hk).1 hw
   obtain⟨z,hz⟩:=loopH_some (t:=t) (k:=2 * k) fun i hi=>by
    obtain⟨a,b,h3,h4,_⟩:=h2 (i / 2) (by omega)
    rcases Nat.mod_two_eq_zero_or_one i with h | h
    · rw[show 2 * (i / 2)=i by omega] at h3;exact⟨a,h3⟩
    · rw[show 2 * (i / 2)+1=i by omega] at h4;exact⟨b,h4⟩
   rw[hl] at hz;cases hz
theorem wire_odd:∀(k:Nat) (t:List UInt8),t.length=2 * k+1→wireP t=none
 | 0,[x],_=>rfl
 | 0,[],h=>by simp at h
 | 0,_::_::_,h=>by simp at h
 | k+1,[],h=>by simp at h
 | k+1,[x],h=>by simp at h
 | k+1,x::y::l,h=>by
  rw[wireP,wire_odd k l (by simp at h;omega)];cases hexP x<;>cases hexP y<;>rfl
theorem loopH_none {t:List UInt8}{k:Nat}(h:loopH t k=none):∀ m,k≤m→loopH t m=none
 | 0,hm=>by
  obtain rfl:k=0:=by omega
  exact h
 | m+1,hm=>by
  by_cases e:k=m+1
  · rw[← e];exact h
  · rw[loopH,loopH_none h m (by omega)]
theorem wire_is {t:List UInt8}{o:List Nat}(h:loopH t t.length=some o):wireP t=if t.length % 2=0 then some o else none:=by
 rcases Nat.mod_two_eq_zero_or_one t.length with e | e
 · rw[if_pos e,← h];exact wire_loop (k:=t.length / 2) (by omega)
 · rw[if_neg (by omega)];exact wire_odd (t.length / 2) t (by omega)
theorem wire_not {t:List UInt8}{k:Nat}(hk:k≤t.length)(h:loopH t k=none):wireP t=none:=by
 rcases Nat.mod_two_eq_zero_or_one t.length with e | e
 · rw[wire_loop (k:=t.length / 2) (by omega)];exact loopH_none h _ hk
 · exact wire_odd (t.length / 2) t (by omega)
theorem loopH_byte {t:List UInt8}:∀ {k:Nat} {o:List Nat},loopH t k=some o→(∀ x∈o,x<256)∧(k % 2=1→∃ o0 a,o=o0++[16 * a]∧a<16∧o0.length=k / 2)
 | 0,o,h=>by obtain rfl:=Option.some.inj h;exact⟨by simp,fun h=>by omega⟩
 | k+1,o,h=>by
  rw[loopH] at h
  split at h
  · rename_i out d h1 hd
    obtain⟨h2,h3⟩:=loopH_byte h1;have hl:=loopH_len h1;obtain rfl:=Option.some.inj h;obtain⟨x,_,hx⟩:=Option.bind_eq_some_iff.1 hd;have hd16:=hex_lt hx;unfold stepH
    split
    · rename_i hm
      refine⟨fun x hx=>?_,fun _=>⟨out,d,rfl,hd16,by omega⟩⟩
      rcases List.mem_append.1 hx with hx | hx
      · exact h2 x hx
      · rw[List.mem_singleton.1 hx];omega
    · rename_i hm
      refine⟨fun x hx=>?_,fun h=>by omega⟩;obtain⟨o0,a,rfl,ha,ho⟩:=h3 (by omega)
      rcases List.mem_or_eq_of_mem_set hx with hx | rfl
      · exact h2 x hx
      · rw[List.getD_eq_getElem?_getD,List.getElem?_append_right (by omega),show k / 2 - o0.length=0 by omega]
        simp;omega
  · cases h
end Go.Proofs.YtkhcliibilkefaaGreatDoor
namespace Go.Proofs.YtkhcliibilkefaaGreatDoor.Ga
open Lib (hid)
def byteOf (z:Int):UInt8:=UInt8.ofNat (z % 256).toNat
theorem byteOf_toNat (z:Int):((byteOf z).toNat:Int)=z % 256:=by
 have h:(z % 256).toNat<256:=by omega
 simp only[byteOf,UInt8.toNat_ofNat'];omega
def beB (n:Int):Nat→List UInt8
 | 0=>[]
 | m+1=>byteOf (n / 256 ^ m)::beB n m
theorem beB_len (n:Int):∀ m,(beB n m).length=m
 | 0=>rfl
 | m+1=>by simp[beB,beB_len n m]
theorem beB_succ (n:Int)(m:Nat):beB n (m+1)=byteOf (n / 256 ^ m)::beB n m:=rfl
def ckStep (c:Int)(b:UInt8):Int:=(257 * c+(b.toNat:Int)+1) % 16777213
def ck (l:List UInt8):Int:=l.foldl ckStep 1
theorem ck_snoc (l:List UInt8)(b:UInt8):ck (l++[b])=ckStep (ck l) b:=by simp[ck]
def preB (r:Rdg):List UInt8:=[165]++beB r.ins 1++beB r.num 2++beB r.tim 4++beB r.val 4
theorem preB_len (r:Rdg):(preB r).length=12:=by simp[preB,beB_len]
def recB (r:Rdg):List UInt8:=preB r++beB (ck (preB r)) 3++[90]
theorem recB_len (r:Rdg):(recB r).length=16:=by simp[recB,preB_len,beB_len]
theorem take_set_snoc {bs:List UInt8}{i:Nat}{b:UInt8}(h:i<bs.length):(bs.set i b).take (i+1)=bs.take i++[b]:=by
 rw[List.take_succ_eq_append_getElem (by simpa using h)];simp[List.take_set_of_le]
def w17 (bs:List UInt8)(i:Nat):Array Value:=(bs.map (fun(b:UInt8)=>Value.int .u8 (b.toNat:Int))++[Value.int .i64 (i:Int)]).toArray
theorem w17_byte {bs:List UInt8}{i j:Nat}(hj:j<bs.length):(w17 bs i)[j]?=some (.int .u8 ((bs[j]'hj).toNat:Int)):=by
 simp[w17,List.getElem?_append_left,hj]
theorem w17_at {bs:List UInt8}{i:Nat}(h:bs.length=16):(w17 bs i)[16]?=some (.int .i64 (i:Int)):=by
 simp only[w17,List.getElem?_toArray];rw[List.getElem?_append_right (by simp[h])];simp[h]
theorem w17_set {bs:List UInt8}{i j:Nat}(b:UInt8)(hj:j<bs.length):(w17 bs i).setIfInBounds j (.int .u8 (b.toNat:Int))=w17 (bs.set j b) i:=by
 simp only[w17,List.setIfInBounds_toArray];rw[List.set_append_left _ _ (by simpa using hj),List.map_set]
theorem w17_move {bs:List UInt8}{i:Nat}(k:Nat)(h:bs.length=16):(w17 bs i).setIfInBounds 16 (.int .i64 (k:Int))=w17 bs k:=by
 simp only[w17,List.setIfInBounds_toArray];rw[List.set_append_right _ _ (by simp[h])];simp[h]
open Go.RowKit Go.Proofs
theorem set_c (g i:Nat)(b:Int)(u:Value)(w:World)(hi:i<16)(hc:w.cell? ⟨g,i,none⟩=some u)(hf:w.frozen? ⟨g,i,none⟩=false) :
 Calls Tryz.prog 68 #[.pointer (some ⟨g,0,none⟩),.int .i64 i,.int .u8 b] w fun e w'=>e=.returned (.tuple #[])∧w.setCell ⟨g,i,none⟩ (.int .u8 b)=w':=by
 have h16:(i:Int)<16:=by omega
 go_enter Tryz.func68,Tryz.ntmps68
 go_wp2
 go_end0
 exact⟨rfl,rfl⟩
theorem put_c (g i m:Nat)(n:Int)(bs:List UInt8)(w:World)(hb:Blk w g 117 (w17 bs i))(hl:bs.length=16)(hm:i+m≤16)(h4:m≤4) :
 Calls Tryz.prog 49 #[.pointer (some ⟨g,0,none⟩),.int .i64 n,.int .i64 m] w fun e w'=>e=.returned (.tuple #[]) ∧
  (∃ bs':List UInt8,bs'.length=16∧bs'.take (i+m)=bs.take i++beB n m∧Blk w' g 117 (w17 bs' (i+m)))∧w.grownBy w' (some g):=by
 have HL:=hid hl;clear hl
 go_enter Tryz.func49,Tryz.ntmps49
 go_wp2_with fail
 go_loopw [6] (fun k wr=>∃(r j:Nat) (bs':List UInt8),r≤4∧k=.int .i64 ((r:Int) - 1)∧bs'.length=16∧j+r=i+m∧bs'.take j++beB n r=bs.take i++beB n m∧Blk wr g 117 (w17 bs' j)∧w.grownBy wr (some g)) (fun k _=>(intOf k+1).toNat)
 case atStart=>exact⟨m,i,bs,h4,rfl,HL.out,rfl,rfl,hb,World.grownBy.refl w _⟩
 case round =>
  obtain⟨r,j,bs',hr4,rfl,hl',hj,heq,hblk,hg⟩:=hrel;have HL':=hid hl';have HJ:=hid hj;have HE:=hid heq;have HB:=hid hblk;have HG:=hid hg;clear hl' heq hblk hg
  have hj16:j+r≤16:=by omega
  clear hj
  rcases r with _ | r
  · go_wp2
    go_end0
    have hje:j=i+m:=by have:=HJ.out;omega
    exact⟨rfl,⟨bs',HL'.out,by have:=HE.out;rw[hje] at this;simpa[beB] using this,by have:=HB.out;rwa [hje] at this⟩,HG.out⟩
  · have c1:wr.cell? ⟨g,16,none⟩=some (.int .i64 (j:Int)):=by rw[HB.out.cell];exact w17_at HL'.out
    have c2:=HB.out.frozen 16
    have hj16':j<16:=by omega
    have cj:wr.cell? ⟨g,j,none⟩=some (.int .u8 ((bs'[j]'(by rw[HL'.out];exact hj16')).toNat:Int)):=by rw[HB.out.cell];exact w17_byte _
    have cf:=HB.out.frozen j
    have w0:IntKind.i64.wrap 0=0:=by decide
    have w8:IntKind.i64.wrap 8=8:=by decide
    have w16:IntKind.i64.wrap 16=16:=by decide
    have w24:IntKind.i64.wrap 24=24:=by decide
    have hstep:∀(q:Int),q=n / 256 ^ r→Hid (∃ bs2:List UInt8,bs2.length=16∧bs2.take (j+1)++beB n r=bs.take i++beB n m∧Blk ((wr.drew.setCell ⟨g,j,none⟩ (.int .u8 (q % 256))).setCell ⟨g,16,none⟩ (.int .i64 ((j:Int)+1))) g 117 (w17 bs2 (j+1)) ∧
     w.grownBy ((wr.drew.setCell ⟨g,j,none⟩ (.int .u8 (q % 256))).setCell ⟨g,16,none⟩ (.int .i64 ((j:Int)+1))) (some g)):=by
     rintro q rfl;refine⟨bs'.set j (byteOf (n / 256 ^ r)),by simpa using HL'.out,?_,?_,?_⟩
     · rw[take_set_snoc (by rw[HL'.out];exact hj16'),← HE.out,beB_succ];simp
     · have h1:=(show Blk wr.drew g 117 (w17 bs' j) from HB.out).set_ j (.int .u8 ((n / 256 ^ r) % 256))
       rw[← byteOf_toNat,w17_set _ (by rw[HL'.out];exact hj16')] at h1;have h2:=h1.set_ 16 (.int .i64 (((j+1:Nat)):Int));rw[w17_move _ (by simpa using HL'.out)] at h2;rw[← byteOf_toNat]
       simpa using h2
     · exact only_setCell (p:=⟨g,16,none⟩) (only_setCell (p:=⟨g,j,none⟩) (only_drewN HG.out 1) (.inl rfl) _) (.inl rfl) _
    have HS:=hid hstep;clear hstep
    rcases r with _ | _ | _ | _ | r
    case zero =>
     have H:=HS.out n (by simp)
     go_wp2
     go_still_tail 12,(by kernel_rfl)
     change wpList _ _ _ _ _ wr.drew
     go_wp2_with (go_at_call 68;refine(set_c _ _ _ _ _ hj16' (by simpa using cj) (by simpa using cf)).mono ?_;rintro e w' ⟨rfl,rfl⟩)
     go_roundw
     case rel =>
      obtain⟨bs2,a1,a2,a3,a4⟩:=H.out;exact⟨_,j+1,bs2,by omega,by simp,a1,by have:=HJ.out;omega,a2,a3,a4⟩
     case measure=>simp[intOf]<;>omega
    case succ.zero =>
     have H:=HS.out (n / 256) (by rw[show(256:Int) ^ (0+1)=256 from by decide])
     go_wp2
     go_still_tail 12,(by kernel_rfl)
     change wpList _ _ _ _ _ wr.drew
     go_wp2_with (go_at_call 68;refine(set_c _ _ _ _ _ hj16' (by simpa using cj) (by simpa using cf)).mono ?_;rintro e w' ⟨rfl,rfl⟩)
     go_roundw
     case rel =>
      obtain⟨bs2,a1,a2,a3,a4⟩:=H.out;exact⟨_,j+1,bs2,by omega,by simp,a1,by have:=HJ.out;omega,a2,a3,a4⟩
     case measure=>simp[intOf]<;>omega
    case succ.succ.zero =>
     have H:=HS.out (n / 65536) (by rw[show(256:Int) ^ (0+1+1)=65536 from by decide])
     go_wp2
     go_still_tail 12,(by kernel_rfl)
     change wpList _ _ _ _ _ wr.drew
     go_wp2_with (go_at_call 68;refine(set_c _ _ _ _ _ hj16' (by simpa using cj) (by simpa using cf)).mono ?_;rintro e w' ⟨rfl,rfl⟩)
     go_roundw
     case rel =>
      obtain⟨bs2,a1,a2,a3,a4⟩:=H.out;exact⟨_,j+1,bs2,by omega,by simp,a1,by have:=HJ.out;omega,a2,a3,a4⟩
     case measure=>simp[intOf]<;>omega
    case succ.succ.succ.zero =>
     have H:=HS.out (n / 16777216) (by rw[show(256:Int) ^ (0+1+1+1)=16777216 from by decide])
     go_wp2
     go_still_tail 12,(by kernel_rfl)
     change wpList _ _ _ _ _ wr.drew
     go_wp2_with (go_at_call 68;refine(set_c _ _ _ _ _ hj16' (by simpa using cj) (by simpa using cf)).mono ?_;rintro e w' ⟨rfl,rfl⟩)
     go_roundw
     case rel =>
      obtain⟨bs2,a1,a2,a3,a4⟩:=H.out;exact⟨_,j+1,bs2,by omega,by simp,a1,by have:=HJ.out;omega,a2,a3,a4⟩
     case measure=>simp[intOf]<;>omega
    case succ.succ.succ.succ=>omega
open Go.RowKit Go.Proofs
theorem below_setCells (cs:List Value):∀(o:Nat) (w':World) {B g:Nat} {w:World},Below B w w'→B≤g→Below B w (w'.setCells g o cs):=by
 induction cs with
 | nil=>intro o w' B g w h hg;exact h
 | cons v cs ih=>intro o w' B g w h hg;exact ih _ _ (h.setCell (p:=⟨g,o,none⟩) hg v) hg
theorem results_cell {fn:Func}{p:Tmp}{ty:TypeId}(h:fn.results=#[.cell p ty])(tmps:Array Value)(P:Program)(w:World) :
 (results fn tmps).run P w=(do loadVar ty (← asAddr (tmps.getD p undef))).run P w:=by
 simp only[results,h];simp
theorem results_ptr {ty:TypeId}{u v:Value}{a:Addr}{P:Program}{w:World}(hu:u=.pointer (some a))(hl:(loadVar ty a).run P w=.ok v w) :
 (do loadVar ty (← asAddr u):Sem Value).run P w=.ok v w:=by
 subst hu;simp only[asAddr,Sem.run_bind,Sem.run_pure,Result.andThen_ok,hl]
def zero16:List UInt8:=List.replicate 16 0
def cellsB (l:List UInt8):Array Value:=(l.map (fun(b:UInt8)=>Value.int .u8 (b.toNat:Int))).toArray
structure RecSt (w0 w:World) (r:Rdg) (done:List UInt8) (i:Nat):Prop where
 par:Blk w w0.heap.size 86 #[.int .i64 r.ins,.int .i64 r.num,.int .i64 r.tim,.int .i64 r.val]
 res:Blk w (w0.heap.size+1) 92 (cellsB zero16)
 wri:∃ bs:List UInt8,bs.length=16∧bs.take i=done∧Blk w (w0.heap.size+1+1) 117 (w17 bs i)
 below:Below w0.heap.size w0 w
theorem RecSt.cells {w0 w:World}{r:Rdg}{done:List UInt8}{i:Nat}(h:RecSt w0 w r done i) :
 w.cell? ⟨w0.heap.size,0,none⟩=some (.int .i64 r.ins)∧w.cell? ⟨w0.heap.size,1,none⟩=some (.int .i64 r.num)∧w.cell? ⟨w0.heap.size,2,none⟩=some (.int .i64 r.tim)∧w.cell? ⟨w0.heap.size,3,none⟩=some (.int .i64 r.val):=by
 refine⟨?_,?_,?_,?_⟩<;>rw[h.par.cell]<;>rfl
theorem put_st {w0 w:World}{r:Rdg}{done:List UInt8}{i:Nat}(h:RecSt w0 w r done i)(n:Int)(m:Nat)(mi:Int)(hmi:mi=(m:Int))(hm:i+m≤16)(h4:m≤4) :
 Calls Tryz.prog 49 #[.pointer (some ⟨w0.heap.size+1+1,0,none⟩),.int .i64 n,.int .i64 mi] w fun e w'=>e=.returned (.tuple #[])∧RecSt w0 w' r (done++beB n m) (i+m):=by
 subst hmi;obtain⟨bs,hl,ht,hb⟩:=h.wri;refine(put_c _ i m n bs w hb hl hm h4).mono fun e w' ⟨he,⟨bs',hl',ht',hb'⟩,hg⟩=>⟨he,?_,?_,⟨bs',hl',by rw[ht',ht],hb'⟩,?_⟩
 · exact h.par.grown hg (by simp;omega)
 · exact h.res.grown hg (by simp)
 · exact h.below.grown hg h.below.size (fun k hk=>by cases hk;omega)
theorem record_c (r:Rdg)(w:World) :
 Calls Tryz.prog 33 #[.agg #[.int .i64 r.ins,.int .i64 r.num,.int .i64 r.tim,.int .i64 r.val]] w fun e w'=>e=.returned (.agg (cellsB (recB r)))∧Below w.heap.size w w':=by
 go_enter Tryz.func33,Tryz.ntmps33
 go_wp2_with fail
 obtain⟨W,hW⟩:∃ W:World,W=((w.alloc (.cells #[.int .i64 r.ins,.int .i64 r.num,.int .i64 r.tim,.int .i64 r.val] 86)).alloc (.cells (cellsB zero16) 92)).alloc (.cells (w17 zero16 0) 117):=⟨_,rfl⟩
 have st0:RecSt w W r [] 0:=by
  subst hW;refine⟨?_,?_,⟨zero16,rfl,rfl,?_⟩,?_⟩
  · exact((Blk.new w _ _).alloc _).alloc _
  · have:=(Blk.new (w.alloc (.cells #[.int .i64 r.ins,.int .i64 r.num,.int .i64 r.tim,.int .i64 r.val] 86)) 92 (cellsB zero16)).alloc (.cells (w17 zero16 0) 117)
    simpa using this
  · have:=Blk.new ((w.alloc (.cells #[.int .i64 r.ins,.int .i64 r.num,.int .i64 r.tim,.int .i64 r.val] 86)).alloc (.cells (cellsB zero16) 92)) 117 (w17 zero16 0)
    simpa using this
  · exact(((Below.refl _ _).alloc (Nat.le_refl _) _).alloc (by simp) _).alloc (by simp;omega) _
 have hWW:W=((w.alloc (.cells #[.int .i64 r.ins,.int .i64 r.num,.int .i64 r.tim,.int .i64 r.val] 86)).alloc (.cells #[.int .u8 0,.int .u8 0,.int .u8 0,.int .u8 0,.int .u8 0,.int .u8 0,.int .u8 0,.int .u8 0,.int .u8 0,.int .u8 0,.int .u8 0,.int .u8 0,.int .u8 0,.int .u8 0,.int .u8 0,.int .u8 0] 92)).alloc (.cells #[.int .u8 0,.int .u8 0,.int .u8 0,.int .u8 0,.int .u8 0,.int .u8 0,.int .u8 0,.int .u8 0,.int .u8 0,.int .u8 0,.int .u8 0,.int .u8 0,.int .u8 0,.int .u8 0,.int .u8 0,.int .u8 0,.int .i64 0] 117):=hW;rw[← hWW];clear hWW hW;refine(put_st st0 165 1 1 rfl (by omega) (by omega)).mono ?_;rintro e w1 ⟨rfl,st1⟩;obtain⟨c0,c1,c2,c3⟩:=st1.cells
 go_wp2_with fail
 refine(put_st st1 _ 1 1 rfl (by omega) (by omega)).mono ?_;rintro e w2 ⟨rfl,st2⟩;obtain⟨c0,c1,c2,c3⟩:=st2.cells
 go_wp2_with fail
 refine(put_st st2 _ 2 2 rfl (by omega) (by omega)).mono ?_;rintro e w3 ⟨rfl,st3⟩;obtain⟨c0,c1,c2,c3⟩:=st3.cells
 go_wp2_with fail
 refine(put_st st3 _ 4 4 rfl (by omega) (by omega)).mono ?_;rintro e w4 ⟨rfl,st4⟩;obtain⟨c0,c1,c2,c3⟩:=st4.cells
 go_wp2_with fail
 refine(put_st st4 _ 4 4 rfl (by omega) (by omega)).mono ?_;rintro e w5 ⟨rfl,st5⟩;obtain⟨c0,c1,c2,c3⟩:=st5.cells;have hpre:[]++beB 165 1++beB r.ins 1++beB r.num 2++beB r.tim 4++beB r.val 4=preB r:=rfl;rw[hpre] at st5;clear hpre;obtain⟨bs,hl,ht,hbk⟩:=st5.wri
 have hbyte:∀ k:Nat,k<12→∃ b:UInt8,(preB r)[k]?=some b∧w5.cell? ⟨w.heap.size+1+1,k,none⟩=some (.int .u8 (b.toNat:Int)):=by
  intro k hk
  have h1:(preB r)[k]?=some (bs[k]'(by omega)):=by
   rw[← ht,List.getElem?_take_of_lt (by omega)];exact List.getElem?_eq_getElem _
  exact⟨_,h1,by rw[hbk.cell];exact w17_byte _⟩
 have HB:=hid hbyte;clear hbyte hl ht hbk
 go_wp2_with fail
 go_loop [5,35] (fun cv i=>∃(k:Nat) (c:Int),k≤12∧i=.int .i64 k∧cv=.int .i64 c∧0≤c∧c<16777213∧c=ck ((preB r).take k)) (fun _ i=>12 - (intOf i).toNat)
 case atStart=>exact⟨0,1,by omega,rfl,rfl,by omega,by omega,rfl⟩
 case round =>
  obtain⟨k,c,hk,rfl,rfl,hc0,hc1,hce⟩:=hrel;have HC:=hid hce;clear hce
  by_cases hlt:k<12
  · obtain⟨b,hb,hcell⟩:=HB.out k hlt
    have HX:=hid hb;clear hb
    have hb1:(b.toNat:Int)≤255:=by have:=b.toNat_lt;omega
    have hb0:(0:Int)≤(b.toNat:Int):=by omega
    go_wp2
    go_round
    case rel=>exact⟨k+1,(257 * c+(b.toNat:Int)+1) % 16777213,by omega,by go_num,rfl,Int.emod_nonneg _ (by omega),Int.emod_lt_of_pos _ (by omega),by
     rw[List.take_add_one,HX.out,HC.out];exact(ck_snoc _ _).symm⟩
    case measure=>simp[intOf]<;>omega
  · obtain rfl:k=12:=by omega
    have hce:c=ck (preB r):=by rw[HC.out,List.take_of_length_le (by rw[preB_len];exact Nat.le_refl _)]
    have HCE:=hid hce;clear hce HC HB
    go_wp2_with fail
    refine(put_st st5 c 3 3 rfl (by omega) (by omega)).mono ?_;rintro e w6 ⟨rfl,st6⟩
    go_wp2_with fail
    refine(put_st st6 90 1 1 rfl (by omega) (by omega)).mono ?_;rintro e w7 ⟨rfl,st7⟩;obtain⟨cs,hcs⟩:∃ cs:List Value,cs=(cellsB (recB r)).toList:=⟨_,rfl⟩
    have hlen:cs.length=16:=by rw[hcs];simp[cellsB,recB_len]
    have hrange:w7.rangeAt (w.heap.size+1+1) 0 cs:=by
     obtain⟨bs,hl,ht,hbk⟩:=st7.wri;intro j v hv
     have hbs:bs=recB r:=by
      have h16:bs.take 16=bs:=List.take_of_length_le (by omega);rw[← h16];have:bs.take (0+1+1+2+4+4+3+1)=bs.take 16:=rfl;rw[← this,ht,HCE.out]
      rfl
     rw[hcs,hbs.symm] at hv
     have hj:j<bs.length:=by have:=(List.getElem?_eq_some_iff.1 hv).1;simpa[cellsB] using this
     rw[Nat.zero_add,hbk.cell,w17_byte hj];simp[cellsB,hj] at hv;rw[hv]
    have hthere:w7.there (w.heap.size+1) 0 cs.toArray.size:=by
     intro j hj
     have hj16:j<16:=by simpa[hlen] using hj
     rw[Nat.zero_add];refine⟨?_,st7.res.frozen j⟩;rw[st7.res.cell];simp[cellsB,zero16,hj16]
    have hone:cs.toArray.all (·.oneCell')=true:=by
     rw[hcs];simp[cellsB];intros;rfl
    have hsz1:(Tryz.prog.info? 92).map (·.size)=some cs.length:=by rw[hlen];kernel_rfl
    have hsz2:(Tryz.prog.info? 92).map (·.size)=some cs.toArray.size:=by rw[List.size_toArray];exact hsz1
    have H1:=hid hrange;have H2:=hid hthere;have H3:=hid hone;have H4:=hid hsz1;have H5:=hid hsz2;have H6:=hid hcs;have H7:=hid hlen;clear hrange hthere hone hsz1 hsz2 hcs hlen
    go_wp2_with (first | (refine wpList_load_mid rfl 92 (.tmp 54) rfl (w.heap.size+1+1) 0 rfl cs _ H1.out Tryz.underlying92 rfl H4.out ?_) | (refine wpList_store_mid rfl 92 (.tmp 2) (.tmp 55) rfl (w.heap.size+1) 0 cs.toArray rfl rfl H2.out H5.out H3.out ?_))
    have hld:∀ K:Nat,(loadVar 92 ⟨w.heap.size+1,0,none⟩).run Tryz.prog (w7.setCells (w.heap.size+1) 0 cs)=.ok (.agg cs.toArray) (w7.setCells (w.heap.size+1) 0 cs):=fun _ =>
     run_loadVar_mid _ _ _ _ cs _ (World.rangeAt_setCells_same w7 (w.heap.size+1) 0 cs (by simpa using H2.out)) Tryz.underlying92 rfl H4.out
    refine bodyPost_ret (v:=.agg cs.toArray) ?_ rfl ⟨by rw[H6.out],?_⟩
    · rw[results_cell Tryz.results33]
      exact results_ptr rfl (hld 0)
    · exact below_setCells _ _ _ st7.below (by omega)
end Go.Proofs.YtkhcliibilkefaaGreatDoor.Ga
