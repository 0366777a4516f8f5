/- WORDS for ZoneSteps: a valley with greater steps, a valley with a slide more; an append of a list in a region. -/
import Derived.Test.YtphdndiikikecaaZCopy
import Derived.Test.YtphdndiikikecaaZMono
import Derived.Test.YtphdndiikikecaaZLawTruth
namespace Go.Proofs.Ytphdndiikikecaa
open Go.RowKit Go.Proofs

/-- the valley whose first k steps are greater -/
def stp (v : Vly) (m : Int) : Nat → Vly
  | 0 => v
  | 1 => ⟨v.pars, v.sls, v.s0 + m, v.s1, v.s2⟩
  | 2 => ⟨v.pars, v.sls, v.s0 + m, v.s1 + m, v.s2⟩
  | _ => ⟨v.pars, v.sls, v.s0 + m, v.s1 + m, v.s2 + m⟩
theorem vA_set2 (PA : Option Addr) (pn pc : Nat) (SA : Option Addr) (sn sc : Nat) (v : Vly) (m : Int) : (vA PA pn pc SA sn sc (stp v m 0)).setIfInBounds 2 (.int .i64 (v.s0 + m)) = vA PA pn pc SA sn sc (stp v m 1) := rfl
theorem vA_set3 (PA : Option Addr) (pn pc : Nat) (SA : Option Addr) (sn sc : Nat) (v : Vly) (m : Int) : (vA PA pn pc SA sn sc (stp v m 1)).setIfInBounds 3 (.int .i64 (v.s1 + m)) = vA PA pn pc SA sn sc (stp v m 2) := rfl
theorem vA_set4 (PA : Option Addr) (pn pc : Nat) (SA : Option Addr) (sn sc : Nat) (v : Vly) (m : Int) : (vA PA pn pc SA sn sc (stp v m 2)).setIfInBounds 4 (.int .i64 (v.s2 + m)) = vA PA pn pc SA sn sc (stp v m 3) := rfl
theorem vA_set1' (PA : Option Addr) (pn pc : Nat) (SA : Option Addr) (sn sc : Nat) (v : Vly) (A : Option Addr) (n c : Nat) : (vA PA pn pc SA sn sc v).setIfInBounds 1 (.slice A n c) = vA PA pn pc A n c v := rfl
/-- two copies of a box have been made, behind all that lies -/
def CopB (w1 : World) (s : Nat) (VC : Array Value) (a b : Value) (W : World) : Prop := ∃ bx bz, a = .pointer (some ⟨bx, 0, none⟩) ∧ b = .pointer (some ⟨bz, 0, none⟩) ∧ MS w1 s bx bz VC VC VC W
theorem CopB.one {w1 : World} {s : Nat} {VC : Array Value} (h : Blk w1 s 26 VC) : CopB w1 s VC (.pointer (some ⟨w1.heap.size, 0, none⟩)) (.pointer (some ⟨w1.heap.size + 1, 0, none⟩)) (((w1.alloc (.cells VC 26)).alloc (.cells VC 26)).drew) := by
  have hl := h.lt
  have hb : Below w1.heap.size w1 ((w1.alloc (.cells VC 26)).alloc (.cells VC 26)) := ((Below.refl _ w1).alloc (Nat.le_refl _) _).alloc (by simp) _
  have h2 := Blk.new (w1.alloc (.cells VC 26)) 26 VC
  rw [World.size_alloc] at h2
  exact ⟨_, _, rfl, rfl, (show MS w1 s w1.heap.size (w1.heap.size + 1) VC VC VC _ from ⟨hb, h.below hb hl, (Blk.new w1 _ VC).alloc _, h2, by omega, by omega, by omega, by omega, by omega⟩).drew⟩
theorem CopB.two {w1 : World} {s : Nat} {VC : Array Value} (h : Blk w1 s 26 VC) : CopB w1 s VC (.pointer (some ⟨w1.heap.size + 1, 0, none⟩)) (.pointer (some ⟨w1.heap.size, 0, none⟩)) (((w1.alloc (.cells VC 26)).alloc (.cells VC 26)).drew) := by
  have hl := h.lt
  have hb : Below w1.heap.size w1 ((w1.alloc (.cells VC 26)).alloc (.cells VC 26)) := ((Below.refl _ w1).alloc (Nat.le_refl _) _).alloc (by simp) _
  have h2 := Blk.new (w1.alloc (.cells VC 26)) 26 VC
  rw [World.size_alloc] at h2
  exact ⟨_, _, rfl, rfl, (show MS w1 s (w1.heap.size + 1) w1.heap.size VC VC VC _ from ⟨hb, h.below hb hl, h2, (Blk.new w1 _ VC).alloc _, by omega, by omega, by omega, by omega, by omega⟩).drew⟩
/-- an append of a list, in a region that draws its order -/
theorem step_append_rd {P : Program} {w : World} {ops : Array Oper} {o : Oper} {a : Act} {K : Act → World → Prop} {Q : Exit → Act → World → Prop} {E : Prop} (hgd : o.guard = none) (s x : Operand) (t : TypeId)
    (ho : o.op = .call { callee := .builtin .append, args := #[s, x], argTypes := #[t, t] })
    (base : Nat) (e : TypeId) (i : TypeInfo) (z : Value) (size bytes : Nat) (ht : P.underlying t = some (.slice e)) (hi : P.info? e = some i) (hz : i.zero = some z)
    (hsize : i.size = size) (hby : i.bytes = bytes) (hzs : z.cells.size = size) (hsz : 0 < size)
    (v : Value) (n : Nat) (xs : List Value) (hs : a.eval s = v) (hown : w.ownsRow base e size v n xs)
    {α : Type} {enc : α → List Value} (hk : ∀ x, (enc x).length = size) (h1 : ∀ x, ∀ u ∈ enc x, u.oneCell' = true)
    (A : Option Addr) (m c : Nat) (l : List α) (hx : a.eval x = .slice A m c) (hr : Rd enc size w A m l)
    (h63 : n + m ≤ maxLen) (hbytes : (n + m) * bytes ≤ 140737488355328) (hbase : base ≤ w.heap.size)
    (h : ∀ v' w', w'.ownsRow base e size v' (n + m) (xs ++ l.flatMap enc) → w.grownBy w' v.ownBlock → K (a.put o.dst v') w') :
    if Region.wanted o (yielded ops a.tmps) = true then Oper.wp P o a w K Q else E := by
  rcases A with _ | ad
  · obtain ⟨rfl, rfl⟩ := hr.none_zero
    have hrun := run_append_nilc (P := P) (w := w) (ty := o.type) ht hi hown c
    exact step_append_run hgd s x t ho _ _ _ _ hs hx hrun (h v w (by simpa using hown) (World.grownBy.refl w _))
  · have hl : (l.flatMap enc).length = m * size := by
      have : ∀ l : List α, (l.flatMap enc).length = l.length * size := fun l => by
        induction l with
        | nil => simp
        | cons x l ih => rw [List.flatMap_cons, List.length_append, ih, hk, List.length_cons, Nat.add_mul, Nat.one_mul, Nat.add_comm]
      rw [this, hr.1]
    obtain ⟨v', w', hrun, h2, h3, _, _⟩ := run_append_own_at (P := P) w base t o.type e i z size bytes ht hi hz hsize hby hzs hsz v n xs hown ad m c (l.flatMap enc) hl (hr.news hk) (fun u hu => by
      obtain ⟨x, _, hx⟩ := List.mem_flatMap.1 hu
      exact h1 x u hx) h63 hbytes hbase
    exact step_append_run hgd s x t ho _ _ _ _ hs hx hrun (h v' w' h2 h3)

/-- a literal's cells, behind an append to another block -/
theorem news_grown {Wa w6 : World} {B eb : Nat} {cs : Array Value} {t : TypeId} {fr : Nat × Nat} (hB : Wa.heap[B]? = some (.cells cs t fr)) (hg : Wa.grownBy w6 (some eb)) (hne : B ≠ eb) : ∀ j u, cs.toList[j]? = some u → w6.cell? ((⟨B, 0, none⟩ : Addr).add j) = some u := by
  intro j u hj
  have h0 := World.news_of_block hB j u hj
  have hb : ((⟨B, 0, none⟩ : Addr).add j).block = B := by unfold Addr.add; split <;> rfl
  have hl : B < Wa.heap.size := (Array.getElem?_eq_some_iff.1 hB).1
  rw [hg.cell_far _ (by rw [hb]; exact hl) (by rw [hb]; intro e; cases e; exact hne rfl)]
  exact h0
theorem news_two {W3 w6 : World} {cs : Array Value} {t e : TypeId} {n c : Nat} (hg : (((W3.alloc (.cells #[] e)).alloc (.cells cs t)).drew).grownBy w6 (Value.slice (some ⟨W3.heap.size, 0, none⟩) n c).ownBlock) : ∀ j u, cs.toList[j]? = some u → w6.cell? ((⟨W3.heap.size + 1, 0, none⟩ : Addr).add j) = some u := by
  have h0 := heap_alloc_new (W3.alloc (.cells #[] e)) (.cells cs t)
  rw [World.size_alloc] at h0
  exact news_grown (Wa := ((W3.alloc (.cells #[] e)).alloc (.cells cs t)).drew) (B := W3.heap.size + 1) (eb := W3.heap.size) (cs := cs) (t := t) (fr := (0, 0)) h0 hg (by omega)
theorem news_one {W3 w6 : World} {cs : Array Value} {t e : TypeId} {n c : Nat} (hg : (((W3.alloc (.cells cs t)).alloc (.cells #[] e)).drew).grownBy w6 (Value.slice (some ⟨W3.heap.size + 1, 0, none⟩) n c).ownBlock) : ∀ j u, cs.toList[j]? = some u → w6.cell? ((⟨W3.heap.size, 0, none⟩ : Addr).add j) = some u := by
  have h1 := (Blk.new W3 t cs).alloc (.cells #[] e)
  exact news_grown (Wa := ((W3.alloc (.cells cs t)).alloc (.cells #[] e)).drew) (B := W3.heap.size) (eb := W3.heap.size + 1) (cs := cs) (t := t) (fr := (0, 0)) h1 hg (by omega)
theorem own_low' {w : World} {b b' : Nat} {e : TypeId} {k n : Nat} {v : Value} {xs : List Value} (h : w.ownsRow b e k v n xs) (hb : b' ≤ b) : w.ownsRow b' e k v n xs := by
  refine ⟨h.1, ?_⟩
  rcases h.2 with h0 | ⟨g, cap, cur, hv, hbg, r⟩
  · exact .inl h0
  · exact .inr ⟨g, cap, cur, hv, Nat.le_trans hb hbg, r⟩
theorem own_two (W3 : World) (t : TypeId) (cs : Array Value) (e : TypeId) (k : Nat) : ((W3.alloc (.cells cs t)).alloc (.cells #[] e)).ownsRow W3.heap.size e k (.slice (some ⟨W3.heap.size + 1, 0, none⟩) 0 0) 0 [] := by
  have h0 := own_empty (W3.alloc (.cells cs t)) e k
  rw [World.size_alloc] at h0
  exact own_low' h0 (by omega)
section
variable {v : Vly} {s : Sli} {i : Nat}
theorem ztd_get (hi : i < v.pars.length) : ((dangs v (endsT v false)).zip (dangs v (endsT v true)))[i]? = some (dTo v.sls (endsT v false) (i : Int) v.sls.length, dTo v.sls (endsT v true) (i : Int) v.sls.length) :=
  List.getElem?_zip_eq_some.2 ⟨dangs_get hi, dangs_get hi⟩
theorem ztz_get (hi : i < v.pars.length) : (((dangs v (endsT v false)).map (zoneOf v)).zip ((dangs v (endsT v true)).map (zoneOf v)))[i]? = some (zoneOf v (dTo v.sls (endsT v false) (i : Int) v.sls.length), zoneOf v (dTo v.sls (endsT v true) (i : Int) v.sls.length)) :=
  List.getElem?_zip_eq_some.2 ⟨by rw [List.getElem?_map, dangs_get hi]; rfl, by rw [List.getElem?_map, dangs_get hi]; rfl⟩
theorem ends_more (b : Bool) : endsT ⟨v.pars, v.sls ++ [s], v.s0, v.s1, v.s2⟩ b = endsT v b ++ [if b then s.hi else s.lo] := by simp [endsT]
theorem d_more (hr : 0 ≤ s.rate ∧ s.rate ≤ 1000) (b : Bool) (p : Int) : dTo v.sls (endsT v b) p v.sls.length ≤ dTo (v.sls ++ [s]) (endsT ⟨v.pars, v.sls ++ [s], v.s0, v.s1, v.s2⟩ b) p (v.sls ++ [s]).length := by
  rw [ends_more]
  exact dTo_more_le endsT_len hr
end
/-- the dangers as ranges -/
def dgs (v : Vly) : List (Int × Int) := (dangs v (endsT v false)).zip (dangs v (endsT v true))
/-- the zones as ranges -/
def zns (v : Vly) : List (Int × Int) := ((dangs v (endsT v false)).map (zoneOf v)).zip ((dangs v (endsT v true)).map (zoneOf v))
theorem x_at {v : Vly} {m : Int} (hm : 0 ≤ m) {i : Nat} (hi : i < v.pars.length) : ∃ dl dh zl zh yl yh : Int, (dgs v)[i]? = some (dl, dh) ∧ (zns v)[i]? = some (zl, zh) ∧ (dgs (stp v m 3))[i]? = some (dl, dh) ∧ (zns (stp v m 3))[i]? = some (yl, yh) ∧ yl ≤ zl ∧ yh ≤ zh :=
  ⟨_, _, _, _, _, _, ztd_get hi, ztz_get hi, ztd_get (v := stp v m 3) hi, ztz_get (v := stp v m 3) hi,
    zoneOf_steps (by show v.s0 ≤ v.s0 + m; omega) (by show v.s1 ≤ v.s1 + m; omega) (by show v.s2 ≤ v.s2 + m; omega),
    zoneOf_steps (by show v.s0 ≤ v.s0 + m; omega) (by show v.s1 ≤ v.s1 + m; omega) (by show v.s2 ≤ v.s2 + m; omega)⟩
theorem y_at {v y : Vly} {s : Sli} (hy : y = ⟨v.pars, v.sls ++ [s], v.s0, v.s1, v.s2⟩) (hok : VOk y) {i : Nat} (hi : i < v.pars.length) : ∃ dl dh zl zh el eh yl yh : Int, (dgs v)[i]? = some (dl, dh) ∧ (zns v)[i]? = some (zl, zh) ∧ (dgs y)[i]? = some (el, eh) ∧ (zns y)[i]? = some (yl, yh) ∧ dl ≤ el ∧ dh ≤ eh ∧ zl ≤ yl ∧ zh ≤ yh := by
  have hr : 0 ≤ s.rate ∧ s.rate ≤ 1000 := by
    have := (hok.slide (k := v.sls.length) (s := s) (by rw [hy]; simp)).2.2.1
    omega
  subst hy
  have h1 := d_more (v := v) hr false (i : Int)
  have h2 := d_more (v := v) hr true (i : Int)
  have hz : ∀ d, zoneOf ⟨v.pars, v.sls ++ [s], v.s0, v.s1, v.s2⟩ d = zoneOf v d := fun _ => rfl
  exact ⟨_, _, _, _, _, _, _, _, ztd_get hi, ztz_get hi, ztd_get (v := ⟨v.pars, v.sls ++ [s], v.s0, v.s1, v.s2⟩) hi, ztz_get (v := ⟨v.pars, v.sls ++ [s], v.s0, v.s1, v.s2⟩) hi, h1, h2, by rw [hz]; exact zoneOf_mono h1, by rw [hz]; exact zoneOf_mono h2⟩
theorem ZonesB_c {v v' : Vly} {PA SA : Option Addr} {pn pc sn sc : Nat} {w : World} (hok : VOk v) (hal : VAlike v v') (h : RdV w PA pn SA sn v') :
    Calls Try.prog 19 #[.agg #[.slice PA pn pc, .slice SA sn sc, .int .i64 v'.s0, .int .i64 v'.s1, .int .i64 v'.s2]] w
      fun e w' => ∃ A1 c1 A2 c2, e = .returned (.tuple #[.slice A1 pn c1, .slice A2 pn c2, .int .i64 0]) ∧ Rd enc2 2 w' A1 pn (dgs v) ∧ Rd enc2 2 w' A2 pn (zns v) ∧ Below w.heap.size w w' := ZonesA_c hok hal h
end Go.Proofs.Ytphdndiikikecaa
