/- REGIONS THAT DRAW THEIR ORDER, whose operations and callees keep a given property of the world (a map that a callee fills, say): one walk of the text's order. -/
import Derived.Test.YtkgoojilmnkgiaaRegion
namespace Go.Proofs.Ytkgoojilmnkgiaa
open Go.RowKit

/-- A world that has the property. -/
def Kx (K : World → Prop) : Type := { W : World // K W }
section
variable {K : World → Prop} {P : Program}
def Kx.w (p : Kx K) : World := p.1
theorem Kx.ok (p : Kx K) : K p.w := p.2
@[go_sem] theorem Kx.ex (p : Kx K) : (∃ q : Kx K, p.w = q.w) = True := by simp only [eq_iff_iff, iff_true]; exact ⟨p, rfl⟩

theorem kx_call {f : FuncId} {args : Array Value} {v : Value} {p : Kx K} (hcl : ∀ W', Below p.w.heap.size p.w W' → K W') (h : Calls P f args p.w fun e w' => e = .returned v ∧ Below p.w.heap.size p.w w') :
    Calls P f args p.w fun e w'' => e = .returned v ∧ ∃ q : Kx K, w'' = q.w :=
  h.mono fun _ w' ⟨he, hb⟩ => ⟨he, ⟨w', hcl w' hb⟩, rfl⟩
theorem kx_any {f : FuncId} {args : Array Value} {v : Value} {p : Kx K} (h : Calls P f args p.w fun e w' => e = .returned v ∧ K w') :
    Calls P f args p.w fun e w'' => e = .returned v ∧ ∃ q : Kx K, w'' = q.w :=
  h.mono fun _ w' ⟨he, hb⟩ => ⟨he, ⟨w', hb⟩, rfl⟩

theorem wp_region_kx {id : Nat} {Q : Exit → Act → World → Prop} {a : Act} {w : World} {l : List Oper} (K : World → Prop) (hm : P.follows .mixedOrders = true) (hB : Region.lexB .any l.toArray = true) (hd : K w.drew)
    (h : wpQuiet P l.toArray (fun w' => ∃ p : Kx K, w' = p.w) (fun a' => ∀ w', (∃ p : Kx K, w' = p.w) → Q .normal a' w') l a) : (Code.region id l.toArray true).wp P Q a w :=
  wp_region_quiet (C := fun w' => ∃ p : Kx K, w' = p.w) hm hB ⟨⟨w.drew, hd⟩, rfl⟩ (by simpa using h)
end
end Go.Proofs.Ytkgoojilmnkgiaa
