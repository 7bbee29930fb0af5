/- Small laws on the heap's blocks, for closing what a walk leaves. -/
import Derived.Test.YtheiickihjcdlaaDec
namespace Go.Proofs.Ytheiickihjcdlaa
open Go.RowKit

/-- A block known whole: what the walk asks of it. -/
theorem row_look {w : World} {g : Nat} {cs : Array Value} {t : TypeId} (h : w.heap[g]? = some (.cells cs t (0, 0))) : (∀ o, w.cell? ⟨g, o, none⟩ = cs[o]?) ∧ (∀ o, w.frozen? ⟨g, o, none⟩ = false) ∧ g < w.heap.size :=
  ⟨fun o => cell_of_row _ _ o _ _ _ h, fun o => frozen_row h o, (Array.getElem?_eq_some_iff.1 h).1⟩
section
variable {w w' : World} {k : Nat} {o : Obj} {r : Option Obj}
theorem hl_lt {x : Obj} (h : w.heap[k]? = some x) : k < w.heap.size := (Array.getElem?_eq_some_iff.1 h).1
theorem hl_old (hk : k < w.heap.size) (h : w.heap[k]? = r) : (w.alloc o).heap[k]? = r := (Below.heap_alloc w o k hk).trans h
theorem hl_new (hk : k = w.heap.size) : (w.alloc o).heap[k]? = some o := by subst hk; exact heap_alloc_new w o
theorem hl_new' {o' : Obj} (hk : k = w.heap.size) (e : o = o') : (w.alloc o).heap[k]? = some o' := by subst e; exact hl_new hk
theorem hl_drew (h : w.heap[k]? = r) : w.drew.heap[k]? = r := h
theorem hl_drewN (n : Nat) (h : w.heap[k]? = r) : (w.drewN n).heap[k]? = r := h
theorem hl_far {p : Addr} {v : Value} (hk : k ≠ p.block) (h : w.heap[k]? = r) : (w.setCell p v).heap[k]? = r := (Below.heap_setCell w p v k hk).trans h
theorem hl_set {cs cs' : Array Value} {t : TypeId} {fr : Nat × Nat} {off : Nat} {v : Value} (e : cs.setIfInBounds off v = cs') (h : w.heap[k]? = some (.cells cs t fr)) : (w.setCell ⟨k, off, none⟩ v).heap[k]? = some (.cells cs' t fr) := by
  subst e; exact rowc_set h off v
theorem hl_row {cs cs' : Array Value} {t : TypeId} {fr : Nat × Nat} (h : w.heap[k]? = some (.cells cs t fr)) : (w.setRow k cs').heap[k]? = some (.cells cs' t fr) := rowc_row h cs'
theorem hl_rowfar {g : Nat} {cs' : Array Value} (hk : g ≠ k) (h : w.heap[k]? = r) : (w.setRow g cs').heap[k]? = r := (setRow_other w g k cs' (Ne.symm hk)).trans h
theorem hl_below {B : Nat} (hb : Below B w w') (hk : k < B) (h : w.heap[k]? = r) : w'.heap[k]? = r := (hb.block k hk).trans h
theorem alloc_call {cs : Array Value} {t : TypeId} (b : Below (w.alloc (.cells cs t)).heap.size (w.alloc (.cells cs t)) w') : w'.heap[w.heap.size]? = some (.cells cs t (0, 0)) ∧ w.heap.size < w'.heap.size ∧ Below w.heap.size w w' :=
  ⟨hl_below b (by simp) (hl_new rfl), by have := b.size; simp at this; omega, ((Below.refl _ _).alloc (Nat.le_refl _) _).trans (b.mono (by simp))⟩
end
end Go.Proofs.Ytheiickihjcdlaa
