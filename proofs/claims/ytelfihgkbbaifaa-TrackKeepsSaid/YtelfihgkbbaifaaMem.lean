/- Small laws on the heap's blocks; frames by sets of blocks. No function of the program is named here. -/
import Derived.Test.YtelfihgkbbaifaaBase
import Derived.Handy
import Derived.Deep.DeepCutAuto
import Derived.Deep.RegionHeld3
namespace Go.Proofs.Ytelfihgkbbaifaa
open Go.RowKit

theorem name_world {P : World → Prop} {W : World} (h : ∀ wa, wa = W → P wa) : P W := h W rfl
theorem frozen_row {w : World} {g : Nat} {cs : Array Value} {t : TypeId} (h : w.heap[g]? = some (.cells cs t (0, 0))) (k : Nat) : w.frozen? ⟨g, k, none⟩ = false := by
  simp [World.frozen?, h]
/-- A block known whole: what the walk asks of it. -/
theorem row_look {w : World} {g : Nat} {cs : Array Value} {t : TypeId} (h : w.heap[g]? = some (.cells cs t (0, 0))) : (∀ o, w.cell? ⟨g, o, none⟩ = cs[o]?) ∧ (∀ o, w.frozen? ⟨g, o, none⟩ = false) ∧ g < w.heap.size :=
  ⟨fun o => cell_of_row _ _ o _ _ _ h, fun o => frozen_row h o, (Array.getElem?_eq_some_iff.1 h).1⟩
section
variable {w w' : World} {k : Nat} {o : Obj} {r : Option Obj}
theorem hl_lt {x : Obj} (h : w.heap[k]? = some x) : k < w.heap.size := (Array.getElem?_eq_some_iff.1 h).1
theorem hl_old (hk : k < w.heap.size) (h : w.heap[k]? = r) : (w.alloc o).heap[k]? = r := (Below.heap_alloc w o k hk).trans h
theorem hl_keep {x : Obj} (h : w.heap[k]? = some x) : (w.alloc o).heap[k]? = some x := hl_old (hl_lt h) h
theorem hl_new (hk : k = w.heap.size) : (w.alloc o).heap[k]? = some o := by subst hk; exact heap_alloc_new w o
theorem hl_new' {o' : Obj} (hk : k = w.heap.size) (e : o = o') : (w.alloc o).heap[k]? = some o' := by subst e; exact hl_new hk
theorem hl_drew (h : w.heap[k]? = r) : w.drew.heap[k]? = r := h
theorem hl_drewN (n : Nat) (h : w.heap[k]? = r) : (w.drewN n).heap[k]? = r := h
theorem hl_far {p : Addr} {v : Value} (hk : k ≠ p.block) (h : w.heap[k]? = r) : (w.setCell p v).heap[k]? = r := (Below.heap_setCell w p v k hk).trans h
theorem hl_set {cs cs' : Array Value} {t : TypeId} {fr : Nat × Nat} {off : Nat} {v : Value} (e : cs.setIfInBounds off v = cs') (h : w.heap[k]? = some (.cells cs t fr)) : (w.setCell ⟨k, off, none⟩ v).heap[k]? = some (.cells cs' t fr) := by
  subst e; simp [World.setCell, Array.getElem?_modify, h]
theorem hl_row {cs cs' : Array Value} {t : TypeId} {fr : Nat × Nat} (h : w.heap[k]? = some (.cells cs t fr)) : (w.setRow k cs').heap[k]? = some (.cells cs' t fr) := by
  simp [World.setRow, Array.getElem?_modify, h]
theorem hl_rowfar {g : Nat} {cs' : Array Value} (hk : g ≠ k) (h : w.heap[k]? = r) : (w.setRow g cs').heap[k]? = r := (setRow_other w g k cs' (Ne.symm hk)).trans h
theorem hl_below {B : Nat} (hb : Below B w w') (hk : k < B) (h : w.heap[k]? = r) : w'.heap[k]? = r := (hb.block k hk).trans h
theorem hl_grow {x : Obj} (hb : Below w.heap.size w w') (h : w.heap[k]? = some x) : w'.heap[k]? = some x := (hb.block k (hl_lt h)).trans h
theorem below_row {B : Nat} {a : World} (h : Below B a w) {g : Nat} (hg : B ≤ g) (cs : Array Value) : Below B a (w.setRow g cs) :=
  h.trans ⟨rfl, rfl, rfl, by simp [World.setRow], fun k hk => by
    simp only [World.setRow, Array.getElem?_modify]
    rw [if_neg (by omega)]⟩
theorem alloc_call {cs : Array Value} {t : TypeId} (b : Below (w.alloc (.cells cs t)).heap.size (w.alloc (.cells cs t)) w') : w'.heap[w.heap.size]? = some (.cells cs t (0, 0)) ∧ w.heap.size < w'.heap.size ∧ Below w.heap.size w w' :=
  ⟨hl_below b (by simp) (hl_new rfl), by have := b.size; simp at this; omega, ((Below.refl _ _).alloc (Nat.le_refl _) _).trans (b.mono (by simp))⟩
/-- Two blocks of different element types are two. -/
theorem row_ne {g g' : Nat} {cs cs' : Array Value} {t t' : TypeId} {fr fr' : Nat × Nat} (h : w.heap[g]? = some (.cells cs t fr)) (h' : w.heap[g']? = some (.cells cs' t' fr')) (hne : t ≠ t') : g ≠ g' := by
  rintro rfl
  rw [h] at h'
  injection h' with h'
  injection h' with _ ht
  exact hne ht
theorem own_row_ne {base g : Nat} {e t : TypeId} {size n : Nat} {v : Value} {xs : List Value} {cs : Array Value} {fr : Nat × Nat} (h : w.ownsRow base e size v n xs) (hg : w.heap[g]? = some (.cells cs t fr)) (hne : e ≠ t) : v.ownBlock ≠ some g := by
  rcases h.2 with ⟨rfl, _⟩ | ⟨g', cap, cur, rfl, _, hh, _⟩
  · simp [Value.ownBlock]
  · intro he
    have : g' = g := by simpa [Value.ownBlock] using he
    subst this
    exact row_ne hh hg hne rfl
theorem own_own_ne {base base' : Nat} {e t : TypeId} {size n size' n' : Nat} {v v' : Value} {xs xs' : List Value} (h : w.ownsRow base e size v n xs) (h' : w.ownsRow base' t size' v' n' xs') (hne : e ≠ t) : ∀ g, v.ownBlock = some g → v'.ownBlock ≠ some g := by
  intro g hg
  rcases h.2 with ⟨rfl, _⟩ | ⟨g', cap, cur, rfl, _, hh, _⟩
  · simp [Value.ownBlock] at hg
  · have : g' = g := by simpa [Value.ownBlock] using hg
    subst this
    exact own_row_ne h' hh (Ne.symm hne)
theorem own_lit1 (w : World) (e : TypeId) (cs : Array Value) (n : Nat) (hs : cs.size = n) (hm : n ≤ maxLen) : (w.alloc (.cells cs e)).ownsRow w.heap.size e 1 (.slice (some ⟨w.heap.size, 0, none⟩) n n) n cs.toList :=
  World.ownsRow_lit w cs n (Nat.le_refl _) hm (by omega)
end

/-- Only the blocks of T may have turned; all else that was there is as it was. -/
structure Fr (T : Nat → Prop) (w w' : World) : Prop where
  os : w'.os = w.os
  tape : w'.tape = w.tape
  output : w'.output = w.output
  size : w.heap.size ≤ w'.heap.size
  block : ∀ b, b < w.heap.size → ¬ T b → w'.heap[b]? = w.heap[b]?
section
variable {T T' : Nat → Prop} {w w' w'' : World} {B : Nat}
theorem Fr.refl (T : Nat → Prop) (w : World) : Fr T w w := ⟨rfl, rfl, rfl, Nat.le_refl _, fun _ _ _ => rfl⟩
theorem Fr.mono (h : Fr T w w') (hT : ∀ b, b < w.heap.size → T b → T' b) : Fr T' w w' := ⟨h.os, h.tape, h.output, h.size, fun b hb hn => h.block b hb (fun ht => hn (hT b hb ht))⟩
theorem Fr.trans (h : Fr T w w') (h' : Fr T' w' w'') (hT : ∀ b, b < w.heap.size → T' b → T b) : Fr T w w'' :=
  ⟨h'.os.trans h.os, h'.tape.trans h.tape, h'.output.trans h.output, Nat.le_trans h.size h'.size,
   fun b hb hn => (h'.block b (Nat.lt_of_lt_of_le hb h.size) (fun ht => hn (hT b hb ht))).trans (h.block b hb hn)⟩
theorem Fr.of_below (h : Below B w w') (hT : ∀ b, B ≤ b → b < w.heap.size → T b) : Fr T w w' := ⟨h.os, h.tape, h.output, h.size, fun b hb hn => h.block b (by
  rcases Nat.lt_or_ge b B with h1 | h1
  · exact h1
  · exact absurd (hT b h1 hb) hn)⟩
theorem Fr.of_grow (h : Below w.heap.size w w') : Fr T w w' := Fr.of_below h (fun b h1 h2 => absurd h1 (by omega))
theorem Fr.then (h : Fr T w w') (h' : Below w'.heap.size w' w'') : Fr T w w'' := h.trans (T' := fun _ => False) (Fr.of_grow h') (fun _ _ h => h.elim)
theorem Fr.to_below (h : Fr T w w') (hT : ∀ b, b < w.heap.size → T b → B ≤ b) (hB : B ≤ w.heap.size) : Below B w w' := ⟨h.os, h.tape, h.output, h.size, fun b hb => h.block b (by omega) (fun ht => absurd (hT b (by omega) ht) (by omega))⟩
theorem Fr.alloc (h : Fr T w w') (o : Obj) : Fr T w (w'.alloc o) := h.then ((Below.refl _ _).alloc (Nat.le_refl _) o)
theorem Fr.drew (h : Fr T w w') : Fr T w w'.drew := ⟨h.os, h.tape, h.output, h.size, h.block⟩
theorem Fr.drewN (h : Fr T w w') (n : Nat) : Fr T w (w'.drewN n) := ⟨h.os, h.tape, h.output, h.size, h.block⟩
theorem Fr.setCell (h : Fr T w w') {p : Addr} (hp : p.block < w.heap.size → T p.block) (v : Value) : Fr T w (w'.setCell p v) :=
  ⟨h.os, h.tape, h.output, by simpa [World.setCell] using h.size, fun b hb hn => (Below.heap_setCell w' p v b (by rintro rfl; exact hn (hp hb))).trans (h.block b hb hn)⟩
theorem Fr.setNew (h : Fr T w w') {p : Addr} (hp : w.heap.size ≤ p.block) (v : Value) : Fr T w (w'.setCell p v) := h.setCell (fun h1 => absurd hp (by omega)) v
theorem Fr.setRow (h : Fr T w w') {g : Nat} (hp : g < w.heap.size → T g) (cs : Array Value) : Fr T w (w'.setRow g cs) :=
  ⟨h.os, h.tape, h.output, by simpa [World.setRow] using h.size, fun b hb hn => (setRow_other w' g b cs (by rintro rfl; exact hn (hp hb))).trans (h.block b hb hn)⟩
theorem Fr.grown {row : Option Nat} (h : Fr T w w') (hg : w'.grownBy w'' row) (hr : ∀ g, row = some g → g < w.heap.size → T g) : Fr T w w'' :=
  ⟨hg.os.trans h.os, hg.tape.trans h.tape, hg.output.trans h.output, Nat.le_trans h.size hg.size,
   fun b hb hn => (hg.block b (Nat.lt_of_lt_of_le hb h.size) (fun e => hn (hr b e.symm hb))).trans (h.block b hb hn)⟩
theorem Fr.row (h : Fr T w w') {b : Nat} {o : Obj} (hr : w.heap[b]? = some o) (hT : ¬ T b) : w'.heap[b]? = some o := (h.block b (hl_lt hr) hT).trans hr
theorem Fr.at_ (h : Fr T w w') {A : Option Addr} {xs : List Value} (ha : At w B A xs) (hT : ∀ b, b < B → ¬ T b) : At w' B A xs := fun hx => by
  obtain ⟨b, off, e, hb, hc⟩ := ha hx
  refine ⟨b, off, e, hb, fun j u hu => ?_⟩
  have h1 := hc j u hu
  have hz : b < w.heap.size := World.block_lt_of_cell? w ⟨b, off + j, none⟩ h1
  rw [World.cell?_of_block (a := ⟨b, off + j, none⟩) (h.block b hz (hT b hb))]
  exact h1
theorem Fr.own {base : Nat} {e : TypeId} {size n : Nat} {v : Value} {xs : List Value} (h : Fr T w w') (ho : w.ownsRow base e size v n xs) (hT : ∀ g, v.ownBlock = some g → ¬ T g) : w'.ownsRow base e size v n xs := by
  refine ⟨ho.1, ?_⟩
  rcases ho.2 with h2 | ⟨g, cap, cur, hv, hg, hh, r⟩
  · exact Or.inl h2
  · exact Or.inr ⟨g, cap, cur, hv, hg, h.row hh (hT g (by subst hv; simp [Value.ownBlock])), r⟩
end
/-- What a call owns stays owned while nothing that was there is touched. -/
theorem own_grow {w w' : World} {base : Nat} {e : TypeId} {size n : Nat} {v : Value} {xs : List Value} (ho : w.ownsRow base e size v n xs) (h : Below w.heap.size w w') : w'.ownsRow base e size v n xs := own_below ho h
theorem own_lt {w : World} {base : Nat} {e : TypeId} {size n : Nat} {v : Value} {xs : List Value} (ho : w.ownsRow base e size v n xs) : ∀ g, v.ownBlock = some g → base ≤ g ∧ g < w.heap.size := ho.lt
theorem own_raise {w : World} {base base' : Nat} {e : TypeId} {size n : Nat} {v : Value} {xs : List Value} (ho : w.ownsRow base e size v n xs) (h : ∀ g, v.ownBlock = some g → base' ≤ g) : w.ownsRow base' e size v n xs := by
  refine ⟨ho.1, ?_⟩
  rcases ho.2 with h2 | ⟨g, cap, cur, hv, hg, r⟩
  · exact Or.inl h2
  · exact Or.inr ⟨g, cap, cur, hv, h g (by subst hv; simp [Value.ownBlock]), r⟩
theorem at_news (w : World) (us : List Value) (e : TypeId) : At (w.alloc (.cells us.toArray e)) (w.heap.size + 1) (some ⟨w.heap.size, 0, none⟩) us := fun _ => by
  refine ⟨w.heap.size, 0, rfl, by omega, fun j u hu => ?_⟩
  rw [Nat.zero_add, cell_of_row _ _ _ _ e (0, 0) (heap_alloc_new w _)]
  simpa using hu
/-- 'append(out, x)' of one element as one step of a region that draws its order: just the row of out, and what is new, has turned. -/
theorem step_push {P : Program} {ops : Array Oper} {o : Oper} {a : Act} {w : World} {K : Act → World → Prop} {Q : Exit → Act → World → Prop} {X : Prop} (hgd : o.guard = none) (s x : Operand) (t : TypeId)
    (ho : o.op = .call { callee := .builtin .append, args := #[s, x], argTypes := #[t, t] }) {e : TypeId} {z : Value} {size bytes : Nat} (E : Elem P t e z size bytes)
    (w0 : World) (us : List Value) (hw : w = w0.alloc (.cells us.toArray e)) (hus : us.length = size) (h1 : ∀ u ∈ us, u.oneCell' = true)
    (base : Nat) (v : Value) (n : Nat) (xs : List Value) (hs : a.eval s = v) (hx : a.eval x = .slice (some ⟨w0.heap.size, 0, none⟩) 1 1) (hown : w0.ownsRow base e size v n xs)
    (h63 : n + 1 ≤ maxLen) (hbytes : (n + 1) * bytes ≤ 140737488355328) (hbase : base ≤ w0.heap.size)
    (h : ∀ A c w', w'.ownsRow base e size (.slice A (n + 1) c) (n + 1) (xs ++ us) → w0.grownBy w' v.ownBlock → K (a.put o.dst (.slice A (n + 1) c)) w') : if Region.wanted o (yielded ops a.tmps) = true then Oper.wp P o a w K Q else X := by
  subst hw
  rw [if_pos (by simp [Region.wanted, hgd])]
  exact wp_append_at s x t ho E base v n xs hs (hown.alloc _) (w0.heap.size + 1) (some ⟨w0.heap.size, 0, none⟩) 1 1 us hx (at_news w0 us e) (by rw [hus, Nat.one_mul]) h1 h63 hbytes (by simp; omega) fun A' c' w' h2 h3 => h A' c' w' h2 (grown_of_alloc h3)
/-- What is owned can be read, whatever the size of its elements. -/
theorem own_at3 {w : World} {B : Nat} {e : TypeId} {size n c : Nat} {A : Option Addr} {xs : List Value} (h : w.ownsRow B e size (.slice A n c) n xs) : At w w.heap.size A xs := fun hx => by
  rcases h.2 with ⟨hv, h0⟩ | ⟨g, cap, cur, hv, hg, hh, _⟩
  · subst h0
    exact absurd (List.eq_nil_of_length_eq_zero (by simpa using h.1)) hx
  · injection hv with hA _ _
    subst hA
    refine ⟨g, 0, rfl, (Array.getElem?_eq_some_iff.1 hh).1, fun j u hu => ?_⟩
    have := h.cells (g := g) rfl j u hu
    rwa [add_none] at this
/-- Where the row of an append now lies. -/
theorem Fr.push {T : Nat → Prop} {w w0 w' : World} {row : Option Nat} (h : Fr T w w0) (hg : w0.grownBy w' row) (hr : ∀ g, row = some g → g < w.heap.size → T g) : Fr T w w' := h.grown hg hr
end Go.Proofs.Ytelfihgkbbaifaa
