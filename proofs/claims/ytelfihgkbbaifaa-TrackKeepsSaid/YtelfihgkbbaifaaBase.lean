/- Words for memory: a slice value that reads as a list of cells; what a call of its own owns. No function of the program is named here. -/
import Derived.Test.YtelfihgkbbaifaaProg
import Derived.WalkKit
import Derived.WalkSpells
import Derived.WalkLawsBesides
import Derived.Lib.Strings
import Derived.Lib.Hide
import Derived.Lib.UnsafeStr
import Derived.Lib.Builder
import Derived.Deep.QuietTactic
import Derived.Laws.CopyOwn
import Derived.BigQuiet
namespace Go.Proofs.Ytelfihgkbbaifaa
open Go.RowKit

/-- The address A leads to the cells xs, all in one block below B (nothing is said where xs is empty). -/
def At (w : World) (B : Nat) (A : Option Addr) (xs : List Value) : Prop :=
  xs ≠ [] → ∃ b off, A = some ⟨b, off, none⟩ ∧ b < B ∧ ∀ (j : Nat) (u : Value), xs[j]? = some u → w.cell? ⟨b, off + j, none⟩ = some u

section
variable {w w' : World} {B B' : Nat} {A : Option Addr} {xs : List Value}
theorem At.nil_ : At w B A [] := fun h => absurd rfl h
theorem At.mono (h : At w B A xs) (hB : B ≤ B') : At w B' A xs := fun hx => by
  obtain ⟨b, off, e, hb, hc⟩ := h hx
  exact ⟨b, off, e, by omega, hc⟩
theorem At.keep (h : At w B A xs) (hk : ∀ p : Addr, p.block < B → w'.cell? p = w.cell? p) : At w' B A xs := fun hx => by
  obtain ⟨b, off, e, hb, hc⟩ := h hx
  exact ⟨b, off, e, hb, fun j u hu => (hk _ (by exact hb)).trans (hc j u hu)⟩
theorem At.below (h : At w B A xs) (hb : Below B w w') : At w' B A xs := h.keep fun _ hp => hb.cell hp
theorem At.drewN (h : At w B A xs) (n : Nat) : At (w.drewN n) B A xs := h
theorem At.alloc (h : At w B A xs) (hB : B ≤ w.heap.size) (o : Obj) : At (w.alloc o) B A xs := h.below ((Below.refl _ _).alloc hB o)
theorem At.cell (h : At w B A xs) {k : Nat} {u : Value} (hk : xs[k]? = some u) : ∃ b off, A = some ⟨b, off, none⟩ ∧ b < B ∧ w.cell? ⟨b, off + k, none⟩ = some u := by
  obtain ⟨b, off, e, hb, hc⟩ := h (by rintro rfl; simp at hk)
  exact ⟨b, off, e, hb, hc k u hk⟩
theorem At.take (h : At w B A xs) (k : Nat) : At w B A (xs.take k) := fun hx => by
  obtain ⟨b, off, e, hb, hc⟩ := h (by rintro rfl; simp at hx)
  refine ⟨b, off, e, hb, fun j u hu => hc j u ?_⟩
  rw [List.getElem?_take] at hu
  split at hu
  · exact hu
  · cases hu
theorem add_none (b off j : Nat) : (⟨b, off, none⟩ : Addr).add j = ⟨b, off + j, none⟩ := by
  unfold Addr.add; split
  · subst_vars; rfl
  · rfl
theorem own_at {e : TypeId} {n c : Nat} (h : w.ownsRow B e 1 (.slice A n c) n xs) : At w w.heap.size A xs := fun hx => by
  rcases h.2 with ⟨hv, h0⟩ | ⟨g, cap, cur, hv, hg, hh, _⟩
  · subst h0
    exact absurd (List.eq_nil_of_length_eq_zero (by simpa using h.1)) hx
  · injection hv with hA _ _
    subst hA
    refine ⟨g, 0, rfl, (Array.getElem?_eq_some_iff.1 hh).1, fun j u hu => ?_⟩
    have := h.cells (g := g) rfl j u hu
    rwa [add_none] at this
/-- What a call owns stays owned while blocks from B' on are made or written. -/
theorem own_below {e : TypeId} {size n : Nat} {v : Value} (h : w.ownsRow B e size v n xs) (hb : Below w.heap.size w w') : w'.ownsRow B e size v n xs := by
  refine ⟨h.1, ?_⟩
  rcases h.2 with h2 | ⟨g, cap, cur, hv, hg, hh, r⟩
  · exact Or.inl h2
  · exact Or.inr ⟨g, cap, cur, hv, hg, by rw [hb.block g (Array.getElem?_eq_some_iff.1 hh).1]; exact hh, r⟩
theorem own_mono {e : TypeId} {size n : Nat} {v : Value} (h : w.ownsRow B e size v n xs) (hB : B' ≤ B) : w.ownsRow B' e size v n xs := by
  refine ⟨h.1, ?_⟩
  rcases h.2 with h2 | ⟨g, cap, cur, hv, hg, r⟩
  · exact Or.inl h2
  · exact Or.inr ⟨g, cap, cur, hv, by omega, r⟩
theorem own_slice {e : TypeId} {size n : Nat} {v : Value} (h : w.ownsRow B e size v n xs) : ∃ A c, v = .slice A n c ∧ n ≤ c ∧ c ≤ maxLen := by
  rcases h.2 with ⟨hv, h0⟩ | ⟨g, cap, cur, hv, _, _, hc, hm, _⟩
  · subst h0; exact ⟨none, 0, hv, Nat.le_refl _, by unfold maxLen; omega⟩
  · exact ⟨_, cap, hv, hc, hm⟩
end

theorem below_drewN {B : Nat} {a w : World} (h : Below B a w) (n : Nat) : Below B a (w.drewN n) := ⟨h.os, h.tape, h.output, h.size, h.block⟩

/-- Nothing has turned but the count of draws. -/
def Still (w w' : World) : Prop := ∃ n, w' = w.drewN n
theorem still_refl (w : World) : Still w w := ⟨0, rfl⟩
theorem still_1 (w : World) (n : Nat) : Still w (w.drewN n) := ⟨n, rfl⟩
theorem still_2 (w : World) (n m : Nat) : Still w ((w.drewN n).drewN m) := ⟨n + m, by simp⟩
theorem Still.below {w w' : World} (h : Still w w') (B : Nat) : Below B w w' := by
  obtain ⟨n, rfl⟩ := h; exact below_drewN (Below.refl _ _) n
theorem Still.trans {a b c : World} (h : Still a b) (k : Still b c) : Still a c := by
  obtain ⟨n, rfl⟩ := h; obtain ⟨m, rfl⟩ := k; exact still_2 _ _ _

/-- A slice's length, for a loop's measure. -/
def slen : Value → Nat | .slice _ n _ => n | _ => 0

/-- A byte as a value; bytes as cells. -/
theorem byteCells_get (l : List UInt8) (k : Nat) (h : k < l.length) : (Lib.byteCells l)[k]? = some (.int .u8 (l[k].toNat : Int)) := by
  simp [Lib.byteCells, h]
theorem byteCells_len (l : List UInt8) : (Lib.byteCells l).length = l.length := by simp [Lib.byteCells]

theorem byte_beq_no {x y : UInt8} (h : x ≠ y) : ((x.toNat : Int) == (y.toNat : Int)) = false := by
  rw [beq_eq_false_iff_ne]; exact fun e => h (UInt8.toNat_inj.1 (by exact_mod_cast e))
theorem byte_beq_yes {x y : UInt8} (h : x = y) : ((x.toNat : Int) == (y.toNat : Int)) = true := by rw [h]; simp
theorem byte_bne_no {x y : UInt8} (h : x ≠ y) : ((x.toNat : Int) != (y.toNat : Int)) = true := by
  rw [bne_iff_ne]; exact fun e => h (UInt8.toNat_inj.1 (by exact_mod_cast e))
theorem byte_bne_yes {x y : UInt8} (h : x = y) : ((x.toNat : Int) != (y.toNat : Int)) = false := by rw [h]; simp
theorem ret_bool {a b : Bool} (h : a = b) : Ending.returned (.bool a) = .returned (.bool b) := by rw [h]
theorem ret_int {k : IntKind} {a b : Int} (h : a = b) : Ending.returned (.int k a) = .returned (.int k b) := by rw [h]
theorem ret_ib {k : IntKind} {a b : Int} {p q : Bool} (h : a = b) (g : p = q) : Ending.returned (.tuple #[.int k a, .bool p]) = .returned (.tuple #[.int k b, .bool q]) := by rw [h, g]

/-- An operation whose run is known outright. -/
theorem wpList_known {P : Program} {ops : Array Oper} {rest : List Oper} {o : Oper} {a : Act} {w : World} {Q : Exit → Act → World → Prop} (hgd : o.guard = none)
    (v : Value) (w' : World) (h : (execOp a.eval o).run P w = .ok (.value v) w') (hk : wpList P ops Q rest (a.put o.dst v) w') : wpList P ops Q (o :: rest) a w := by
  refine wpList_plain hgd fun K hK => ?_
  unfold Oper.wp
  rw [h]
  exact hK _ _ hk
/-- A composite literal of a slice. -/
theorem wpList_literal {P : Program} {ops : Array Oper} {rest : List Oper} {o : Oper} {a : Act} {w : World} {Q : Exit → Act → World → Prop} (t : TypeId) (n : Nat) (parts : Array (Nat × Operand)) (_hop : o.op = .buildSlice t n parts) (hgd : o.guard = none)
    (v : Value) (w' : World) (h : (execOp a.eval o).run P w = .ok (.value v) w') (hk : wpList P ops Q rest (a.put o.dst v) w') : wpList P ops Q (o :: rest) a w :=
  wpList_known hgd v w' h hk

/-- What an append or a make asks of a slice type t and its element type e. -/
structure Elem (P : Program) (t e : TypeId) (z : Value) (size bytes : Nat) : Prop where
  under : P.underlying t = some (.slice e)
  info : (P.info? e).map (fun i => (i.zero, i.size, i.bytes)) = some (some z, size, bytes)
  cells : z.cells.size = size
  pos : 0 < size

theorem grown_of_alloc {w w' : World} {o : Obj} {row : Option Nat} (h : (w.alloc o).grownBy w' row) : w.grownBy w' row :=
  ⟨h.os, h.tape, h.output, Nat.le_trans (by simp) h.size, fun k hk hne => (h.block k (by simp; omega) hne).trans (Below.heap_alloc w o k hk)⟩

/-- 'out = append(out, x)' of one element, out the call's own. -/
theorem wpList_push {P : Program} {ops : Array Oper} {rest : List Oper} {o : Oper} {a : Act} {w : World} {Q : Exit → Act → World → Prop} (hgd : o.guard = none) (s x : Operand) (t : TypeId)
    (ho : o.op = .call { callee := .builtin .append, args := #[s, x], argTypes := #[t, t] }) {e : TypeId} {z : Value} {size bytes : Nat} (E : Elem P t e z size bytes)
    (w0 : World) (us : List Value) (hw : w = w0.alloc (.cells us.toArray e)) (hus : us.length = size) (h1 : ∀ u ∈ us, u.oneCell' = true)
    (base : Nat) (v : Value) (n : Nat) (xs : List Value) (hs : a.eval s = v) (hx : a.eval x = .slice (some ⟨w0.heap.size, 0, none⟩) 1 1) (hown : w0.ownsRow base e size v n xs)
    (h63 : n + 1 ≤ maxLen) (hbytes : (n + 1) * bytes ≤ 140737488355328) (hbase : base ≤ w0.heap.size)
    (h : ∀ A c w', w'.ownsRow base e size (.slice A (n + 1) c) (n + 1) (xs ++ us) → w0.grownBy w' v.ownBlock → wpList P ops Q rest (a.put o.dst (.slice A (n + 1) c)) w') : wpList P ops Q (o :: rest) a w := by
  subst hw
  obtain ⟨i, hi, hz, hsi, hb⟩ := info_parts E.info
  refine wpList_append_own _ hgd s x t ho base e i z size bytes E.under hi hz hsi hb E.cells E.pos v n xs hs (hown.alloc _) ⟨w0.heap.size, 0, none⟩ 1 1 us hx (by rw [hus, Nat.one_mul]) ?_ h1 h63 hbytes (by simp; omega) ?_
  · intro j u hu
    rw [add_none, Nat.zero_add, cell_of_row _ _ _ _ e (0, 0) (heap_alloc_new w0 _)]
    simpa using hu
  · intro v' w' hown' hg _
    obtain ⟨A, c, rfl, _, _⟩ := own_slice hown'
    exact h A c w' hown' (grown_of_alloc hg)

/-- 'make([]T, n)'. -/
theorem wpList_make {P : Program} {ops : Array Oper} {rest : List Oper} {o : Oper} {a : Act} {w : World} {Q : Exit → Act → World → Prop} (hgd : o.guard = none) (l c : Operand) (t : TypeId) (ho : o.op = Op.makeSlice t l c)
    {e : TypeId} {z : Value} {size bytes : Nat} (E : Elem P t e z size bytes) (kl kc : IntKind) (L C : Int) (n : Nat) (hl : a.eval l = .int kl L) (hc : a.eval c = .int kc C) (hL : L = (n : Int)) (hC : C = (n : Int))
    (hb : bytes * n ≤ 281474976710656) (hm : n ≤ maxLen)
    (h : ∀ w', w'.ownsRow w.heap.size e size (.slice (some ⟨w.heap.size, 0, none⟩) n n) n (madeCells z.cells (n * size)).toList → Below w.heap.size w w' → wpList P ops Q rest (a.put o.dst (.slice (some ⟨w.heap.size, 0, none⟩) n n)) w') : wpList P ops Q (o :: rest) a w := by
  obtain ⟨i, hi, hz, hsi, hby⟩ := info_parts E.info
  refine wpList_make_full w hgd l c t ho w.heap.size e i z size E.under hi hz hsi kl kc L C n hl hc hL hC (by rw [hby]; exact hb) hm (Nat.le_refl _) ?_
  intro w' hown hg
  exact h w' hown ((Below.refl _ _).grown hg (Nat.le_refl _) (by intro k hk; cases hk))

theorem wp_known {P : Program} {o : Oper} {a : Act} {w : World} {K : Act → World → Prop} {Q : Exit → Act → World → Prop} (v : Value) (w' : World) (h : (execOp a.eval o).run P w = .ok (.value v) w') (hk : K (a.put o.dst v) w') : o.wp P a w K Q := by
  unfold Oper.wp
  rw [h]
  exact hk

/-- 'out = append(out, xs...)', out the call's own, xs whatever reads as a list (nil and empty too). -/
theorem wp_append_at {P : Program} {o : Oper} {a : Act} {w : World} {K : Act → World → Prop} {Q : Exit → Act → World → Prop} (s x : Operand) (t : TypeId)
    (ho : o.op = .call { callee := .builtin .append, args := #[s, x], argTypes := #[t, t] }) {e : TypeId} {z : Value} {size bytes : Nat} (E : Elem P t e z size bytes)
    (base : Nat) (v : Value) (n : Nat) (xs : List Value) (hs : a.eval s = v) (hown : w.ownsRow base e size v n xs)
    (B : Nat) (A : Option Addr) (m c : Nat) (news : List Value) (hx : a.eval x = .slice A m c) (hr : At w B A news) (hl : news.length = m * size) (h1 : ∀ u ∈ news, u.oneCell' = true)
    (h63 : n + m ≤ maxLen) (hbytes : (n + m) * bytes ≤ 140737488355328) (hbase : base ≤ w.heap.size)
    (h : ∀ A' c' w', w'.ownsRow base e size (.slice A' (n + m) c') (n + m) (xs ++ news) → w.grownBy w' v.ownBlock → K (a.put o.dst (.slice A' (n + m) c')) w') : o.wp P a w K Q := by
  obtain ⟨i, hi, hz, hsi, hb⟩ := info_parts E.info
  have key : ∀ ad : Addr, A = some ad → (∀ j u, news[j]? = some u → w.cell? (ad.add j) = some u) → o.wp P a w K Q := by
    rintro ad rfl hc
    refine wp_append_own w s x t ho base e i z size bytes E.under hi hz hsi hb E.cells E.pos v n xs hs hown ad m c news hx hl hc h1 h63 hbytes hbase ?_
    intro v' w' hown' hg _
    obtain ⟨A', c', rfl, _, _⟩ := own_slice hown'
    exact h A' c' w' hown' hg
  by_cases hne : news = []
  · cases A with
    | some ad => exact key ad rfl (fun j u hu => by rw [hne] at hu; simp at hu)
    | none =>
      have hm : m = 0 := by
        rcases Nat.eq_zero_or_pos m with h0 | h0
        · exact h0
        · have := Nat.mul_pos h0 E.pos
          rw [← hl, hne] at this
          exact absurd this (by simp)
      subst hm; subst hne
      have hrun : (Builtin.append_ #[t, t] o.type #[v, .slice none 0 c]).run P w = .ok v w := by
        rcases hown.2 with ⟨rfl, rfl⟩ | ⟨g, cap, cur, rfl, _, _, hnc, _⟩
        · simp [Builtin.append_, run_underlying E.under, sizeOf, typeInfo, hi, Builtin.lenOf, Builtin.firstCells]
        · simp [Builtin.append_, run_underlying E.under, sizeOf, typeInfo, hi, Builtin.lenOf, Builtin.firstCells, hnc, storeCells]
      refine wp_known v w ?_ ?_
      · unfold execOp
        simp only [ho, resolve, invoke, builtin, Sem.run_bind, Sem.run_pure, Result.andThen_ok, List.map_toArray, List.map_cons, List.map_nil, hs, hx, hrun]
      · obtain ⟨A', c', rfl, _, _⟩ := own_slice hown
        exact h A' c' w (by simpa using hown) (World.grownBy.refl w _)
  · obtain ⟨b, off, rfl, _, hc⟩ := hr hne
    exact key _ rfl (fun j u hu => by rw [add_none]; exact hc j u hu)
theorem wpList_append_at {P : Program} {ops : Array Oper} {rest : List Oper} {o : Oper} {a : Act} {w : World} {Q : Exit → Act → World → Prop} (hgd : o.guard = none) (s x : Operand) (t : TypeId)
    (ho : o.op = .call { callee := .builtin .append, args := #[s, x], argTypes := #[t, t] }) {e : TypeId} {z : Value} {size bytes : Nat} (E : Elem P t e z size bytes)
    (base : Nat) (v : Value) (n : Nat) (xs : List Value) (hs : a.eval s = v) (hown : w.ownsRow base e size v n xs)
    (B : Nat) (A : Option Addr) (m c : Nat) (news : List Value) (hx : a.eval x = .slice A m c) (hr : At w B A news) (hl : news.length = m * size) (h1 : ∀ u ∈ news, u.oneCell' = true)
    (h63 : n + m ≤ maxLen) (hbytes : (n + m) * bytes ≤ 140737488355328) (hbase : base ≤ w.heap.size)
    (h : ∀ A' c' w', w'.ownsRow base e size (.slice A' (n + m) c') (n + m) (xs ++ news) → w.grownBy w' v.ownBlock → wpList P ops Q rest (a.put o.dst (.slice A' (n + m) c')) w') : wpList P ops Q (o :: rest) a w :=
  wpList_plain hgd fun _ hK => wp_append_at s x t ho E base v n xs hs hown B A m c news hx hr hl h1 h63 hbytes hbase fun A' c' w' h2 h3 => hK _ _ (h A' c' w' h2 h3)
/-- .. as one step of a region that draws its order. -/
theorem step_append_at {P : Program} {ops : Array Oper} {o : Oper} {a : Act} {w : World} {K : Act → World → Prop} {Q : Exit → Act → World → Prop} {X : Prop} (hgd : o.guard = none) (s x : Operand) (t : TypeId)
    (ho : o.op = .call { callee := .builtin .append, args := #[s, x], argTypes := #[t, t] }) {e : TypeId} {z : Value} {size bytes : Nat} (E : Elem P t e z size bytes)
    (base : Nat) (v : Value) (n : Nat) (xs : List Value) (hs : a.eval s = v) (hown : w.ownsRow base e size v n xs)
    (B : Nat) (A : Option Addr) (m c : Nat) (news : List Value) (hx : a.eval x = .slice A m c) (hr : At w B A news) (hl : news.length = m * size) (h1 : ∀ u ∈ news, u.oneCell' = true)
    (h63 : n + m ≤ maxLen) (hbytes : (n + m) * bytes ≤ 140737488355328) (hbase : base ≤ w.heap.size)
    (h : ∀ A' c' w', w'.ownsRow base e size (.slice A' (n + m) c') (n + m) (xs ++ news) → Below base w w' → K (a.put o.dst (.slice A' (n + m) c')) w') : if Region.wanted o (yielded ops a.tmps) = true then Oper.wp P o a w K Q else X := by
  rw [if_pos (by simp [Region.wanted, hgd])]
  exact wp_append_at s x t ho E base v n xs hs hown B A m c news hx hr hl h1 h63 hbytes hbase fun A' c' w' h2 h3 => h A' c' w' h2 ((Below.refl _ _).grown h3 hbase (fun k hk => (hown.lt k hk).1))

theorem byteCells_one (l : List UInt8) : ∀ u ∈ Lib.byteCells l, u.oneCell' = true := by
  intro u hu
  obtain ⟨_, _, rfl⟩ := List.mem_map.1 hu
  rfl

theorem own_head {w : World} {B : Nat} {e : TypeId} {size n c : Nat} {A : Option Addr} {xs : List Value} (h : w.ownsRow B e size (.slice A n c) n xs) (hn : 0 < n) : ∃ g, A = some ⟨g, 0, none⟩ ∧ B ≤ g ∧ g < w.heap.size := by
  rcases h.2 with ⟨_, h0⟩ | ⟨g, cap, cur, hv, hg, hh, _⟩
  · omega
  · injection hv with hA _ _
    exact ⟨g, hA, hg, (Array.getElem?_eq_some_iff.1 hh).1⟩

theorem own_cap {w : World} {B : Nat} {e : TypeId} {size n c : Nat} {A : Option Addr} {xs : List Value} (h : w.ownsRow B e size (.slice A n c) n xs) : n ≤ c ∧ c ≤ maxLen := by
  obtain ⟨A', c', hv, hc, hm⟩ := own_slice h
  injection hv with _ _ hcc
  subst hcc
  exact ⟨hc, hm⟩
theorem own_ge {w : World} {base : Nat} {e : TypeId} {size n : Nat} {v : Value} {xs : List Value} (h : w.ownsRow base e size v n xs) : ∀ k, v.ownBlock = some k → base ≤ k := fun k hk => (h.lt k hk).1

/-- 'string(b)'. -/
theorem run_string_of_at {P : Program} {w : World} {B : Nat} {A : Option Addr} (src dst e : TypeId) (hs : P.underlying src = some (.slice e)) (he : P.underlying e = some (.int .u8)) (hd : P.underlying dst = some .string)
    (l : List UInt8) (c : Nat) (h : At w B A (Lib.byteCells l)) : (convert src dst (.slice A l.length c)).run P w = .ok (.string ⟨l.toArray⟩) w := by
  cases l with
  | nil =>
    cases A with
    | none => exact run_convert_bytes_nil w src e hs he 0 c dst hd
    | some a =>
      rw [run_convert_bytes_string w src dst e _ _ c hs he hd]
      exact run_bytesToString w a 0 c [] (by simp [loadCells, loadCellsFrom])
  | cons x l =>
    obtain ⟨b, off, rfl, _, hc⟩ := h (by simp [Lib.byteCells])
    have hr := run_convert_bytes_arg (P := P) w src e hs he b off (x :: l).length c ((x :: l).map fun b => (b.toNat : Int)) (by simp) (fun i hi => by
      have := hc i (.int .u8 ((x :: l)[i].toNat : Int)) (byteCells_get _ i hi)
      rw [this, List.getD_eq_getElem?_getD, List.getElem?_map, List.getElem?_eq_getElem hi]; rfl) dst hd
    rw [hr]
    congr 2
    simp [strOfNums, Function.comp_def]
theorem map_add_zero (A : Option Addr) : A.map (fun a => a.add 0) = A := by cases A <;> rfl

/-- A region that draws its order, whose calls may make memory of their own: one walk in the order of the text, in whatever world that has kept what lay below B. -/
theorem wp_region_below {P : Program} {id : Nat} {Q : Exit → Act → World → Prop} {a : Act} {w : World} {l : List Oper} (B : Nat) (hm : P.follows .mixedOrders = true) (hB : Region.lexB .any l.toArray = true)
    (h : wpQuiet P l.toArray (Below B w) (fun a' => ∀ w', Below B w w' → Q .normal a' w') l a) : (Code.region id l.toArray true).wp P Q a w :=
  wp_region_quiet (C := Below B w) hm hB (Below.refl B w).drew (by simpa using h)

theorem at_lit (w : World) (l : List UInt8) (e : TypeId) : At (w.alloc (.cells (Lib.byteCells l).toArray e)) (w.heap.size + 1) (some ⟨w.heap.size, 0, none⟩) (Lib.byteCells l) := fun _ => by
  refine ⟨w.heap.size, 0, rfl, by omega, fun j u hu => ?_⟩
  rw [Nat.zero_add, cell_of_row _ _ _ _ e (0, 0) (heap_alloc_new w _)]
  simpa using hu

theorem take_splice {α : Type} (L : List α) (off n : Nat) (cs : List α) (h : off + cs.length ≤ n) (hn : n ≤ L.length) : (splice L off cs).take n = splice (L.take n) off cs := by
  simp only [splice, List.take_append, List.take_take, List.length_take, List.drop_take]
  rw [show min n off = off from by omega, show min off L.length = off from by omega, show min off n = off from by omega, List.take_of_length_le (show cs.length ≤ n - off by omega), Nat.sub_sub]

/-- 'copy(out[off:], src)', out a row of the call's own, src whatever reads as a list. -/
theorem wpList_copy_at {P : Program} {w : World} {ops : Array Oper} {rest : List Oper} {o : Oper} {a : Act} {Q : Exit → Act → World → Prop} (hgd : o.guard = none) (d s : Operand) (dT sT : TypeId)
    (ho : o.op = .call { callee := .builtin .copy, args := #[d, s], argTypes := #[dT, sT] }) {e : TypeId} {z : Value} {bytes : Nat} (E : Elem P dT e z 1 bytes)
    (base g n c : Nat) (xs : List Value) (hown : w.ownsRow base e 1 (.slice (some ⟨g, 0, none⟩) n c) n xs) (dp : Option Addr) (dLen dCap off : Nat) (hd : a.eval d = .slice dp dLen dCap)
    (B : Nat) (sp : Option Addr) (m mc : Nat) (news : List Value) (hs : a.eval s = .slice sp m mc) (hsrc : At w B sp news) (hm : news.length = m)
    (hdp : 0 < min m dLen → dp = some ⟨g, off, none⟩) (hfit : off + min m dLen ≤ n) (h1 : ∀ v ∈ news, v.oneCell' = true)
    (h : ∀ w', w'.ownsRow base e 1 (.slice (some ⟨g, 0, none⟩) n c) n (splice xs off (news.take dLen)) → w.grownBy w' (some g) → wpList P ops Q rest (a.put o.dst (goInt (min m dLen : Nat))) w') :
    wpList P ops Q (o :: rest) a w := by
  obtain ⟨i, hi, hz, hsi, hb⟩ := info_parts E.info
  have hsz : (P.info? e).map (·.size) = some 1 := by rw [hi]; simp [hsi]
  by_cases h0 : min m dLen = 0
  · refine wpList_copy_nothing hgd d s dT sT ho e E.under hsz dp sp dLen dCap m mc hd hs h0 ?_
    have hnil : news.take dLen = [] := List.eq_nil_of_length_eq_zero (by rw [List.length_take, hm, Nat.min_comm]; exact h0)
    have := h w (by rw [hnil]; simpa [splice] using hown) (World.grownBy.refl w _)
    rwa [h0] at this
  · have hpos : 0 < min m dLen := by omega
    obtain rfl := hdp hpos
    have hml : min m dLen ≤ m := Nat.min_le_left _ _
    obtain ⟨b, o2, rfl, _, hc⟩ := hsrc (by rintro rfl; simp at hm; subst hm; exact absurd hpos (by simp))
    rcases hown.2 with ⟨h', _⟩ | ⟨g', cap, cur, h', hbg, hg, hnc, hcm, hcs, htake⟩
    · simp at h'
    · simp only [Value.slice.injEq, Option.some.injEq, Addr.mk.injEq, and_true, true_and] at h'
      obtain ⟨rfl, rfl⟩ := h'
      have hlen : (news.take dLen).length = min m dLen := by rw [List.length_take, hm, Nat.min_comm]
      refine wpList_copy_own hgd d s dT sT ho e E.under hsz g off dLen dCap ⟨b, o2, none⟩ m mc hd hs cur e hg (news.take dLen) hlen ?_ (by rw [hlen, hcs]; omega) (fun v hv => h1 v (List.mem_of_mem_take hv)) ?_
      · intro j v hj
        rw [add_none]
        rw [List.getElem?_take] at hj
        split at hj
        · exact hc j v hj
        · cases hj
      · rw [hlen]
        refine h _ ?_ ⟨rfl, rfl, rfl, by simp [World.setRow], fun k _ hk => setRow_other w g k _ (fun e => hk (by simp [e]))⟩
        refine ⟨?_, .inr ⟨g, c, _, rfl, hbg, setRow_heap w g cur _ e _ hg, hnc, hcm, ?_, ?_⟩⟩
        · rw [length_splice _ _ _ (by rw [hlen, hown.1]; omega), hown.1]
        · have := congrArg Nat.succ hlen
          simp only [List.size_toArray, List.length_append, List.length_take, List.length_drop, Array.length_toList]
          simp only [List.length_take] at hlen
          omega
        · rw [Nat.mul_one] at htake ⊢
          have ht := take_splice cur.toList off n (news.take dLen) (by rw [hlen]; exact hfit) (by rw [Array.length_toList, hcs]; omega)
          rw [htake] at ht
          simpa [splice, hlen] using ht

end Go.Proofs.Ytelfihgkbbaifaa
