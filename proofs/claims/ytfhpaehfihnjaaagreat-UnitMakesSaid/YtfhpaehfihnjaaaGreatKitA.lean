/- Base, Mem, Sep, Tail, SepW, SepT, Tail3, Tail4, Tail5, Two, Stages, SameB. -/
import Derived.Test.YtfhpaehfihnjaaaGreatProg
import Derived.WalkKit
import Derived.WalkSpells
import Derived.WalkLawsBesides
import Derived.Lib.Strings
import Derived.Lib.Hide
import Derived.Lib.UnsafeStr
import Derived.Lib.Builder
import Derived.Deep.QuietTactic
import Derived.Laws.CopyOwn
import Derived.BigQuiet
import Derived.Handy
import Derived.Deep.DeepCutAuto
import Derived.Deep.RegionHeld3
import Derived.Maps.AppendAt
import Derived.StillTail
import Derived.Deep.Quiet
import Derived.OrdersHeld
namespace Go.Proofs.YtfhpaehfihnjaaaGreat
open Go.RowKit
def At (w : World) (B : Nat) (A : Option Addr) (xs : List Value) : Prop :=
  xs ≠ [] → ∃ b off, A = some ⟨b, off, none⟩ ∧ b < B ∧ ∀ (j : Nat) (u : Value), xs[j]? = some u → w.cell? ⟨b, off + j, none⟩ = some u
section
variable {w w' : World} {B B' : Nat} {A : Option Addr} {xs : List Value}
theorem At.nil_ : At w B A [] := fun h => absurd rfl h
theorem At.mono (h : At w B A xs) (hB : B ≤ B') : At w B' A xs := fun hx => by
  obtain ⟨b, off, e, hb, hc⟩ := h hx
  exact ⟨b, off, e, by omega, hc⟩
theorem At.keep (h : At w B A xs) (hk : ∀ p : Addr, p.block < B → w'.cell? p = w.cell? p) : At w' B A xs := fun hx => by
  obtain ⟨b, off, e, hb, hc⟩ := h hx
  exact ⟨b, off, e, hb, fun j u hu => (hk _ (by exact hb)).trans (hc j u hu)⟩
theorem At.below (h : At w B A xs) (hb : Below B w w') : At w' B A xs := h.keep fun _ hp => hb.cell hp
theorem At.drewN (h : At w B A xs) (n : Nat) : At (w.drewN n) B A xs := h
theorem At.alloc (h : At w B A xs) (hB : B ≤ w.heap.size) (o : Obj) : At (w.alloc o) B A xs := h.below ((Below.refl _ _).alloc hB o)
theorem At.cell (h : At w B A xs) {k : Nat} {u : Value} (hk : xs[k]? = some u) : ∃ b off, A = some ⟨b, off, none⟩ ∧ b < B ∧ w.cell? ⟨b, off + k, none⟩ = some u := by
  obtain ⟨b, off, e, hb, hc⟩ := h (by rintro rfl; simp at hk)
  exact ⟨b, off, e, hb, hc k u hk⟩
theorem At.take (h : At w B A xs) (k : Nat) : At w B A (xs.take k) := fun hx => by
  obtain ⟨b, off, e, hb, hc⟩ := h (by rintro rfl; simp at hx)
  refine ⟨b, off, e, hb, fun j u hu => hc j u ?_⟩
  rw [List.getElem?_take] at hu
  split at hu
  · exact hu
  · cases hu
theorem add_none (b off j : Nat) : (⟨b, off, none⟩ : Addr).add j = ⟨b, off + j, none⟩ := by
  unfold Addr.add; split
  · subst_vars; rfl
  · rfl
theorem own_at {e : TypeId} {n c : Nat} (h : w.ownsRow B e 1 (.slice A n c) n xs) : At w w.heap.size A xs := fun hx => by
  rcases h.2 with ⟨hv, h0⟩ | ⟨g, cap, cur, hv, hg, hh, _⟩
  · subst h0
    exact absurd (List.eq_nil_of_length_eq_zero (by simpa using h.1)) hx
  · injection hv with hA _ _
    subst hA
    refine ⟨g, 0, rfl, (Array.getElem?_eq_some_iff.1 hh).1, fun j u hu => ?_⟩
    have := h.cells (g := g) rfl j u hu
    rwa [add_none] at this
theorem own_below {e : TypeId} {size n : Nat} {v : Value} (h : w.ownsRow B e size v n xs) (hb : Below w.heap.size w w') : w'.ownsRow B e size v n xs := by
  refine ⟨h.1, ?_⟩
  rcases h.2 with h2 | ⟨g, cap, cur, hv, hg, hh, r⟩
  · exact Or.inl h2
  · exact Or.inr ⟨g, cap, cur, hv, hg, by rw [hb.block g (Array.getElem?_eq_some_iff.1 hh).1]; exact hh, r⟩
theorem own_mono {e : TypeId} {size n : Nat} {v : Value} (h : w.ownsRow B e size v n xs) (hB : B' ≤ B) : w.ownsRow B' e size v n xs := by
  refine ⟨h.1, ?_⟩
  rcases h.2 with h2 | ⟨g, cap, cur, hv, hg, r⟩
  · exact Or.inl h2
  · exact Or.inr ⟨g, cap, cur, hv, by omega, r⟩
theorem own_slice {e : TypeId} {size n : Nat} {v : Value} (h : w.ownsRow B e size v n xs) : ∃ A c, v = .slice A n c ∧ n ≤ c ∧ c ≤ maxLen := by
  rcases h.2 with ⟨hv, h0⟩ | ⟨g, cap, cur, hv, _, _, hc, hm, _⟩
  · subst h0; exact ⟨none, 0, hv, Nat.le_refl _, by unfold maxLen; omega⟩
  · exact ⟨_, cap, hv, hc, hm⟩
end
theorem below_drewN {B : Nat} {a w : World} (h : Below B a w) (n : Nat) : Below B a (w.drewN n) := ⟨h.os, h.tape, h.output, h.size, h.block⟩
def Still (w w' : World) : Prop := ∃ n, w' = w.drewN n
theorem still_refl (w : World) : Still w w := ⟨0, rfl⟩
theorem still_1 (w : World) (n : Nat) : Still w (w.drewN n) := ⟨n, rfl⟩
theorem still_2 (w : World) (n m : Nat) : Still w ((w.drewN n).drewN m) := ⟨n + m, by simp⟩
theorem Still.below {w w' : World} (h : Still w w') (B : Nat) : Below B w w' := by
  obtain ⟨n, rfl⟩ := h; exact below_drewN (Below.refl _ _) n
theorem Still.trans {a b c : World} (h : Still a b) (k : Still b c) : Still a c := by
  obtain ⟨n, rfl⟩ := h; obtain ⟨m, rfl⟩ := k; exact still_2 _ _ _
def slen : Value → Nat | .slice _ n _ => n | _ => 0
theorem byteCells_get (l : List UInt8) (k : Nat) (h : k < l.length) : (Lib.byteCells l)[k]? = some (.int .u8 (l[k].toNat : Int)) := by
  simp [Lib.byteCells, h]
theorem byteCells_len (l : List UInt8) : (Lib.byteCells l).length = l.length := by simp [Lib.byteCells]
theorem byte_beq_no {x y : UInt8} (h : x ≠ y) : ((x.toNat : Int) == (y.toNat : Int)) = false := by
  rw [beq_eq_false_iff_ne]; exact fun e => h (UInt8.toNat_inj.1 (by exact_mod_cast e))
theorem byte_beq_yes {x y : UInt8} (h : x = y) : ((x.toNat : Int) == (y.toNat : Int)) = true := by rw [h]; simp
theorem byte_bne_no {x y : UInt8} (h : x ≠ y) : ((x.toNat : Int) != (y.toNat : Int)) = true := by
  rw [bne_iff_ne]; exact fun e => h (UInt8.toNat_inj.1 (by exact_mod_cast e))
theorem byte_bne_yes {x y : UInt8} (h : x = y) : ((x.toNat : Int) != (y.toNat : Int)) = false := by rw [h]; simp
theorem ret_bool {a b : Bool} (h : a = b) : Ending.returned (.bool a) = .returned (.bool b) := by rw [h]
theorem ret_int {k : IntKind} {a b : Int} (h : a = b) : Ending.returned (.int k a) = .returned (.int k b) := by rw [h]
theorem ret_ib {k : IntKind} {a b : Int} {p q : Bool} (h : a = b) (g : p = q) : Ending.returned (.tuple #[.int k a, .bool p]) = .returned (.tuple #[.int k b, .bool q]) := by rw [h, g]
theorem wpList_known {P : Program} {ops : Array Oper} {rest : List Oper} {o : Oper} {a : Act} {w : World} {Q : Exit → Act → World → Prop} (hgd : o.guard = none)
    (v : Value) (w' : World) (h : (execOp a.eval o).run P w = .ok (.value v) w') (hk : wpList P ops Q rest (a.put o.dst v) w') : wpList P ops Q (o :: rest) a w := by
  refine wpList_plain hgd fun K hK => ?_
  unfold Oper.wp
  rw [h]
  exact hK _ _ hk
theorem wpList_literal {P : Program} {ops : Array Oper} {rest : List Oper} {o : Oper} {a : Act} {w : World} {Q : Exit → Act → World → Prop} (t : TypeId) (n : Nat) (parts : Array (Nat × Operand)) (_hop : o.op = .buildSlice t n parts) (hgd : o.guard = none)
    (v : Value) (w' : World) (h : (execOp a.eval o).run P w = .ok (.value v) w') (hk : wpList P ops Q rest (a.put o.dst v) w') : wpList P ops Q (o :: rest) a w :=
  wpList_known hgd v w' h hk
structure Elem (P : Program) (t e : TypeId) (z : Value) (size bytes : Nat) : Prop where
  under : P.underlying t = some (.slice e)
  info : (P.info? e).map (fun i => (i.zero, i.size, i.bytes)) = some (some z, size, bytes)
  cells : z.cells.size = size
  pos : 0 < size
theorem grown_of_alloc {w w' : World} {o : Obj} {row : Option Nat} (h : (w.alloc o).grownBy w' row) : w.grownBy w' row :=
  ⟨h.os, h.tape, h.output, Nat.le_trans (by simp) h.size, fun k hk hne => (h.block k (by simp; omega) hne).trans (Below.heap_alloc w o k hk)⟩
theorem wpList_push {P : Program} {ops : Array Oper} {rest : List Oper} {o : Oper} {a : Act} {w : World} {Q : Exit → Act → World → Prop} (hgd : o.guard = none) (s x : Operand) (t : TypeId)
    (ho : o.op = .call { callee := .builtin .append, args := #[s, x], argTypes := #[t, t] }) {e : TypeId} {z : Value} {size bytes : Nat} (E : Elem P t e z size bytes)
    (w0 : World) (us : List Value) (hw : w = w0.alloc (.cells us.toArray e)) (hus : us.length = size) (h1 : ∀ u ∈ us, u.oneCell' = true)
    (base : Nat) (v : Value) (n : Nat) (xs : List Value) (hs : a.eval s = v) (hx : a.eval x = .slice (some ⟨w0.heap.size, 0, none⟩) 1 1) (hown : w0.ownsRow base e size v n xs)
    (h63 : n + 1 ≤ maxLen) (hbytes : (n + 1) * bytes ≤ 140737488355328) (hbase : base ≤ w0.heap.size)
    (h : ∀ A c w', w'.ownsRow base e size (.slice A (n + 1) c) (n + 1) (xs ++ us) → w0.grownBy w' v.ownBlock → wpList P ops Q rest (a.put o.dst (.slice A (n + 1) c)) w') : wpList P ops Q (o :: rest) a w := by
  subst hw
  obtain ⟨i, hi, hz, hsi, hb⟩ := info_parts E.info
  refine wpList_append_own _ hgd s x t ho base e i z size bytes E.under hi hz hsi hb E.cells E.pos v n xs hs (hown.alloc _) ⟨w0.heap.size, 0, none⟩ 1 1 us hx (by rw [hus, Nat.one_mul]) ?_ h1 h63 hbytes (by simp; omega) ?_
  · intro j u hu
    rw [add_none, Nat.zero_add, cell_of_row _ _ _ _ e (0, 0) (heap_alloc_new w0 _)]
    simpa using hu
  · intro v' w' hown' hg _
    obtain ⟨A, c, rfl, _, _⟩ := own_slice hown'
    exact h A c w' hown' (grown_of_alloc hg)
theorem wpList_make {P : Program} {ops : Array Oper} {rest : List Oper} {o : Oper} {a : Act} {w : World} {Q : Exit → Act → World → Prop} (hgd : o.guard = none) (l c : Operand) (t : TypeId) (ho : o.op = Op.makeSlice t l c)
    {e : TypeId} {z : Value} {size bytes : Nat} (E : Elem P t e z size bytes) (kl kc : IntKind) (L C : Int) (n : Nat) (hl : a.eval l = .int kl L) (hc : a.eval c = .int kc C) (hL : L = (n : Int)) (hC : C = (n : Int))
    (hb : bytes * n ≤ 281474976710656) (hm : n ≤ maxLen)
    (h : ∀ w', w'.ownsRow w.heap.size e size (.slice (some ⟨w.heap.size, 0, none⟩) n n) n (madeCells z.cells (n * size)).toList → Below w.heap.size w w' → wpList P ops Q rest (a.put o.dst (.slice (some ⟨w.heap.size, 0, none⟩) n n)) w') : wpList P ops Q (o :: rest) a w := by
  obtain ⟨i, hi, hz, hsi, hby⟩ := info_parts E.info
  refine wpList_make_full w hgd l c t ho w.heap.size e i z size E.under hi hz hsi kl kc L C n hl hc hL hC (by rw [hby]; exact hb) hm (Nat.le_refl _) ?_
  intro w' hown hg
  exact h w' hown ((Below.refl _ _).grown hg (Nat.le_refl _) (by intro k hk; cases hk))
theorem wp_known {P : Program} {o : Oper} {a : Act} {w : World} {K : Act → World → Prop} {Q : Exit → Act → World → Prop} (v : Value) (w' : World) (h : (execOp a.eval o).run P w = .ok (.value v) w') (hk : K (a.put o.dst v) w') : o.wp P a w K Q := by
  unfold Oper.wp
  rw [h]
  exact hk
theorem wp_append_at {P : Program} {o : Oper} {a : Act} {w : World} {K : Act → World → Prop} {Q : Exit → Act → World → Prop} (s x : Operand) (t : TypeId)
    (ho : o.op = .call { callee := .builtin .append, args := #[s, x], argTypes := #[t, t] }) {e : TypeId} {z : Value} {size bytes : Nat} (E : Elem P t e z size bytes)
    (base : Nat) (v : Value) (n : Nat) (xs : List Value) (hs : a.eval s = v) (hown : w.ownsRow base e size v n xs)
    (B : Nat) (A : Option Addr) (m c : Nat) (news : List Value) (hx : a.eval x = .slice A m c) (hr : At w B A news) (hl : news.length = m * size) (h1 : ∀ u ∈ news, u.oneCell' = true)
    (h63 : n + m ≤ maxLen) (hbytes : (n + m) * bytes ≤ 140737488355328) (hbase : base ≤ w.heap.size)
    (h : ∀ A' c' w', w'.ownsRow base e size (.slice A' (n + m) c') (n + m) (xs ++ news) → w.grownBy w' v.ownBlock → K (a.put o.dst (.slice A' (n + m) c')) w') : o.wp P a w K Q := by
  obtain ⟨i, hi, hz, hsi, hb⟩ := info_parts E.info
  have key : ∀ ad : Addr, A = some ad → (∀ j u, news[j]? = some u → w.cell? (ad.add j) = some u) → o.wp P a w K Q := by
    rintro ad rfl hc
    refine wp_append_own w s x t ho base e i z size bytes E.under hi hz hsi hb E.cells E.pos v n xs hs hown ad m c news hx hl hc h1 h63 hbytes hbase ?_
    intro v' w' hown' hg _
    obtain ⟨A', c', rfl, _, _⟩ := own_slice hown'
    exact h A' c' w' hown' hg
  by_cases hne : news = []
  · cases A with
    | some ad => exact key ad rfl (fun j u hu => by rw [hne] at hu; simp at hu)
    | none =>
      have hm : m = 0 := by
        rcases Nat.eq_zero_or_pos m with h0 | h0
        · exact h0
        · have := Nat.mul_pos h0 E.pos
          rw [← hl, hne] at this
          exact absurd this (by simp)
      subst hm; subst hne
      have hrun : (Builtin.append_ #[t, t] o.type #[v, .slice none 0 c]).run P w = .ok v w := by
        rcases hown.2 with ⟨rfl, rfl⟩ | ⟨g, cap, cur, rfl, _, _, hnc, _⟩
        · simp [Builtin.append_, run_underlying E.under, sizeOf, typeInfo, hi, Builtin.lenOf, Builtin.firstCells]
        · simp [Builtin.append_, run_underlying E.under, sizeOf, typeInfo, hi, Builtin.lenOf, Builtin.firstCells, hnc, storeCells]
      refine wp_known v w ?_ ?_
      · unfold execOp
        simp only [ho, resolve, invoke, builtin, Sem.run_bind, Sem.run_pure, Result.andThen_ok, List.map_toArray, List.map_cons, List.map_nil, hs, hx, hrun]
      · obtain ⟨A', c', rfl, _, _⟩ := own_slice hown
        exact h A' c' w (by simpa using hown) (World.grownBy.refl w _)
  · obtain ⟨b, off, rfl, _, hc⟩ := hr hne
    exact key _ rfl (fun j u hu => by rw [add_none]; exact hc j u hu)
theorem wpList_append_at {P : Program} {ops : Array Oper} {rest : List Oper} {o : Oper} {a : Act} {w : World} {Q : Exit → Act → World → Prop} (hgd : o.guard = none) (s x : Operand) (t : TypeId)
    (ho : o.op = .call { callee := .builtin .append, args := #[s, x], argTypes := #[t, t] }) {e : TypeId} {z : Value} {size bytes : Nat} (E : Elem P t e z size bytes)
    (base : Nat) (v : Value) (n : Nat) (xs : List Value) (hs : a.eval s = v) (hown : w.ownsRow base e size v n xs)
    (B : Nat) (A : Option Addr) (m c : Nat) (news : List Value) (hx : a.eval x = .slice A m c) (hr : At w B A news) (hl : news.length = m * size) (h1 : ∀ u ∈ news, u.oneCell' = true)
    (h63 : n + m ≤ maxLen) (hbytes : (n + m) * bytes ≤ 140737488355328) (hbase : base ≤ w.heap.size)
    (h : ∀ A' c' w', w'.ownsRow base e size (.slice A' (n + m) c') (n + m) (xs ++ news) → w.grownBy w' v.ownBlock → wpList P ops Q rest (a.put o.dst (.slice A' (n + m) c')) w') : wpList P ops Q (o :: rest) a w :=
  wpList_plain hgd fun _ hK => wp_append_at s x t ho E base v n xs hs hown B A m c news hx hr hl h1 h63 hbytes hbase fun A' c' w' h2 h3 => hK _ _ (h A' c' w' h2 h3)
theorem step_append_at {P : Program} {ops : Array Oper} {o : Oper} {a : Act} {w : World} {K : Act → World → Prop} {Q : Exit → Act → World → Prop} {X : Prop} (hgd : o.guard = none) (s x : Operand) (t : TypeId)
    (ho : o.op = .call { callee := .builtin .append, args := #[s, x], argTypes := #[t, t] }) {e : TypeId} {z : Value} {size bytes : Nat} (E : Elem P t e z size bytes)
    (base : Nat) (v : Value) (n : Nat) (xs : List Value) (hs : a.eval s = v) (hown : w.ownsRow base e size v n xs)
    (B : Nat) (A : Option Addr) (m c : Nat) (news : List Value) (hx : a.eval x = .slice A m c) (hr : At w B A news) (hl : news.length = m * size) (h1 : ∀ u ∈ news, u.oneCell' = true)
    (h63 : n + m ≤ maxLen) (hbytes : (n + m) * bytes ≤ 140737488355328) (hbase : base ≤ w.heap.size)
    (h : ∀ A' c' w', w'.ownsRow base e size (.slice A' (n + m) c') (n + m) (xs ++ news) → Below base w w' → K (a.put o.dst (.slice A' (n + m) c')) w') : if Region.wanted o (yielded ops a.tmps) = true then Oper.wp P o a w K Q else X := by
  rw [if_pos (by simp [Region.wanted, hgd])]
  exact wp_append_at s x t ho E base v n xs hs hown B A m c news hx hr hl h1 h63 hbytes hbase fun A' c' w' h2 h3 => h A' c' w' h2 ((Below.refl _ _).grown h3 hbase (fun k hk => (hown.lt k hk).1))
theorem byteCells_one (l : List UInt8) : ∀ u ∈ Lib.byteCells l, u.oneCell' = true := by
  intro u hu
  obtain ⟨_, _, rfl⟩ := List.mem_map.1 hu
  rfl
theorem own_head {w : World} {B : Nat} {e : TypeId} {size n c : Nat} {A : Option Addr} {xs : List Value} (h : w.ownsRow B e size (.slice A n c) n xs) (hn : 0 < n) : ∃ g, A = some ⟨g, 0, none⟩ ∧ B ≤ g ∧ g < w.heap.size := by
  rcases h.2 with ⟨_, h0⟩ | ⟨g, cap, cur, hv, hg, hh, _⟩
  · omega
  · injection hv with hA _ _
    exact ⟨g, hA, hg, (Array.getElem?_eq_some_iff.1 hh).1⟩
theorem own_cap {w : World} {B : Nat} {e : TypeId} {size n c : Nat} {A : Option Addr} {xs : List Value} (h : w.ownsRow B e size (.slice A n c) n xs) : n ≤ c ∧ c ≤ maxLen := by
  obtain ⟨A', c', hv, hc, hm⟩ := own_slice h
  injection hv with _ _ hcc
  subst hcc
  exact ⟨hc, hm⟩
theorem own_ge {w : World} {base : Nat} {e : TypeId} {size n : Nat} {v : Value} {xs : List Value} (h : w.ownsRow base e size v n xs) : ∀ k, v.ownBlock = some k → base ≤ k := fun k hk => (h.lt k hk).1
theorem run_string_of_at {P : Program} {w : World} {B : Nat} {A : Option Addr} (src dst e : TypeId) (hs : P.underlying src = some (.slice e)) (he : P.underlying e = some (.int .u8)) (hd : P.underlying dst = some .string)
    (l : List UInt8) (c : Nat) (h : At w B A (Lib.byteCells l)) : (convert src dst (.slice A l.length c)).run P w = .ok (.string ⟨l.toArray⟩) w := by
  cases l with
  | nil =>
    cases A with
    | none => exact run_convert_bytes_nil w src e hs he 0 c dst hd
    | some a =>
      rw [run_convert_bytes_string w src dst e _ _ c hs he hd]
      exact run_bytesToString w a 0 c [] (by simp [loadCells, loadCellsFrom])
  | cons x l =>
    obtain ⟨b, off, rfl, _, hc⟩ := h (by simp [Lib.byteCells])
    have hr := run_convert_bytes_arg (P := P) w src e hs he b off (x :: l).length c ((x :: l).map fun b => (b.toNat : Int)) (by simp) (fun i hi => by
      have := hc i (.int .u8 ((x :: l)[i].toNat : Int)) (byteCells_get _ i hi)
      rw [this, List.getD_eq_getElem?_getD, List.getElem?_map, List.getElem?_eq_getElem hi]; rfl) dst hd
    rw [hr]
    congr 2
    simp [strOfNums, Function.comp_def]
theorem map_add_zero (A : Option Addr) : A.map (fun a => a.add 0) = A := by cases A <;> rfl
theorem wp_region_below {P : Program} {id : Nat} {Q : Exit → Act → World → Prop} {a : Act} {w : World} {l : List Oper} (B : Nat) (hm : P.follows .mixedOrders = true) (hB : Region.lexB .any l.toArray = true)
    (h : wpQuiet P l.toArray (Below B w) (fun a' => ∀ w', Below B w w' → Q .normal a' w') l a) : (Code.region id l.toArray true).wp P Q a w :=
  wp_region_quiet (C := Below B w) hm hB (Below.refl B w).drew (by simpa using h)
theorem at_lit (w : World) (l : List UInt8) (e : TypeId) : At (w.alloc (.cells (Lib.byteCells l).toArray e)) (w.heap.size + 1) (some ⟨w.heap.size, 0, none⟩) (Lib.byteCells l) := fun _ => by
  refine ⟨w.heap.size, 0, rfl, by omega, fun j u hu => ?_⟩
  rw [Nat.zero_add, cell_of_row _ _ _ _ e (0, 0) (heap_alloc_new w _)]
  simpa using hu
theorem take_splice {α : Type} (L : List α) (off n : Nat) (cs : List α) (h : off + cs.length ≤ n) (hn : n ≤ L.length) : (splice L off cs).take n = splice (L.take n) off cs := by
  simp only [splice, List.take_append, List.take_take, List.length_take, List.drop_take]
  rw [show min n off = off from by omega, show min off L.length = off from by omega, show min off n = off from by omega, List.take_of_length_le (show cs.length ≤ n - off by omega), Nat.sub_sub]
theorem wpList_copy_at {P : Program} {w : World} {ops : Array Oper} {rest : List Oper} {o : Oper} {a : Act} {Q : Exit → Act → World → Prop} (hgd : o.guard = none) (d s : Operand) (dT sT : TypeId)
    (ho : o.op = .call { callee := .builtin .copy, args := #[d, s], argTypes := #[dT, sT] }) {e : TypeId} {z : Value} {bytes : Nat} (E : Elem P dT e z 1 bytes)
    (base g n c : Nat) (xs : List Value) (hown : w.ownsRow base e 1 (.slice (some ⟨g, 0, none⟩) n c) n xs) (dp : Option Addr) (dLen dCap off : Nat) (hd : a.eval d = .slice dp dLen dCap)
    (B : Nat) (sp : Option Addr) (m mc : Nat) (news : List Value) (hs : a.eval s = .slice sp m mc) (hsrc : At w B sp news) (hm : news.length = m)
    (hdp : 0 < min m dLen → dp = some ⟨g, off, none⟩) (hfit : off + min m dLen ≤ n) (h1 : ∀ v ∈ news, v.oneCell' = true)
    (h : ∀ w', w'.ownsRow base e 1 (.slice (some ⟨g, 0, none⟩) n c) n (splice xs off (news.take dLen)) → w.grownBy w' (some g) → wpList P ops Q rest (a.put o.dst (goInt (min m dLen : Nat))) w') :
    wpList P ops Q (o :: rest) a w := by
  obtain ⟨i, hi, hz, hsi, hb⟩ := info_parts E.info
  have hsz : (P.info? e).map (·.size) = some 1 := by rw [hi]; simp [hsi]
  by_cases h0 : min m dLen = 0
  · refine wpList_copy_nothing hgd d s dT sT ho e E.under hsz dp sp dLen dCap m mc hd hs h0 ?_
    have hnil : news.take dLen = [] := List.eq_nil_of_length_eq_zero (by rw [List.length_take, hm, Nat.min_comm]; exact h0)
    have := h w (by rw [hnil]; simpa [splice] using hown) (World.grownBy.refl w _)
    rwa [h0] at this
  · have hpos : 0 < min m dLen := by omega
    obtain rfl := hdp hpos
    have hml : min m dLen ≤ m := Nat.min_le_left _ _
    obtain ⟨b, o2, rfl, _, hc⟩ := hsrc (by rintro rfl; simp at hm; subst hm; exact absurd hpos (by simp))
    rcases hown.2 with ⟨h', _⟩ | ⟨g', cap, cur, h', hbg, hg, hnc, hcm, hcs, htake⟩
    · simp at h'
    · simp only [Value.slice.injEq, Option.some.injEq, Addr.mk.injEq, and_true, true_and] at h'
      obtain ⟨rfl, rfl⟩ := h'
      have hlen : (news.take dLen).length = min m dLen := by rw [List.length_take, hm, Nat.min_comm]
      refine wpList_copy_own hgd d s dT sT ho e E.under hsz g off dLen dCap ⟨b, o2, none⟩ m mc hd hs cur e hg (news.take dLen) hlen ?_ (by rw [hlen, hcs]; omega) (fun v hv => h1 v (List.mem_of_mem_take hv)) ?_
      · intro j v hj
        rw [add_none]
        rw [List.getElem?_take] at hj
        split at hj
        · exact hc j v hj
        · cases hj
      · rw [hlen]
        refine h _ ?_ ⟨rfl, rfl, rfl, by simp [World.setRow], fun k _ hk => setRow_other w g k _ (fun e => hk (by simp [e]))⟩
        refine ⟨?_, .inr ⟨g, c, _, rfl, hbg, setRow_heap w g cur _ e _ hg, hnc, hcm, ?_, ?_⟩⟩
        · rw [length_splice _ _ _ (by rw [hlen, hown.1]; omega), hown.1]
        · have := congrArg Nat.succ hlen
          simp only [List.size_toArray, List.length_append, List.length_take, List.length_drop, Array.length_toList]
          simp only [List.length_take] at hlen
          omega
        · rw [Nat.mul_one] at htake ⊢
          have ht := take_splice cur.toList off n (news.take dLen) (by rw [hlen]; exact hfit) (by rw [Array.length_toList, hcs]; omega)
          rw [htake] at ht
          simpa [splice, hlen] using ht
end Go.Proofs.YtfhpaehfihnjaaaGreat
namespace Go.Proofs.YtfhpaehfihnjaaaGreat
open Go.RowKit
theorem name_world {P : World → Prop} {W : World} (h : ∀ wa, wa = W → P wa) : P W := h W rfl
theorem frozen_row {w : World} {g : Nat} {cs : Array Value} {t : TypeId} (h : w.heap[g]? = some (.cells cs t (0, 0))) (k : Nat) : w.frozen? ⟨g, k, none⟩ = false := by
  simp [World.frozen?, h]
theorem row_look {w : World} {g : Nat} {cs : Array Value} {t : TypeId} (h : w.heap[g]? = some (.cells cs t (0, 0))) : (∀ o, w.cell? ⟨g, o, none⟩ = cs[o]?) ∧ (∀ o, w.frozen? ⟨g, o, none⟩ = false) ∧ g < w.heap.size :=
  ⟨fun o => cell_of_row _ _ o _ _ _ h, fun o => frozen_row h o, (Array.getElem?_eq_some_iff.1 h).1⟩
section
variable {w w' : World} {k : Nat} {o : Obj} {r : Option Obj}
theorem hl_lt {x : Obj} (h : w.heap[k]? = some x) : k < w.heap.size := (Array.getElem?_eq_some_iff.1 h).1
theorem hl_old (hk : k < w.heap.size) (h : w.heap[k]? = r) : (w.alloc o).heap[k]? = r := (Below.heap_alloc w o k hk).trans h
theorem hl_keep {x : Obj} (h : w.heap[k]? = some x) : (w.alloc o).heap[k]? = some x := hl_old (hl_lt h) h
theorem hl_new (hk : k = w.heap.size) : (w.alloc o).heap[k]? = some o := by subst hk; exact heap_alloc_new w o
theorem hl_new' {o' : Obj} (hk : k = w.heap.size) (e : o = o') : (w.alloc o).heap[k]? = some o' := by subst e; exact hl_new hk
theorem hl_drew (h : w.heap[k]? = r) : w.drew.heap[k]? = r := h
theorem hl_drewN (n : Nat) (h : w.heap[k]? = r) : (w.drewN n).heap[k]? = r := h
theorem hl_far {p : Addr} {v : Value} (hk : k ≠ p.block) (h : w.heap[k]? = r) : (w.setCell p v).heap[k]? = r := (Below.heap_setCell w p v k hk).trans h
theorem hl_set {cs cs' : Array Value} {t : TypeId} {fr : Nat × Nat} {off : Nat} {v : Value} (e : cs.setIfInBounds off v = cs') (h : w.heap[k]? = some (.cells cs t fr)) : (w.setCell ⟨k, off, none⟩ v).heap[k]? = some (.cells cs' t fr) := by
  subst e; simp [World.setCell, Array.getElem?_modify, h]
theorem hl_row {cs cs' : Array Value} {t : TypeId} {fr : Nat × Nat} (h : w.heap[k]? = some (.cells cs t fr)) : (w.setRow k cs').heap[k]? = some (.cells cs' t fr) := by
  simp [World.setRow, Array.getElem?_modify, h]
theorem hl_rowfar {g : Nat} {cs' : Array Value} (hk : g ≠ k) (h : w.heap[k]? = r) : (w.setRow g cs').heap[k]? = r := (setRow_other w g k cs' (Ne.symm hk)).trans h
theorem hl_below {B : Nat} (hb : Below B w w') (hk : k < B) (h : w.heap[k]? = r) : w'.heap[k]? = r := (hb.block k hk).trans h
theorem hl_grow {x : Obj} (hb : Below w.heap.size w w') (h : w.heap[k]? = some x) : w'.heap[k]? = some x := (hb.block k (hl_lt h)).trans h
theorem below_row {B : Nat} {a : World} (h : Below B a w) {g : Nat} (hg : B ≤ g) (cs : Array Value) : Below B a (w.setRow g cs) :=
  h.trans ⟨rfl, rfl, rfl, by simp [World.setRow], fun k hk => by
    simp only [World.setRow, Array.getElem?_modify]
    rw [if_neg (by omega)]⟩
theorem alloc_call {cs : Array Value} {t : TypeId} (b : Below (w.alloc (.cells cs t)).heap.size (w.alloc (.cells cs t)) w') : w'.heap[w.heap.size]? = some (.cells cs t (0, 0)) ∧ w.heap.size < w'.heap.size ∧ Below w.heap.size w w' :=
  ⟨hl_below b (by simp) (hl_new rfl), by have := b.size; simp at this; omega, ((Below.refl _ _).alloc (Nat.le_refl _) _).trans (b.mono (by simp))⟩
theorem row_ne {g g' : Nat} {cs cs' : Array Value} {t t' : TypeId} {fr fr' : Nat × Nat} (h : w.heap[g]? = some (.cells cs t fr)) (h' : w.heap[g']? = some (.cells cs' t' fr')) (hne : t ≠ t') : g ≠ g' := by
  rintro rfl
  rw [h] at h'
  injection h' with h'
  injection h' with _ ht
  exact hne ht
theorem own_row_ne {base g : Nat} {e t : TypeId} {size n : Nat} {v : Value} {xs : List Value} {cs : Array Value} {fr : Nat × Nat} (h : w.ownsRow base e size v n xs) (hg : w.heap[g]? = some (.cells cs t fr)) (hne : e ≠ t) : v.ownBlock ≠ some g := by
  rcases h.2 with ⟨rfl, _⟩ | ⟨g', cap, cur, rfl, _, hh, _⟩
  · simp [Value.ownBlock]
  · intro he
    have : g' = g := by simpa [Value.ownBlock] using he
    subst this
    exact row_ne hh hg hne rfl
theorem own_own_ne {base base' : Nat} {e t : TypeId} {size n size' n' : Nat} {v v' : Value} {xs xs' : List Value} (h : w.ownsRow base e size v n xs) (h' : w.ownsRow base' t size' v' n' xs') (hne : e ≠ t) : ∀ g, v.ownBlock = some g → v'.ownBlock ≠ some g := by
  intro g hg
  rcases h.2 with ⟨rfl, _⟩ | ⟨g', cap, cur, rfl, _, hh, _⟩
  · simp [Value.ownBlock] at hg
  · have : g' = g := by simpa [Value.ownBlock] using hg
    subst this
    exact own_row_ne h' hh (Ne.symm hne)
theorem own_lit1 (w : World) (e : TypeId) (cs : Array Value) (n : Nat) (hs : cs.size = n) (hm : n ≤ maxLen) : (w.alloc (.cells cs e)).ownsRow w.heap.size e 1 (.slice (some ⟨w.heap.size, 0, none⟩) n n) n cs.toList :=
  World.ownsRow_lit w cs n (Nat.le_refl _) hm (by omega)
end
structure Fr (T : Nat → Prop) (w w' : World) : Prop where
  os : w'.os = w.os
  tape : w'.tape = w.tape
  output : w'.output = w.output
  size : w.heap.size ≤ w'.heap.size
  block : ∀ b, b < w.heap.size → ¬ T b → w'.heap[b]? = w.heap[b]?
section
variable {T T' : Nat → Prop} {w w' w'' : World} {B : Nat}
theorem Fr.refl (T : Nat → Prop) (w : World) : Fr T w w := ⟨rfl, rfl, rfl, Nat.le_refl _, fun _ _ _ => rfl⟩
theorem Fr.mono (h : Fr T w w') (hT : ∀ b, b < w.heap.size → T b → T' b) : Fr T' w w' := ⟨h.os, h.tape, h.output, h.size, fun b hb hn => h.block b hb (fun ht => hn (hT b hb ht))⟩
theorem Fr.trans (h : Fr T w w') (h' : Fr T' w' w'') (hT : ∀ b, b < w.heap.size → T' b → T b) : Fr T w w'' :=
  ⟨h'.os.trans h.os, h'.tape.trans h.tape, h'.output.trans h.output, Nat.le_trans h.size h'.size,
   fun b hb hn => (h'.block b (Nat.lt_of_lt_of_le hb h.size) (fun ht => hn (hT b hb ht))).trans (h.block b hb hn)⟩
theorem Fr.of_below (h : Below B w w') (hT : ∀ b, B ≤ b → b < w.heap.size → T b) : Fr T w w' := ⟨h.os, h.tape, h.output, h.size, fun b hb hn => h.block b (by
  rcases Nat.lt_or_ge b B with h1 | h1
  · exact h1
  · exact absurd (hT b h1 hb) hn)⟩
theorem Fr.of_grow (h : Below w.heap.size w w') : Fr T w w' := Fr.of_below h (fun b h1 h2 => absurd h1 (by omega))
theorem Fr.then (h : Fr T w w') (h' : Below w'.heap.size w' w'') : Fr T w w'' := h.trans (T' := fun _ => False) (Fr.of_grow h') (fun _ _ h => h.elim)
theorem Fr.to_below (h : Fr T w w') (hT : ∀ b, b < w.heap.size → T b → B ≤ b) (hB : B ≤ w.heap.size) : Below B w w' := ⟨h.os, h.tape, h.output, h.size, fun b hb => h.block b (by omega) (fun ht => absurd (hT b (by omega) ht) (by omega))⟩
theorem Fr.alloc (h : Fr T w w') (o : Obj) : Fr T w (w'.alloc o) := h.then ((Below.refl _ _).alloc (Nat.le_refl _) o)
theorem Fr.drew (h : Fr T w w') : Fr T w w'.drew := ⟨h.os, h.tape, h.output, h.size, h.block⟩
theorem Fr.drewN (h : Fr T w w') (n : Nat) : Fr T w (w'.drewN n) := ⟨h.os, h.tape, h.output, h.size, h.block⟩
theorem Fr.setCell (h : Fr T w w') {p : Addr} (hp : p.block < w.heap.size → T p.block) (v : Value) : Fr T w (w'.setCell p v) :=
  ⟨h.os, h.tape, h.output, by simpa [World.setCell] using h.size, fun b hb hn => (Below.heap_setCell w' p v b (by rintro rfl; exact hn (hp hb))).trans (h.block b hb hn)⟩
theorem Fr.setNew (h : Fr T w w') {p : Addr} (hp : w.heap.size ≤ p.block) (v : Value) : Fr T w (w'.setCell p v) := h.setCell (fun h1 => absurd hp (by omega)) v
theorem Fr.setRow (h : Fr T w w') {g : Nat} (hp : g < w.heap.size → T g) (cs : Array Value) : Fr T w (w'.setRow g cs) :=
  ⟨h.os, h.tape, h.output, by simpa [World.setRow] using h.size, fun b hb hn => (setRow_other w' g b cs (by rintro rfl; exact hn (hp hb))).trans (h.block b hb hn)⟩
theorem Fr.grown {row : Option Nat} (h : Fr T w w') (hg : w'.grownBy w'' row) (hr : ∀ g, row = some g → g < w.heap.size → T g) : Fr T w w'' :=
  ⟨hg.os.trans h.os, hg.tape.trans h.tape, hg.output.trans h.output, Nat.le_trans h.size hg.size,
   fun b hb hn => (hg.block b (Nat.lt_of_lt_of_le hb h.size) (fun e => hn (hr b e.symm hb))).trans (h.block b hb hn)⟩
theorem Fr.row (h : Fr T w w') {b : Nat} {o : Obj} (hr : w.heap[b]? = some o) (hT : ¬ T b) : w'.heap[b]? = some o := (h.block b (hl_lt hr) hT).trans hr
theorem Fr.at_ (h : Fr T w w') {A : Option Addr} {xs : List Value} (ha : At w B A xs) (hT : ∀ b, b < B → ¬ T b) : At w' B A xs := fun hx => by
  obtain ⟨b, off, e, hb, hc⟩ := ha hx
  refine ⟨b, off, e, hb, fun j u hu => ?_⟩
  have h1 := hc j u hu
  have hz : b < w.heap.size := World.block_lt_of_cell? w ⟨b, off + j, none⟩ h1
  rw [World.cell?_of_block (a := ⟨b, off + j, none⟩) (h.block b hz (hT b hb))]
  exact h1
theorem Fr.own {base : Nat} {e : TypeId} {size n : Nat} {v : Value} {xs : List Value} (h : Fr T w w') (ho : w.ownsRow base e size v n xs) (hT : ∀ g, v.ownBlock = some g → ¬ T g) : w'.ownsRow base e size v n xs := by
  refine ⟨ho.1, ?_⟩
  rcases ho.2 with h2 | ⟨g, cap, cur, hv, hg, hh, r⟩
  · exact Or.inl h2
  · exact Or.inr ⟨g, cap, cur, hv, hg, h.row hh (hT g (by subst hv; simp [Value.ownBlock])), r⟩
end
theorem own_grow {w w' : World} {base : Nat} {e : TypeId} {size n : Nat} {v : Value} {xs : List Value} (ho : w.ownsRow base e size v n xs) (h : Below w.heap.size w w') : w'.ownsRow base e size v n xs := own_below ho h
theorem own_lt {w : World} {base : Nat} {e : TypeId} {size n : Nat} {v : Value} {xs : List Value} (ho : w.ownsRow base e size v n xs) : ∀ g, v.ownBlock = some g → base ≤ g ∧ g < w.heap.size := ho.lt
theorem own_raise {w : World} {base base' : Nat} {e : TypeId} {size n : Nat} {v : Value} {xs : List Value} (ho : w.ownsRow base e size v n xs) (h : ∀ g, v.ownBlock = some g → base' ≤ g) : w.ownsRow base' e size v n xs := by
  refine ⟨ho.1, ?_⟩
  rcases ho.2 with h2 | ⟨g, cap, cur, hv, hg, r⟩
  · exact Or.inl h2
  · exact Or.inr ⟨g, cap, cur, hv, h g (by subst hv; simp [Value.ownBlock]), r⟩
theorem at_news (w : World) (us : List Value) (e : TypeId) : At (w.alloc (.cells us.toArray e)) (w.heap.size + 1) (some ⟨w.heap.size, 0, none⟩) us := fun _ => by
  refine ⟨w.heap.size, 0, rfl, by omega, fun j u hu => ?_⟩
  rw [Nat.zero_add, cell_of_row _ _ _ _ e (0, 0) (heap_alloc_new w _)]
  simpa using hu
theorem step_push {P : Program} {ops : Array Oper} {o : Oper} {a : Act} {w : World} {K : Act → World → Prop} {Q : Exit → Act → World → Prop} {X : Prop} (hgd : o.guard = none) (s x : Operand) (t : TypeId)
    (ho : o.op = .call { callee := .builtin .append, args := #[s, x], argTypes := #[t, t] }) {e : TypeId} {z : Value} {size bytes : Nat} (E : Elem P t e z size bytes)
    (w0 : World) (us : List Value) (hw : w = w0.alloc (.cells us.toArray e)) (hus : us.length = size) (h1 : ∀ u ∈ us, u.oneCell' = true)
    (base : Nat) (v : Value) (n : Nat) (xs : List Value) (hs : a.eval s = v) (hx : a.eval x = .slice (some ⟨w0.heap.size, 0, none⟩) 1 1) (hown : w0.ownsRow base e size v n xs)
    (h63 : n + 1 ≤ maxLen) (hbytes : (n + 1) * bytes ≤ 140737488355328) (hbase : base ≤ w0.heap.size)
    (h : ∀ A c w', w'.ownsRow base e size (.slice A (n + 1) c) (n + 1) (xs ++ us) → w0.grownBy w' v.ownBlock → K (a.put o.dst (.slice A (n + 1) c)) w') : if Region.wanted o (yielded ops a.tmps) = true then Oper.wp P o a w K Q else X := by
  subst hw
  rw [if_pos (by simp [Region.wanted, hgd])]
  exact wp_append_at s x t ho E base v n xs hs (hown.alloc _) (w0.heap.size + 1) (some ⟨w0.heap.size, 0, none⟩) 1 1 us hx (at_news w0 us e) (by rw [hus, Nat.one_mul]) h1 h63 hbytes (by simp; omega) fun A' c' w' h2 h3 => h A' c' w' h2 (grown_of_alloc h3)
theorem own_at3 {w : World} {B : Nat} {e : TypeId} {size n c : Nat} {A : Option Addr} {xs : List Value} (h : w.ownsRow B e size (.slice A n c) n xs) : At w w.heap.size A xs := fun hx => by
  rcases h.2 with ⟨hv, h0⟩ | ⟨g, cap, cur, hv, hg, hh, _⟩
  · subst h0
    exact absurd (List.eq_nil_of_length_eq_zero (by simpa using h.1)) hx
  · injection hv with hA _ _
    subst hA
    refine ⟨g, 0, rfl, (Array.getElem?_eq_some_iff.1 hh).1, fun j u hu => ?_⟩
    have := h.cells (g := g) rfl j u hu
    rwa [add_none] at this
theorem Fr.push {T : Nat → Prop} {w w0 w' : World} {row : Option Nat} (h : Fr T w w0) (hg : w0.grownBy w' row) (hr : ∀ g, row = some g → g < w.heap.size → T g) : Fr T w w' := h.grown hg hr
end Go.Proofs.YtfhpaehfihnjaaaGreat
namespace Go.Proofs.YtfhpaehfihnjaaaGreat
open Go.RowKit
abbrev Hp := Nat → Option Obj
abbrev SA := Hp → Prop
def Hp.le (h k : Hp) : Prop := ∀ b o, h b = some o → k b = some o
def Hp.off (h k : Hp) : Prop := ∀ b o o', h b = some o → k b = some o' → False
def Hp.un (h k : Hp) : Hp := fun b => match h b with | some o => some o | none => k b
theorem Hp.un_some {h k : Hp} {b : Nat} {o : Obj} (e : Hp.un h k b = some o) : h b = some o ∨ k b = some o := by
  unfold Hp.un at e; split at e
  · rename_i o' h'; injection e with e; subst e; exact Or.inl h'
  · exact Or.inr e
theorem Hp.le_un_left (h k : Hp) : h.le (Hp.un h k) := fun b o e => by simp [Hp.un, e]
theorem Hp.le_un_right {h k : Hp} (d : h.off k) : k.le (Hp.un h k) := fun b o e => by
  unfold Hp.un; split
  · rename_i o' h'; exact (d b o' o h' e).elim
  · exact e
theorem Hp.un_le {h k m : Hp} (a : h.le m) (b : k.le m) : (Hp.un h k).le m := fun x o e => (Hp.un_some e).elim (a x o) (b x o)
theorem Hp.off_symm {h k : Hp} (d : h.off k) : k.off h := fun b o o' e e' => d b o' o e' e
theorem Hp.off_un {h k m : Hp} (a : m.off h) (b : m.off k) : m.off (Hp.un h k) := fun x o o' e e' => (Hp.un_some e').elim (a x o o' e) (b x o o' e)
theorem Hp.off_le {h h' k : Hp} (d : h.off k) (l : h'.le h) : h'.off k := fun b o o' e e' => d b o o' (l b o e) e'
theorem Hp.le_refl (h : Hp) : h.le h := fun _ _ e => e
theorem Hp.le_trans {h k m : Hp} (a : h.le k) (b : k.le m) : h.le m := fun x o e => b x o (a x o e)
def star : List SA → SA
  | [] => fun _ => True
  | P :: r => fun h => ∃ h1 h2, P h1 ∧ star r h2 ∧ Hp.off h1 h2 ∧ Hp.le h1 h ∧ Hp.le h2 h
theorem star_le : ∀ {L : List SA} {h k : Hp}, h.le k → star L h → star L k
  | [], _, _, _, _ => trivial
  | _ :: _, _, _, l, ⟨h1, h2, p, q, d, l1, l2⟩ => ⟨h1, h2, p, q, d, Hp.le_trans l1 l, Hp.le_trans l2 l⟩
theorem star_cons {a : SA} {L M : List SA} (f : ∀ h, star L h → star M h) {h : Hp} : star (a :: L) h → star (a :: M) h
  | ⟨h1, h2, p, q, d, l1, l2⟩ => ⟨h1, h2, p, f _ q, d, l1, l2⟩
theorem star_head {a b : SA} {L : List SA} (f : ∀ h, a h → b h) {h : Hp} : star (a :: L) h → star (b :: L) h
  | ⟨h1, h2, p, q, d, l1, l2⟩ => ⟨h1, h2, f _ p, q, d, l1, l2⟩
theorem star_tail {a : SA} {L : List SA} {h : Hp} : star (a :: L) h → star L h
  | ⟨_, _, _, q, _, _, l2⟩ => star_le l2 q
theorem star_swap {a b : SA} {L : List SA} {h : Hp} : star (a :: b :: L) h → star (b :: a :: L) h := by
  rintro ⟨h1, h2, p, ⟨h3, h4, q, r, d', l3, l4⟩, d, l1, l2⟩
  have d14 : h1.off h4 := fun b o o' e e' => d b o o' e (l4 b o' e')
  have d31 : h3.off h1 := fun b o o' e e' => d b o' o e' (l3 b o e)
  exact ⟨h3, Hp.un h1 h4, q, ⟨h1, h4, p, r, d14, Hp.le_un_left _ _, Hp.le_un_right d14⟩, Hp.off_un d31 d', Hp.le_trans l3 l2, Hp.un_le l1 (Hp.le_trans l4 l2)⟩
theorem star_perm {L M : List SA} (p : L.Perm M) : ∀ h, star L h → star M h := by
  induction p with
  | nil => exact fun _ h => h
  | cons a _ ih => exact fun _ => star_cons ih
  | swap a b l => exact fun _ => star_swap
  | trans _ _ i j => exact fun h k => j h (i h k)
theorem star_append : ∀ {L M : List SA} {h : Hp}, star (L ++ M) h → star (star L :: M) h
  | [], M, h, s => ⟨fun _ => none, h, trivial, s, (by intro b o o' e; cases e), (by intro b o e; cases e), Hp.le_refl _⟩
  | a :: L, M, h, ⟨h1, h2, p, q, d, l1, l2⟩ => by
    obtain ⟨h3, h4, r, t, d', l3, l4⟩ := star_append q
    have d13 : h1.off h3 := fun b o o' e e' => d b o o' e (l3 b o' e')
    have d14 : h1.off h4 := fun b o o' e e' => d b o o' e (l4 b o' e')
    exact ⟨Hp.un h1 h3, h4, ⟨h1, h3, p, r, d13, Hp.le_un_left _ _, Hp.le_un_right d13⟩, t, fun b o o' e e' => (Hp.un_some e).elim (fun e => d14 b o o' e e') (fun e => d' b o o' e e'),
      Hp.un_le l1 (Hp.le_trans l3 l2), Hp.le_trans l4 l2⟩
theorem append_star : ∀ {L M : List SA} {h : Hp}, star (star L :: M) h → star (L ++ M) h
  | [], _, _, ⟨_, _, _, s, _, _, l⟩ => star_le l s
  | a :: L, M, h, ⟨h1, h2, ⟨h3, h4, p, q, d', l3, l4⟩, t, d, l1, l2⟩ => by
    have d42 : h4.off h2 := Hp.off_le d l4
    have d32 : h3.off h2 := Hp.off_le d l3
    exact ⟨h3, Hp.un h4 h2, p, append_star ⟨h4, h2, q, t, d42, Hp.le_un_left _ _, Hp.le_un_right d42⟩, Hp.off_un d' d32, Hp.le_trans l3 l1, Hp.un_le (Hp.le_trans l4 l1) l2⟩
def SL (W : World) (L : List SA) (w : World) : Prop := Below W.heap.size W w ∧ ∃ h, star L h ∧ ∀ b o, h b = some o → W.heap.size ≤ b ∧ w.heap[b]? = some o
def pts (b : Nat) (o : Obj) : SA := fun h => h b = some o
def cel (b : Nat) (cs : Array Value) (t : TypeId) : SA := pts b (.cells cs t (0, 0))
def rowS (e : TypeId) (size : Nat) (v : Value) (n : Nat) (xs : List Value) : SA := fun h => xs.length = n * size ∧
  ((v = .slice none 0 0 ∧ n = 0) ∨ ∃ g cap cur, v = .slice (some ⟨g, 0, none⟩) n cap ∧ h g = some (.cells cur e (0, 0)) ∧ n ≤ cap ∧ cap ≤ maxLen ∧ cur.size = cap * size ∧ cur.toList.take (n * size) = xs)
section
variable {W w w' : World} {L M r : List SA} {a b c d e f g : SA}
theorem SL.below (S : SL W L w) : Below W.heap.size W w := S.1
theorem SL.size (S : SL W L w) : W.heap.size ≤ w.heap.size := S.1.size
theorem SL.start (W : World) : SL W [] W := ⟨Below.refl _ _, fun _ => none, trivial, by intro b o e; cases e⟩
theorem SL.imp (S : SL W L w) (f : ∀ h, star L h → star M h) : SL W M w := ⟨S.1, S.2.imp fun h k => ⟨f h k.1, k.2⟩⟩
theorem SL.perm (S : SL W L w) (p : L.Perm M) : SL W M w := S.imp (star_perm p)
theorem SL.drop (S : SL W (a :: r) w) : SL W r w := S.imp fun _ => star_tail
theorem SL.head (S : SL W (a :: r) w) (f : ∀ h, a h → b h) : SL W (b :: r) w := S.imp fun _ => star_head f
theorem SL.s1 (S : SL W (a :: b :: r) w) : SL W (b :: a :: r) w := S.imp fun _ => star_swap
theorem SL.s2 (S : SL W (a :: b :: c :: r) w) : SL W (c :: a :: b :: r) w := (S.imp fun _ => star_cons fun _ => star_swap).s1
theorem SL.s3 (S : SL W (a :: b :: c :: d :: r) w) : SL W (d :: a :: b :: c :: r) w := (S.imp fun _ => star_cons fun _ => star_cons fun _ => star_swap).s2
theorem SL.s4 (S : SL W (a :: b :: c :: d :: e :: r) w) : SL W (e :: a :: b :: c :: d :: r) w := (S.imp fun _ => star_cons fun _ => star_cons fun _ => star_cons fun _ => star_swap).s3
theorem SL.s5 (S : SL W (a :: b :: c :: d :: e :: f :: r) w) : SL W (f :: a :: b :: c :: d :: e :: r) w := (S.imp fun _ => star_cons fun _ => star_cons fun _ => star_cons fun _ => star_cons fun _ => star_swap).s4
theorem SL.s6 (S : SL W (a :: b :: c :: d :: e :: f :: g :: r) w) : SL W (g :: a :: b :: c :: d :: e :: f :: r) w := (S.imp fun _ => star_cons fun _ => star_cons fun _ => star_cons fun _ => star_cons fun _ => star_cons fun _ => star_swap).s5
theorem SL.b2 (S : SL W (a :: b :: c :: r) w) : SL W (b :: c :: a :: r) w := S.s2.s2
theorem SL.b3 (S : SL W (a :: b :: c :: d :: r) w) : SL W (b :: c :: d :: a :: r) w := S.s3.s3.s3
theorem SL.b4 (S : SL W (a :: b :: c :: d :: e :: r) w) : SL W (b :: c :: d :: e :: a :: r) w := S.s4.s4.s4.s4
theorem SL.app (S : SL W (L ++ r) w) : SL W (star L :: r) w := S.imp fun _ => star_append
theorem SL.spill (S : SL W (star L :: r) w) : SL W (L ++ r) w := S.imp fun _ => append_star
theorem SL.only (S : SL W (a :: r) w) : SL W [a] w := S.imp fun _ => star_cons (M := []) fun _ _ => trivial
theorem SL.dropMid (S : SL W (a :: (L ++ r)) w) : SL W (a :: r) w := S.imp fun _ => star_cons fun _ h => star_tail (star_append h)
theorem SL.unpack {α : Type} {P : SA} {φ : α → Prop} {K : α → List SA} (S : SL W (P :: r) w) (f : ∀ h, P h → ∃ x, φ x ∧ star (K x) h) : ∃ x, φ x ∧ SL W (K x ++ r) w := by
  obtain ⟨B, h, ⟨h1, h2, p, q, dd, l1, l2⟩, k⟩ := S
  obtain ⟨x, px, sx⟩ := f h1 p
  exact ⟨x, px, SL.spill ⟨B, h, ⟨h1, h2, sx, q, dd, l1, l2⟩, k⟩⟩
theorem SL.pack {P : SA} (S : SL W (L ++ r) w) (f : ∀ h, star L h → P h) : SL W (P :: r) w := S.app.head f
theorem SL.pure {P : SA} {φ : Prop} (S : SL W (P :: r) w) (f : ∀ h, P h → φ) : φ := by
  obtain ⟨_, h, ⟨h1, h2, p, _⟩, _⟩ := S
  exact f h1 p
theorem SL.cast (e : w' = w) (S : SL W L w) : SL W L w' := e ▸ S
theorem SL.same (S : SL W L w) (hb : Below W.heap.size W w') (k : ∀ x o, W.heap.size ≤ x → w.heap[x]? = some o → w'.heap[x]? = some o) : SL W L w' := by
  obtain ⟨B, h, s, l⟩ := S
  exact ⟨hb, h, s, fun x o e => ⟨(l x o e).1, k x o (l x o e).1 (l x o e).2⟩⟩
theorem SL.drew (S : SL W L w) : SL W L w.drew := S.same S.1.drew fun _ _ _ e => e
theorem SL.drewN (S : SL W L w) (n : Nat) : SL W L (w.drewN n) := S.same (below_drewN S.1 n) fun _ _ _ e => e
theorem SL.still (S : SL W L w) (h : Still w w') : SL W L w' := by obtain ⟨n, rfl⟩ := h; exact S.drewN n
theorem SL.grow (S : SL W L w) (h : Below w.heap.size w w') : SL W L w' := S.same (S.1.trans (h.mono S.1.size)) fun _ _ _ e => hl_grow h e
theorem SL.join (S : SL W L w) (T : SL w M w') : SL W (M ++ L) w' := by
  obtain ⟨B, h, s, l⟩ := S
  obtain ⟨B', h', s', l'⟩ := T
  refine ⟨B.trans (B'.mono B.size), Hp.un h' h, append_star ⟨h', h, s', s, ?_, Hp.le_un_left _ _, Hp.le_un_right ?_⟩, fun x o e => ?_⟩
  · intro x o o' e e'
    have h1 := (l' x o e).1
    have h2 := hl_lt (l x o' e').2
    omega
  · intro x o o' e e'
    have h1 := (l' x o e).1
    have h2 := hl_lt (l x o' e').2
    omega
  · rcases Hp.un_some e with e | e
    · exact ⟨Nat.le_trans B.size (l' x o e).1, (l' x o e).2⟩
    · exact ⟨(l x o e).1, hl_grow B' (l x o e).2⟩
theorem SL.alloc (S : SL W L w) (o : Obj) : SL W (pts w.heap.size o :: L) (w.alloc o) :=
  S.join (M := [pts w.heap.size o]) ⟨(Below.refl _ _).alloc (Nat.le_refl _) o, fun x => if x = w.heap.size then some o else none,
    ⟨fun x => if x = w.heap.size then some o else none, fun _ => none, by simp [pts], trivial, (by intro b o o' _ e; cases e), Hp.le_refl _, (by intro b o e; cases e)⟩,
    fun x o' e => by
      dsimp only at e
      split at e
      · rename_i hx; injection e with e; subst e; subst hx; exact ⟨Nat.le_refl _, hl_new rfl⟩
      · cases e⟩
theorem SL.allocC (S : SL W L w) (cs : Array Value) (t : TypeId) : SL W (cel w.heap.size cs t :: L) (w.alloc (.cells cs t)) := S.alloc _
theorem SL.row {x : Nat} {o : Obj} (S : SL W (pts x o :: r) w) : w.heap[x]? = some o := by
  obtain ⟨_, h, ⟨h1, h2, p, _, _, l1, _⟩, k⟩ := S
  exact (k _ _ (l1 _ _ p)).2
theorem SL.ge {x : Nat} {o : Obj} (S : SL W (pts x o :: r) w) : W.heap.size ≤ x := by
  obtain ⟨_, h, ⟨h1, h2, p, _, _, l1, _⟩, k⟩ := S
  exact (k _ _ (l1 _ _ p)).1
theorem SL.crow {x : Nat} {cs : Array Value} {t : TypeId} (S : SL W (cel x cs t :: r) w) : w.heap[x]? = some (.cells cs t (0, 0)) := SL.row S
theorem SL.cge {x : Nat} {cs : Array Value} {t : TypeId} (S : SL W (cel x cs t :: r) w) : W.heap.size ≤ x := SL.ge S
theorem SL.look {x : Nat} {cs : Array Value} {t : TypeId} (S : SL W (cel x cs t :: r) w) : (∀ o, w.cell? ⟨x, o, none⟩ = cs[o]?) ∧ (∀ o, w.frozen? ⟨x, o, none⟩ = false) ∧ x < w.heap.size := row_look S.crow
theorem SL.ne {x y : Nat} {o o' : Obj} (S : SL W (pts x o :: pts y o' :: r) w) : x ≠ y := by
  obtain ⟨_, h, ⟨h1, h2, p, ⟨h3, h4, q, _, _, l3, _⟩, dd, l1, _⟩, k⟩ := S
  rintro rfl
  exact dd x o o' p (l3 x o' q)
theorem SL.cne {x y : Nat} {cs cs' : Array Value} {t t' : TypeId} (S : SL W (cel x cs t :: cel y cs' t' :: r) w) : x ≠ y := SL.ne S
theorem SL.turn {x : Nat} {o o' : Obj} (S : SL W (pts x o :: r) w) (h1 : w'.heap[x]? = some o') (hf : Fr (fun b => b = x) w w') : SL W (pts x o' :: r) w' := by
  have hx := S.ge
  obtain ⟨B, h, ⟨h1', h2, p, q, dd, l1, l2⟩, k⟩ := S
  have hk : ∀ b o, h2 b = some o → b ≠ x := by rintro b o e rfl; exact dd _ _ _ p e
  refine ⟨B.trans (hf.to_below (fun b _ e => e ▸ hx) B.size), fun b => if b = x then some o' else h2 b, ⟨fun b => if b = x then some o' else none, h2, by simp [pts], q, ?_, ?_, ?_⟩, ?_⟩
  · intro b o1 o2 e e2
    dsimp only at e
    split at e
    · rename_i hb; exact hk b o2 e2 hb
    · cases e
  · intro b o1 e
    dsimp only at e
    split at e
    · rename_i hb; dsimp only; rw [if_pos hb]; exact e
    · cases e
  · intro b o1 e
    dsimp only; rw [if_neg (hk b o1 e)]; exact e
  · intro b o1 e
    dsimp only at e
    split at e
    · rename_i hb; subst hb; injection e with e; subst e; exact ⟨hx, h1⟩
    · rename_i hb
      have := k b o1 (l2 b o1 e)
      exact ⟨this.1, hf.row this.2 hb⟩
theorem SL.set {x off : Nat} {cs cs' : Array Value} {t : TypeId} {v : Value} (S : SL W (cel x cs t :: r) w) (he : cs.setIfInBounds off v = cs') : SL W (cel x cs' t :: r) (w.setCell ⟨x, off, none⟩ v) :=
  SL.turn S (hl_set he S.crow) ((Fr.refl (fun b => b = x) _).setCell (fun _ => rfl) _)
theorem SL.set3 {x : Nat} {v0 v1 v2 u0 u1 u2 : Value} {t : TypeId} (S : SL W (cel x #[v0, v1, v2] t :: r) w) : SL W (cel x #[u0, u1, u2] t :: r) (((w.setCell ⟨x, 0, none⟩ u0).setCell ⟨x, 1, none⟩ u1).setCell ⟨x, 2, none⟩ u2) :=
  ((S.set (cs' := #[u0, v1, v2]) rfl).set (cs' := #[u0, u1, v2]) rfl).set (cs' := #[u0, u1, u2]) rfl
theorem SL.setRow {x : Nat} {cs cs' : Array Value} {t : TypeId} (S : SL W (cel x cs t :: r) w) : SL W (cel x cs' t :: r) (w.setRow x cs') :=
  SL.turn S (hl_row S.crow) ((Fr.refl (fun b => b = x) _).setRow (fun _ => rfl) _)
theorem SL.frame {P Q : SA} {T : Nat → Prop} (S : SL W (P :: r) w) (hT : ∀ h, P h → (∀ b o, h b = some o → w.heap[b]? = some o) → ∀ b, b < w.heap.size → T b → ∃ o, h b = some o) (hf : Fr T w w')
    (hQ : (∀ h, P h → (∀ b o, h b = some o → w.heap[b]? = some o) → ∃ k, Q k ∧ ∀ b o, k b = some o → w'.heap[b]? = some o ∧ ((∃ o', h b = some o') ∨ w.heap.size ≤ b))) : SL W (Q :: r) w' := by
  obtain ⟨B, h, ⟨h1, h2, p, q, dd, l1, l2⟩, k⟩ := S
  have hp := hT h1 p fun b o e => (k b o (l1 b o e)).2
  obtain ⟨k1, qk, hk⟩ := hQ h1 p fun b o e => (k b o (l1 b o e)).2
  have off : k1.off h2 := fun b o o' e e' => by
    rcases (hk b o e).2 with ⟨o1, e1⟩ | hz
    · exact dd b o1 o' e1 e'
    · have := hl_lt (k b o' (l2 b o' e')).2; omega
  refine ⟨B.trans (hf.to_below (fun b hb e => ?_) B.size), Hp.un k1 h2, ⟨k1, h2, qk, q, off, Hp.le_un_left _ _, Hp.le_un_right off⟩, fun b o e => ?_⟩
  · obtain ⟨o, e1⟩ := hp b hb e
    exact (k b o (l1 b o e1)).1
  · rcases Hp.un_some e with e | e
    · refine ⟨?_, (hk b o e).1⟩
      rcases (hk b o e).2 with ⟨o1, e1⟩ | hz
      · exact (k b o1 (l1 b o1 e1)).1
      · exact Nat.le_trans B.size hz
    · have hb := k b o (l2 b o e)
      refine ⟨hb.1, hf.row hb.2 fun t => ?_⟩
      obtain ⟨o1, e1⟩ := hp b (hl_lt hb.2) t
      exact dd b o1 o e1 e
theorem SL.own {e : TypeId} {size n : Nat} {v : Value} {xs : List Value} (S : SL W (rowS e size v n xs :: r) w) : w.ownsRow W.heap.size e size v n xs := by
  obtain ⟨_, h, ⟨h1, h2, p, _, _, l1, _⟩, k⟩ := S
  refine ⟨p.1, ?_⟩
  rcases p.2 with p | ⟨x, cap, cur, hv, hx, rest⟩
  · exact Or.inl p
  · exact Or.inr ⟨x, cap, cur, hv, (k _ _ (l1 _ _ hx)).1, (k _ _ (l1 _ _ hx)).2, rest⟩
theorem SL.at_ {e : TypeId} {size n k : Nat} {A : Option Addr} {xs : List Value} (S : SL W (rowS e size (.slice A n k) n xs :: r) w) : At w w.heap.size A xs := own_at3 S.own
theorem SL.nil (S : SL W r w) (e : TypeId) (size : Nat) : SL W (rowS e size (.slice none 0 0) 0 [] :: r) w := by
  obtain ⟨B, h, s, k⟩ := S
  exact ⟨B, h, ⟨fun _ => none, h, ⟨by simp, Or.inl ⟨rfl, rfl⟩⟩, s, (by intro b o o' e; cases e), (by intro b o e; cases e), Hp.le_refl _⟩, k⟩
theorem rowS_pts {e : TypeId} {size cap n x : Nat} {cur : Array Value} {xs : List Value} (hn : n ≤ cap) (hm : cap ≤ maxLen) (hs : cur.size = cap * size) (ht : cur.toList.take (n * size) = xs) : ∀ h, pts x (.cells cur e (0, 0)) h → rowS e size (.slice (some ⟨x, 0, none⟩) n cap) n xs h := fun h p =>
  ⟨by subst ht; rw [List.length_take, Array.length_toList, hs, Nat.min_eq_left (Nat.mul_le_mul_right _ hn)], Or.inr ⟨x, cap, cur, rfl, p, hn, hm, hs, ht⟩⟩
theorem SL.regrown {e : TypeId} {size n n' : Nat} {v v' : Value} {xs xs' : List Value} (S : SL W (rowS e size v n xs :: r) w) (hg : w.grownBy w' v.ownBlock) (ho : w'.ownsRow W.heap.size e size v' n' xs')
    (hat : v'.ownBlock = v.ownBlock ∨ v'.ownBlock = some w.heap.size) : SL W (rowS e size v' n' xs' :: r) w' := by
  refine SL.frame (T := fun b => v.ownBlock = some b) S ?_ ((Fr.refl _ _).grown hg fun g hg _ => hg) ?_
  · intro h p _ b _ hv
    rcases p.2 with ⟨rfl, _⟩ | ⟨x, cap, cur, rfl, hx, _⟩
    · simp [Value.ownBlock] at hv
    · simp [Value.ownBlock] at hv; subst hv; exact ⟨_, hx⟩
  · intro h p _
    rcases ho.2 with hn | ⟨x, cap, cur, rfl, hx, hh, rest⟩
    · exact ⟨fun _ => none, ⟨ho.1, Or.inl hn⟩, by intro b o e; cases e⟩
    · refine ⟨fun b => if b = x then some (.cells cur e (0, 0)) else none, ⟨ho.1, Or.inr ⟨x, cap, cur, rfl, by simp, rest⟩⟩, fun b o e => ?_⟩
      dsimp only at e
      split at e
      · rename_i hb; subst hb; injection e with e; subst e
        refine ⟨hh, ?_⟩
        rcases hat with hat | hat
        · left
          rcases p.2 with ⟨rfl, _⟩ | ⟨y, cap, cur, rfl, hy, _⟩
          · simp [Value.ownBlock] at hat
          · simp [Value.ownBlock] at hat; subst hat; exact ⟨_, hy⟩
        · right; simp [Value.ownBlock] at hat; omega
      · cases e
theorem SL.made {e : TypeId} {size n : Nat} {v : Value} {xs : List Value} (S : SL W r w) (ho : w'.ownsRow w.heap.size e size v n xs) (hb : Below w.heap.size w w') : SL W (rowS e size v n xs :: r) w' := by
  refine S.join (M := [rowS e size v n xs]) ⟨hb, ?_⟩
  rcases ho.2 with hn | ⟨x, cap, cur, rfl, hx, hh, rest⟩
  · exact ⟨fun _ => none, ⟨fun _ => none, fun _ => none, ⟨ho.1, Or.inl hn⟩, trivial, (by intro b o o' e; cases e), (by intro b o e; cases e), (by intro b o e; cases e)⟩, by intro b o e; cases e⟩
  · refine ⟨fun b => if b = x then some (.cells cur e (0, 0)) else none, ⟨_, fun _ => none, ⟨ho.1, Or.inr ⟨x, cap, cur, rfl, by simp, rest⟩⟩, trivial, (by intro b o o' _ e; cases e), Hp.le_refl _, (by intro b o e; cases e)⟩, fun b o e => ?_⟩
    dsimp only at e
    split at e
    · rename_i hb; subst hb; injection e with e; subst e; exact ⟨hx, hh⟩
    · cases e
theorem SL.lit (S : SL W r w) (cs : Array Value) (t : TypeId) (size n : Nat) (hs : cs.size = n * size) (hm : n ≤ maxLen) : SL W (rowS t size (.slice (some ⟨w.heap.size, 0, none⟩) n n) n cs.toList :: r) (w.alloc (.cells cs t)) :=
  (S.alloc (.cells cs t)).head (rowS_pts (Nat.le_refl _) hm hs (List.take_of_length_le (by simp [hs])))
theorem SL.rowCel {e : TypeId} {size n : Nat} {v : Value} {xs : List Value} (S : SL W (rowS e size v n xs :: r) w) (hn : 0 < n) : ∃ x cap cur, v = .slice (some ⟨x, 0, none⟩) n cap ∧ n ≤ cap ∧ cap ≤ maxLen ∧ cur.size = cap * size ∧ cur.toList.take (n * size) = xs ∧ SL W (cel x cur e :: r) w := by
  obtain ⟨B, h, ⟨h1, h2, p, q, dd, l1, l2⟩, k⟩ := S
  rcases p.2 with ⟨_, h0⟩ | ⟨x, cap, cur, hv, hx, a1, a2, a3, a4⟩
  · omega
  · exact ⟨x, cap, cur, hv, a1, a2, a3, a4, B, h, ⟨h1, h2, hx, q, dd, l1, l2⟩, k⟩
theorem perm_erase {α : Type} : ∀ (l : List α) (i : Nat) (x : α), l[i]? = some x → l.Perm (x :: l.eraseIdx i)
  | [], i, x, h => by simp at h
  | y :: l, 0, x, h => by simp at h; subst h; exact List.Perm.refl _
  | y :: l, i + 1, x, h => ((perm_erase l i x (by simpa using h)).cons y).trans (List.Perm.swap x y _)
theorem set_eraseIdx {α : Type} : ∀ (l : List α) (i : Nat) (x : α), (l.set i x).eraseIdx i = l.eraseIdx i
  | [], i, x => by simp
  | y :: l, 0, x => by simp
  | y :: l, i + 1, x => by simp [set_eraseIdx l i x]
theorem SL.take {i : Nat} {P : SA} (S : SL W (star L :: r) w) (h : L[i]? = some P) : SL W (P :: star (L.eraseIdx i) :: r) w :=
  (S.spill.perm ((perm_erase L i P h).append_right r)).imp fun _ s => star_cons (fun _ => star_append) s
theorem SL.put {i : Nat} {P : SA} (S : SL W (P :: star (L.eraseIdx i) :: r) w) (h : i < L.length) : SL W (star (L.set i P) :: r) w := by
  have p := perm_erase (L.set i P) i P (by simp [h])
  rw [set_eraseIdx] at p
  exact (S.imp (M := P :: (L.eraseIdx i ++ r)) fun _ => star_cons fun _ => append_star).perm (p.symm.append_right r) |>.app
theorem SL.snoc {P : SA} (S : SL W (P :: star L :: r) w) : SL W (star (L ++ [P]) :: r) w :=
  ((S.imp (M := P :: (L ++ r)) fun _ => star_cons fun _ => append_star).perm (M := (L ++ [P]) ++ r) (by rw [List.append_assoc]; exact (List.perm_middle (l₁ := L)).symm)).app
theorem SL.unsnoc {P : SA} (S : SL W (star (L ++ [P]) :: r) w) : SL W (P :: star L :: r) w :=
  ((S.spill.perm (M := P :: (L ++ r)) (by rw [List.append_assoc]; exact List.perm_middle (l₁ := L)))).imp fun _ => star_cons fun _ => star_append
theorem SL.empty (S : SL W r w) : SL W (star [] :: r) w := S.app (L := [])
end
def Rd (W : World) (F : List SA) (A : Option Addr) (xs : List Value) : Prop := ∀ w, SL W F w → At w w.heap.size A xs
theorem Rd.base {W : World} {F : List SA} {A : Option Addr} {xs : List Value} (h : At W W.heap.size A xs) : Rd W F A xs := fun _ S => (h.below S.1).mono S.1.size
theorem Rd.cons {W : World} {F : List SA} {A : Option Addr} {xs : List Value} {P : SA} (h : Rd W F A xs) : Rd W (P :: F) A xs := fun w S => h w S.drop
theorem Rd.head {W : World} {F : List SA} {A : Option Addr} {xs : List Value} {e : TypeId} {size n k : Nat} : Rd W (rowS e size (.slice A n k) n xs :: F) A xs := fun _ S => S.at_
theorem Rd.nil_ {W : World} {F : List SA} {A : Option Addr} : Rd W F A [] := fun _ _ => At.nil_
end Go.Proofs.YtfhpaehfihnjaaaGreat
namespace Go.Proofs.YtfhpaehfihnjaaaGreat
open Go.RowKit
section
variable {P : Program} {ops : Array Oper} {md : Region.Mode} {C : World → Prop}
def takesB (md : Region.Mode) (ops : Array Oper) (k : Array Bool → Bool) : List Nat → Array Bool → Bool
  | [], d => k d
  | i :: is, d => (Region.ready md ops d).contains i && Region.free md ops d i && takesB md ops k is (d.setIfInBounds i true)
def tailB (md : Region.Mode) (ops : Array Oper) : List Nat → Array Bool → Bool
  | [], d => (Region.ready md ops d).isEmpty
  | t :: ts, d => decide (Region.ready md ops d = [t]) && tailB md ops ts (d.setIfInBounds t true)
def waitB (md : Region.Mode) (ops : Array Oper) (hs ts : List Nat) : Bool :=
  match ts with
  | [] => true
  | t0 :: _ => hs.all fun i => (t0 :: hs).any fun j => decide (i < j) && Region.waitsFor md ops j i
def rowB (md : Region.Mode) (ops : Array Oper) : List Nat → Bool
  | t :: t' :: r => Region.waitsFor md ops t' t && rowB md ops (t' :: r)
  | _ => true
def reachB (md : Region.Mode) (ops : Array Oper) : Nat → Nat → Nat → Bool
  | 0, _, _ => false
  | f + 1, j, i => match ops[j]? with
    | some o => o.after.any fun e => Region.binds md e && (e.on == i || reachB md ops f e.on i)
    | none => false
def stateB (md : Region.Mode) (ops : Array Oper) (hs ts : List Nat) (d : Array Bool) : Bool :=
  decide (d.size = ops.size) && (List.range ops.size).all (fun i => d.getD i false || hs.contains i || ts.contains i) && ts.all (fun t => !d.getD t true) &&
    (List.range ops.size).all (fun j => !d.getD j false || (match ops[j]? with | some o => o.after.all fun e => !Region.binds md e || d.getD e.on false | none => true))
def closedB (md : Region.Mode) (ops : Array Oper) (d : Array Bool) : Bool :=
  decide (d.size = ops.size) && (List.range ops.size).all (fun j => !d.getD j false || (match ops[j]? with | some o => o.after.all fun e => !Region.binds md e || d.getD e.on false | none => true))
def orderB (md : Region.Mode) (ops : Array Oper) (ps ls hs ts us : List Nat) : Bool :=
  Region.noSelect ops && waitB md ops hs (ts ++ us) && rowB md ops (ts ++ us) && hs.all (fun i => decide (i < ops.size)) && us.all (fun j => ls.all fun i => reachB md ops ops.size j i) && ls.all (fun i => !us.contains i) && hs.all (fun i => !us.contains i) && ts.all (fun i => !us.contains i) &&
    takesB md ops (fun d => closedB md ops d && takesB md ops (fun d' => stateB md ops hs (ts ++ us) d' && takesB md ops (tailB md ops (ts ++ us)) hs d') ls d) ps (Array.replicate ops.size false)
structure HInv (md : Region.Mode) (ops : Array Oper) (hs ts : List Nat) (d : Array Bool) : Prop where
  size : d.size = ops.size
  closed : ∀ j oj, ops[j]? = some oj → d.getD j false = true → ∀ e ∈ oj.after, Region.binds md e = true → d.getD e.on false = true
  tail : ∀ t ∈ ts, d.getD t true = false
  cover : ∀ i, i < ops.size → d.getD i false = false → i ∈ hs ∨ i ∈ ts
theorem HInv.set {hs ts : List Nat} {d : Array Bool} {i : Nat} (inv : HInv md ops hs ts d) (hi : i ∈ Region.ready md ops d) (hn : i ∉ ts) : HInv md ops hs ts (d.setIfInBounds i true) := by
  obtain ⟨_, oi, hoi, hall⟩ := mem_ready.1 hi
  refine ⟨by simp [inv.size], fun j oj hj hl e he hb => ?_, fun t ht => ?_, fun k hk hf => ?_⟩
  · by_cases hij : i = j
    · subst hij
      obtain rfl : oj = oi := Option.some.inj (hj.symm.trans hoi)
      exact getD_set_true (hall e he hb)
    · rw [getD_set_ne false hij] at hl
      exact getD_set_true (inv.closed j oj hj hl e he hb)
  · rw [getD_set_ne true (by rintro rfl; exact hn ht)]
    exact inv.tail t ht
  · by_cases hik : i = k
    · subst hik
      exfalso
      rw [Array.getD_eq_getD_getElem?, Array.getElem?_setIfInBounds_self_of_lt (by rw [inv.size]; exact hk)] at hf
      simp at hf
    · rw [getD_set_ne false hik] at hf
      exact inv.cover k hk hf
theorem rowB_spec : ∀ {ts : List Nat}, rowB md ops ts = true → ∀ t ∈ ts, (∃ r, ts = t :: r) ∨ ∃ t' ∈ ts, Region.waitsFor md ops t t' = true
  | [], _, t, h => by cases h
  | [x], _, t, h => by simp at h; subst h; exact .inl ⟨[], rfl⟩
  | x :: y :: r, hB, t, h => by
    simp only [rowB, Bool.and_eq_true] at hB
    rcases List.mem_cons.1 h with rfl | h
    · exact .inl ⟨_, rfl⟩
    · rcases rowB_spec hB.2 t h with ⟨r', hr⟩ | ⟨t', ht', hw⟩
      · injection hr with h1 _
        subst h1
        exact .inr ⟨x, by simp, hB.1⟩
      · exact .inr ⟨t', List.mem_cons_of_mem _ ht', hw⟩
theorem tail_later {hs ts : List Nat} {d : Array Bool} (hw : waitB md ops hs ts = true) (hr : rowB md ops ts = true) (hlt : ∀ i ∈ hs, i < ops.size) (inv : HInv md ops hs ts d) :
    ∀ (m i : Nat), ops.size - i = m → i ∈ hs → d.getD i true = false → ∀ t ∈ ts, t ∉ Region.ready md ops d := by
  intro m
  induction m using Nat.strongRecOn with
  | _ m ih =>
    intro i hm hi hun t ht hrt
    obtain ⟨_, ot, hot, hall⟩ := mem_ready.1 hrt
    rcases rowB_spec hr t ht with ⟨r, hts⟩ | ⟨t', ht', hwt⟩
    · rw [hts] at hw
      have h1 := List.all_eq_true.1 hw i hi
      obtain ⟨j, hj, hj2⟩ := List.any_eq_true.1 h1
      simp only [Bool.and_eq_true, decide_eq_true_eq] at hj2
      obtain ⟨oj, hoj, e, he, hb, hon⟩ := Region.waitsFor_spec hj2.2
      rcases List.mem_cons.1 hj with rfl | hjh
      · obtain rfl : oj = ot := Option.some.inj (hoj.symm.trans hot)
        have h2 := hall e he hb
        rw [hon, getD_both hun] at h2
        cases h2
      · cases hl : d.getD j false with
        | true =>
          have h2 := inv.closed j oj hoj hl e he hb
          rw [hon, getD_both hun] at h2
          cases h2
        | false => exact ih (ops.size - j) (by have := hlt j hjh; omega) j rfl hjh (getD_in (by rw [inv.size]; exact hlt j hjh) hl) t ht hrt
    · obtain ⟨oj, hoj, e, he, hb, hon⟩ := Region.waitsFor_spec hwt
      obtain rfl : oj = ot := Option.some.inj (hoj.symm.trans hot)
      have h2 := hall e he hb
      rw [hon, getD_both (inv.tail t' ht')] at h2
      cases h2
def headAny (P : Program) (md : Region.Mode) (ops : Array Oper) (C : World → Prop) (ts : List Nat) (L : Array Bool → Act → Prop) : Nat → Array Bool → Act → Prop
  | 0, d, a => L d a
  | f + 1, d, a => Region.ready md ops d ≠ [] ∧ ∀ i ∈ Region.ready md ops d, i ∉ ts ∧ qOp P ops C i (headAny P md ops C ts L f (d.setIfInBounds i true)) a
def wpAnyW (P : Program) (md : Region.Mode) (ops : Array Oper) (Q : Exit → Act → World → Prop) (C : World → Prop) (us : List Nat) : Nat → Array Bool → Act → World → Prop
  | 0, d, a, w => Region.ready md ops d = [] ∧ Q .normal a w
  | f + 1, d, a, w => (Region.ready md ops d = [] → Q .normal a w) ∧ ∀ i ∈ Region.ready md ops d, wpOp P ops Q i (fun a' w' => (i ∉ us → C w') ∧ wpAnyW P md ops Q C us f (d.setIfInBounds i true) a' w') a w
theorem wpAny_of_wpAnyW {Q : Exit → Act → World → Prop} {us : List Nat} : ∀ (f : Nat) (d : Array Bool) (a : Act) (w : World), wpAnyW P md ops Q C us f d a w → wpAny P md ops Q f d a w := by
  intro f
  induction f with
  | zero => intro d a w h; exact h
  | succ f ih => intro d a w h; exact ⟨h.1, fun i hi => wpOp_mono (fun a' w' h' => ih _ _ _ h'.2) (h.2 i hi)⟩
structure Closed (md : Region.Mode) (ops : Array Oper) (d : Array Bool) : Prop where
  size : d.size = ops.size
  closed : ∀ j oj, ops[j]? = some oj → d.getD j false = true → ∀ e ∈ oj.after, Region.binds md e = true → d.getD e.on false = true
theorem Closed.set {d : Array Bool} {i : Nat} (inv : Closed md ops d) (hi : i ∈ Region.ready md ops d) : Closed md ops (d.setIfInBounds i true) := by
  obtain ⟨_, oi, hoi, hall⟩ := mem_ready.1 hi
  refine ⟨by simp [inv.size], fun j oj hj hl e he hb => ?_⟩
  by_cases hij : i = j
  · subst hij
    obtain rfl : oj = oi := Option.some.inj (hj.symm.trans hoi)
    exact getD_set_true (hall e he hb)
  · rw [getD_set_ne false hij] at hl
    exact getD_set_true (inv.closed j oj hj hl e he hb)
theorem reach_done {d : Array Bool} (inv : Closed md ops d) : ∀ (f j i : Nat) (oj : Oper), ops[j]? = some oj → (∀ e ∈ oj.after, Region.binds md e = true → d.getD e.on false = true) → reachB md ops f j i = true → d.getD i false = true := by
  intro f
  induction f with
  | zero => intro j i oj _ _ h; cases h
  | succ f ih =>
    intro j i oj hj hall h
    simp only [reachB, hj] at h
    obtain ⟨e, he, h2⟩ := Array.any_eq_true'.1 h
    simp only [Bool.and_eq_true, Bool.or_eq_true, beq_iff_eq] at h2
    have hd := hall e he h2.1
    rcases h2.2 with h3 | h3
    · rw [← h3]; exact hd
    · cases ho : ops[e.on]? with
      | none => cases f with
        | zero => cases h3
        | succ f => simp [reachB, ho] at h3
      | some o' => exact ih e.on i o' ho (fun e' he' hb' => inv.closed _ _ ho hd e' he' hb') h3
theorem wpAnyW_first {Q : Exit → Act → World → Prop} {us : List Nat} {i : Nat} {oi : Oper} {v : Value} (hi : ops[i]? = some oi) (hsel : ∀ (j : Nat) (o : Oper) cs b, ops[j]? = some o → o.op ≠ .select cs b)
    (hQ : ∀ c a w, Q (.panic c) (a.put oi.dst v) w → Q (.panic c) a w) (hus : ∀ j ∈ us, reachB md ops ops.size j i = true) :
    ∀ (f : Nat) (d : Array Bool) (a : Act) (w : World), Closed md ops d →
      (∀ j oj, ops[j]? = some oj → j ≠ i → d.getD j true = false → (∀ e ∈ oj.after, Region.binds md e = true → e.on ≠ i) → oi.apart ops oj = true) →
      i ∈ Region.ready md ops d → YieldsIf P ops C oi v a → C w → wpAnyW P md ops Q C us f (d.setIfInBounds i true) (a.put oi.dst v) w → wpAnyW P md ops Q C us (f + 1) d a w := by
  intro f
  induction f with
  | zero =>
    intro d a w _ _ hr hy hC H
    refine ⟨fun h => (by rw [h] at hr; cases hr), fun j hj => ?_⟩
    by_cases hji : j = i
    · subst hji; exact hy.wpOp hi hC ⟨fun _ => hC, H⟩
    · have := ready_mono hj hji
      rw [H.1] at this
      cases this
  | succ f ih =>
    intro d a w inv hfree hr hy hC H
    refine ⟨fun h => (by rw [h] at hr; cases hr), fun j hj => ?_⟩
    by_cases hji : j = i
    · subst hji; exact hy.wpOp hi hC ⟨fun _ => hC, H⟩
    · have h1 := H.2 j (ready_mono hj hji)
      obtain ⟨hjun, oj, hoj, hall⟩ := mem_ready.1 hj
      have hun := (mem_ready.1 hr).1
      have hnot : ∀ e ∈ oj.after, Region.binds md e = true → e.on ≠ i := by
        intro e he hb heq
        have h1 := hall e he hb
        rw [heq, getD_both hun] at h1
        cases h1
      have hjus : j ∉ us := fun hju => by
        have := reach_done inv _ j i oj hoj hall (hus j hju)
        rw [getD_both hun] at this
        cases this
      have h2 := wpOp_putIf hoj (hfree j oj hoj hji hjun hnot) (fun cs b => hsel i oi cs b hi) (fun cs b => hsel j oj cs b hoj) hQ hy h1
      refine wpOp_mono (fun a' w' h3 => ⟨fun _ => h3.2.1 hjus, ih (d.setIfInBounds j true) a' w' (inv.set hj) ?_ (ready_mono hr (Ne.symm hji)) h3.1 (h3.2.1 hjus) ?_⟩) h2
      · intro k ok hk hki hun' hno
        refine hfree k ok hk hki ?_ hno
        by_cases hjk : j = k
        · subst hjk; exact hjun
        · rw [getD_set_ne true hjk] at hun'; exact hun'
      · rw [Array.setIfInBounds_comm _ _ hji]
        exact h3.2.2
theorem wpAnyW_of_headAny {ts us : List Nat} {g : Nat} {L : Array Bool → Act → Prop} {Q' : Exit → Act → World → Prop} (hL : ∀ d a w, C w → L d a → wpAnyW P md ops Q' C us g d a w) :
    ∀ (f : Nat) (d : Array Bool) (a : Act) (w : World), C w → headAny P md ops C ts L f d a → wpAnyW P md ops Q' C us (f + g) d a w := by
  intro f
  induction f with
  | zero => intro d a w hw h; rw [Nat.zero_add]; exact hL _ _ _ hw h
  | succ f ih =>
    intro d a w hw h
    rw [show f + 1 + g = (f + g) + 1 by omega]
    exact ⟨fun h0 => absurd h0 h.1, fun i hi => wpOp_of_qOp hw (fun a' w' hw' h' => ⟨fun _ => hw', ih _ _ _ hw' h'⟩) (h.2 i hi).2⟩
theorem wpAnyW_of_headAny2 {D : World → Prop} (hDC : ∀ w, D w → C w) {ts us : List Nat} {g : Nat} {L : Array Bool → Act → Prop} {Q' : Exit → Act → World → Prop} (hL : ∀ d a w, D w → L d a → wpAnyW P md ops Q' C us g d a w) :
    ∀ (f : Nat) (d : Array Bool) (a : Act) (w : World), D w → headAny P md ops D ts L f d a → wpAnyW P md ops Q' C us (f + g) d a w := by
  intro f
  induction f with
  | zero => intro d a w hw h; rw [Nat.zero_add]; exact hL _ _ _ hw h
  | succ f ih =>
    intro d a w hw h
    rw [show f + 1 + g = (f + g) + 1 by omega]
    exact ⟨fun h0 => absurd h0 h.1, fun i hi => wpOp_of_qOp hw (fun a' w' hw' h' => ⟨fun _ => hDC _ hw', ih _ _ _ hw' h'⟩) (h.2 i hi).2⟩
theorem headAny_first {hs ts : List Nat} {i : Nat} {oi : Oper} {v : Value} {L : Array Bool → Act → Prop} (hi : ops[i]? = some oi) (hsel : ∀ (j : Nat) (o : Oper) cs b, ops[j]? = some o → o.op ≠ .select cs b)
    (hw : waitB md ops hs ts = true) (hrow : rowB md ops ts = true) (hlt : ∀ i ∈ hs, i < ops.size) (hin : i ∈ hs) (hend : ∀ d a, L d a → ∀ j ∈ Region.ready md ops d, j ∈ ts) :
    ∀ (f : Nat) (d : Array Bool) (a : Act), HInv md ops hs ts d →
      (∀ j oj, ops[j]? = some oj → j ≠ i → d.getD j true = false → (∀ e ∈ oj.after, Region.binds md e = true → e.on ≠ i) → oi.apart ops oj = true) →
      i ∈ Region.ready md ops d → YieldsIn P ops C oi v a → headAny P md ops C ts L f (d.setIfInBounds i true) (a.put oi.dst v) → headAny P md ops C ts L (f + 1) d a := by
  intro f
  induction f with
  | zero =>
    intro d a inv _ hr hy H
    have hun := (mem_ready.1 hr).1
    refine ⟨fun h => (by rw [h] at hr; cases hr), fun j hj => ?_⟩
    have hjn : j ∉ ts := fun ht => tail_later hw hrow hlt inv _ i rfl hin hun j ht hj
    refine ⟨hjn, ?_⟩
    by_cases hji : j = i
    · subst hji; exact hy.qOp hi H
    · exact absurd (hend _ _ H j (ready_mono hj hji)) hjn
  | succ f ih =>
    intro d a inv hfree hr hy H
    have hun := (mem_ready.1 hr).1
    refine ⟨fun h => (by rw [h] at hr; cases hr), fun j hj => ?_⟩
    have hjn : j ∉ ts := fun ht => tail_later hw hrow hlt inv _ i rfl hin hun j ht hj
    refine ⟨hjn, ?_⟩
    by_cases hji : j = i
    · subst hji; exact hy.qOp hi H
    · have h1 := (H.2 j (ready_mono hj hji)).2
      obtain ⟨hjun, oj, hoj, hall⟩ := mem_ready.1 hj
      have hnot : ∀ e ∈ oj.after, Region.binds md e = true → e.on ≠ i := by
        intro e he hb heq
        have h1 := hall e he hb
        rw [heq, getD_both hun] at h1
        cases h1
      have h2 := qOp_put hoj (hfree j oj hoj hji hjun hnot) (fun cs b => hsel i oi cs b hi) (fun cs b => hsel j oj cs b hoj) hy h1
      refine qOp_mono (fun a' h3 => ih (d.setIfInBounds j true) a' (inv.set hj hjn) ?_ (ready_mono hr (Ne.symm hji)) h3.1 ?_) h2
      · intro k ok hk hki hun' hno
        refine hfree k ok hk hki ?_ hno
        by_cases hjk : j = k
        · subst hjk; exact hjun
        · rw [getD_set_ne true hjk] at hun'; exact hun'
      · rw [Array.setIfInBounds_comm _ _ hji]
        exact h3.2
def pick (l : List Oper) (is : List Nat) : List Oper := is.filterMap fun i => l[i]?
theorem tailB_ready : ∀ {ts : List Nat} {d : Array Bool}, tailB md ops ts d = true → ∀ j ∈ Region.ready md ops d, j ∈ ts
  | [], d, h, j, hj => by simp only [tailB, List.isEmpty_iff] at h; rw [h] at hj; cases hj
  | t :: ts, d, h, j, hj => by
    simp only [tailB, Bool.and_eq_true, decide_eq_true_eq] at h
    rw [h.1] at hj
    have : j = t := by simpa using hj
    simp [this]
theorem headAny_lex {l : List Oper} {hs0 ts : List Nat} {Lq : Act → Prop} (hl : ops = l.toArray) (hsel : Region.noSelect ops = true) (hw : waitB md ops hs0 ts = true) (hrow : rowB md ops ts = true) (hlt : ∀ i ∈ hs0, i < ops.size) :
    ∀ (hs : List Nat) (d : Array Bool) (a : Act), (∀ i ∈ hs, i ∈ hs0) → HInv md ops hs0 ts d → takesB md ops (tailB md ops ts) hs d = true → (∀ i ∈ hs, i ∉ ts) →
      wpQuiet P ops C Lq (pick l hs) a → headAny P md ops C ts (fun d a' => tailB md ops ts d = true ∧ Lq a') hs.length d a := by
  intro hs
  induction hs with
  | nil => intro d a _ _ hB _ h; exact ⟨hB, h⟩
  | cons i hs ih =>
    intro d a hsub inv hB hnt h
    simp only [takesB, Bool.and_eq_true] at hB
    obtain ⟨⟨hr, hf⟩, hB'⟩ := hB
    have hr' : i ∈ Region.ready md ops d := by simpa using hr
    obtain ⟨_, oi, hoi, _⟩ := mem_ready.1 hr'
    have hli : l[i]? = some oi := by rw [hl] at hoi; simpa using hoi
    have hp : pick l (i :: hs) = oi :: pick l hs := by simp [pick, hli]
    rw [hp] at h
    obtain ⟨v, hy, hK⟩ := yieldsIn_of_qOp hoi (show qOp P ops C i (wpQuiet P ops C Lq (pick l hs)) a by unfold qOp; simp only [hoi]; exact h)
    exact headAny_first hoi (Region.noSelect_spec hsel) hw hrow hlt (hsub i (by simp)) (fun d a' hL => tailB_ready hL.1) hs.length d a inv (Region.free_spec hoi hf) hr' hy
      (ih _ _ (fun j hj => hsub j (by simp [hj])) (inv.set hr' (hnt i (by simp))) hB' (fun j hj => hnt j (by simp [hj])) hK)
def wpKeep (P : Program) (ops : Array Oper) (Q : Exit → Act → World → Prop) (C : World → Prop) (R : Act → World → Prop) : List Oper → Act → World → Prop
  | [], a, w => R a w
  | o :: rest, a, w => if Region.wanted o (yielded ops a.tmps) then o.wp P a w (fun a' w' => C w' ∧ wpKeep P ops Q C R rest a' w') Q else C w ∧ wpKeep P ops Q C R rest (a.put o.dst undef) w
theorem wpKeep_nil {Q : Exit → Act → World → Prop} {R : Act → World → Prop} {a : Act} {w : World} (h : R a w) : wpKeep P ops Q C R [] a w := h
theorem wpKeep_step {Q : Exit → Act → World → Prop} {R : Act → World → Prop} {a : Act} {w : World} {o : Oper} {rest : List Oper}
    (h : ∀ K : Act → World → Prop, (∀ a' w', C w' → wpKeep P ops Q C R rest a' w' → K a' w') → if Region.wanted o (yielded ops a.tmps) then o.wp P a w K Q else K (a.put o.dst undef) w) : wpKeep P ops Q C R (o :: rest) a w :=
  h _ (fun _ _ h1 h2 => ⟨h1, h2⟩)
theorem wpAnyW_of_us {l : List Oper} (hl : ops = l.toArray) {Q' : Exit → Act → World → Prop} {us0 : List Nat} : ∀ (us : List Nat) (d : Array Bool) (a : Act) (w : World), (∀ i ∈ us, i ∈ us0) →
    tailB md ops us d = true → wpList P ops Q' (pick l us) a w → wpAnyW P md ops Q' C us0 us.length d a w := by
  intro us
  induction us with
  | nil => intro d a w _ hB h; exact ⟨by simpa [tailB] using hB, h⟩
  | cons t ts ih =>
    intro d a w hsub hB h
    simp only [tailB, Bool.and_eq_true, decide_eq_true_eq] at hB
    refine ⟨fun h1 => (by rw [hB.1] at h1; cases h1), fun i hi => ?_⟩
    have hr' : t ∈ Region.ready md ops d := by rw [hB.1]; simp
    rw [hB.1] at hi
    obtain rfl : i = t := by simpa using hi
    obtain ⟨_, oi, hoi, _⟩ := mem_ready.1 hr'
    have hli : l[i]? = some oi := by rw [hl] at hoi; simpa using hoi
    have hp : pick l (i :: ts) = oi :: pick l ts := by simp [pick, hli]
    rw [hp] at h
    have hw : wpOp P ops Q' i (wpList P ops Q' (pick l ts)) a w := by unfold wpOp; simp only [hoi]; exact h
    exact wpOp_mono (fun a' w' h' => ⟨fun hn => absurd (hsub i (by simp)) hn, ih _ a' w' (fun j hj => hsub j (by simp [hj])) hB.2 h'⟩) hw
theorem wpAnyW_of_tail {l : List Oper} (hl : ops = l.toArray) {Q' : Exit → Act → World → Prop} {us : List Nat} : ∀ (ts : List Nat) (d : Array Bool) (a : Act) (w : World),
    tailB md ops (ts ++ us) d = true → wpKeep P ops Q' C (fun a' w' => wpList P ops Q' (pick l us) a' w') (pick l ts) a w → wpAnyW P md ops Q' C us (ts ++ us).length d a w := by
  intro ts
  induction ts with
  | nil => intro d a w hB h; exact wpAnyW_of_us hl us d a w (fun i hi => hi) hB h
  | cons t ts ih =>
    intro d a w hB h
    simp only [List.cons_append, tailB, Bool.and_eq_true, decide_eq_true_eq] at hB
    refine ⟨fun h1 => (by rw [hB.1] at h1; cases h1), fun i hi => ?_⟩
    have hr' : t ∈ Region.ready md ops d := by rw [hB.1]; simp
    rw [hB.1] at hi
    obtain rfl : i = t := by simpa using hi
    obtain ⟨_, oi, hoi, _⟩ := mem_ready.1 hr'
    have hli : l[i]? = some oi := by rw [hl] at hoi; simpa using hoi
    have hp : pick l (i :: ts) = oi :: pick l ts := by simp [pick, hli]
    rw [hp] at h
    unfold wpKeep at h
    unfold wpOp
    simp only [hoi]
    split
    · rename_i hwt
      rw [if_pos hwt] at h
      have hw : wpOp P ops Q' i (fun a' w' => C w' ∧ wpKeep P ops Q' C (fun a' w' => wpList P ops Q' (pick l us) a' w') (pick l ts) a' w') a w := by
        unfold wpOp; simp only [hoi]; rw [if_pos hwt]; exact .inl h
      have := wpOp_mono (fun a' w' (h' : C w' ∧ wpKeep P ops Q' C (fun a' w' => wpList P ops Q' (pick l us) a' w') (pick l ts) a' w') => (⟨fun _ => h'.1, ih _ a' w' hB.2 h'.2⟩ : (i ∉ us → C w') ∧ wpAnyW P md ops Q' C us (ts ++ us).length (d.setIfInBounds i true) a' w')) hw
      unfold wpOp at this
      simp only [hoi] at this
      rw [if_pos hwt] at this
      exact this
    · rename_i hwt
      rw [if_neg hwt] at h
      exact ⟨fun _ => h.1, ih _ _ _ hB.2 h.2⟩
def wpLoads (P : Program) (ops : Array Oper) (C : World → Prop) (K : Act → Prop) : List Oper → Act → Prop
  | [], a => K a
  | o :: rest, a => if Region.wanted o (yielded ops a.tmps) then ∃ v, (∀ w, C w → (execOp a.eval o).run P w = .ok (.value v) w) ∧ wpLoads P ops C K rest (a.put o.dst v) else wpLoads P ops C K rest (a.put o.dst undef)
theorem wpLoads_nil {K : Act → Prop} {a : Act} (h : K a) : wpLoads P ops C K [] a := h
theorem wpLoads_step {K : Act → Prop} {a : Act} {o : Oper} {rest : List Oper}
    (h : ∀ G : Act → Prop, (∀ a, wpLoads P ops C K rest a → G a) → if Region.wanted o (yielded ops a.tmps) then ∃ v, (∀ w, C w → (execOp a.eval o).run P w = .ok (.value v) w) ∧ G (a.put o.dst v) else G (a.put o.dst undef)) : wpLoads P ops C K (o :: rest) a :=
  h _ (fun _ h => h)
theorem wpAnyW_of_loads {l : List Oper} (hl : ops = l.toArray) (hsel : Region.noSelect ops = true) {Q' : Exit → Act → World → Prop} (hQ : ∀ c a d v w, Q' (.panic c) (Act.put a d v) w → Q' (.panic c) a w) {us : List Nat} {g : Nat} {k : Array Bool → Bool} {K : Act → Prop} {w : World} (hC : C w)
    (hK : ∀ d a, k d = true → K a → wpAnyW P md ops Q' C us g d a w) : ∀ (ls : List Nat) (d : Array Bool) (a : Act), (∀ i ∈ ls, ∀ j ∈ us, reachB md ops ops.size j i = true) → Closed md ops d → takesB md ops k ls d = true → wpLoads P ops C K (pick l ls) a → wpAnyW P md ops Q' C us (ls.length + g) d a w := by
  intro ls
  induction ls with
  | nil => intro d a _ _ hB h; rw [List.length_nil, Nat.zero_add]; exact hK _ _ hB h
  | cons i ls ih =>
    intro d a hus inv hB h
    simp only [takesB, Bool.and_eq_true] at hB
    obtain ⟨⟨hr, hf⟩, hB'⟩ := hB
    have hr' : i ∈ Region.ready md ops d := by simpa using hr
    obtain ⟨_, oi, hoi, _⟩ := mem_ready.1 hr'
    have hli : l[i]? = some oi := by rw [hl] at hoi; simpa using hoi
    have hp : pick l (i :: ls) = oi :: pick l ls := by simp [pick, hli]
    rw [hp] at h
    unfold wpLoads at h
    rw [show (i :: ls).length + g = (ls.length + g) + 1 by simp; omega]
    have hus' : ∀ i ∈ ls, ∀ j ∈ us, reachB md ops ops.size j i = true := fun k hk => hus k (by simp [hk])
    split at h
    · rename_i hwt
      obtain ⟨v, hv, h'⟩ := h
      exact wpAnyW_first hoi (Region.noSelect_spec hsel) (fun c a w => hQ c a _ _ w) (hus i (by simp)) _ _ _ _ inv (Region.free_spec hoi hf) hr' (.inl ⟨hwt, hv⟩) hC (ih _ _ hus' (inv.set hr') hB' h')
    · rename_i hwt
      exact wpAnyW_first hoi (Region.noSelect_spec hsel) (fun c a w => hQ c a _ _ w) (hus i (by simp)) _ _ _ _ inv (Region.free_spec hoi hf) hr' (.inr ⟨by simpa using hwt, rfl⟩) hC (ih _ _ hus' (inv.set hr') hB' h)
def wpPure (P : Program) (ops : Array Oper) (K : Act → Prop) : List Oper → Act → Prop
  | [], a => K a
  | o :: rest, a => if Region.wanted o (yielded ops a.tmps) then ∃ v, (∀ w, (execOp a.eval o).run P w = .ok (.value v) w) ∧ wpPure P ops K rest (a.put o.dst v) else wpPure P ops K rest (a.put o.dst undef)
theorem wpPure_nil {K : Act → Prop} {a : Act} (h : K a) : wpPure P ops K [] a := h
theorem wpPure_step {K : Act → Prop} {a : Act} {o : Oper} {rest : List Oper}
    (h : ∀ G : Act → Prop, (∀ a, wpPure P ops K rest a → G a) → if Region.wanted o (yielded ops a.tmps) then ∃ v, (∀ w, (execOp a.eval o).run P w = .ok (.value v) w) ∧ G (a.put o.dst v) else G (a.put o.dst undef)) : wpPure P ops K (o :: rest) a :=
  h _ (fun _ h => h)
theorem wpAny_of_pure {l : List Oper} (hl : ops = l.toArray) (hsel : Region.noSelect ops = true) {Q' : Exit → Act → World → Prop} (hQ : ∀ c a d v w, Q' (.panic c) (Act.put a d v) w → Q' (.panic c) a w) {g : Nat} {k : Array Bool → Bool} {K : Act → Prop} {w : World}
    (hK : ∀ d a, k d = true → K a → wpAny P md ops Q' g d a w) : ∀ (ps : List Nat) (d : Array Bool) (a : Act), takesB md ops k ps d = true → wpPure P ops K (pick l ps) a → wpAny P md ops Q' (ps.length + g) d a w := by
  intro ps
  induction ps with
  | nil => intro d a hB h; rw [List.length_nil, Nat.zero_add]; exact hK _ _ hB h
  | cons i ps ih =>
    intro d a hB h
    simp only [takesB, Bool.and_eq_true] at hB
    obtain ⟨⟨hr, hf⟩, hB'⟩ := hB
    have hr' : i ∈ Region.ready md ops d := by simpa using hr
    obtain ⟨_, oi, hoi, _⟩ := mem_ready.1 hr'
    have hli : l[i]? = some oi := by rw [hl] at hoi; simpa using hoi
    have hp : pick l (i :: ps) = oi :: pick l ps := by simp [pick, hli]
    rw [hp] at h
    unfold wpPure at h
    rw [show (i :: ps).length + g = (ps.length + g) + 1 by simp; omega]
    split at h
    · rename_i hwt
      obtain ⟨v, hv, h'⟩ := h
      exact wpAny_first hoi (Region.noSelect_spec hsel) (fun c a w => hQ c a _ _ w) _ _ _ _ (Region.free_spec hoi hf) hr' (.inl ⟨hwt, hv⟩) (ih _ _ hB' h')
    · rename_i hwt
      exact wpAny_first hoi (Region.noSelect_spec hsel) (fun c a w => hQ c a _ _ w) _ _ _ _ (Region.free_spec hoi hf) hr' (.inr ⟨by simpa using hwt, rfl⟩) (ih _ _ hB' h)
theorem closedB_spec {d : Array Bool} (h : closedB md ops d = true) : Closed md ops d := by
  simp only [closedB, Bool.and_eq_true, decide_eq_true_eq, List.all_eq_true, List.mem_range, Bool.or_eq_true, Bool.not_eq_true'] at h
  refine ⟨h.1, fun j oj hj hl e he hb => ?_⟩
  have hjs : j < ops.size := (Array.getElem?_eq_some_iff.1 hj).1
  rcases h.2 j hjs with h | h
  · rw [hl] at h; cases h
  · rw [hj] at h
    have := (Array.all_eq_true'.1 h) e he
    simpa [hb] using this
theorem stateB_spec {hs ts : List Nat} {d : Array Bool} (h : stateB md ops hs ts d = true) : HInv md ops hs ts d := by
  simp only [stateB, Bool.and_eq_true, decide_eq_true_eq, List.all_eq_true, List.mem_range, Bool.or_eq_true, Bool.not_eq_true'] at h
  obtain ⟨⟨⟨h1, h2⟩, h3⟩, h4⟩ := h
  refine ⟨h1, fun j oj hj hl e he hb => ?_, fun t ht => h3 t ht, fun i hi hf => ?_⟩
  · have hjs : j < ops.size := (Array.getElem?_eq_some_iff.1 hj).1
    rcases h4 j hjs with h | h
    · rw [hl] at h; cases h
    · rw [hj] at h
      have := (Array.all_eq_true'.1 h) e he
      simpa [hb] using this
  · rcases h2 i hi with (h | h) | h
    · rw [hf] at h; cases h
    · exact .inl (by simpa using h)
    · exact .inr (by simpa using h)
end
theorem wp_region_order {P : Program} {id : Nat} {Q : Exit → Act → World → Prop} {a : Act} {w : World} {l : List Oper} (C : World → Prop) (ps ls hs ts us : List Nat) (hm : P.follows .mixedOrders = true)
    (hB : (orderB .any l.toArray ps ls hs ts us && decide (ps.length + (ls.length + (hs.length + (ts ++ us).length)) = l.length) && hs.all (fun i => !(ts ++ us).contains i)) = true) (hC : C w.drew)
    (hQ : ∀ c a d v w, Q (.panic c) (Act.put a d v) w → Q (.panic c) a w)
    (h : wpPure P l.toArray (fun a0 => wpLoads P l.toArray C (fun a1 => wpQuiet P l.toArray C (fun a2 => ∀ w', C w' → wpKeep P l.toArray Q C (fun a3 w3 => wpList P l.toArray Q (pick l us) a3 w3) (pick l ts) a2 w') (pick l hs) a1) (pick l ls) a0) (pick l ps) a) : (Code.region id l.toArray true).wp P Q a w := by
  simp only [orderB, Bool.and_eq_true, decide_eq_true_eq] at hB
  obtain ⟨⟨⟨⟨⟨⟨⟨⟨⟨⟨hsel, hw⟩, hrow⟩, hlt⟩, hre⟩, _⟩, _⟩, _⟩, htk⟩, hlen⟩, hdis⟩ := hB
  have hlt' : ∀ i ∈ hs, i < l.toArray.size := fun i hi => by simpa using List.all_eq_true.1 hlt i hi
  have hdis' : ∀ i ∈ hs, i ∉ ts ++ us := fun i hi ht => by
    have := List.all_eq_true.1 hdis i hi
    have hc : (ts ++ us).contains i = true := by simpa using ht
    rw [hc] at this
    cases this
  have hre' : ∀ i ∈ ls, ∀ j ∈ us, reachB .any l.toArray l.toArray.size j i = true := fun i hi j hj => List.all_eq_true.1 (List.all_eq_true.1 hre j hj) i hi
  refine wp_region_any hm ?_
  have H := wpAny_of_pure (P := P) (md := .any) (l := l) rfl hsel hQ (g := ls.length + (hs.length + (ts ++ us).length)) (w := w.drew)
    (k := fun d => closedB .any l.toArray d && takesB .any l.toArray (fun d' => stateB .any l.toArray hs (ts ++ us) d' && takesB .any l.toArray (tailB .any l.toArray (ts ++ us)) hs d') ls d)
    (K := fun a0 => wpLoads P l.toArray C (fun a1 => wpQuiet P l.toArray C (fun a2 => ∀ w', C w' → wpKeep P l.toArray Q C (fun a3 w3 => wpList P l.toArray Q (pick l us) a3 w3) (pick l ts) a2 w') (pick l hs) a1) (pick l ls) a0)
    (fun d a0 hk h0 => by
      simp only [Bool.and_eq_true] at hk
      refine wpAny_of_wpAnyW (C := C) (us := us) _ _ _ _ ?_
      refine wpAnyW_of_loads (md := .any) (l := l) rfl hsel hQ hC (k := fun d' => stateB .any l.toArray hs (ts ++ us) d' && takesB .any l.toArray (tailB .any l.toArray (ts ++ us)) hs d')
        (K := fun a1 => wpQuiet P l.toArray C (fun a2 => ∀ w', C w' → wpKeep P l.toArray Q C (fun a3 w3 => wpList P l.toArray Q (pick l us) a3 w3) (pick l ts) a2 w') (pick l hs) a1) (fun d' a1 hk' h1 => ?_) ls d a0 hre' (closedB_spec hk.1) hk.2 h0
      simp only [Bool.and_eq_true] at hk'
      have H1 := headAny_lex (P := P) (C := C) (md := .any) (l := l) rfl hsel hw hrow hlt' hs d' a1 (fun i hi => hi) (stateB_spec hk'.1) hk'.2 hdis' h1
      exact wpAnyW_of_headAny (Q' := Q) (g := (ts ++ us).length) (fun d' a2 w' hw' hL => wpAnyW_of_tail (l := l) rfl ts d' a2 w' hL.1 (hL.2 w' hw')) _ _ _ _ hC H1)
    ps (Array.replicate l.toArray.size false) a htk h
  rw [hlen] at H
  simpa using H
theorem wp_region_order2 {P : Program} {id : Nat} {Q : Exit → Act → World → Prop} {a : Act} {w : World} {l : List Oper} (D C : World → Prop) (hDC : ∀ w, D w → C w) (ps ls hs ts us : List Nat) (hm : P.follows .mixedOrders = true)
    (hB : (orderB .any l.toArray ps ls hs ts us && decide (ps.length + (ls.length + (hs.length + (ts ++ us).length)) = l.length) && hs.all (fun i => !(ts ++ us).contains i)) = true) (hD : D w.drew)
    (hQ : ∀ c a d v w, Q (.panic c) (Act.put a d v) w → Q (.panic c) a w)
    (h : wpPure P l.toArray (fun a0 => wpLoads P l.toArray C (fun a1 => wpQuiet P l.toArray D (fun a2 => ∀ w', D w' → wpKeep P l.toArray Q C (fun a3 w3 => wpList P l.toArray Q (pick l us) a3 w3) (pick l ts) a2 w') (pick l hs) a1) (pick l ls) a0) (pick l ps) a) : (Code.region id l.toArray true).wp P Q a w := by
  simp only [orderB, Bool.and_eq_true, decide_eq_true_eq] at hB
  obtain ⟨⟨⟨⟨⟨⟨⟨⟨⟨⟨hsel, hw⟩, hrow⟩, hlt⟩, hre⟩, _⟩, _⟩, _⟩, htk⟩, hlen⟩, hdis⟩ := hB
  have hlt' : ∀ i ∈ hs, i < l.toArray.size := fun i hi => by simpa using List.all_eq_true.1 hlt i hi
  have hdis' : ∀ i ∈ hs, i ∉ ts ++ us := fun i hi ht => by
    have := List.all_eq_true.1 hdis i hi
    have hc : (ts ++ us).contains i = true := by simpa using ht
    rw [hc] at this
    cases this
  have hre' : ∀ i ∈ ls, ∀ j ∈ us, reachB .any l.toArray l.toArray.size j i = true := fun i hi j hj => List.all_eq_true.1 (List.all_eq_true.1 hre j hj) i hi
  refine wp_region_any hm ?_
  have H := wpAny_of_pure (P := P) (md := .any) (l := l) rfl hsel hQ (g := ls.length + (hs.length + (ts ++ us).length)) (w := w.drew)
    (k := fun d => closedB .any l.toArray d && takesB .any l.toArray (fun d' => stateB .any l.toArray hs (ts ++ us) d' && takesB .any l.toArray (tailB .any l.toArray (ts ++ us)) hs d') ls d)
    (K := fun a0 => wpLoads P l.toArray C (fun a1 => wpQuiet P l.toArray D (fun a2 => ∀ w', D w' → wpKeep P l.toArray Q C (fun a3 w3 => wpList P l.toArray Q (pick l us) a3 w3) (pick l ts) a2 w') (pick l hs) a1) (pick l ls) a0)
    (fun d a0 hk h0 => by
      simp only [Bool.and_eq_true] at hk
      refine wpAny_of_wpAnyW (C := C) (us := us) _ _ _ _ ?_
      refine wpAnyW_of_loads (md := .any) (l := l) rfl hsel hQ (hDC _ hD) (k := fun d' => stateB .any l.toArray hs (ts ++ us) d' && takesB .any l.toArray (tailB .any l.toArray (ts ++ us)) hs d')
        (K := fun a1 => wpQuiet P l.toArray D (fun a2 => ∀ w', D w' → wpKeep P l.toArray Q C (fun a3 w3 => wpList P l.toArray Q (pick l us) a3 w3) (pick l ts) a2 w') (pick l hs) a1) (fun d' a1 hk' h1 => ?_) ls d a0 hre' (closedB_spec hk.1) hk.2 h0
      simp only [Bool.and_eq_true] at hk'
      have H1 := headAny_lex (P := P) (C := D) (md := .any) (l := l) rfl hsel hw hrow hlt' hs d' a1 (fun i hi => hi) (stateB_spec hk'.1) hk'.2 hdis' h1
      exact wpAnyW_of_headAny2 (C := C) hDC (Q' := Q) (g := (ts ++ us).length) (fun d' a2 w' hw' hL => wpAnyW_of_tail (l := l) rfl ts d' a2 w' hL.1 (hL.2 w' hw')) _ _ _ _ hD H1)
    ps (Array.replicate l.toArray.size false) a htk h
  rw [hlen] at H
  simpa using H
end Go.Proofs.YtfhpaehfihnjaaaGreat
namespace Go.Proofs.YtfhpaehfihnjaaaGreat
open Go.RowKit
section
variable {P : Program} {W w : World} {F : List SA} {t ty e : TypeId} {z : Value} {size bytes : Nat}
theorem run_appS (E : Elem P t e z size bytes) {v : Value} {n : Nat} {xs : List Value} (S : SL W (rowS e size v n xs :: F) w)
    (B : Nat) (A : Option Addr) (m c : Nat) (news : List Value) (hr : At w B A news) (hl : news.length = m * size) (h1 : ∀ u ∈ news, u.oneCell' = true)
    (h63 : n + m ≤ maxLen) (hbytes : (n + m) * bytes ≤ 140737488355328) :
    ∃ A' c' w', (Builtin.append_ #[t, t] ty #[v, .slice A m c]).run P w = .ok (.slice A' (n + m) c') w' ∧ SL W (rowS e size (.slice A' (n + m) c') (n + m) (xs ++ news) :: F) w' := by
  obtain ⟨i, hi, hz, hsi, hb⟩ := info_parts E.info
  have hown := S.own
  have key : ∀ ad : Addr, A = some ad → (∀ j u, news[j]? = some u → w.cell? (ad.add j) = some u) → ∃ A' c' w', (Builtin.append_ #[t, t] ty #[v, .slice A m c]).run P w = .ok (.slice A' (n + m) c') w' ∧ SL W (rowS e size (.slice A' (n + m) c') (n + m) (xs ++ news) :: F) w' := by
    rintro ad rfl hc
    obtain ⟨v', w', hrun, ho, hg, _, hat⟩ := run_append_own_at (P := P) w W.heap.size t ty e i z size bytes E.under hi hz hsi hb E.cells E.pos v n xs hown ad m c news hl hc h1 h63 hbytes S.size
    obtain ⟨A', c', rfl, _, _⟩ := own_slice ho
    exact ⟨A', c', w', hrun, S.regrown hg ho hat⟩
  by_cases hne : news = []
  · cases A with
    | some ad => exact key ad rfl (fun j u hu => by rw [hne] at hu; simp at hu)
    | none =>
      have hm : m = 0 := by
        rcases Nat.eq_zero_or_pos m with h0 | h0
        · exact h0
        · have := Nat.mul_pos h0 E.pos
          rw [← hl, hne] at this
          exact absurd this (by simp)
      subst hm; subst hne
      have hrun : (Builtin.append_ #[t, t] ty #[v, .slice none 0 c]).run P w = .ok v w := by
        rcases hown.2 with ⟨rfl, rfl⟩ | ⟨g, cap, cur, rfl, _, _, hnc, _⟩
        · simp [Builtin.append_, run_underlying E.under, sizeOf, typeInfo, hi, Builtin.lenOf, Builtin.firstCells]
        · simp [Builtin.append_, run_underlying E.under, sizeOf, typeInfo, hi, Builtin.lenOf, Builtin.firstCells, hnc, storeCells]
      obtain ⟨A', c', rfl, _, _⟩ := own_slice hown
      exact ⟨A', c', w, hrun, by simpa using S⟩
  · obtain ⟨b, off, rfl, _, hc⟩ := hr hne
    exact key _ rfl (fun j u hu => by rw [add_none]; exact hc j u hu)
variable {ops : Array Oper} {rest : List Oper} {o : Oper} {a : Act} {Q : Exit → Act → World → Prop} {K : Act → World → Prop}
theorem wp_appS (s x : Operand) (t : TypeId) (ho : o.op = .call { callee := .builtin .append, args := #[s, x], argTypes := #[t, t] }) (E : Elem P t e z size bytes)
    (v : Value) (n : Nat) (xs : List Value) (hs : a.eval s = v) (S : SL W (rowS e size v n xs :: F) w)
    (B : Nat) (A : Option Addr) (m c : Nat) (news : List Value) (hx : a.eval x = .slice A m c) (hr : At w B A news) (hl : news.length = m * size) (h1 : ∀ u ∈ news, u.oneCell' = true)
    (h63 : n + m ≤ maxLen) (hbytes : (n + m) * bytes ≤ 140737488355328)
    (h : ∀ A' c' w', SL W (rowS e size (.slice A' (n + m) c') (n + m) (xs ++ news) :: F) w' → K (a.put o.dst (.slice A' (n + m) c')) w') : o.wp P a w K Q := by
  obtain ⟨A', c', w', hrun, S'⟩ := run_appS (ty := o.type) E S B A m c news hr hl h1 h63 hbytes
  refine wp_known _ w' ?_ (h A' c' w' S')
  unfold execOp
  simp only [ho, resolve, invoke, builtin, Sem.run_bind, Sem.run_pure, Result.andThen_ok, List.map_toArray, List.map_cons, List.map_nil, hs, hx, hrun]
theorem wpList_appS (hgd : o.guard = none) (s x : Operand) (t : TypeId) (ho : o.op = .call { callee := .builtin .append, args := #[s, x], argTypes := #[t, t] }) (E : Elem P t e z size bytes)
    (v : Value) (n : Nat) (xs : List Value) (hs : a.eval s = v) (S : SL W (rowS e size v n xs :: F) w)
    (B : Nat) (A : Option Addr) (m c : Nat) (news : List Value) (hx : a.eval x = .slice A m c) (hr : At w B A news) (hl : news.length = m * size) (h1 : ∀ u ∈ news, u.oneCell' = true)
    (h63 : n + m ≤ maxLen) (hbytes : (n + m) * bytes ≤ 140737488355328)
    (h : ∀ A' c' w', SL W (rowS e size (.slice A' (n + m) c') (n + m) (xs ++ news) :: F) w' → wpList P ops Q rest (a.put o.dst (.slice A' (n + m) c')) w') : wpList P ops Q (o :: rest) a w :=
  wpList_plain hgd fun _ hK => wp_appS s x t ho E v n xs hs S B A m c news hx hr hl h1 h63 hbytes fun A' c' w' h2 => hK _ _ (h A' c' w' h2)
theorem wpList_pushS (hgd : o.guard = none) (s x : Operand) (t : TypeId) (ho : o.op = .call { callee := .builtin .append, args := #[s, x], argTypes := #[t, t] }) (E : Elem P t e z size bytes)
    (w0 : World) (us : List Value) (k : Nat) (hw : w = w0.alloc (.cells us.toArray e)) (hus : us.length = k * size) (h1 : ∀ u ∈ us, u.oneCell' = true)
    (v : Value) (n : Nat) (xs : List Value) (hs : a.eval s = v) (hx : a.eval x = .slice (some ⟨w0.heap.size, 0, none⟩) k k) (S : SL W (rowS e size v n xs :: F) w0)
    (h63 : n + k ≤ maxLen) (hbytes : (n + k) * bytes ≤ 140737488355328)
    (h : ∀ A c w', SL W (rowS e size (.slice A (n + k) c) (n + k) (xs ++ us) :: F) w' → wpList P ops Q rest (a.put o.dst (.slice A (n + k) c)) w') : wpList P ops Q (o :: rest) a w := by
  subst hw
  exact wpList_appS hgd s x t ho E v n xs hs (S.allocC us.toArray e).drop (w0.heap.size + 1) _ k k us hx (at_news w0 us e) hus h1 h63 hbytes h
theorem wp_pushS (s x : Operand) (t : TypeId) (ho : o.op = .call { callee := .builtin .append, args := #[s, x], argTypes := #[t, t] }) (E : Elem P t e z size bytes)
    (w0 : World) (us : List Value) (k : Nat) (hw : w = w0.alloc (.cells us.toArray e)) (hus : us.length = k * size) (h1 : ∀ u ∈ us, u.oneCell' = true)
    (v : Value) (n : Nat) (xs : List Value) (hs : a.eval s = v) (hx : a.eval x = .slice (some ⟨w0.heap.size, 0, none⟩) k k) (S : SL W (rowS e size v n xs :: F) w0)
    (h63 : n + k ≤ maxLen) (hbytes : (n + k) * bytes ≤ 140737488355328)
    (h : ∀ A c w', SL W (rowS e size (.slice A (n + k) c) (n + k) (xs ++ us) :: F) w' → K (a.put o.dst (.slice A (n + k) c)) w') : o.wp P a w K Q := by
  subst hw
  exact wp_appS s x t ho E v n xs hs (S.allocC us.toArray e).drop (w0.heap.size + 1) _ k k us hx (at_news w0 us e) hus h1 h63 hbytes h
theorem step_appS {X : Prop} (hgd : o.guard = none) (s x : Operand) (t : TypeId) (ho : o.op = .call { callee := .builtin .append, args := #[s, x], argTypes := #[t, t] }) (E : Elem P t e z size bytes)
    (v : Value) (n : Nat) (xs : List Value) (hs : a.eval s = v) (S : SL W (rowS e size v n xs :: F) w)
    (B : Nat) (A : Option Addr) (m c : Nat) (news : List Value) (hx : a.eval x = .slice A m c) (hr : At w B A news) (hl : news.length = m * size) (h1 : ∀ u ∈ news, u.oneCell' = true)
    (h63 : n + m ≤ maxLen) (hbytes : (n + m) * bytes ≤ 140737488355328)
    (h : ∀ A' c' w', SL W (rowS e size (.slice A' (n + m) c') (n + m) (xs ++ news) :: F) w' → K (a.put o.dst (.slice A' (n + m) c')) w') : if Region.wanted o (yielded ops a.tmps) = true then Oper.wp P o a w K Q else X := by
  rw [if_pos (by simp [Region.wanted, hgd])]
  exact wp_appS s x t ho E v n xs hs S B A m c news hx hr hl h1 h63 hbytes h
theorem step_pushS {X : Prop} (hgd : o.guard = none) (s x : Operand) (t : TypeId) (ho : o.op = .call { callee := .builtin .append, args := #[s, x], argTypes := #[t, t] }) (E : Elem P t e z size bytes)
    (w0 : World) (us : List Value) (k : Nat) (hw : w = w0.alloc (.cells us.toArray e)) (hus : us.length = k * size) (h1 : ∀ u ∈ us, u.oneCell' = true)
    (v : Value) (n : Nat) (xs : List Value) (hs : a.eval s = v) (hx : a.eval x = .slice (some ⟨w0.heap.size, 0, none⟩) k k) (S : SL W (rowS e size v n xs :: F) w0)
    (h63 : n + k ≤ maxLen) (hbytes : (n + k) * bytes ≤ 140737488355328)
    (h : ∀ A c w', SL W (rowS e size (.slice A (n + k) c) (n + k) (xs ++ us) :: F) w' → K (a.put o.dst (.slice A (n + k) c)) w') : if Region.wanted o (yielded ops a.tmps) = true then Oper.wp P o a w K Q else X := by
  rw [if_pos (by simp [Region.wanted, hgd])]
  exact wp_pushS s x t ho E w0 us k hw hus h1 v n xs hs hx S h63 hbytes h
theorem wpList_makeS (hgd : o.guard = none) (l c : Operand) (t : TypeId) (ho : o.op = Op.makeSlice t l c) (E : Elem P t e z size bytes) (kl kc : IntKind) (L C : Int) (n : Nat) (hl : a.eval l = .int kl L) (hc : a.eval c = .int kc C) (hL : L = (n : Int)) (hC : C = (n : Int))
    (hb : bytes * n ≤ 281474976710656) (hm : n ≤ maxLen) (S : SL W F w)
    (h : ∀ g w', SL W (rowS e size (.slice (some ⟨g, 0, none⟩) n n) n (madeCells z.cells (n * size)).toList :: F) w' → wpList P ops Q rest (a.put o.dst (.slice (some ⟨g, 0, none⟩) n n)) w') : wpList P ops Q (o :: rest) a w :=
  wpList_make hgd l c t ho E kl kc L C n hl hc hL hC hb hm fun w' ho hb => h _ w' (S.made ho hb)
theorem wpList_copyS (hgd : o.guard = none) (d s : Operand) (dT sT : TypeId)
    (ho : o.op = .call { callee := .builtin .copy, args := #[d, s], argTypes := #[dT, sT] }) (E : Elem P dT e z 1 bytes)
    (g n c : Nat) (xs : List Value) (S : SL W (rowS e 1 (.slice (some ⟨g, 0, none⟩) n c) n xs :: F) w) (dp : Option Addr) (dLen dCap off : Nat) (hd : a.eval d = .slice dp dLen dCap)
    (B : Nat) (sp : Option Addr) (m mc : Nat) (news : List Value) (hs : a.eval s = .slice sp m mc) (hsrc : At w B sp news) (hm : news.length = m)
    (hdp : 0 < min m dLen → dp = some ⟨g, off, none⟩) (hfit : off + min m dLen ≤ n) (h1 : ∀ v ∈ news, v.oneCell' = true)
    (h : ∀ w', SL W (rowS e 1 (.slice (some ⟨g, 0, none⟩) n c) n (splice xs off (news.take dLen)) :: F) w' → wpList P ops Q rest (a.put o.dst (goInt (min m dLen : Nat))) w') : wpList P ops Q (o :: rest) a w :=
  wpList_copy_at hgd d s dT sT ho E W.heap.size g n c xs S.own dp dLen dCap off hd B sp m mc news hs hsrc hm hdp hfit h1 fun w' ho hg => h w' (S.regrown hg ho (Or.inl rfl))
theorem SL.cellAt {n k : Nat} {A : Option Addr} {xs : List Value} {r : List SA} (S : SL W (rowS e size (.slice A n k) n xs :: r) w) {j : Nat} {u : Value} (hj : xs[j]? = some u) : ∃ b, A = some ⟨b, 0, none⟩ ∧ W.heap.size ≤ b ∧ w.cell? ⟨b, j, none⟩ = some u := by
  have hn : 0 < n := by
    rcases Nat.eq_zero_or_pos n with h | h
    · have := S.own.1; subst h; rw [Nat.zero_mul] at this; rw [List.length_eq_zero_iff.1 this] at hj; simp at hj
    · exact h
  obtain ⟨x, cap, cur, hv, _, _, _, ht, S'⟩ := S.rowCel hn
  injection hv with hA _ _
  refine ⟨x, hA, S'.cge, ?_⟩
  rw [S'.look.1, ← Array.getElem?_toList]
  rw [← ht, List.getElem?_take] at hj
  split at hj
  · exact hj
  · cases hj
theorem SL.full {n g : Nat} {xs : List Value} {r : List SA} (S : SL W (rowS e size (.slice (some ⟨g, 0, none⟩) n n) n xs :: r) w) (hn : 0 < n) : SL W (cel g xs.toArray e :: r) w := by
  obtain ⟨x, cap, cur, hv, _, _, hs, ht, S'⟩ := S.rowCel hn
  injection hv with hA _ hc
  injection hA with hA
  injection hA with hA
  subst hA; subst hc
  rw [List.take_of_length_le (by simp [hs])] at ht
  subst ht
  exact S'
theorem SL.unfull {n g : Nat} {xs : List Value} {r : List SA} (S : SL W (cel g xs.toArray e :: r) w) (hs : xs.length = n * size) (hm : n ≤ maxLen) : SL W (rowS e size (.slice (some ⟨g, 0, none⟩) n n) n xs :: r) w :=
  SL.head S (rowS_pts (Nat.le_refl _) hm (by simpa using hs) (by simp [← hs]))
end
end Go.Proofs.YtfhpaehfihnjaaaGreat
namespace Go.Proofs.YtfhpaehfihnjaaaGreat
open Go.RowKit
def rowT (e : TypeId) (size : Nat) (v : Value) (n : Nat) (xs : List Value) : SA := fun h => xs.length = n * size ∧
  ((v = .slice none 0 0 ∧ n = 0) ∨ ∃ g cap cur, v = .slice (some ⟨g, 0, none⟩) n cap ∧ h g = some (.cells cur e (0, 0)) ∧ n ≤ cap ∧ cap ≤ maxLen ∧ cap * size ≤ cur.size ∧ (cap = n ∨ cur.size = cap * size) ∧ cur.toList.take (n * size) = xs)
theorem rowT_of {e : TypeId} {size n : Nat} {v : Value} {xs : List Value} : ∀ h, rowS e size v n xs h → rowT e size v n xs h := fun h p =>
  ⟨p.1, p.2.elim Or.inl fun ⟨g, cap, cur, hv, hg, h1, h2, h3, h4⟩ => Or.inr ⟨g, cap, cur, hv, hg, h1, h2, by rw [h3]; exact Nat.le_refl _, Or.inr h3, h4⟩⟩
section
variable {W w w' : World} {F : List SA} {e : TypeId} {size n : Nat} {v : Value} {xs : List Value}
theorem SL.rowTo (S : SL W (rowT e size v n xs :: F) w) : (v = .slice none 0 0 ∧ n = 0 ∧ xs = []) ∨ ∃ g cap cur, v = .slice (some ⟨g, 0, none⟩) n cap ∧ n ≤ cap ∧ cap ≤ maxLen ∧ cap * size ≤ cur.size ∧ (cap = n ∨ cur.size = cap * size) ∧ cur.toList.take (n * size) = xs ∧ xs.length = n * size ∧ SL W (cel g cur e :: F) w := by
  obtain ⟨B, h, ⟨h1, h2, p, q, dd, l1, l2⟩, k⟩ := S
  rcases p.2 with ⟨hv, h0⟩ | ⟨x, cap, cur, hv, hx, a1, a2, a3, a4, a5⟩
  · subst h0
    exact Or.inl ⟨hv, rfl, List.eq_nil_of_length_eq_zero (by simpa using p.1)⟩
  · exact Or.inr ⟨x, cap, cur, hv, a1, a2, a3, a4, a5, p.1, B, h, ⟨h1, h2, hx, q, dd, l1, l2⟩, k⟩
theorem rowT_pts {cap x : Nat} {cur : Array Value} (hl : xs.length = n * size) (hn : n ≤ cap) (hm : cap ≤ maxLen) (hs : cap * size ≤ cur.size) (hc : cap = n ∨ cur.size = cap * size) (ht : cur.toList.take (n * size) = xs) : ∀ h, pts x (.cells cur e (0, 0)) h → rowT e size (.slice (some ⟨x, 0, none⟩) n cap) n xs h := fun _ p =>
  ⟨hl, Or.inr ⟨x, cap, cur, rfl, p, hn, hm, hs, hc, ht⟩⟩
theorem SL.nilT (S : SL W F w) (e : TypeId) (size : Nat) : SL W (rowT e size (.slice none 0 0) 0 [] :: F) w := (S.nil e size).head rowT_of
theorem SL.cutT {A : Option Addr} {c k : Nat} (S : SL W (rowT e size (.slice A n c) n xs :: F) w) (hk : k ≤ n) : SL W (rowT e size (.slice A k (if A = none then 0 else k)) k (xs.take (k * size)) :: F) w := by
  rcases S.rowTo with ⟨hv, h0, rfl⟩ | ⟨g, cap, cur, hv, h1, h2, h3, _, h5, h6, S'⟩
  · subst h0
    injection hv with hA _ hc
    subst hA; subst hc
    obtain rfl : k = 0 := by omega
    rw [if_pos rfl]
    simpa using S
  · injection hv with hA _ hc
    subst hA; subst hc
    rw [if_neg (by simp)]
    refine SL.head S' (rowT_pts ?_ (Nat.le_refl _) (by omega) (Nat.le_trans (Nat.mul_le_mul_right _ (by omega)) h3) (Or.inl rfl) ?_)
    · rw [List.length_take, h6, Nat.min_eq_left (Nat.mul_le_mul_right _ hk)]
    · rw [← h5, List.take_take, Nat.min_eq_left (Nat.mul_le_mul_right _ hk)]
theorem SL.cellT {A : Option Addr} {c j : Nat} {u : Value} (S : SL W (rowT e size (.slice A n c) n xs :: F) w) (hj : xs[j]? = some u) : ∃ b, A = some ⟨b, 0, none⟩ ∧ W.heap.size ≤ b ∧ w.cell? ⟨b, j, none⟩ = some u := by
  rcases S.rowTo with ⟨_, _, rfl⟩ | ⟨g, cap, cur, hv, _, _, _, _, h5, _, S'⟩
  · simp at hj
  · injection hv with hA _ _
    refine ⟨g, hA, S'.cge, ?_⟩
    rw [S'.look.1, ← Array.getElem?_toList]
    rw [← h5, List.getElem?_take] at hj
    split at hj
    · exact hj
    · cases hj
end
section
variable {P : Program} {W w : World} {F : List SA} {t ty e : TypeId} {z : Value} {size bytes : Nat}
theorem run_appT' (E : Elem P t e z size bytes) {v : Value} {n : Nat} {xs : List Value} (S : SL W (rowT e size v n xs :: F) w)
    (a : Addr) (m c : Nat) (news : List Value) (hc : ∀ j u, news[j]? = some u → w.cell? (a.add j) = some u) (hl : news.length = m * size) (h1 : ∀ u ∈ news, u.oneCell' = true)
    (h63 : n + m ≤ maxLen) (hbytes : (n + m) * bytes ≤ 140737488355328) :
    ∃ A' c' w', (Builtin.append_ #[t, t] ty #[v, .slice (some a) m c]).run P w = .ok (.slice A' (n + m) c') w' ∧ SL W (rowT e size (.slice A' (n + m) c') (n + m) (xs ++ news) :: F) w' := by
  obtain ⟨i, hi, hz, hsi, hb⟩ := info_parts E.info
  subst hsi; subst hb
  have hsmall : n + m ≤ 9223372036854775807 := by simp only [maxLen] at h63; omega
  have grown : ∀ (old : Nat), xs.length = n * i.size → SL W (rowT e i.size (.slice (some ⟨w.heap.size, 0, none⟩) (n + m) (grownCap w (n + m) old e)) (n + m) (xs ++ news) :: F)
      (w.drew.alloc (.cells (xs.toArray ++ news.toArray ++ Builtin.zeroCells z.cells (grownCap w (n + m) old e - (n + m))) e)) := by
    intro old hx
    have hge := grownCap_ge w (n + m) old e
    have hcm := grownCap_le_maxLen w (n + m) old e h63
    have hlen : (xs ++ news).length = (n + m) * i.size := by rw [List.length_append, hx, hl, Nat.add_mul]
    refine SL.head (SL.head (S.drop.drew.alloc _) (rowS_pts hge hcm ?_ ?_)) rowT_of
    · simp only [Array.size_append, List.size_toArray, size_zeroCells, E.cells, hx, hl, ← Nat.add_mul]
      congr 1
      omega
    · simp only [Array.toList_append, List.append_assoc]
      rw [← List.append_assoc, ← hlen]
      exact List.take_left
  rcases S.rowTo with ⟨rfl, rfl, rfl⟩ | ⟨g, cap, cur, rfl, hnc, hcm, hcs, hcc, htake, hxl, S'⟩
  · by_cases hm : m = 0
    · subst hm
      have hn : news = [] := List.eq_nil_of_length_eq_zero (by simpa using hl)
      subst hn
      refine ⟨none, 0, w, ?_, by simpa using S⟩
      simp [Builtin.append_, run_underlying E.under, sizeOf, typeInfo, hi, Builtin.lenOf, Builtin.firstCells, loadCells, loadCellsFrom]
    · have hr := run_append_nil (P := P) w t ty e i z E.under hi hz a m c news hl hc (by omega) (by omega) (by have hb := hbytes; simp only [Nat.zero_add] at hb; omega)
      have hgr := grown 0 (by simp)
      simp only [Nat.zero_add, List.nil_append, Array.empty_append] at hgr hr ⊢
      exact ⟨_, _, _, hr, hgr⟩
  · have hlen : (xs ++ news).length = (n + m) * i.size := by rw [List.length_append, hxl, hl, Nat.add_mul]
    by_cases hroom : n + m ≤ cap
    · have hfit : n * i.size + news.length ≤ cur.size := by rw [hl, ← Nat.add_mul]; exact Nat.le_trans (Nat.mul_le_mul_right _ hroom) hcs
      have hr := run_append_room (P := P) w t ty e i E.under hi g n cap cur S'.crow a m c news hl hc h1 hroom hfit
      refine ⟨_, _, _, hr, SL.head S'.setRow (rowT_pts hlen hroom hcm ?_ ?_ ?_)⟩
      · simp only [List.size_toArray, List.length_append, List.length_take, List.length_drop, Array.length_toList]
        omega
      · rcases hcc with h | h
        · exact Or.inl (by omega)
        · refine Or.inr ?_
          simp only [List.size_toArray, List.length_append, List.length_take, List.length_drop, Array.length_toList]
          omega
      · rw [htake, ← hlen]
        exact List.take_left
    · have holds : ∀ j u, xs[j]? = some u → w.cell? ((⟨g, 0, none⟩ : Addr).add j) = some u := by
        intro j u hj
        obtain ⟨b, hb, _, hcell⟩ := S.cellT hj
        injection hb with hb; injection hb with hb
        subst hb
        rw [add_none, Nat.zero_add]; exact hcell
      have hr := run_append_grow (P := P) w t ty e i z E.under hi hz ⟨g, 0, none⟩ n cap xs hxl holds a m c news hl hc (by omega) (by omega) (growslice_fits (by omega) hbytes)
      exact ⟨_, _, _, hr, grown cap hxl⟩
theorem run_appT (E : Elem P t e z size bytes) {v : Value} {n : Nat} {xs : List Value} (S : SL W (rowT e size v n xs :: F) w)
    (B : Nat) (A : Option Addr) (m c : Nat) (news : List Value) (hr : At w B A news) (hl : news.length = m * size) (h1 : ∀ u ∈ news, u.oneCell' = true)
    (h63 : n + m ≤ maxLen) (hbytes : (n + m) * bytes ≤ 140737488355328) :
    ∃ A' c' w', (Builtin.append_ #[t, t] ty #[v, .slice A m c]).run P w = .ok (.slice A' (n + m) c') w' ∧ SL W (rowT e size (.slice A' (n + m) c') (n + m) (xs ++ news) :: F) w' := by
  by_cases hne : news = []
  · cases A with
    | some ad => exact run_appT' E S ad m c news (fun j u hu => by rw [hne] at hu; simp at hu) hl h1 h63 hbytes
    | none =>
      have hm : m = 0 := by
        rcases Nat.eq_zero_or_pos m with h0 | h0
        · exact h0
        · have := Nat.mul_pos h0 E.pos
          rw [← hl, hne] at this
          exact absurd this (by simp)
      subst hm; subst hne
      obtain ⟨i, hi, hz, hsi, hb⟩ := info_parts E.info
      have hrun : (Builtin.append_ #[t, t] ty #[v, .slice none 0 c]).run P w = .ok v w := by
        rcases S.rowTo with ⟨rfl, rfl, rfl⟩ | ⟨g, cap, cur, rfl, hnc, _⟩
        · simp [Builtin.append_, run_underlying E.under, sizeOf, typeInfo, hi, Builtin.lenOf, Builtin.firstCells]
        · simp [Builtin.append_, run_underlying E.under, sizeOf, typeInfo, hi, Builtin.lenOf, Builtin.firstCells, hnc, storeCells]
      rcases S.rowTo with ⟨rfl, rfl, rfl⟩ | ⟨g, cap, cur, rfl, hnc, _⟩
      · exact ⟨_, _, w, hrun, by simpa using S⟩
      · exact ⟨_, _, w, hrun, by simpa using S⟩
  · obtain ⟨b, off, rfl, _, hc⟩ := hr hne
    exact run_appT' E S _ m c news (fun j u hu => by rw [add_none]; exact hc j u hu) hl h1 h63 hbytes
variable {ops : Array Oper} {rest : List Oper} {o : Oper} {a : Act} {Q : Exit → Act → World → Prop}
theorem wpList_appT (hgd : o.guard = none) (s x : Operand) (t : TypeId) (ho : o.op = .call { callee := .builtin .append, args := #[s, x], argTypes := #[t, t] }) (E : Elem P t e z size bytes)
    (v : Value) (n : Nat) (xs : List Value) (hs : a.eval s = v) (S : SL W (rowT e size v n xs :: F) w)
    (B : Nat) (A : Option Addr) (m c : Nat) (news : List Value) (hx : a.eval x = .slice A m c) (hr : At w B A news) (hl : news.length = m * size) (h1 : ∀ u ∈ news, u.oneCell' = true)
    (h63 : n + m ≤ maxLen) (hbytes : (n + m) * bytes ≤ 140737488355328)
    (h : ∀ A' c' w', SL W (rowT e size (.slice A' (n + m) c') (n + m) (xs ++ news) :: F) w' → wpList P ops Q rest (a.put o.dst (.slice A' (n + m) c')) w') : wpList P ops Q (o :: rest) a w := by
  obtain ⟨A', c', w', hrun, S'⟩ := run_appT (ty := o.type) E S B A m c news hr hl h1 h63 hbytes
  refine wpList_known hgd _ w' ?_ (h A' c' w' S')
  unfold execOp
  simp only [ho, resolve, invoke, builtin, Sem.run_bind, Sem.run_pure, Result.andThen_ok, List.map_toArray, List.map_cons, List.map_nil, hs, hx, hrun]
theorem wpList_pushT (hgd : o.guard = none) (s x : Operand) (t : TypeId) (ho : o.op = .call { callee := .builtin .append, args := #[s, x], argTypes := #[t, t] }) (E : Elem P t e z size bytes)
    (w0 : World) (us : List Value) (k : Nat) (hw : w = w0.alloc (.cells us.toArray e)) (hus : us.length = k * size) (h1 : ∀ u ∈ us, u.oneCell' = true)
    (v : Value) (n : Nat) (xs : List Value) (hs : a.eval s = v) (hx : a.eval x = .slice (some ⟨w0.heap.size, 0, none⟩) k k) (S : SL W (rowT e size v n xs :: F) w0)
    (h63 : n + k ≤ maxLen) (hbytes : (n + k) * bytes ≤ 140737488355328)
    (h : ∀ A c w', SL W (rowT e size (.slice A (n + k) c) (n + k) (xs ++ us) :: F) w' → wpList P ops Q rest (a.put o.dst (.slice A (n + k) c)) w') : wpList P ops Q (o :: rest) a w := by
  subst hw
  exact wpList_appT hgd s x t ho E v n xs hs (S.allocC us.toArray e).drop (w0.heap.size + 1) _ k k us hx (at_news w0 us e) hus h1 h63 hbytes h
end
end Go.Proofs.YtfhpaehfihnjaaaGreat
namespace Go.Proofs.YtfhpaehfihnjaaaGreat
open Go.RowKit
section
variable {P : Program} {ops : Array Oper} {md : Region.Mode} {C : World → Prop}
def tailK (md : Region.Mode) (ops : Array Oper) (k : Array Bool → Bool) : List Nat → Array Bool → Bool
  | [], d => k d
  | t :: ts, d => decide (Region.ready md ops d = [t]) && tailK md ops k ts (d.setIfInBounds t true)
theorem wpAnyW_of_tailK {l : List Oper} (hl : ops = l.toArray) {Q' : Exit → Act → World → Prop} {us : List Nat} {g : Nat} {k : Array Bool → Bool} {R : Act → World → Prop}
    (hK : ∀ d a w, k d = true → R a w → wpAnyW P md ops Q' C us g d a w) : ∀ (ts : List Nat) (d : Array Bool) (a : Act) (w : World),
    tailK md ops k ts d = true → wpKeep P ops Q' C R (pick l ts) a w → wpAnyW P md ops Q' C us (ts.length + g) d a w := by
  intro ts
  induction ts with
  | nil => intro d a w hB h; rw [List.length_nil, Nat.zero_add]; exact hK _ _ _ hB h
  | cons t ts ih =>
    intro d a w hB h
    simp only [tailK, Bool.and_eq_true, decide_eq_true_eq] at hB
    rw [show (t :: ts).length + g = (ts.length + g) + 1 by simp; omega]
    refine ⟨fun h1 => (by rw [hB.1] at h1; cases h1), fun i hi => ?_⟩
    have hr' : t ∈ Region.ready md ops d := by rw [hB.1]; simp
    rw [hB.1] at hi
    obtain rfl : i = t := by simpa using hi
    obtain ⟨_, oi, hoi, _⟩ := mem_ready.1 hr'
    have hli : l[i]? = some oi := by rw [hl] at hoi; simpa using hoi
    have hp : pick l (i :: ts) = oi :: pick l ts := by simp [pick, hli]
    rw [hp] at h
    unfold wpKeep at h
    unfold wpOp
    simp only [hoi]
    split
    · rename_i hwt
      rw [if_pos hwt] at h
      have hw : wpOp P ops Q' i (fun a' w' => C w' ∧ wpKeep P ops Q' C R (pick l ts) a' w') a w := by
        unfold wpOp; simp only [hoi]; rw [if_pos hwt]; exact .inl h
      have := wpOp_mono (fun a' w' (h' : C w' ∧ wpKeep P ops Q' C R (pick l ts) a' w') => (⟨fun _ => h'.1, ih _ a' w' hB.2 h'.2⟩ : (i ∉ us → C w') ∧ wpAnyW P md ops Q' C us (ts.length + g) (d.setIfInBounds i true) a' w')) hw
      unfold wpOp at this
      simp only [hoi] at this
      rw [if_pos hwt] at this
      exact this
    · rename_i hwt
      rw [if_neg hwt] at h
      exact ⟨fun _ => h.1, ih _ _ _ hB.2 h.2⟩
def orderB3 (md : Region.Mode) (ops : Array Oper) (ps ls ts hs ts2 us : List Nat) : Bool :=
  Region.noSelect ops && waitB md ops hs (ts2 ++ us) && rowB md ops (ts2 ++ us) && hs.all (fun i => decide (i < ops.size)) && us.all (fun j => ls.all fun i => reachB md ops ops.size j i) && hs.all (fun i => !(ts2 ++ us).contains i) &&
    takesB md ops (fun d => closedB md ops d && takesB md ops (tailK md ops (fun d' => stateB md ops hs (ts2 ++ us) d' && takesB md ops (tailB md ops (ts2 ++ us)) hs d') ts) ls d) ps (Array.replicate ops.size false)
end
theorem wp_region_order3 {P : Program} {id : Nat} {Q : Exit → Act → World → Prop} {a : Act} {w : World} {l : List Oper} (C : World → Prop) (ps ls ts hs ts2 us : List Nat) (hm : P.follows .mixedOrders = true)
    (hB : (orderB3 .any l.toArray ps ls ts hs ts2 us && decide (ps.length + (ls.length + (ts.length + (hs.length + (ts2 ++ us).length))) = l.length)) = true) (hC : C w.drew)
    (hQ : ∀ c a d v w, Q (.panic c) (Act.put a d v) w → Q (.panic c) a w)
    (h : wpPure P l.toArray (fun a0 => wpLoads P l.toArray C (fun a1 => wpKeep P l.toArray Q C (fun a2 w2 => ∃ E : World → Prop, (∀ w, E w → C w) ∧ E w2 ∧
      wpQuiet P l.toArray E (fun a3 => ∀ w', E w' → wpKeep P l.toArray Q C (fun a4 w4 => wpList P l.toArray Q (pick l us) a4 w4) (pick l ts2) a3 w') (pick l hs) a2) (pick l ts) a1 w.drew) (pick l ls) a0) (pick l ps) a) : (Code.region id l.toArray true).wp P Q a w := by
  simp only [orderB3, Bool.and_eq_true, decide_eq_true_eq] at hB
  obtain ⟨⟨⟨⟨⟨⟨⟨hsel, hw⟩, hrow⟩, hlt⟩, hre⟩, hdis⟩, htk⟩, hlen⟩ := hB
  have hlt' : ∀ i ∈ hs, i < l.toArray.size := fun i hi => by simpa using List.all_eq_true.1 hlt i hi
  have hdis' : ∀ i ∈ hs, i ∉ ts2 ++ us := fun i hi ht => by
    have := List.all_eq_true.1 hdis i hi
    have hc : (ts2 ++ us).contains i = true := by simpa using ht
    rw [hc] at this
    cases this
  have hre' : ∀ i ∈ ls, ∀ j ∈ us, reachB .any l.toArray l.toArray.size j i = true := fun i hi j hj => List.all_eq_true.1 (List.all_eq_true.1 hre j hj) i hi
  refine wp_region_any hm ?_
  have H := wpAny_of_pure (P := P) (md := .any) (l := l) rfl hsel hQ (g := ls.length + (ts.length + (hs.length + (ts2 ++ us).length))) (w := w.drew)
    (k := fun d => closedB .any l.toArray d && takesB .any l.toArray (tailK .any l.toArray (fun d' => stateB .any l.toArray hs (ts2 ++ us) d' && takesB .any l.toArray (tailB .any l.toArray (ts2 ++ us)) hs d') ts) ls d)
    (K := fun a0 => wpLoads P l.toArray C (fun a1 => wpKeep P l.toArray Q C (fun a2 w2 => ∃ E : World → Prop, (∀ w, E w → C w) ∧ E w2 ∧
      wpQuiet P l.toArray E (fun a3 => ∀ w', E w' → wpKeep P l.toArray Q C (fun a4 w4 => wpList P l.toArray Q (pick l us) a4 w4) (pick l ts2) a3 w') (pick l hs) a2) (pick l ts) a1 w.drew) (pick l ls) a0)
    (fun d a0 hk h0 => by
      simp only [Bool.and_eq_true] at hk
      refine wpAny_of_wpAnyW (C := C) (us := us) _ _ _ _ ?_
      refine wpAnyW_of_loads (md := .any) (l := l) rfl hsel hQ hC (k := tailK .any l.toArray (fun d' => stateB .any l.toArray hs (ts2 ++ us) d' && takesB .any l.toArray (tailB .any l.toArray (ts2 ++ us)) hs d') ts)
        (K := fun a1 => wpKeep P l.toArray Q C (fun a2 w2 => ∃ E : World → Prop, (∀ w, E w → C w) ∧ E w2 ∧
          wpQuiet P l.toArray E (fun a3 => ∀ w', E w' → wpKeep P l.toArray Q C (fun a4 w4 => wpList P l.toArray Q (pick l us) a4 w4) (pick l ts2) a3 w') (pick l hs) a2) (pick l ts) a1 w.drew) (fun d' a1 hk' h1 => ?_) ls d a0 hre' (closedB_spec hk.1) hk.2 h0
      refine wpAnyW_of_tailK (md := .any) (l := l) rfl (g := hs.length + (ts2 ++ us).length) (fun d2 a2 w2 hk2 h2 => ?_) ts d' a1 _ hk' h1
      simp only [Bool.and_eq_true] at hk2
      obtain ⟨E, hEC, hE, h2⟩ := h2
      have H1 := headAny_lex (P := P) (C := E) (md := .any) (l := l) rfl hsel hw hrow hlt' hs d2 a2 (fun i hi => hi) (stateB_spec hk2.1) hk2.2 hdis' h2
      exact wpAnyW_of_headAny2 (C := C) hEC (Q' := Q) (g := (ts2 ++ us).length) (fun d' a2 w' hw' hL => wpAnyW_of_tail (l := l) rfl ts2 d' a2 w' hL.1 (hL.2 w' hw')) _ _ _ _ hE H1)
    ps (Array.replicate l.toArray.size false) a htk h
  rw [hlen] at H
  simpa using H
end Go.Proofs.YtfhpaehfihnjaaaGreat
namespace Go.Proofs.YtfhpaehfihnjaaaGreat
open Go.RowKit
def orderB4 (md : Region.Mode) (ops : Array Oper) (ps ls ts ls2 ts2 hs ts3 : List Nat) : Bool :=
  Region.noSelect ops && waitB md ops hs ts3 && rowB md ops ts3 && hs.all (fun i => decide (i < ops.size)) && hs.all (fun i => !ts3.contains i) &&
    takesB md ops (fun d => closedB md ops d && takesB md ops (tailK md ops (fun d => closedB md ops d && takesB md ops (tailK md ops (fun d' => stateB md ops hs ts3 d' && takesB md ops (tailB md ops ts3) hs d') ts2) ls2 d) ts) ls d) ps (Array.replicate ops.size false)
theorem wp_region_order4 {P : Program} {id : Nat} {Q : Exit → Act → World → Prop} {a : Act} {w : World} {l : List Oper} (C : World → Prop) (ps ls ts ls2 ts2 hs ts3 : List Nat) (hm : P.follows .mixedOrders = true)
    (hB : (orderB4 .any l.toArray ps ls ts ls2 ts2 hs ts3 && decide (ps.length + (ls.length + (ts.length + (ls2.length + (ts2.length + (hs.length + (ts3 ++ []).length))))) = l.length)) = true) (hC : C w.drew)
    (hQ : ∀ c a d v w, Q (.panic c) (Act.put a d v) w → Q (.panic c) a w)
    (h : wpPure P l.toArray (fun a0 => wpLoads P l.toArray C (fun a1 => wpKeep P l.toArray Q C (fun a2 w2 => C w2 ∧ wpLoads P l.toArray C (fun a3 => wpKeep P l.toArray Q C (fun a4 w4 => ∃ E : World → Prop, (∀ w, E w → C w) ∧ E w4 ∧
      wpQuiet P l.toArray E (fun a5 => ∀ w', E w' → wpKeep P l.toArray Q C (fun a6 w6 => wpList P l.toArray Q (pick l []) a6 w6) (pick l ts3) a5 w') (pick l hs) a4) (pick l ts2) a3 w2) (pick l ls2) a2) (pick l ts) a1 w.drew) (pick l ls) a0) (pick l ps) a) : (Code.region id l.toArray true).wp P Q a w := by
  simp only [orderB4, Bool.and_eq_true, decide_eq_true_eq] at hB
  obtain ⟨⟨⟨⟨⟨⟨hsel, hw⟩, hrow⟩, hlt⟩, hdis⟩, htk⟩, hlen⟩ := hB
  have hlt' : ∀ i ∈ hs, i < l.toArray.size := fun i hi => by simpa using List.all_eq_true.1 hlt i hi
  have hdis' : ∀ i ∈ hs, i ∉ ts3 := fun i hi ht => by
    have := List.all_eq_true.1 hdis i hi
    have hc : ts3.contains i = true := by simpa using ht
    rw [hc] at this
    cases this
  refine wp_region_any hm ?_
  have H := wpAny_of_pure (P := P) (md := .any) (l := l) rfl hsel hQ (g := ls.length + (ts.length + (ls2.length + (ts2.length + (hs.length + (ts3 ++ []).length))))) (w := w.drew)
    (k := fun d => closedB .any l.toArray d && takesB .any l.toArray (tailK .any l.toArray (fun d => closedB .any l.toArray d && takesB .any l.toArray (tailK .any l.toArray (fun d' => stateB .any l.toArray hs ts3 d' && takesB .any l.toArray (tailB .any l.toArray ts3) hs d') ts2) ls2 d) ts) ls d)
    (K := fun a0 => wpLoads P l.toArray C (fun a1 => wpKeep P l.toArray Q C (fun a2 w2 => C w2 ∧ wpLoads P l.toArray C (fun a3 => wpKeep P l.toArray Q C (fun a4 w4 => ∃ E : World → Prop, (∀ w, E w → C w) ∧ E w4 ∧
      wpQuiet P l.toArray E (fun a5 => ∀ w', E w' → wpKeep P l.toArray Q C (fun a6 w6 => wpList P l.toArray Q (pick l []) a6 w6) (pick l ts3) a5 w') (pick l hs) a4) (pick l ts2) a3 w2) (pick l ls2) a2) (pick l ts) a1 w.drew) (pick l ls) a0)
    (fun d a0 hk h0 => by
      simp only [Bool.and_eq_true] at hk
      refine wpAny_of_wpAnyW (C := C) (us := []) _ _ _ _ ?_
      refine wpAnyW_of_loads (md := .any) (l := l) rfl hsel hQ hC (fun d' a1 hk' h1 => ?_) ls d a0 (by intro i _ j hj; cases hj) (closedB_spec hk.1) hk.2 h0
      refine wpAnyW_of_tailK (md := .any) (l := l) rfl (fun d2 a2 w2 hk2 h2 => ?_) ts d' a1 _ hk' h1
      simp only [Bool.and_eq_true] at hk2
      refine wpAnyW_of_loads (md := .any) (l := l) rfl hsel hQ h2.1 (fun d3 a3 hk3 h3 => ?_) ls2 d2 a2 (by intro i _ j hj; cases hj) (closedB_spec hk2.1) hk2.2 h2.2
      refine wpAnyW_of_tailK (md := .any) (l := l) rfl (fun d4 a4 w4 hk4 h4 => ?_) ts2 d3 a3 _ hk3 h3
      simp only [Bool.and_eq_true] at hk4
      obtain ⟨E, hEC, hE, h4⟩ := h4
      have H1 := headAny_lex (P := P) (C := E) (md := .any) (l := l) rfl hsel hw hrow hlt' hs d4 a4 (fun i hi => hi) (stateB_spec hk4.1) hk4.2 hdis' h4
      exact wpAnyW_of_headAny2 (C := C) hEC (Q' := Q) (g := (ts3 ++ []).length) (fun d' a2 w' hw' hL => wpAnyW_of_tail (l := l) (us := []) rfl ts3 d' a2 w' (by rw [List.append_nil]; exact hL.1) (hL.2 w' hw')) _ _ _ _ hE H1)
    ps (Array.replicate l.toArray.size false) a htk h
  rw [hlen] at H
  simpa using H
end Go.Proofs.YtfhpaehfihnjaaaGreat
namespace Go.Proofs.YtfhpaehfihnjaaaGreat
open Go.RowKit
def orderB5 (md : Region.Mode) (ops : Array Oper) (ps ls ts ls2 ts2 us : List Nat) : Bool :=
  Region.noSelect ops && us.all (fun j => ls.all fun i => reachB md ops ops.size j i) && us.all (fun j => ls2.all fun i => reachB md ops ops.size j i) &&
    takesB md ops (fun d => closedB md ops d && takesB md ops (tailK md ops (fun d => closedB md ops d && takesB md ops (tailB md ops (ts2 ++ us)) ls2 d) ts) ls d) ps (Array.replicate ops.size false)
theorem wp_region_order5 {P : Program} {id : Nat} {Q : Exit → Act → World → Prop} {a : Act} {w : World} {l : List Oper} (C : World → Prop) (ps ls ts ls2 ts2 us : List Nat) (hm : P.follows .mixedOrders = true)
    (hB : (orderB5 .any l.toArray ps ls ts ls2 ts2 us && decide (ps.length + (ls.length + (ts.length + (ls2.length + (ts2 ++ us).length))) = l.length)) = true) (hC : C w.drew)
    (hQ : ∀ c a d v w, Q (.panic c) (Act.put a d v) w → Q (.panic c) a w)
    (h : wpPure P l.toArray (fun a0 => wpLoads P l.toArray C (fun a1 => wpKeep P l.toArray Q C (fun a2 w2 => C w2 ∧ wpLoads P l.toArray C (fun a3 => wpKeep P l.toArray Q C (fun a4 w4 => wpList P l.toArray Q (pick l us) a4 w4) (pick l ts2) a3 w2)
      (pick l ls2) a2) (pick l ts) a1 w.drew) (pick l ls) a0) (pick l ps) a) : (Code.region id l.toArray true).wp P Q a w := by
  simp only [orderB5, Bool.and_eq_true, decide_eq_true_eq] at hB
  obtain ⟨⟨⟨⟨hsel, hre⟩, hre2⟩, htk⟩, hlen⟩ := hB
  have hre' : ∀ i ∈ ls, ∀ j ∈ us, reachB .any l.toArray l.toArray.size j i = true := fun i hi j hj => List.all_eq_true.1 (List.all_eq_true.1 hre j hj) i hi
  have hre2' : ∀ i ∈ ls2, ∀ j ∈ us, reachB .any l.toArray l.toArray.size j i = true := fun i hi j hj => List.all_eq_true.1 (List.all_eq_true.1 hre2 j hj) i hi
  refine wp_region_any hm ?_
  have H := wpAny_of_pure (P := P) (md := .any) (l := l) rfl hsel hQ (g := ls.length + (ts.length + (ls2.length + (ts2 ++ us).length))) (w := w.drew)
    (k := fun d => closedB .any l.toArray d && takesB .any l.toArray (tailK .any l.toArray (fun d => closedB .any l.toArray d && takesB .any l.toArray (tailB .any l.toArray (ts2 ++ us)) ls2 d) ts) ls d)
    (K := fun a0 => wpLoads P l.toArray C (fun a1 => wpKeep P l.toArray Q C (fun a2 w2 => C w2 ∧ wpLoads P l.toArray C (fun a3 => wpKeep P l.toArray Q C (fun a4 w4 => wpList P l.toArray Q (pick l us) a4 w4) (pick l ts2) a3 w2)
      (pick l ls2) a2) (pick l ts) a1 w.drew) (pick l ls) a0)
    (fun d a0 hk h0 => by
      simp only [Bool.and_eq_true] at hk
      refine wpAny_of_wpAnyW (C := C) (us := us) _ _ _ _ ?_
      refine wpAnyW_of_loads (md := .any) (l := l) rfl hsel hQ hC (fun d' a1 hk' h1 => ?_) ls d a0 hre' (closedB_spec hk.1) hk.2 h0
      refine wpAnyW_of_tailK (md := .any) (l := l) rfl (fun d2 a2 w2 hk2 h2 => ?_) ts d' a1 _ hk' h1
      simp only [Bool.and_eq_true] at hk2
      refine wpAnyW_of_loads (md := .any) (l := l) rfl hsel hQ h2.1 (fun d3 a3 hk3 h3 => ?_) ls2 d2 a2 hre2' (closedB_spec hk2.1) hk2.2 h2.2
      exact wpAnyW_of_tail (l := l) rfl ts2 d3 a3 w2 hk3 h3)
    ps (Array.replicate l.toArray.size false) a htk h
  rw [hlen] at H
  simpa using H
end Go.Proofs.YtfhpaehfihnjaaaGreat
namespace Go.Proofs.YtfhpaehfihnjaaaGreat
open Go.RowKit
section
variable {P : Program} {ops : Array Oper} {md : Region.Mode} {C : World → Prop}
def twoB (md : Region.Mode) (ops : Array Oper) (t1 t2 : Nat) (us : List Nat) (d : Array Bool) : Bool :=
  decide (Region.ready md ops d = [t1, t2]) && tailB md ops (t2 :: us) (d.setIfInBounds t1 true) && tailB md ops (t1 :: us) (d.setIfInBounds t2 true)
def orderTwoB (md : Region.Mode) (ops : Array Oper) (ps ls : List Nat) (t1 t2 : Nat) (us : List Nat) : Bool :=
  Region.noSelect ops && us.all (fun j => ls.all fun i => reachB md ops ops.size j i) &&
    takesB md ops (fun d => closedB md ops d && takesB md ops (twoB md ops t1 t2 us) ls d) ps (Array.replicate ops.size false)
theorem wpOp_of_keep {l : List Oper} (hl : ops = l.toArray) {Q' : Exit → Act → World → Prop} {us : List Nat} {i f : Nat} {rest : List Nat} {R : Act → World → Prop} {d : Array Bool} {a : Act} {w : World}
    (hr : i ∈ Region.ready md ops d) (h : wpKeep P ops Q' C R (pick l (i :: rest)) a w) (hR : ∀ a' w', wpKeep P ops Q' C R (pick l rest) a' w' → wpAnyW P md ops Q' C us f (d.setIfInBounds i true) a' w') :
    wpOp P ops Q' i (fun a' w' => (i ∉ us → C w') ∧ wpAnyW P md ops Q' C us f (d.setIfInBounds i true) a' w') a w := by
  obtain ⟨_, oi, hoi, _⟩ := mem_ready.1 hr
  have hli : l[i]? = some oi := by rw [hl] at hoi; simpa using hoi
  have hp : pick l (i :: rest) = oi :: pick l rest := by simp [pick, hli]
  rw [hp] at h
  unfold wpKeep at h
  unfold wpOp
  simp only [hoi]
  split
  · rename_i hwt
    rw [if_pos hwt] at h
    have hw : wpOp P ops Q' i (fun a' w' => C w' ∧ wpKeep P ops Q' C R (pick l rest) a' w') a w := by
      unfold wpOp; simp only [hoi]; rw [if_pos hwt]; exact .inl h
    have := wpOp_mono (fun a' w' (h' : C w' ∧ wpKeep P ops Q' C R (pick l rest) a' w') => (⟨fun _ => h'.1, hR a' w' h'.2⟩ : (i ∉ us → C w') ∧ wpAnyW P md ops Q' C us f (d.setIfInBounds i true) a' w')) hw
    unfold wpOp at this
    simp only [hoi] at this
    rw [if_pos hwt] at this
    exact this
  · rename_i hwt
    rw [if_neg hwt] at h
    exact ⟨fun _ => h.1, hR _ _ h.2⟩
theorem wpAnyW_of_two {l : List Oper} (hl : ops = l.toArray) {Q' : Exit → Act → World → Prop} {t1 t2 : Nat} {us : List Nat} {d : Array Bool} {a : Act} {w : World} (hB : twoB md ops t1 t2 us d = true)
    (h1 : wpKeep P ops Q' C (fun a' w' => wpList P ops Q' (pick l us) a' w') (pick l [t1, t2]) a w) (h2 : wpKeep P ops Q' C (fun a' w' => wpList P ops Q' (pick l us) a' w') (pick l [t2, t1]) a w) :
    wpAnyW P md ops Q' C us (t1 :: t2 :: us).length d a w := by
  simp only [twoB, Bool.and_eq_true, decide_eq_true_eq] at hB
  obtain ⟨⟨hr, ha⟩, hb⟩ := hB
  refine ⟨fun h0 => (by rw [hr] at h0; cases h0), fun i hi => ?_⟩
  have hi' : i = t1 ∨ i = t2 := by rw [hr] at hi; simpa using hi
  rcases hi' with rfl | rfl
  · exact wpOp_of_keep hl hi h1 (fun a' w' h => wpAnyW_of_tail hl [t2] _ a' w' ha h)
  · exact wpOp_of_keep hl hi h2 (fun a' w' h => wpAnyW_of_tail hl [t1] _ a' w' hb h)
end
theorem wp_region_two {P : Program} {id : Nat} {Q : Exit → Act → World → Prop} {a : Act} {w : World} {l : List Oper} (C : World → Prop) (ps ls : List Nat) (t1 t2 : Nat) (us : List Nat) (hm : P.follows .mixedOrders = true)
    (hB : (orderTwoB .any l.toArray ps ls t1 t2 us && decide (ps.length + (ls.length + (t1 :: t2 :: us).length) = l.length)) = true) (hC : C w.drew)
    (hQ : ∀ c a d v w, Q (.panic c) (Act.put a d v) w → Q (.panic c) a w)
    (h : wpPure P l.toArray (fun a0 => wpLoads P l.toArray C (fun a1 => wpKeep P l.toArray Q C (fun a3 w3 => wpList P l.toArray Q (pick l us) a3 w3) (pick l [t1, t2]) a1 w.drew ∧
      wpKeep P l.toArray Q C (fun a3 w3 => wpList P l.toArray Q (pick l us) a3 w3) (pick l [t2, t1]) a1 w.drew) (pick l ls) a0) (pick l ps) a) : (Code.region id l.toArray true).wp P Q a w := by
  simp only [orderTwoB, Bool.and_eq_true, decide_eq_true_eq] at hB
  obtain ⟨⟨⟨hsel, hre⟩, htk⟩, hlen⟩ := hB
  have hre' : ∀ i ∈ ls, ∀ j ∈ us, reachB .any l.toArray l.toArray.size j i = true := fun i hi j hj => List.all_eq_true.1 (List.all_eq_true.1 hre j hj) i hi
  refine wp_region_any hm ?_
  have H := wpAny_of_pure (P := P) (md := .any) (l := l) rfl hsel hQ (g := ls.length + (t1 :: t2 :: us).length) (w := w.drew)
    (k := fun d => closedB .any l.toArray d && takesB .any l.toArray (twoB .any l.toArray t1 t2 us) ls d)
    (K := fun a0 => wpLoads P l.toArray C (fun a1 => wpKeep P l.toArray Q C (fun a3 w3 => wpList P l.toArray Q (pick l us) a3 w3) (pick l [t1, t2]) a1 w.drew ∧
      wpKeep P l.toArray Q C (fun a3 w3 => wpList P l.toArray Q (pick l us) a3 w3) (pick l [t2, t1]) a1 w.drew) (pick l ls) a0)
    (fun d a0 hk h0 => by
      simp only [Bool.and_eq_true] at hk
      refine wpAny_of_wpAnyW (C := C) (us := us) _ _ _ _ ?_
      exact wpAnyW_of_loads (md := .any) (l := l) rfl hsel hQ hC (k := twoB .any l.toArray t1 t2 us) (fun d' a1 hk' h1 => wpAnyW_of_two rfl hk' h1.1 h1.2) ls d a0 hre' (closedB_spec hk.1) hk.2 h0)
    ps (Array.replicate l.toArray.size false) a htk h
  rw [hlen] at H
  simpa using H
end Go.Proofs.YtfhpaehfihnjaaaGreat
namespace Go.Proofs.YtfhpaehfihnjaaaGreat
open Go.RowKit
section
variable {P : Program} {ops : Array Oper} {md : Region.Mode} {C : World → Prop}
def stagesB (md : Region.Mode) (ops : Array Oper) (us : List Nat) : List (List Nat × List Nat) → Array Bool → Bool
  | [], d => tailB md ops us d
  | s :: r, d => closedB md ops d && takesB md ops (tailK md ops (stagesB md ops us r) s.2) s.1 d
def stagesN (us : List Nat) : List (List Nat × List Nat) → Nat
  | [] => us.length
  | s :: r => s.1.length + (s.2.length + stagesN us r)
def wpStages (P : Program) (ops : Array Oper) (l : List Oper) (Q : Exit → Act → World → Prop) (C : World → Prop) (us : List Nat) : List (List Nat × List Nat) → Act → World → Prop
  | [], a, w => wpList P ops Q (pick l us) a w
  | s :: r, a, w => C w ∧ wpLoads P ops C (fun a1 => wpKeep P ops Q C (fun a2 w2 => wpStages P ops l Q C us r a2 w2) (pick l s.2) a1 w) (pick l s.1) a
theorem wpStages_nil {l : List Oper} {Q : Exit → Act → World → Prop} {us : List Nat} {a : Act} {w : World} (h : wpList P ops Q (pick l us) a w) : wpStages P ops l Q C us [] a w := h
theorem wpStages_step {l : List Oper} {Q : Exit → Act → World → Prop} {us ls ts : List Nat} {r : List (List Nat × List Nat)} {a : Act} {w : World} (hC : C w)
    (h : wpLoads P ops C (fun a1 => wpKeep P ops Q C (fun a2 w2 => wpStages P ops l Q C us r a2 w2) (pick l ts) a1 w) (pick l ls) a) : wpStages P ops l Q C us ((ls, ts) :: r) a w := ⟨hC, h⟩
theorem wpAnyW_of_stages {l : List Oper} (hl : ops = l.toArray) (hsel : Region.noSelect ops = true) {Q' : Exit → Act → World → Prop} (hQ : ∀ c a d v w, Q' (.panic c) (Act.put a d v) w → Q' (.panic c) a w) {us : List Nat} : ∀ (st : List (List Nat × List Nat)) (d : Array Bool) (a : Act) (w : World),
    (∀ s ∈ st, ∀ i ∈ s.1, ∀ j ∈ us, reachB md ops ops.size j i = true) → stagesB md ops us st d = true → wpStages P ops l Q' C us st a w → wpAnyW P md ops Q' C us (stagesN us st) d a w := by
  intro st
  induction st with
  | nil => intro d a w _ hB h; exact wpAnyW_of_tail (C := C) hl [] d a w hB h
  | cons s r ih =>
    intro d a w hre hB h
    simp only [stagesB, Bool.and_eq_true] at hB
    refine wpAnyW_of_loads hl hsel hQ h.1 (fun d' a1 hk' h1 => ?_) s.1 d a (hre s (by simp)) (closedB_spec hB.1) hB.2 h.2
    exact wpAnyW_of_tailK hl (fun d2 a2 w2 hk2 h2 => ih d2 a2 w2 (fun s' hs' => hre s' (by simp [hs'])) hk2 h2) s.2 d' a1 _ hk' h1
end
def orderBS (md : Region.Mode) (ops : Array Oper) (ps : List Nat) (st : List (List Nat × List Nat)) (us : List Nat) : Bool :=
  Region.noSelect ops && st.all (fun s => us.all (fun j => s.1.all fun i => reachB md ops ops.size j i)) && takesB md ops (stagesB md ops us st) ps (Array.replicate ops.size false)
theorem wp_region_stages {P : Program} {id : Nat} {Q : Exit → Act → World → Prop} {a : Act} {w : World} {l : List Oper} (C : World → Prop) (ps : List Nat) (st : List (List Nat × List Nat)) (us : List Nat) (hm : P.follows .mixedOrders = true)
    (hB : (orderBS .any l.toArray ps st us && decide (ps.length + stagesN us st = l.length)) = true) (_hC : C w.drew)
    (hQ : ∀ c a d v w, Q (.panic c) (Act.put a d v) w → Q (.panic c) a w)
    (h : wpPure P l.toArray (fun a0 => wpStages P l.toArray l Q C us st a0 w.drew) (pick l ps) a) : (Code.region id l.toArray true).wp P Q a w := by
  simp only [orderBS, Bool.and_eq_true, decide_eq_true_eq] at hB
  obtain ⟨⟨⟨hsel, hre⟩, htk⟩, hlen⟩ := hB
  have hre' : ∀ s ∈ st, ∀ i ∈ s.1, ∀ j ∈ us, reachB .any l.toArray l.toArray.size j i = true := fun s hs i hi j hj => List.all_eq_true.1 (List.all_eq_true.1 (List.all_eq_true.1 hre s hs) j hj) i hi
  refine wp_region_any hm ?_
  have H := wpAny_of_pure (P := P) (md := .any) (l := l) rfl hsel hQ (g := stagesN us st) (w := w.drew)
    (k := stagesB .any l.toArray us st)
    (K := fun a0 => wpStages P l.toArray l Q C us st a0 w.drew)
    (fun d a0 hk h0 => wpAny_of_wpAnyW (C := C) (us := us) _ _ _ _ (wpAnyW_of_stages (md := .any) (l := l) rfl hsel hQ st d a0 w.drew hre' hk h0))
    ps (Array.replicate l.toArray.size false) a htk h
  rw [hlen] at H
  simpa using H
end Go.Proofs.YtfhpaehfihnjaaaGreat
namespace Go.Proofs.YtfhpaehfihnjaaaGreat
open Go.RowKit
theorem takeb_all_eq (l m : List UInt8) (k : Nat) (hk : k < l.length) (hm : k < m.length) (h : l.take k = m.take k) (he : l[k] = m[k]) : l.take (k + 1) = m.take (k + 1) := by
  rw [List.take_succ_eq_append_getElem hk, List.take_succ_eq_append_getElem hm, h, he]
end Go.Proofs.YtfhpaehfihnjaaaGreat
