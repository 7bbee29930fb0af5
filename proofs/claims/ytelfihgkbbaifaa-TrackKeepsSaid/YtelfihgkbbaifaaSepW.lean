/- append, copy and make over assertions that lie apart. No function of the program is named here. -/
import Derived.Test.YtelfihgkbbaifaaSep
import Derived.Test.YtelfihgkbbaifaaTail
namespace Go.Proofs.Ytelfihgkbbaifaa
open Go.RowKit

section
variable {P : Program} {W w : World} {F : List SA} {t ty e : TypeId} {z : Value} {size bytes : Nat}
theorem run_appS (E : Elem P t e z size bytes) {v : Value} {n : Nat} {xs : List Value} (S : SL W (rowS e size v n xs :: F) w)
    (B : Nat) (A : Option Addr) (m c : Nat) (news : List Value) (hr : At w B A news) (hl : news.length = m * size) (h1 : ∀ u ∈ news, u.oneCell' = true)
    (h63 : n + m ≤ maxLen) (hbytes : (n + m) * bytes ≤ 140737488355328) :
    ∃ A' c' w', (Builtin.append_ #[t, t] ty #[v, .slice A m c]).run P w = .ok (.slice A' (n + m) c') w' ∧ SL W (rowS e size (.slice A' (n + m) c') (n + m) (xs ++ news) :: F) w' := by
  obtain ⟨i, hi, hz, hsi, hb⟩ := info_parts E.info
  have hown := S.own
  have key : ∀ ad : Addr, A = some ad → (∀ j u, news[j]? = some u → w.cell? (ad.add j) = some u) → ∃ A' c' w', (Builtin.append_ #[t, t] ty #[v, .slice A m c]).run P w = .ok (.slice A' (n + m) c') w' ∧ SL W (rowS e size (.slice A' (n + m) c') (n + m) (xs ++ news) :: F) w' := by
    rintro ad rfl hc
    obtain ⟨v', w', hrun, ho, hg, _, hat⟩ := run_append_own_at (P := P) w W.heap.size t ty e i z size bytes E.under hi hz hsi hb E.cells E.pos v n xs hown ad m c news hl hc h1 h63 hbytes S.size
    obtain ⟨A', c', rfl, _, _⟩ := own_slice ho
    exact ⟨A', c', w', hrun, S.regrown hg ho hat⟩
  by_cases hne : news = []
  · cases A with
    | some ad => exact key ad rfl (fun j u hu => by rw [hne] at hu; simp at hu)
    | none =>
      have hm : m = 0 := by
        rcases Nat.eq_zero_or_pos m with h0 | h0
        · exact h0
        · have := Nat.mul_pos h0 E.pos
          rw [← hl, hne] at this
          exact absurd this (by simp)
      subst hm; subst hne
      have hrun : (Builtin.append_ #[t, t] ty #[v, .slice none 0 c]).run P w = .ok v w := by
        rcases hown.2 with ⟨rfl, rfl⟩ | ⟨g, cap, cur, rfl, _, _, hnc, _⟩
        · simp [Builtin.append_, run_underlying E.under, sizeOf, typeInfo, hi, Builtin.lenOf, Builtin.firstCells]
        · simp [Builtin.append_, run_underlying E.under, sizeOf, typeInfo, hi, Builtin.lenOf, Builtin.firstCells, hnc, storeCells]
      obtain ⟨A', c', rfl, _, _⟩ := own_slice hown
      exact ⟨A', c', w, hrun, by simpa using S⟩
  · obtain ⟨b, off, rfl, _, hc⟩ := hr hne
    exact key _ rfl (fun j u hu => by rw [add_none]; exact hc j u hu)

variable {ops : Array Oper} {rest : List Oper} {o : Oper} {a : Act} {Q : Exit → Act → World → Prop} {K : Act → World → Prop}
/-- 'append(s, x...)', s the call's own, x whatever reads as a list. -/
theorem wp_appS (s x : Operand) (t : TypeId) (ho : o.op = .call { callee := .builtin .append, args := #[s, x], argTypes := #[t, t] }) (E : Elem P t e z size bytes)
    (v : Value) (n : Nat) (xs : List Value) (hs : a.eval s = v) (S : SL W (rowS e size v n xs :: F) w)
    (B : Nat) (A : Option Addr) (m c : Nat) (news : List Value) (hx : a.eval x = .slice A m c) (hr : At w B A news) (hl : news.length = m * size) (h1 : ∀ u ∈ news, u.oneCell' = true)
    (h63 : n + m ≤ maxLen) (hbytes : (n + m) * bytes ≤ 140737488355328)
    (h : ∀ A' c' w', SL W (rowS e size (.slice A' (n + m) c') (n + m) (xs ++ news) :: F) w' → K (a.put o.dst (.slice A' (n + m) c')) w') : o.wp P a w K Q := by
  obtain ⟨A', c', w', hrun, S'⟩ := run_appS (ty := o.type) E S B A m c news hr hl h1 h63 hbytes
  refine wp_known _ w' ?_ (h A' c' w' S')
  unfold execOp
  simp only [ho, resolve, invoke, builtin, Sem.run_bind, Sem.run_pure, Result.andThen_ok, List.map_toArray, List.map_cons, List.map_nil, hs, hx, hrun]
theorem wpList_appS (hgd : o.guard = none) (s x : Operand) (t : TypeId) (ho : o.op = .call { callee := .builtin .append, args := #[s, x], argTypes := #[t, t] }) (E : Elem P t e z size bytes)
    (v : Value) (n : Nat) (xs : List Value) (hs : a.eval s = v) (S : SL W (rowS e size v n xs :: F) w)
    (B : Nat) (A : Option Addr) (m c : Nat) (news : List Value) (hx : a.eval x = .slice A m c) (hr : At w B A news) (hl : news.length = m * size) (h1 : ∀ u ∈ news, u.oneCell' = true)
    (h63 : n + m ≤ maxLen) (hbytes : (n + m) * bytes ≤ 140737488355328)
    (h : ∀ A' c' w', SL W (rowS e size (.slice A' (n + m) c') (n + m) (xs ++ news) :: F) w' → wpList P ops Q rest (a.put o.dst (.slice A' (n + m) c')) w') : wpList P ops Q (o :: rest) a w :=
  wpList_plain hgd fun _ hK => wp_appS s x t ho E v n xs hs S B A m c news hx hr hl h1 h63 hbytes fun A' c' w' h2 => hK _ _ (h A' c' w' h2)
/-- 'append(s, y)' of one element (or of k elements written out): the world is that in which they have been laid. -/
theorem wpList_pushS (hgd : o.guard = none) (s x : Operand) (t : TypeId) (ho : o.op = .call { callee := .builtin .append, args := #[s, x], argTypes := #[t, t] }) (E : Elem P t e z size bytes)
    (w0 : World) (us : List Value) (k : Nat) (hw : w = w0.alloc (.cells us.toArray e)) (hus : us.length = k * size) (h1 : ∀ u ∈ us, u.oneCell' = true)
    (v : Value) (n : Nat) (xs : List Value) (hs : a.eval s = v) (hx : a.eval x = .slice (some ⟨w0.heap.size, 0, none⟩) k k) (S : SL W (rowS e size v n xs :: F) w0)
    (h63 : n + k ≤ maxLen) (hbytes : (n + k) * bytes ≤ 140737488355328)
    (h : ∀ A c w', SL W (rowS e size (.slice A (n + k) c) (n + k) (xs ++ us) :: F) w' → wpList P ops Q rest (a.put o.dst (.slice A (n + k) c)) w') : wpList P ops Q (o :: rest) a w := by
  subst hw
  exact wpList_appS hgd s x t ho E v n xs hs (S.allocC us.toArray e).drop (w0.heap.size + 1) _ k k us hx (at_news w0 us e) hus h1 h63 hbytes h
theorem wp_pushS (s x : Operand) (t : TypeId) (ho : o.op = .call { callee := .builtin .append, args := #[s, x], argTypes := #[t, t] }) (E : Elem P t e z size bytes)
    (w0 : World) (us : List Value) (k : Nat) (hw : w = w0.alloc (.cells us.toArray e)) (hus : us.length = k * size) (h1 : ∀ u ∈ us, u.oneCell' = true)
    (v : Value) (n : Nat) (xs : List Value) (hs : a.eval s = v) (hx : a.eval x = .slice (some ⟨w0.heap.size, 0, none⟩) k k) (S : SL W (rowS e size v n xs :: F) w0)
    (h63 : n + k ≤ maxLen) (hbytes : (n + k) * bytes ≤ 140737488355328)
    (h : ∀ A c w', SL W (rowS e size (.slice A (n + k) c) (n + k) (xs ++ us) :: F) w' → K (a.put o.dst (.slice A (n + k) c)) w') : o.wp P a w K Q := by
  subst hw
  exact wp_appS s x t ho E v n xs hs (S.allocC us.toArray e).drop (w0.heap.size + 1) _ k k us hx (at_news w0 us e) hus h1 h63 hbytes h
/-- .. as one step of a region that draws its order. -/
theorem step_appS {X : Prop} (hgd : o.guard = none) (s x : Operand) (t : TypeId) (ho : o.op = .call { callee := .builtin .append, args := #[s, x], argTypes := #[t, t] }) (E : Elem P t e z size bytes)
    (v : Value) (n : Nat) (xs : List Value) (hs : a.eval s = v) (S : SL W (rowS e size v n xs :: F) w)
    (B : Nat) (A : Option Addr) (m c : Nat) (news : List Value) (hx : a.eval x = .slice A m c) (hr : At w B A news) (hl : news.length = m * size) (h1 : ∀ u ∈ news, u.oneCell' = true)
    (h63 : n + m ≤ maxLen) (hbytes : (n + m) * bytes ≤ 140737488355328)
    (h : ∀ A' c' w', SL W (rowS e size (.slice A' (n + m) c') (n + m) (xs ++ news) :: F) w' → K (a.put o.dst (.slice A' (n + m) c')) w') : if Region.wanted o (yielded ops a.tmps) = true then Oper.wp P o a w K Q else X := by
  rw [if_pos (by simp [Region.wanted, hgd])]
  exact wp_appS s x t ho E v n xs hs S B A m c news hx hr hl h1 h63 hbytes h
theorem step_pushS {X : Prop} (hgd : o.guard = none) (s x : Operand) (t : TypeId) (ho : o.op = .call { callee := .builtin .append, args := #[s, x], argTypes := #[t, t] }) (E : Elem P t e z size bytes)
    (w0 : World) (us : List Value) (k : Nat) (hw : w = w0.alloc (.cells us.toArray e)) (hus : us.length = k * size) (h1 : ∀ u ∈ us, u.oneCell' = true)
    (v : Value) (n : Nat) (xs : List Value) (hs : a.eval s = v) (hx : a.eval x = .slice (some ⟨w0.heap.size, 0, none⟩) k k) (S : SL W (rowS e size v n xs :: F) w0)
    (h63 : n + k ≤ maxLen) (hbytes : (n + k) * bytes ≤ 140737488355328)
    (h : ∀ A c w', SL W (rowS e size (.slice A (n + k) c) (n + k) (xs ++ us) :: F) w' → K (a.put o.dst (.slice A (n + k) c)) w') : if Region.wanted o (yielded ops a.tmps) = true then Oper.wp P o a w K Q else X := by
  rw [if_pos (by simp [Region.wanted, hgd])]
  exact wp_pushS s x t ho E w0 us k hw hus h1 v n xs hs hx S h63 hbytes h
/-- 'make([]T, n)'. -/
theorem wpList_makeS (hgd : o.guard = none) (l c : Operand) (t : TypeId) (ho : o.op = Op.makeSlice t l c) (E : Elem P t e z size bytes) (kl kc : IntKind) (L C : Int) (n : Nat) (hl : a.eval l = .int kl L) (hc : a.eval c = .int kc C) (hL : L = (n : Int)) (hC : C = (n : Int))
    (hb : bytes * n ≤ 281474976710656) (hm : n ≤ maxLen) (S : SL W F w)
    (h : ∀ g w', SL W (rowS e size (.slice (some ⟨g, 0, none⟩) n n) n (madeCells z.cells (n * size)).toList :: F) w' → wpList P ops Q rest (a.put o.dst (.slice (some ⟨g, 0, none⟩) n n)) w') : wpList P ops Q (o :: rest) a w :=
  wpList_make hgd l c t ho E kl kc L C n hl hc hL hC hb hm fun w' ho hb => h _ w' (S.made ho hb)
/-- 'copy(d, s)', d a row of the call's own. -/
theorem wpList_copyS (hgd : o.guard = none) (d s : Operand) (dT sT : TypeId)
    (ho : o.op = .call { callee := .builtin .copy, args := #[d, s], argTypes := #[dT, sT] }) (E : Elem P dT e z 1 bytes)
    (g n c : Nat) (xs : List Value) (S : SL W (rowS e 1 (.slice (some ⟨g, 0, none⟩) n c) n xs :: F) w) (dp : Option Addr) (dLen dCap off : Nat) (hd : a.eval d = .slice dp dLen dCap)
    (B : Nat) (sp : Option Addr) (m mc : Nat) (news : List Value) (hs : a.eval s = .slice sp m mc) (hsrc : At w B sp news) (hm : news.length = m)
    (hdp : 0 < min m dLen → dp = some ⟨g, off, none⟩) (hfit : off + min m dLen ≤ n) (h1 : ∀ v ∈ news, v.oneCell' = true)
    (h : ∀ w', SL W (rowS e 1 (.slice (some ⟨g, 0, none⟩) n c) n (splice xs off (news.take dLen)) :: F) w' → wpList P ops Q rest (a.put o.dst (goInt (min m dLen : Nat))) w') : wpList P ops Q (o :: rest) a w :=
  wpList_copy_at hgd d s dT sT ho E W.heap.size g n c xs S.own dp dLen dCap off hd B sp m mc news hs hsrc hm hdp hfit h1 fun w' ho hg => h w' (S.regrown hg ho (Or.inl rfl))
/-- A cell of a row. -/
theorem SL.cellAt {n k : Nat} {A : Option Addr} {xs : List Value} {r : List SA} (S : SL W (rowS e size (.slice A n k) n xs :: r) w) {j : Nat} {u : Value} (hj : xs[j]? = some u) : ∃ b, A = some ⟨b, 0, none⟩ ∧ W.heap.size ≤ b ∧ w.cell? ⟨b, j, none⟩ = some u := by
  have hn : 0 < n := by
    rcases Nat.eq_zero_or_pos n with h | h
    · have := S.own.1; subst h; rw [Nat.zero_mul] at this; rw [List.length_eq_zero_iff.1 this] at hj; simp at hj
    · exact h
  obtain ⟨x, cap, cur, hv, _, _, _, ht, S'⟩ := S.rowCel hn
  injection hv with hA _ _
  refine ⟨x, hA, S'.cge, ?_⟩
  rw [S'.look.1, ← Array.getElem?_toList]
  rw [← ht, List.getElem?_take] at hj
  split at hj
  · exact hj
  · cases hj
/-- A row with no spare room is a block. -/
theorem SL.full {n g : Nat} {xs : List Value} {r : List SA} (S : SL W (rowS e size (.slice (some ⟨g, 0, none⟩) n n) n xs :: r) w) (hn : 0 < n) : SL W (cel g xs.toArray e :: r) w := by
  obtain ⟨x, cap, cur, hv, _, _, hs, ht, S'⟩ := S.rowCel hn
  injection hv with hA _ hc
  injection hA with hA
  injection hA with hA
  subst hA; subst hc
  rw [List.take_of_length_le (by simp [hs])] at ht
  subst ht
  exact S'
theorem SL.unfull {n g : Nat} {xs : List Value} {r : List SA} (S : SL W (cel g xs.toArray e :: r) w) (hs : xs.length = n * size) (hm : n ≤ maxLen) : SL W (rowS e size (.slice (some ⟨g, 0, none⟩) n n) n xs :: r) w :=
  SL.head S (rowS_pts (Nat.le_refl _) hm (by simpa using hs) (by simp [← hs]))
end
end Go.Proofs.Ytelfihgkbbaifaa
