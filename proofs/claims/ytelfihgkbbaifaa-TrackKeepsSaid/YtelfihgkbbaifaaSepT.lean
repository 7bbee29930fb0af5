/- Rows whose slice may be cut short of its block ('s[:k:k]'), and append onto them. No function of the program is named here. -/
import Derived.Test.YtelfihgkbbaifaaSepW
namespace Go.Proofs.Ytelfihgkbbaifaa
open Go.RowKit

/-- As rowS, but the slice may have been cut: then it is full (its capacity is its length). -/
def rowT (e : TypeId) (size : Nat) (v : Value) (n : Nat) (xs : List Value) : SA := fun h => xs.length = n * size ∧
  ((v = .slice none 0 0 ∧ n = 0) ∨ ∃ g cap cur, v = .slice (some ⟨g, 0, none⟩) n cap ∧ h g = some (.cells cur e (0, 0)) ∧ n ≤ cap ∧ cap ≤ maxLen ∧ cap * size ≤ cur.size ∧ (cap = n ∨ cur.size = cap * size) ∧ cur.toList.take (n * size) = xs)
theorem rowT_of {e : TypeId} {size n : Nat} {v : Value} {xs : List Value} : ∀ h, rowS e size v n xs h → rowT e size v n xs h := fun h p =>
  ⟨p.1, p.2.elim Or.inl fun ⟨g, cap, cur, hv, hg, h1, h2, h3, h4⟩ => Or.inr ⟨g, cap, cur, hv, hg, h1, h2, by rw [h3]; exact Nat.le_refl _, Or.inr h3, h4⟩⟩
section
variable {W w w' : World} {F : List SA} {e : TypeId} {size n : Nat} {v : Value} {xs : List Value}
/-- What such a row is in the world. -/
theorem SL.rowTo (S : SL W (rowT e size v n xs :: F) w) : (v = .slice none 0 0 ∧ n = 0 ∧ xs = []) ∨ ∃ g cap cur, v = .slice (some ⟨g, 0, none⟩) n cap ∧ n ≤ cap ∧ cap ≤ maxLen ∧ cap * size ≤ cur.size ∧ (cap = n ∨ cur.size = cap * size) ∧ cur.toList.take (n * size) = xs ∧ xs.length = n * size ∧ SL W (cel g cur e :: F) w := by
  obtain ⟨B, h, ⟨h1, h2, p, q, dd, l1, l2⟩, k⟩ := S
  rcases p.2 with ⟨hv, h0⟩ | ⟨x, cap, cur, hv, hx, a1, a2, a3, a4, a5⟩
  · subst h0
    exact Or.inl ⟨hv, rfl, List.eq_nil_of_length_eq_zero (by simpa using p.1)⟩
  · exact Or.inr ⟨x, cap, cur, hv, a1, a2, a3, a4, a5, p.1, B, h, ⟨h1, h2, hx, q, dd, l1, l2⟩, k⟩
theorem rowT_pts {cap x : Nat} {cur : Array Value} (hl : xs.length = n * size) (hn : n ≤ cap) (hm : cap ≤ maxLen) (hs : cap * size ≤ cur.size) (hc : cap = n ∨ cur.size = cap * size) (ht : cur.toList.take (n * size) = xs) : ∀ h, pts x (.cells cur e (0, 0)) h → rowT e size (.slice (some ⟨x, 0, none⟩) n cap) n xs h := fun _ p =>
  ⟨hl, Or.inr ⟨x, cap, cur, rfl, p, hn, hm, hs, hc, ht⟩⟩
theorem SL.nilT (S : SL W F w) (e : TypeId) (size : Nat) : SL W (rowT e size (.slice none 0 0) 0 [] :: F) w := (S.nil e size).head rowT_of
/-- The slice 's[:k:k]' of a row. -/
theorem SL.cutT {A : Option Addr} {c k : Nat} (S : SL W (rowT e size (.slice A n c) n xs :: F) w) (hk : k ≤ n) : SL W (rowT e size (.slice A k (if A = none then 0 else k)) k (xs.take (k * size)) :: F) w := by
  rcases S.rowTo with ⟨hv, h0, rfl⟩ | ⟨g, cap, cur, hv, h1, h2, h3, _, h5, h6, S'⟩
  · subst h0
    injection hv with hA _ hc
    subst hA; subst hc
    obtain rfl : k = 0 := by omega
    rw [if_pos rfl]
    simpa using S
  · injection hv with hA _ hc
    subst hA; subst hc
    rw [if_neg (by simp)]
    refine SL.head S' (rowT_pts ?_ (Nat.le_refl _) (by omega) (Nat.le_trans (Nat.mul_le_mul_right _ (by omega)) h3) (Or.inl rfl) ?_)
    · rw [List.length_take, h6, Nat.min_eq_left (Nat.mul_le_mul_right _ hk)]
    · rw [← h5, List.take_take, Nat.min_eq_left (Nat.mul_le_mul_right _ hk)]
theorem SL.cellT {A : Option Addr} {c j : Nat} {u : Value} (S : SL W (rowT e size (.slice A n c) n xs :: F) w) (hj : xs[j]? = some u) : ∃ b, A = some ⟨b, 0, none⟩ ∧ W.heap.size ≤ b ∧ w.cell? ⟨b, j, none⟩ = some u := by
  rcases S.rowTo with ⟨_, _, rfl⟩ | ⟨g, cap, cur, hv, _, _, _, _, h5, _, S'⟩
  · simp at hj
  · injection hv with hA _ _
    refine ⟨g, hA, S'.cge, ?_⟩
    rw [S'.look.1, ← Array.getElem?_toList]
    rw [← h5, List.getElem?_take] at hj
    split at hj
    · exact hj
    · cases hj
end
section
variable {P : Program} {W w : World} {F : List SA} {t ty e : TypeId} {z : Value} {size bytes : Nat}
theorem run_appT' (E : Elem P t e z size bytes) {v : Value} {n : Nat} {xs : List Value} (S : SL W (rowT e size v n xs :: F) w)
    (a : Addr) (m c : Nat) (news : List Value) (hc : ∀ j u, news[j]? = some u → w.cell? (a.add j) = some u) (hl : news.length = m * size) (h1 : ∀ u ∈ news, u.oneCell' = true)
    (h63 : n + m ≤ maxLen) (hbytes : (n + m) * bytes ≤ 140737488355328) :
    ∃ A' c' w', (Builtin.append_ #[t, t] ty #[v, .slice (some a) m c]).run P w = .ok (.slice A' (n + m) c') w' ∧ SL W (rowT e size (.slice A' (n + m) c') (n + m) (xs ++ news) :: F) w' := by
  obtain ⟨i, hi, hz, hsi, hb⟩ := info_parts E.info
  subst hsi; subst hb
  have hsmall : n + m ≤ 9223372036854775807 := by simp only [maxLen] at h63; omega
  have grown : ∀ (old : Nat), xs.length = n * i.size → SL W (rowT e i.size (.slice (some ⟨w.heap.size, 0, none⟩) (n + m) (grownCap w (n + m) old e)) (n + m) (xs ++ news) :: F)
      (w.drew.alloc (.cells (xs.toArray ++ news.toArray ++ Builtin.zeroCells z.cells (grownCap w (n + m) old e - (n + m))) e)) := by
    intro old hx
    have hge := grownCap_ge w (n + m) old e
    have hcm := grownCap_le_maxLen w (n + m) old e h63
    have hlen : (xs ++ news).length = (n + m) * i.size := by rw [List.length_append, hx, hl, Nat.add_mul]
    refine SL.head (SL.head (S.drop.drew.alloc _) (rowS_pts hge hcm ?_ ?_)) rowT_of
    · simp only [Array.size_append, List.size_toArray, size_zeroCells, E.cells, hx, hl, ← Nat.add_mul]
      congr 1
      omega
    · simp only [Array.toList_append, List.append_assoc]
      rw [← List.append_assoc, ← hlen]
      exact List.take_left
  rcases S.rowTo with ⟨rfl, rfl, rfl⟩ | ⟨g, cap, cur, rfl, hnc, hcm, hcs, hcc, htake, hxl, S'⟩
  · by_cases hm : m = 0
    · subst hm
      have hn : news = [] := List.eq_nil_of_length_eq_zero (by simpa using hl)
      subst hn
      refine ⟨none, 0, w, ?_, by simpa using S⟩
      simp [Builtin.append_, run_underlying E.under, sizeOf, typeInfo, hi, Builtin.lenOf, Builtin.firstCells, loadCells, loadCellsFrom]
    · have hr := run_append_nil (P := P) w t ty e i z E.under hi hz a m c news hl hc (by omega) (by omega) (by have hb := hbytes; simp only [Nat.zero_add] at hb; omega)
      have hgr := grown 0 (by simp)
      simp only [Nat.zero_add, List.nil_append, Array.empty_append] at hgr hr ⊢
      exact ⟨_, _, _, hr, hgr⟩
  · have hlen : (xs ++ news).length = (n + m) * i.size := by rw [List.length_append, hxl, hl, Nat.add_mul]
    by_cases hroom : n + m ≤ cap
    · have hfit : n * i.size + news.length ≤ cur.size := by rw [hl, ← Nat.add_mul]; exact Nat.le_trans (Nat.mul_le_mul_right _ hroom) hcs
      have hr := run_append_room (P := P) w t ty e i E.under hi g n cap cur S'.crow a m c news hl hc h1 hroom hfit
      refine ⟨_, _, _, hr, SL.head S'.setRow (rowT_pts hlen hroom hcm ?_ ?_ ?_)⟩
      · simp only [List.size_toArray, List.length_append, List.length_take, List.length_drop, Array.length_toList]
        omega
      · rcases hcc with h | h
        · exact Or.inl (by omega)
        · refine Or.inr ?_
          simp only [List.size_toArray, List.length_append, List.length_take, List.length_drop, Array.length_toList]
          omega
      · rw [htake, ← hlen]
        exact List.take_left
    · have holds : ∀ j u, xs[j]? = some u → w.cell? ((⟨g, 0, none⟩ : Addr).add j) = some u := by
        intro j u hj
        obtain ⟨b, hb, _, hcell⟩ := S.cellT hj
        injection hb with hb; injection hb with hb
        subst hb
        rw [add_none, Nat.zero_add]; exact hcell
      have hr := run_append_grow (P := P) w t ty e i z E.under hi hz ⟨g, 0, none⟩ n cap xs hxl holds a m c news hl hc (by omega) (by omega) (growslice_fits (by omega) hbytes)
      exact ⟨_, _, _, hr, grown cap hxl⟩
theorem run_appT (E : Elem P t e z size bytes) {v : Value} {n : Nat} {xs : List Value} (S : SL W (rowT e size v n xs :: F) w)
    (B : Nat) (A : Option Addr) (m c : Nat) (news : List Value) (hr : At w B A news) (hl : news.length = m * size) (h1 : ∀ u ∈ news, u.oneCell' = true)
    (h63 : n + m ≤ maxLen) (hbytes : (n + m) * bytes ≤ 140737488355328) :
    ∃ A' c' w', (Builtin.append_ #[t, t] ty #[v, .slice A m c]).run P w = .ok (.slice A' (n + m) c') w' ∧ SL W (rowT e size (.slice A' (n + m) c') (n + m) (xs ++ news) :: F) w' := by
  by_cases hne : news = []
  · cases A with
    | some ad => exact run_appT' E S ad m c news (fun j u hu => by rw [hne] at hu; simp at hu) hl h1 h63 hbytes
    | none =>
      have hm : m = 0 := by
        rcases Nat.eq_zero_or_pos m with h0 | h0
        · exact h0
        · have := Nat.mul_pos h0 E.pos
          rw [← hl, hne] at this
          exact absurd this (by simp)
      subst hm; subst hne
      obtain ⟨i, hi, hz, hsi, hb⟩ := info_parts E.info
      have hrun : (Builtin.append_ #[t, t] ty #[v, .slice none 0 c]).run P w = .ok v w := by
        rcases S.rowTo with ⟨rfl, rfl, rfl⟩ | ⟨g, cap, cur, rfl, hnc, _⟩
        · simp [Builtin.append_, run_underlying E.under, sizeOf, typeInfo, hi, Builtin.lenOf, Builtin.firstCells]
        · simp [Builtin.append_, run_underlying E.under, sizeOf, typeInfo, hi, Builtin.lenOf, Builtin.firstCells, hnc, storeCells]
      rcases S.rowTo with ⟨rfl, rfl, rfl⟩ | ⟨g, cap, cur, rfl, hnc, _⟩
      · exact ⟨_, _, w, hrun, by simpa using S⟩
      · exact ⟨_, _, w, hrun, by simpa using S⟩
  · obtain ⟨b, off, rfl, _, hc⟩ := hr hne
    exact run_appT' E S _ m c news (fun j u hu => by rw [add_none]; exact hc j u hu) hl h1 h63 hbytes
variable {ops : Array Oper} {rest : List Oper} {o : Oper} {a : Act} {Q : Exit → Act → World → Prop}
theorem wpList_appT (hgd : o.guard = none) (s x : Operand) (t : TypeId) (ho : o.op = .call { callee := .builtin .append, args := #[s, x], argTypes := #[t, t] }) (E : Elem P t e z size bytes)
    (v : Value) (n : Nat) (xs : List Value) (hs : a.eval s = v) (S : SL W (rowT e size v n xs :: F) w)
    (B : Nat) (A : Option Addr) (m c : Nat) (news : List Value) (hx : a.eval x = .slice A m c) (hr : At w B A news) (hl : news.length = m * size) (h1 : ∀ u ∈ news, u.oneCell' = true)
    (h63 : n + m ≤ maxLen) (hbytes : (n + m) * bytes ≤ 140737488355328)
    (h : ∀ A' c' w', SL W (rowT e size (.slice A' (n + m) c') (n + m) (xs ++ news) :: F) w' → wpList P ops Q rest (a.put o.dst (.slice A' (n + m) c')) w') : wpList P ops Q (o :: rest) a w := by
  obtain ⟨A', c', w', hrun, S'⟩ := run_appT (ty := o.type) E S B A m c news hr hl h1 h63 hbytes
  refine wpList_known hgd _ w' ?_ (h A' c' w' S')
  unfold execOp
  simp only [ho, resolve, invoke, builtin, Sem.run_bind, Sem.run_pure, Result.andThen_ok, List.map_toArray, List.map_cons, List.map_nil, hs, hx, hrun]
/-- 'append(s, y)' of one element (or of k elements written out). -/
theorem wpList_pushT (hgd : o.guard = none) (s x : Operand) (t : TypeId) (ho : o.op = .call { callee := .builtin .append, args := #[s, x], argTypes := #[t, t] }) (E : Elem P t e z size bytes)
    (w0 : World) (us : List Value) (k : Nat) (hw : w = w0.alloc (.cells us.toArray e)) (hus : us.length = k * size) (h1 : ∀ u ∈ us, u.oneCell' = true)
    (v : Value) (n : Nat) (xs : List Value) (hs : a.eval s = v) (hx : a.eval x = .slice (some ⟨w0.heap.size, 0, none⟩) k k) (S : SL W (rowT e size v n xs :: F) w0)
    (h63 : n + k ≤ maxLen) (hbytes : (n + k) * bytes ≤ 140737488355328)
    (h : ∀ A c w', SL W (rowT e size (.slice A (n + k) c) (n + k) (xs ++ us) :: F) w' → wpList P ops Q rest (a.put o.dst (.slice A (n + k) c)) w') : wpList P ops Q (o :: rest) a w := by
  subst hw
  exact wpList_appT hgd s x t ho E v n xs hs (S.allocC us.toArray e).drop (w0.heap.size + 1) _ k k us hx (at_news w0 us e) hus h1 h63 hbytes h
end
end Go.Proofs.Ytelfihgkbbaifaa
