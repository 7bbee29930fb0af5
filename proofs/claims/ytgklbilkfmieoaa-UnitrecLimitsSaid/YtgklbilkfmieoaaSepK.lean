/- append that leaves the old slice readable. No function of the program is named here. -/
import Derived.Test.YtgklbilkfmieoaaSepW
namespace Go.Proofs.Ytgklbilkfmieoaa
open Go.RowKit
section
variable {P : Program} {W w : World} {F : List SA} {t ty e : TypeId} {z : Value} {size bytes : Nat}
theorem run_appK (E : Elem P t e z size bytes) {v : Value} {n : Nat} {xs : List Value} (S : SL W (rowS e size v n xs :: F) w)
    (a : Addr) (m c : Nat) (news : List Value) (hc : ∀ j u, news[j]? = some u → w.cell? (a.add j) = some u) (hl : news.length = m * size) (h1 : ∀ u ∈ news, u.oneCell' = true)
    (h63 : n + m ≤ maxLen) (hbytes : (n + m) * bytes ≤ 140737488355328) :
    ∃ A' c' w', (Builtin.append_ #[t, t] ty #[v, .slice (some a) m c]).run P w = .ok (.slice A' (n + m) c') w' ∧
      ((∃ c0, v = .slice A' n c0 ∧ SL W (rowS e size (.slice A' (n + m) c') (n + m) (xs ++ news) :: F) w') ∨ SL W (rowS e size (.slice A' (n + m) c') (n + m) (xs ++ news) :: rowS e size v n xs :: F) w') := by
  obtain ⟨i, hi, hz, hsi, hb⟩ := info_parts E.info
  subst hsi; subst hb
  have hown := S.own
  have hsmall : n + m ≤ 9223372036854775807 := by simp only [maxLen] at h63; omega
  have hlen : (xs ++ news).length = (n + m) * i.size := by rw [List.length_append, hown.1, hl, Nat.add_mul]
  have grown : ∀ (old : Nat), SL W (rowS e i.size (.slice (some ⟨w.heap.size, 0, none⟩) (n + m) (grownCap w (n + m) old e)) (n + m) (xs ++ news) :: rowS e i.size v n xs :: F)
      (w.drew.alloc (.cells (xs.toArray ++ news.toArray ++ Builtin.zeroCells z.cells (grownCap w (n + m) old e - (n + m))) e)) := by
    intro old
    have hge := grownCap_ge w (n + m) old e
    have hcm := grownCap_le_maxLen w (n + m) old e h63
    refine SL.head (S.drew.alloc _) (rowS_pts hge hcm ?_ ?_)
    · simp only [Array.size_append, List.size_toArray, size_zeroCells, E.cells, hown.1, hl, ← Nat.add_mul]
      congr 1
      omega
    · simp only [Array.toList_append, List.append_assoc]
      rw [← List.append_assoc, ← hlen]
      exact List.take_left
  rcases hown.2 with ⟨rfl, rfl⟩ | ⟨g, cap, cur, rfl, hbg, hg, hnc, hcm, hcs, htake⟩
  · have hx : xs = [] := List.eq_nil_of_length_eq_zero (by simpa using hown.1)
    subst hx
    by_cases hm : m = 0
    · subst hm
      have hn : news = [] := List.eq_nil_of_length_eq_zero (by simpa using hl)
      subst hn
      refine ⟨none, 0, w, ?_, Or.inl ⟨0, rfl, by simpa using S⟩⟩
      simp [Builtin.append_, run_underlying E.under, sizeOf, typeInfo, hi, Builtin.lenOf, Builtin.firstCells, loadCells, loadCellsFrom]
    · have hr := run_append_nil (P := P) w t ty e i z E.under hi hz a m c news hl hc (by omega) (by omega) (by have hb := hbytes; simp only [Nat.zero_add] at hb; omega)
      have hgr := grown 0
      simp only [Nat.zero_add, List.nil_append, Array.empty_append] at hgr hr ⊢
      exact ⟨_, _, _, hr, Or.inr hgr⟩
  · by_cases hroom : n + m ≤ cap
    · have hfit : n * i.size + news.length ≤ cur.size := by rw [hl, hcs, ← Nat.add_mul]; exact Nat.mul_le_mul_right _ hroom
      have hr := run_append_room (P := P) w t ty e i E.under hi g n cap cur hg a m c news hl hc h1 hroom hfit
      refine ⟨_, _, _, hr, Or.inl ⟨cap, rfl, ?_⟩⟩
      refine S.regrown ⟨rfl, rfl, rfl, by simp, fun k _ hk => setRow_other w g k _ (fun e => hk (by simp [Value.ownBlock, e]))⟩ ⟨hlen, .inr ⟨g, cap, _, rfl, hbg, setRow_heap w g cur _ e _ hg, hroom, hcm, ?_, ?_⟩⟩ (Or.inl rfl)
      · simp only [List.size_toArray, List.length_append, List.length_take, List.length_drop, Array.length_toList]
        omega
      · rw [htake, ← hlen]
        exact List.take_left
    · have holds : ∀ j u, xs[j]? = some u → w.cell? ((⟨g, 0, none⟩ : Addr).add j) = some u := hown.cells (g := g) rfl
      have hr := run_append_grow (P := P) w t ty e i z E.under hi hz ⟨g, 0, none⟩ n cap xs hown.1 holds a m c news hl hc (by omega) (by omega) (growslice_fits (by omega) hbytes)
      exact ⟨_, _, _, hr, Or.inr (grown cap)⟩
variable {ops : Array Oper} {rest : List Oper} {o : Oper} {a : Act} {Q : Exit → Act → World → Prop}
/-- 'append(s, y)' of one element, s being read later: either the new slice lies where the old one lay, or both are held. -/
theorem wpList_pushK (hgd : o.guard = none) (s x : Operand) (t : TypeId) (ho : o.op = .call { callee := .builtin .append, args := #[s, x], argTypes := #[t, t] }) (E : Elem P t e z size bytes)
    (w0 : World) (us : List Value) (k : Nat) (hw : w = w0.alloc (.cells us.toArray e)) (hus : us.length = k * size) (h1 : ∀ u ∈ us, u.oneCell' = true)
    (v : Value) (n : Nat) (xs : List Value) (hs : a.eval s = v) (hx : a.eval x = .slice (some ⟨w0.heap.size, 0, none⟩) k k) (S : SL W (rowS e size v n xs :: F) w0)
    (h63 : n + k ≤ maxLen) (hbytes : (n + k) * bytes ≤ 140737488355328)
    (h : ∀ A c w', ((∃ c0, v = .slice A n c0 ∧ SL W (rowS e size (.slice A (n + k) c) (n + k) (xs ++ us) :: F) w') ∨ SL W (rowS e size (.slice A (n + k) c) (n + k) (xs ++ us) :: rowS e size v n xs :: F) w') → wpList P ops Q rest (a.put o.dst (.slice A (n + k) c)) w') : wpList P ops Q (o :: rest) a w := by
  subst hw
  obtain ⟨A', c', w', hrun, hS⟩ := run_appK (ty := o.type) E (S.allocC us.toArray e).drop ⟨w0.heap.size, 0, none⟩ k k us (fun j u hu => by
    rw [add_none, Nat.zero_add, cell_of_row _ _ _ _ e (0, 0) (heap_alloc_new w0 _)]
    simpa using hu) hus h1 h63 hbytes
  refine wpList_known hgd _ w' ?_ (h A' c' w' hS)
  unfold execOp
  simp only [ho, resolve, invoke, builtin, Sem.run_bind, Sem.run_pure, Result.andThen_ok, List.map_toArray, List.map_cons, List.map_nil, hs, hx, hrun]
end
end Go.Proofs.Ytgklbilkfmieoaa
