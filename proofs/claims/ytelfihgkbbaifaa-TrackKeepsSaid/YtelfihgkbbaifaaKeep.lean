/- What Put and Replace keep: plain laws. -/
import Derived.Test.YtelfihgkbbaifaaCodes
namespace Go.Proofs.Ytelfihgkbbaifaa
open Go.RowKit
theorem asc_of {rs : List Rec} (h : ∀ j, j < rs.length → okAt rs j = true) : ∀ (d i : Nat) (x y : Rec), rs[i]? = some x → rs[i + d + 1]? = some y → x.r < y.r
  | 0, i, x, y, hx, hy => by
    have h1 := h (i + 1) (List.getElem?_eq_some_iff.1 hy).1
    rw [okAt_succ hy hx, Bool.and_eq_true, decide_eq_true_eq] at h1
    exact h1.2
  | d + 1, i, x, y, hx, hy => by
    have hl := (List.getElem?_eq_some_iff.1 hy).1
    have hz : rs[i + d + 1]? = some (rs[i + d + 1]'(by omega)) := List.getElem?_eq_getElem (by omega)
    have h1 := asc_of h d i x _ hx hz
    have h2 := h (i + d + 1 + 1) (by omega)
    rw [okAt_succ (show rs[i + d + 1 + 1]? = some y from hy) hz, Bool.and_eq_true, decide_eq_true_eq] at h2
    omega
theorem asc_pw {rs : List Rec} (h : ∀ j, j < rs.length → okAt rs j = true) : rs.Pairwise fun a b => a.r < b.r := by
  rw [List.pairwise_iff_getElem]
  intro i j hi hj hij
  exact asc_of h (j - i - 1) i _ _ (List.getElem?_eq_getElem hi) (by rw [show i + (j - i - 1) + 1 = j by omega]; exact List.getElem?_eq_getElem hj)
theorem lower_pw {r : Int} : ∀ {rs : List Rec}, (rs.Pairwise fun a b => a.r < b.r) → ∃ m, m ≤ rs.length ∧ lower r rs = rs.take m
  | [], _ => ⟨0, Nat.le_refl _, rfl⟩
  | a :: l, h => by
    obtain ⟨h1, h2⟩ := List.pairwise_cons.1 h
    obtain ⟨m, hm, e⟩ := lower_pw (r := r) h2
    by_cases ha : a.r < r
    · refine ⟨m + 1, by simp; omega, ?_⟩
      have : lower r (a :: l) = a :: lower r l := by unfold lower; rw [List.filter_cons_of_pos (by simpa using ha)]
      rw [this, e, List.take_succ_cons]
    · refine ⟨0, Nat.zero_le _, ?_⟩
      unfold lower
      rw [List.take_zero, List.filter_eq_nil_iff]
      intro b hb
      rcases List.mem_cons.1 hb with rfl | hb
      · simpa using ha
      · have := h1 b hb
        simp only [decide_eq_true_eq]; omega
theorem okAt_take {rs : List Rec} {m j : Nat} (h : j < m) : okAt (rs.take m) j = okAt rs j := by
  unfold okAt
  rw [List.getElem?_take, if_pos h]
  cases rs[j]? with
  | none => rfl
  | some x =>
    cases j with
    | zero => rfl
    | succ i => simp only [List.getElem?_take, if_pos (show i < m by omega)]
theorem usedN_cut (rs : List Rec) (m : Nat) : usedN (rs.take m) ≤ usedN rs := by
  have h := usedN_app (rs.take m) (rs.drop m)
  rw [List.take_append_drop] at h
  omega
theorem valid_take {rs : List Rec} (hv : validB rs = true) (m : Nat) : validB (rs.take m) = true := by
  obtain ⟨h1, h2⟩ := validB_iff.1 hv
  refine validB_iff.2 ⟨fun j hj => ?_, Nat.le_trans (usedN_cut rs m) h2⟩
  rw [List.length_take] at hj
  rw [okAt_take (by omega)]
  exact h1 j (by omega)
theorem put_keeps {rs : List Rec} {x : Rec} (he : putE rs x = 0) : putR rs x = putN rs x ∧ validB (putN rs x) = true ∧ ∃ m, (putN rs x).length = m + 1 ∧ findN (putN rs x) x.r = some m ∧ (putN rs x)[m]? = some x ∧ ∀ j y, j ≠ m → (putN rs x)[j]? = some y → rs[j]? = some y := by
  have hR : putR rs x = putN rs x := by unfold putR; rw [if_pos he]
  unfold putE at he
  split at he
  · rename_i h
    rw [Bool.and_eq_true] at h
    split at he
    · cases he
    · rename_i hu
      obtain ⟨h1, _⟩ := validB_iff.1 h.1
      obtain ⟨m, hm, e⟩ := lower_pw (r := x.r) (asc_pw h1)
      have hlo : ∀ y ∈ lower x.r rs, y.r < x.r := fun y hy => by simpa [lower] using (List.mem_filter.1 hy).2
      have hll : (lower x.r rs).length = m := by rw [e, List.length_take]; omega
      refine ⟨hR, ?_, m, by simp [putN, hll], ?_, ?_, fun j y hj hy => ?_⟩
      · unfold putN at hu ⊢
        rw [fits_eq, h.2]
        have hv : validB (lower x.r rs) = true := by rw [e]; exact valid_take h.1 m
        rw [hv]
        rw [usedN_app] at hu
        have hc : usedN [x] = x.cost := by simp [usedN]
        cases hg : (lower x.r rs).getLast? with
        | none => simp; omega
        | some y =>
          have := hlo y (List.mem_of_getLast? hg)
          simp; omega
      · unfold putN findN
        rw [List.findIdx?_append]
        have hn : (lower x.r rs).findIdx? (fun y => decide (y.r = x.r)) = none := by
          rw [List.findIdx?_eq_none_iff]
          intro y hy
          have := hlo y hy
          simp; omega
        rw [hn]
        simp [hll]
      · unfold putN
        rw [List.getElem?_append_right (by omega), hll, Nat.sub_self]; rfl
      · unfold putN at hy
        have hl := (List.getElem?_eq_some_iff.1 hy).1
        rw [List.length_append, hll] at hl
        have hjm : j < m := by simp at hl; omega
        rw [List.getElem?_append_left (by omega), e, List.getElem?_take, if_pos hjm] at hy
        exact hy
  · cases he
/-- The shape of a record: all that validity looks at. -/
def Rec.sh (x : Rec) : Int × Nat × Nat := (x.r, x.key.length, x.data.length)
theorem okAt_like {a b : List Rec} (h : a.map Rec.sh = b.map Rec.sh) (j : Nat) : okAt a j = okAt b j := by
  have hg : ∀ k : Nat, (a[k]?).map Rec.sh = (b[k]?).map Rec.sh := fun k => by rw [← List.getElem?_map, h, List.getElem?_map]
  unfold okAt
  have h1 := hg j
  cases ha : a[j]? with
  | none =>
    rw [ha] at h1
    cases hb : b[j]? with
    | none => rfl
    | some y => rw [hb] at h1; cases h1
  | some x =>
    rw [ha] at h1
    cases hb : b[j]? with
    | none => rw [hb] at h1; cases h1
    | some y =>
      rw [hb] at h1
      simp only [Option.map_some, Option.some.injEq, Rec.sh, Prod.mk.injEq] at h1
      obtain ⟨e1, e2, e3⟩ := h1
      have ev : x.valid = y.valid := by unfold Rec.valid; rw [e1, e2]
      dsimp only
      rw [ev]
      cases j with
      | zero => rfl
      | succ i =>
        have h2 := hg i
        dsimp only
        cases ha' : a[i]? with
        | none =>
          rw [ha'] at h2
          cases hb' : b[i]? with
          | none => rfl
          | some y => rw [hb'] at h2; cases h2
        | some x' =>
          rw [ha'] at h2
          cases hb' : b[i]? with
          | none => rw [hb'] at h2; cases h2
          | some y' =>
            rw [hb'] at h2
            simp only [Option.map_some, Option.some.injEq, Rec.sh, Prod.mk.injEq] at h2
            dsimp only
            rw [e1, h2.1]
theorem valid_like {a b : List Rec} (h : a.map Rec.sh = b.map Rec.sh) : validB a = validB b := by
  have hl : a.length = b.length := by simpa using congrArg List.length h
  have hu : usedN a = usedN b := by
    have e : ∀ l : List Rec, l.map Rec.cost = (l.map Rec.sh).map fun q => costN q.2.1 q.2.2 := fun l => by rw [List.map_map]; rfl
    unfold usedN
    rw [e, e, h]
  unfold validB ordB
  rw [hl, hu, show okAt a = okAt b from funext (okAt_like h)]
theorem find_like {a b : List Rec} (h : a.map Rec.sh = b.map Rec.sh) (n : Int) : findN a n = findN b n := by
  have e : ∀ l : List Rec, findN l n = (l.map Rec.sh).findIdx? fun q => decide (q.1 = n) := fun l => by unfold findN; rw [List.findIdx?_map]; rfl
  rw [e, e, h]
theorem rep_keeps {rs : List Rec} {x : Rec} (he : repE rs x = 0) : ∃ m, validB (repR rs x) = true ∧ (repR rs x).length = rs.length ∧ findN (repR rs x) x.r = some m ∧ (repR rs x)[m]? = some x ∧ ∀ j y, j ≠ m → (repR rs x)[j]? = some y → rs[j]? = some y := by
  have hR : repR rs x = rs.set ((findN rs x.r).getD 0) x := by unfold repR; rw [if_pos he]
  unfold repE at he
  split at he
  · rename_i hv
    split at he
    · cases he
    · rename_i i hi
      split at he
      · cases he
      · rename_i y hy
        split at he
        · rename_i hs
          have hl := (List.getElem?_eq_some_iff.1 hy).1
          have hyr : y.r = x.r := by
            have h := hi
            unfold findN at h
            obtain ⟨_, h2, _⟩ := List.findIdx?_eq_some_iff_getElem.1 h
            have h3 := (List.getElem?_eq_some_iff.1 hy).2
            rw [h3] at h2
            simpa using h2
          rw [hi] at hR
          simp only [Option.getD_some] at hR
          have hsh : (rs.set i x).map Rec.sh = rs.map Rec.sh := by
            rw [List.map_set]
            refine List.ext_getElem? fun j => ?_
            rw [List.getElem?_set]
            split
            · rename_i hij; subst hij
              rw [if_pos (by simpa using hl), List.getElem?_map, hy]
              simp only [Option.map_some, Rec.sh, hyr, hs.1, hs.2]
            · rfl
          rw [hR]
          refine ⟨i, by rw [valid_like hsh]; exact hv, List.length_set .., by rw [find_like hsh]; exact hi, by rw [List.getElem?_set, if_pos rfl, if_pos hl], fun j z hj hz => ?_⟩
          rw [List.getElem?_set, if_neg (Ne.symm hj)] at hz
          exact hz
        · cases he
  · cases he
end Go.Proofs.Ytelfihgkbbaifaa
