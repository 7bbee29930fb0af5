/- Bytes and the number of a record of an owned list are changed in place. -/
import Derived.Test.YtelfihgkbbaifaaCodes
namespace Go.Proofs.Ytelfihgkbbaifaa
open Go.RowKit
theorem flat_same : ∀ (ps : List RV) (i : Nat) (p p' : RV), ps[i]? = some p → recCells p' = recCells p → (ps.set i p').flatMap recCells = ps.flatMap recCells
  | [], i, p, p', h, _ => by simp at h
  | q :: ps, 0, p, p', h, e => by simp at h; subst h; simp [e]
  | q :: ps, i + 1, p, p', h, e => by simp only [List.set_cons_succ, List.flatMap_cons]; rw [flat_same ps i p p' (by simpa using h) e]
theorem cell_one {ps : List RV} {i n r0 : Nat} {p p' : RV} {v : Value} {cur : Array Value} (hp : ps[i]? = some p) (hn : ps.length = n) (hi : i < n) (hs : n * 4 ≤ cur.size) (h : cur.toList.take (n * 4) = ps.flatMap recCells) (h0 : r0 < 4) (e : recCells p' = (recCells p).set r0 v) :
    (cur.setIfInBounds (i * 4 + r0) v).toList.take (n * 4) = (ps.set i p').flatMap recCells := by
  have hlen : ∀ l : List RV, (l.flatMap recCells).length = l.length * 4 := fun l => by
    induction l with
    | nil => rfl
    | cons a l ih => simp only [List.flatMap_cons, List.length_append, ih, List.length_cons, recCells]; simp; omega
  refine List.ext_getElem? fun j => ?_
  by_cases hj : j < n * 4
  · obtain ⟨k, r, hr, rfl⟩ : ∃ k r, r < 4 ∧ j = k * 4 + r := ⟨j / 4, j % 4, Nat.mod_lt _ (by omega), by omega⟩
    have hq : k < n := by omega
    have hold : cur[k * 4 + r]? = (recCells (ps[k]'(by omega)))[r]? := by
      have h2 := congrArg (fun l => l[k * 4 + r]?) h
      simp only [List.getElem?_take, if_pos hj, Array.getElem?_toList] at h2
      rw [h2, recCells_get ps k r ps[k] (by simp) hr]
    rw [List.getElem?_take, if_pos hj]
    simp only [Array.getElem?_toList, Array.getElem?_setIfInBounds]
    by_cases ek : i = k
    · subst ek
      have hpe : ps[i] = p := by rw [List.getElem?_eq_getElem (by omega)] at hp; injection hp
      have hnew : (ps.set i p')[i]? = some p' := by rw [List.getElem?_set, if_pos rfl, if_pos (by omega)]
      rw [recCells_get _ i r _ hnew hr, e, List.getElem?_set]
      rw [hpe] at hold
      by_cases er : r0 = r
      · subst er
        rw [if_pos rfl, if_pos (by omega), if_pos rfl, if_pos (by simp [recCells]; omega)]
      · rw [if_neg (by omega), if_neg er]
        exact hold
    · have hnew : (ps.set i p')[k]? = some (ps[k]'(by omega)) := by
        rw [List.getElem?_set, if_neg ek, List.getElem?_eq_getElem]
      rw [recCells_get _ k r _ hnew hr, if_neg (by omega)]
      exact hold
  · rw [List.getElem?_eq_none (by rw [List.length_take]; omega), List.getElem?_eq_none (by rw [hlen, List.length_set]; omega)]
section
variable {W w : World} {F : List SA}
/-- 'rs[i].R = z' -/
theorem recs_num {A : Option Addr} {n c i : Nat} {rs : List Rec} {x : Rec} (hx : rs[i]? = some x) (S : SL W (recsS (.slice A n c) rs :: F) w) : ∃ g, A = some ⟨g, 0, none⟩ ∧ w.cell? ⟨g, i * 4 + 0, none⟩ = some (.int .i64 x.r) ∧ w.frozen? ⟨g, i * 4 + 0, none⟩ = false ∧
    ∀ z, SL W (recsS (.slice A n c) (rs.set i ⟨z, x.key, x.data, x.bad⟩) :: F) (w.setCell ⟨g, i * 4 + 0, none⟩ (.int .i64 z)) := by
  obtain ⟨ps, rfl, S1⟩ := recsS_open S
  obtain ⟨A', c', e, _, _⟩ := own_slice S1.own
  injection e with e1 e2 e3
  subst e1; subst e2; subst e3
  rw [List.getElem?_map] at hx
  cases hp : ps[i]? with
  | none => rw [hp] at hx; cases hx
  | some p =>
    rw [hp] at hx; injection hx with hx; subst hx
    have hi : i < ps.length := (List.getElem?_eq_some_iff.1 hp).1
    obtain ⟨y, cap, cur, hv, h1, h2, h3, h4, S2⟩ := S1.rowCel (by omega)
    injection hv with ha _ hc
    subst ha; subst hc
    obtain ⟨L, K, z⟩ := S2.look
    refine ⟨y, rfl, ?_, K _, fun q => ?_⟩
    · rw [L]
      have h5 := congrArg (fun l => l[i * 4 + 0]?) h4
      simp only [List.getElem?_take, if_pos (show i * 4 + 0 < ps.length * 4 by omega), Array.getElem?_toList] at h5
      rw [h5, recCells_get ps i 0 p hp (by omega)]; rfl
    · have S3 := SL.head (S2.set (off := i * 4 + 0) (v := .int .i64 q) rfl) (rowS_pts (n := ps.length) (size := 4) h1 h2 (by simp [h3]) (cell_one (p' := (p.1, (⟨q, p.2.key, p.2.data, p.2.bad⟩ : Rec))) hp rfl hi (by rw [h3]; exact Nat.mul_le_mul_right _ h1) h4 (by omega) rfl))
      refine recsS_close' (n := ps.length) (ps := ps.set i (p.1, ⟨q, p.2.key, p.2.data, p.2.bad⟩)) (by simp) (by rw [List.map_set]) ?_
      have hst : (ps.set i (p.1, (⟨q, p.2.key, p.2.data, p.2.bad⟩ : Rec))).map recO = ps.map recO := by
        rw [List.map_set]
        have e : recO (p.1, (⟨q, p.2.key, p.2.data, p.2.bad⟩ : Rec)) = recO p := rfl
        rw [e]
        refine List.ext_getElem? fun j => ?_
        rw [List.getElem?_set]
        split
        · rename_i hij; subst hij
          rw [List.getElem?_map, hp]
          simp [hi]
        · rfl
      rw [hst]
      exact S3
/-- 'rs[i].Key[j] = y' -/
theorem recs_key {A : Option Addr} {n c i j : Nat} {rs : List Rec} {x : Rec} (hx : rs[i]? = some x) (hj : j < x.key.length) (S : SL W (recsS (.slice A n c) rs :: F) w) :
    ∃ g kb kc, A = some ⟨g, 0, none⟩ ∧ w.cell? ⟨g, i * 4 + 1, none⟩ = some (.slice (some ⟨kb, 0, none⟩) x.key.length kc) ∧ w.cell? ⟨kb, j, none⟩ = some (.int .u8 ((x.key[j]).toNat : Int)) ∧ w.frozen? ⟨kb, j, none⟩ = false ∧
      ∀ y : UInt8, SL W (recsS (.slice A n c) (rs.set i ⟨x.r, x.key.set j y, x.data, x.bad⟩) :: F) (w.setCell ⟨kb, j, none⟩ (.int .u8 (y.toNat : Int))) := by
  obtain ⟨ps, rfl, S1⟩ := recsS_open S
  obtain ⟨A', c', e, _, _⟩ := own_slice S1.own
  injection e with e1 e2 e3
  subst e1; subst e2; subst e3
  rw [List.getElem?_map] at hx
  cases hp : ps[i]? with
  | none => rw [hp] at hx; cases hx
  | some p =>
    rw [hp] at hx; injection hx with hx; subst hx
    have hi : i < ps.length := (List.getElem?_eq_some_iff.1 hp).1
    obtain ⟨g, hA, _, c1⟩ := S1.cellAt (j := i * 4 + 1) (u := p.1.1) (by rw [recCells_get ps i 1 p hp (by omega)]; rfl)
    subst hA
    have S2 := (SL.take S1.s1 (i := i) (P := recO p) (by rw [List.getElem?_map, hp]; rfl)).spill
    simp only [List.cons_append, List.nil_append] at S2
    obtain ⟨kb, cap, cur, hv, h1, h2, h3, h4, S3⟩ := S2.rowCel (by omega)
    rw [Nat.mul_one] at h3 h4
    obtain ⟨L, K, z⟩ := S3.look
    refine ⟨g, kb, cap, rfl, by rw [c1, hv], ?_, K _, fun y => ?_⟩
    · rw [L]
      have h5 := byteCells_get p.2.key j hj
      rw [← h4, List.getElem?_take, if_pos hj, Array.getElem?_toList] at h5
      exact h5
    · have S4 := (S3.set (off := j) (v := .int .u8 (y.toNat : Int)) rfl).head (rowS_pts (e := 5) (size := 1) (n := p.2.key.length) (xs := Lib.byteCells (p.2.key.set j y)) h1 h2 (by simp [h3]) (by
        rw [Nat.mul_one, Array.toList_setIfInBounds, List.take_set, h4, byteCells_set]))
      have S5 : SL W (recO ((.slice (some ⟨kb, 0, none⟩) p.2.key.length cap, p.1.2), (⟨p.2.r, p.2.key.set j y, p.2.data, p.2.bad⟩ : Rec)) :: star ((ps.map recO).eraseIdx i) :: rowS 25 4 (.slice (some ⟨g, 0, none⟩) ps.length c) ps.length (ps.flatMap recCells) :: F) (w.setCell ⟨kb, j, none⟩ (.int .u8 (y.toNat : Int))) := by
        unfold recO
        dsimp only
        rw [List.length_set]
        exact SL.app (L := [_, _]) S4
      have S6 := SL.put S5 (by simpa using hi)
      have e2 : (ps.map recO).set i (recO ((.slice (some ⟨kb, 0, none⟩) p.2.key.length cap, p.1.2), (⟨p.2.r, p.2.key.set j y, p.2.data, p.2.bad⟩ : Rec))) = (ps.set i ((.slice (some ⟨kb, 0, none⟩) p.2.key.length cap, p.1.2), (⟨p.2.r, p.2.key.set j y, p.2.data, p.2.bad⟩ : Rec))).map recO := by rw [List.map_set]
      rw [e2] at S6
      have S7 := S6.s1
      rw [← flat_same ps i p ((.slice (some ⟨kb, 0, none⟩) p.2.key.length cap, p.1.2), (⟨p.2.r, p.2.key.set j y, p.2.data, p.2.bad⟩ : Rec)) hp (by simp only [recCells, hv])] at S7
      exact recsS_close' (by simp) (by rw [List.map_set]) S7
/-- 'rs[i].Data[j] = y' -/
theorem recs_data {A : Option Addr} {n c i j : Nat} {rs : List Rec} {x : Rec} (hx : rs[i]? = some x) (hj : j < x.data.length) (S : SL W (recsS (.slice A n c) rs :: F) w) :
    ∃ g kb kc, A = some ⟨g, 0, none⟩ ∧ w.cell? ⟨g, i * 4 + 2, none⟩ = some (.slice (some ⟨kb, 0, none⟩) x.data.length kc) ∧ w.cell? ⟨kb, j, none⟩ = some (.int .u8 ((x.data[j]).toNat : Int)) ∧ w.frozen? ⟨kb, j, none⟩ = false ∧
      ∀ y : UInt8, SL W (recsS (.slice A n c) (rs.set i ⟨x.r, x.key, x.data.set j y, x.bad⟩) :: F) (w.setCell ⟨kb, j, none⟩ (.int .u8 (y.toNat : Int))) := by
  obtain ⟨ps, rfl, S1⟩ := recsS_open S
  obtain ⟨A', c', e, _, _⟩ := own_slice S1.own
  injection e with e1 e2 e3
  subst e1; subst e2; subst e3
  rw [List.getElem?_map] at hx
  cases hp : ps[i]? with
  | none => rw [hp] at hx; cases hx
  | some p =>
    rw [hp] at hx; injection hx with hx; subst hx
    have hi : i < ps.length := (List.getElem?_eq_some_iff.1 hp).1
    obtain ⟨g, hA, _, c1⟩ := S1.cellAt (j := i * 4 + 2) (u := p.1.2) (by rw [recCells_get ps i 2 p hp (by omega)]; rfl)
    subst hA
    have S2 := (SL.take S1.s1 (i := i) (P := recO p) (by rw [List.getElem?_map, hp]; rfl)).spill
    simp only [List.cons_append, List.nil_append] at S2
    obtain ⟨kb, cap, cur, hv, h1, h2, h3, h4, S3⟩ := S2.s1.rowCel (by omega)
    rw [Nat.mul_one] at h3 h4
    obtain ⟨L, K, z⟩ := S3.look
    refine ⟨g, kb, cap, rfl, by rw [c1, hv], ?_, K _, fun y => ?_⟩
    · rw [L]
      have h5 := byteCells_get p.2.data j hj
      rw [← h4, List.getElem?_take, if_pos hj, Array.getElem?_toList] at h5
      exact h5
    · have S4 := ((S3.set (off := j) (v := .int .u8 (y.toNat : Int)) rfl).head (rowS_pts (e := 5) (size := 1) (n := p.2.data.length) (xs := Lib.byteCells (p.2.data.set j y)) h1 h2 (by simp [h3]) (by
        rw [Nat.mul_one, Array.toList_setIfInBounds, List.take_set, h4, byteCells_set]))).s1
      have S5 : SL W (recO ((p.1.1, .slice (some ⟨kb, 0, none⟩) p.2.data.length cap), (⟨p.2.r, p.2.key, p.2.data.set j y, p.2.bad⟩ : Rec)) :: star ((ps.map recO).eraseIdx i) :: rowS 25 4 (.slice (some ⟨g, 0, none⟩) ps.length c) ps.length (ps.flatMap recCells) :: F) (w.setCell ⟨kb, j, none⟩ (.int .u8 (y.toNat : Int))) := by
        unfold recO
        dsimp only
        rw [List.length_set]
        exact SL.app (L := [_, _]) S4
      have S6 := SL.put S5 (by simpa using hi)
      have e2 : (ps.map recO).set i (recO ((p.1.1, .slice (some ⟨kb, 0, none⟩) p.2.data.length cap), (⟨p.2.r, p.2.key, p.2.data.set j y, p.2.bad⟩ : Rec))) = (ps.set i ((p.1.1, .slice (some ⟨kb, 0, none⟩) p.2.data.length cap), (⟨p.2.r, p.2.key, p.2.data.set j y, p.2.bad⟩ : Rec))).map recO := by rw [List.map_set]
      rw [e2] at S6
      have S7 := S6.s1
      rw [← flat_same ps i p ((p.1.1, .slice (some ⟨kb, 0, none⟩) p.2.data.length cap), (⟨p.2.r, p.2.key, p.2.data.set j y, p.2.bad⟩ : Rec)) hp (by simp only [recCells, hv])] at S7
      exact recsS_close' (by simp) (by rw [List.map_set]) S7
end
end Go.Proofs.Ytelfihgkbbaifaa
