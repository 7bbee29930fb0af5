/- Copy of the reference; lists whose records lie anywhere; the plain laws of Fits. -/
import Derived.Test.YtmkndbledppniaaGreatOne
namespace Go.Proofs.YtmkndbledppniaaGreat
open Go.RowKit

/-- The key and the data of a record can be read. -/
def RecV (w : World) (p : RV) : Prop := ∃ Ak ck Ad cd, p.1 = (.slice Ak p.2.key.length ck, .slice Ad p.2.data.length cd) ∧ CardAt w Ak p.2.key ck ∧ CardAt w Ad p.2.data cd
theorem RecV.grow {w w' : World} {p : RV} (h : RecV w p) (hb : Below w.heap.size w w') : RecV w' p := by
  obtain ⟨Ak, ck, Ad, cd, e, h1, h2⟩ := h
  exact ⟨Ak, ck, Ad, cd, e, h1.grow hb, h2.grow hb⟩
section
variable {W w : World} {F : List SA}
/-- An owned list of records reads as its records, wherever their keys and data lie. -/
theorem recs_at' {A : Option Addr} {n c : Nat} {ps : List RV} (S : SL W (rowS 62 4 (.slice A n c) n (ps.flatMap recCells) :: F) w) (hv : ∀ p ∈ ps, RecV w p) : RecsAt w A (ps.map Prod.snd) := fun i x hx => by
  rw [List.getElem?_map] at hx
  cases hp : ps[i]? with
  | none => rw [hp] at hx; cases hx
  | some p =>
    rw [hp] at hx; injection hx with hx; subst hx
    have hc := fun k (hk : k < 4) => recCells_get ps i k p hp hk
    obtain ⟨g, hA, _, c0⟩ := S.cellAt (j := i * 4 + 0) (u := .int .i64 p.2.r) (by rw [hc 0 (by omega)]; rfl)
    obtain ⟨g1, hA1, _, c1⟩ := S.cellAt (j := i * 4 + 1) (u := p.1.1) (by rw [hc 1 (by omega)]; rfl)
    obtain ⟨g2, hA2, _, c2⟩ := S.cellAt (j := i * 4 + 2) (u := p.1.2) (by rw [hc 2 (by omega)]; rfl)
    obtain ⟨g3, hA3, _, c3⟩ := S.cellAt (j := i * 4 + 3) (u := .bool p.2.bad) (by rw [hc 3 (by omega)]; rfl)
    rw [hA] at hA1 hA2 hA3
    injection hA1 with hA1; injection hA1 with hA1; subst hA1
    injection hA2 with hA2; injection hA2 with hA2; subst hA2
    injection hA3 with hA3; injection hA3 with hA3; subst hA3
    obtain ⟨Ak, ck, Ad, cd, e, h1, h2⟩ := hv p (List.mem_iff_getElem?.2 ⟨i, hp⟩)
    rw [e] at c1 c2
    have e0 : ∀ k, (0 : Nat) + i * 4 + k = i * 4 + k := fun k => by omega
    exact ⟨g, 0, Ak, ck, Ad, cd, hA, by rw [show (0 : Nat) + i * 4 = i * 4 + 0 by omega]; exact c0, by rw [e0]; exact c1, by rw [e0]; exact c2, by rw [e0]; exact c3, h1, h2⟩
theorem recO_v {ps : List RV} (S : SL W (star (ps.map recO) :: F) w) : ∀ p ∈ ps, RecV w p := fun p hp => by
  obtain ⟨i, hi⟩ := List.mem_iff_getElem?.1 hp
  have ho := SL.take S (i := i) (P := recO p) (by rw [List.getElem?_map, hi]; rfl)
  have S2 := ho.spill
  simp only [List.cons_append, List.nil_append] at S2
  obtain ⟨Ak, ck, e1, _, _⟩ := own_slice S2.own
  obtain ⟨Ad, cd, e2, _, _⟩ := own_slice S2.s1.own
  have S3 := S2
  rw [e1] at S3
  have S4 := S2.s1
  rw [e2] at S4
  exact ⟨Ak, ck, Ad, cd, Prod.ext e1 e2, rowS_card S3, rowS_card S4⟩
/-- A record in new memory goes behind the list. -/
theorem recO_snoc {v vk vd : Value} {x : Rec} {n : Nat} {xs : List Value} {ps : List RV} (S : SL W (rowS 62 4 v n xs :: rowS 5 1 vk x.key.length (Lib.byteCells x.key) :: rowS 5 1 vd x.data.length (Lib.byteCells x.data) :: star (ps.map recO) :: F) w) :
    SL W (rowS 62 4 v n xs :: star ((ps ++ [((vk, vd), x)]).map recO) :: F) w := by
  have h := SL.app (L := [rowS 5 1 vk x.key.length (Lib.byteCells x.key), rowS 5 1 vd x.data.length (Lib.byteCells x.data)]) S.b3
  have h2 := SL.snoc (P := recO ((vk, vd), x)) h
  simp only [List.map_append, List.map_cons, List.map_nil]
  exact h2.s1
theorem flat_snoc (ps : List RV) (p : RV) : (ps ++ [p]).flatMap recCells = ps.flatMap recCells ++ recCells p := by simp
set_option maxHeartbeats 4000000 in
theorem rcopy_any (A : Option Addr) (rs : List Rec) (c : Nat) (S : SL W F w) (hr : RecsRd W F A rs) (hf : Fit rs) :
    Calls Tryz.prog 43 #[.slice A rs.length c] w fun e w' => ∃ A' c', e = .returned (.slice A' rs.length c') ∧ SL W (recsS (.slice A' rs.length c') rs :: F) w' := by
  have HR := Lib.hid hr
  have HF := Lib.hid hf
  have HS := Lib.hid S
  have hfl := hf.1
  clear S hr hf
  go_enter Tryz.func43, Tryz.ntmps43
  go_wp2
  go_loopw [3, 4] (fun o i wr => ∃ (k : Nat) (A3 : Option Addr) (c3 : Nat) (ps : List RV), k ≤ rs.length ∧ i = .int .i64 k ∧ o = .slice A3 k c3 ∧ ps.length = k ∧ ps.map Prod.snd = rs.take k ∧
    SL W (rowS 62 4 (.slice A3 k c3) k (ps.flatMap recCells) :: star (ps.map recO) :: F) wr) (fun _ i _ => rs.length - (intOf i).toNat)
  case atStart => exact ⟨0, none, 0, [], Nat.zero_le _, rfl, rfl, rfl, rfl, HS.out.empty.nil _ _⟩
  case round =>
    obtain ⟨k, A3, c3, ps, hk, rfl, rfl, hp1, hp2, S1⟩ := hrel
    have H1 := Lib.hid S1
    have HP := Lib.hid (And.intro hp1 hp2)
    clear S1 HS hp1 hp2
    by_cases hlt : k < rs.length
    · have hb : rs[k]? = some rs[k] := by simp [hlt]
      have hbl := HF.out.2 rs[k] (List.getElem_mem hlt)
      generalize rs[k] = x at hb hbl
      obtain ⟨g, off, Ak, ck, Ad, cd, hA, k0, k1, k2, k3, a1, a2⟩ := HR.out wr H1.out.drop.drop k x hb
      subst hA
      have HB := Lib.hid hb
      have HA := Lib.hid (And.intro a1 a2)
      clear hb a1 a2
      go_wp2_with fail
      refine (one_any x Ak Ad ck cd H1.out HA.out.1 HA.out.2 hbl).mono ?_
      rintro e w2 ⟨vk, vd, rfl, S2⟩
      have H2 := Lib.hid S2
      clear S2 H1 k0 k1 k2 k3 HA
      go_wp2_with (at_builtin; refine wpList_pushS rfl _ _ _ rfl recElem w2 [.int .i64 x.r, vk, vd, .bool x.bad] 1 rfl rfl (by
                     obtain ⟨_, _, e1, _, _⟩ := own_slice H2.out.own
                     obtain ⟨_, _, e2, _, _⟩ := own_slice H2.out.s1.own
                     rw [e1, e2]
                     simp [Value.oneCell']) _ k _ rfl rfl H2.out.s2 (by unfold maxLen; omega) (by omega) ?_
                   intro A6 c6 w6 S6
                   have H6 := Lib.hid S6
                   clear S6 H2)
      go_roundw
      case rel =>
        refine ⟨k + 1, A6, c6, ps ++ [((vk, vd), x)], by omega, by go_num, rfl, by simp [HP.out.1], by rw [List.take_add_one, HB.out]; simp [HP.out.2], ?_⟩
        rw [flat_snoc]
        exact recO_snoc H6.out
      case measure => simp [intOf]; omega
    · obtain rfl : k = rs.length := by omega
      go_wp2
      go_ret
      exact ⟨_, _, rfl, recsS_close' HP.out.1 (by rw [HP.out.2]; simp) H1.out⟩
end
theorem okAt_app {rs : List Rec} {x : Rec} {j : Nat} (hj : j < rs.length) : okAt (rs ++ [x]) j = okAt rs j := by
  unfold okAt
  rw [List.getElem?_append_left hj]
  cases rs[j]? with
  | none => rfl
  | some y =>
    cases j with
    | zero => rfl
    | succ i => simp only; rw [List.getElem?_append_left (by omega)]
theorem okAt_end {rs : List Rec} {x : Rec} : okAt (rs ++ [x]) rs.length = (x.valid && (match rs.getLast? with | none => true | some y => decide (y.r < x.r))) := by
  have hx : (rs ++ [x])[rs.length]? = some x := by simp
  rcases Nat.eq_zero_or_pos rs.length with h | h
  · obtain rfl := List.eq_nil_of_length_eq_zero h
    simp [okAt]
  · obtain ⟨j, hj⟩ : ∃ j, rs.length = j + 1 := ⟨rs.length - 1, by omega⟩
    have hjl : rs[j]? = some rs[j] := by simp
    have hy : (rs ++ [x])[j]? = some rs[j] := by rw [List.getElem?_append_left (by omega)]; exact hjl
    have hlast : rs.getLast? = some rs[j] := by
      rw [List.getLast?_eq_getElem?]
      have : rs.length - 1 = j := by omega
      rw [this]; exact hjl
    generalize rs[j] = y at *
    rw [hlast]
    rw [hj] at hx ⊢
    rw [okAt_succ hx hy]
theorem validB_iff {rs : List Rec} : validB rs = true ↔ (∀ j, j < rs.length → okAt rs j = true) ∧ usedN rs ≤ 2048 := by
  unfold validB ordB
  rw [Bool.and_eq_true, List.all_eq_true, decide_eq_true_iff]
  constructor
  · rintro ⟨h1, h2⟩; exact ⟨fun j hj => h1 j (List.mem_range.2 hj), h2⟩
  · rintro ⟨h1, h2⟩; exact ⟨fun j hj => h1 j (List.mem_range.1 hj), h2⟩
theorem fits_eq (rs : List Rec) (x : Rec) : validB (rs ++ [x]) = (validB rs && x.valid && (match rs.getLast? with | none => true | some y => decide (y.r < x.r)) && decide (usedN rs + x.cost ≤ 2048)) := by
  have hu : usedN (rs ++ [x]) = usedN rs + x.cost := by rw [usedN_app]; simp [usedN]
  rw [Bool.eq_iff_iff]
  simp only [Bool.and_eq_true, validB_iff, decide_eq_true_iff, hu]
  have he := okAt_end (rs := rs) (x := x)
  constructor
  · rintro ⟨h1, h2⟩
    have hl := h1 rs.length (by simp)
    rw [he, Bool.and_eq_true] at hl
    exact ⟨⟨⟨⟨fun j hj => by rw [← okAt_app (x := x) hj]; exact h1 j (by simp; omega), by omega⟩, hl.1⟩, hl.2⟩, h2⟩
  · rintro ⟨⟨⟨⟨h1, _⟩, h3⟩, h4⟩, h5⟩
    refine ⟨fun j hj => ?_, h5⟩
    rw [List.length_append, List.length_singleton] at hj
    rcases Nat.lt_succ_iff_lt_or_eq.1 hj with h | rfl
    · rw [okAt_app h]; exact h1 j h
    · rw [he, Bool.and_eq_true]; exact ⟨h3, h4⟩
end Go.Proofs.YtmkndbledppniaaGreat
