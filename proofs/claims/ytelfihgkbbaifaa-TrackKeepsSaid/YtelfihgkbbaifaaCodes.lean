/- codes and reads of the law; a record of an owned list loses its mark. -/
import Derived.Test.YtelfihgkbbaifaaWTells
namespace Go.Proofs.Ytelfihgkbbaifaa
open Go.RowKit
def nb (x : Rec) : Rec := ⟨x.r, x.key, x.data, false⟩
theorem okAt_nb (t : List Rec) (j : Nat) : okAt (t.map nb) j = okAt t j := by
  unfold okAt
  rw [List.getElem?_map]
  cases t[j]? with
  | none => rfl
  | some x =>
    cases j with
    | zero => rfl
    | succ i =>
      simp only [Option.map_some, List.getElem?_map]
      cases t[i]? <;> rfl
theorem used_nb (t : List Rec) : usedN (t.map nb) = usedN t := by
  unfold usedN
  rw [List.map_map]; rfl
theorem valid_nb (t : List Rec) : validB (t.map nb) = validB t := by
  unfold validB ordB
  rw [List.length_map, used_nb, show okAt (t.map nb) = okAt t from funext (okAt_nb t)]
theorem any_nb (t : List Rec) : (t.map nb).any Rec.bad = false := List.any_eq_false.2 fun x hx => by
  obtain ⟨y, _, rfl⟩ := List.mem_map.1 hx
  simp [nb]
theorem enc_nb {t : List Rec} {c h : Nat} (hv : validB t = true) (hc : c ≤ 65535) (hh : h ≤ 65535) : encE c h (t.map nb) = 0 ∧ encB c h (t.map nb) = encL c h (t.map nb) ++ ff8 := by
  have e : encE c h (t.map nb) = 0 := by
    unfold encE
    rw [if_pos ⟨by omega, by omega, by omega, by omega⟩, valid_nb, hv, any_nb]; rfl
  exact ⟨e, by unfold encB; rw [e, if_pos rfl]; simp⟩
theorem cell_bad {ps : List RV} {i n : Nat} {p : RV} {cur : Array Value} (q : Bool) (hp : ps[i]? = some p) (hn : ps.length = n) (hi : i < n) (hs : n * 4 ≤ cur.size) (h : cur.toList.take (n * 4) = ps.flatMap recCells) :
    (cur.setIfInBounds (i * 4 + 3) (.bool q)).toList.take (n * 4) = (ps.set i (p.1, ⟨p.2.r, p.2.key, p.2.data, q⟩)).flatMap recCells := by
  have hlen : ∀ l : List RV, (l.flatMap recCells).length = l.length * 4 := fun l => by
    induction l with
    | nil => rfl
    | cons a l ih => simp only [List.flatMap_cons, List.length_append, ih, List.length_cons, recCells]; simp; omega
  refine List.ext_getElem? fun j => ?_
  by_cases hj : j < n * 4
  · obtain ⟨k, r, hr, rfl⟩ : ∃ k r, r < 4 ∧ j = k * 4 + r := ⟨j / 4, j % 4, Nat.mod_lt _ (by omega), by omega⟩
    have hq : k < n := by omega
    have hold : cur[k * 4 + r]? = (recCells (ps[k]'(by omega)))[r]? := by
      have h2 := congrArg (fun l => l[k * 4 + r]?) h
      simp only [List.getElem?_take, if_pos hj, Array.getElem?_toList] at h2
      rw [h2, recCells_get ps k r ps[k] (by simp) hr]
    rw [List.getElem?_take, if_pos hj]
    simp only [Array.getElem?_toList, Array.getElem?_setIfInBounds]
    by_cases e : i = k
    · subst e
      have hpe : ps[i] = p := by rw [List.getElem?_eq_getElem (by omega)] at hp; injection hp
      have hnew : (ps.set i (p.1, ⟨p.2.r, p.2.key, p.2.data, q⟩))[i]? = some (p.1, ⟨p.2.r, p.2.key, p.2.data, q⟩) := by rw [List.getElem?_set, if_pos rfl, if_pos (by omega)]
      rw [recCells_get _ i r _ hnew hr]
      rw [hpe] at hold
      have h4 : r = 0 ∨ r = 1 ∨ r = 2 ∨ r = 3 := by omega
      rcases h4 with rfl | rfl | rfl | rfl
      · rw [if_neg (by omega), hold]; rfl
      · rw [if_neg (by omega), hold]; rfl
      · rw [if_neg (by omega), hold]; rfl
      · rw [if_pos (by omega), if_pos (by omega)]; rfl
    · have hnew : (ps.set i (p.1, ⟨p.2.r, p.2.key, p.2.data, q⟩))[k]? = some (ps[k]'(by omega)) := by
        rw [List.getElem?_set, if_neg e, List.getElem?_eq_getElem]
      rw [recCells_get _ k r _ hnew hr, if_neg (by omega)]
      exact hold
  · rw [List.getElem?_eq_none (by rw [List.length_take]; omega), List.getElem?_eq_none (by rw [hlen, List.length_set]; omega)]
section
variable {W w : World} {F : List SA}
/-- The mark of a record of an owned list. -/
theorem recs_bad {A : Option Addr} {n c i : Nat} {rs : List Rec} {x : Rec} (hx : rs[i]? = some x) (S : SL W (recsS (.slice A n c) rs :: F) w) : ∃ g, A = some ⟨g, 0, none⟩ ∧ w.cell? ⟨g, i * 4 + 3, none⟩ = some (.bool x.bad) ∧ w.frozen? ⟨g, i * 4 + 3, none⟩ = false ∧
    ∀ q, SL W (recsS (.slice A n c) (rs.set i ⟨x.r, x.key, x.data, q⟩) :: F) (w.setCell ⟨g, i * 4 + 3, none⟩ (.bool q)) := by
  obtain ⟨ps, rfl, S1⟩ := recsS_open S
  obtain ⟨A', c', e, _, _⟩ := own_slice S1.own
  injection e with e1 e2 e3
  subst e1; subst e2; subst e3
  rw [List.getElem?_map] at hx
  cases hp : ps[i]? with
  | none => rw [hp] at hx; cases hx
  | some p =>
    rw [hp] at hx; injection hx with hx; subst hx
    have hi : i < ps.length := (List.getElem?_eq_some_iff.1 hp).1
    obtain ⟨y, cap, cur, hv, h1, h2, h3, h4, S2⟩ := S1.rowCel (by omega)
    injection hv with ha _ hc
    subst ha; subst hc
    obtain ⟨L, K, z⟩ := S2.look
    refine ⟨y, rfl, ?_, K _, fun q => ?_⟩
    · rw [L]
      have h5 := congrArg (fun l => l[i * 4 + 3]?) h4
      simp only [List.getElem?_take, if_pos (show i * 4 + 3 < ps.length * 4 by omega), Array.getElem?_toList] at h5
      rw [h5, recCells_get ps i 3 p hp (by omega)]; rfl
    · have S3 := SL.head (S2.set (off := i * 4 + 3) (v := .bool q) rfl) (rowS_pts (n := ps.length) (size := 4) h1 h2 (by simp [h3]) (cell_bad q hp rfl hi (by rw [h3]; exact Nat.mul_le_mul_right _ h1) h4))
      refine recsS_close' (n := ps.length) (ps := ps.set i (p.1, ⟨p.2.r, p.2.key, p.2.data, q⟩)) (by simp) (by rw [List.map_set]) ?_
      have hst : (ps.set i (p.1, (⟨p.2.r, p.2.key, p.2.data, q⟩ : Rec))).map recO = ps.map recO := by
        rw [List.map_set]
        have e : recO (p.1, (⟨p.2.r, p.2.key, p.2.data, q⟩ : Rec)) = recO p := rfl
        rw [e]
        refine List.ext_getElem? fun j => ?_
        rw [List.getElem?_set]
        split
        · rename_i hij; subst hij
          rw [List.getElem?_map, hp]
          simp [hi]
        · rfl
      rw [hst]
      exact S3
/-- A cell of an owned row of bytes (or of any cells of size one). -/
theorem row_set {e : TypeId} {A : Option Addr} {n c j : Nat} {xs : List Value} (hj : j < n) (S : SL W (rowS e 1 (.slice A n c) n xs :: F) w) : ∃ g u, A = some ⟨g, 0, none⟩ ∧ xs[j]? = some u ∧ w.cell? ⟨g, j, none⟩ = some u ∧ w.frozen? ⟨g, j, none⟩ = false ∧ g < w.heap.size ∧
    ∀ v, SL W (rowS e 1 (.slice A n c) n (xs.set j v) :: F) (w.setCell ⟨g, j, none⟩ v) := by
  have hxl : xs.length = n := by have := S.own.1; omega
  obtain ⟨y, cap, cur, hv, h1, h2, h3, h4, S2⟩ := S.rowCel (by omega)
  injection hv with ha _ hc
  subst ha; subst hc
  obtain ⟨L, K, z⟩ := S2.look
  have hx : xs[j]? = some (xs[j]'(by omega)) := List.getElem?_eq_getElem (by omega)
  refine ⟨y, xs[j]'(by omega), rfl, hx, ?_, K _, z, fun v => ?_⟩
  · rw [L, ← hx, ← h4, List.getElem?_take, if_pos (by omega), Array.getElem?_toList]
  · refine SL.head (S2.set (off := j) (v := v) rfl) (rowS_pts (n := n) (size := 1) h1 h2 (by simp [h3]) ?_)
    rw [← h4]
    refine List.ext_getElem? fun i => ?_
    rw [List.getElem?_take, List.getElem?_set, Array.getElem?_toList, Array.getElem?_setIfInBounds, List.length_take, Array.length_toList, List.getElem?_take, Array.getElem?_toList]
    by_cases hi : i < n * 1
    · rw [if_pos hi, if_pos hi]
      by_cases e : j = i
      · rw [if_pos e, if_pos e, if_pos (by omega), if_pos (by omega)]
      · rw [if_neg e, if_neg e]
    · rw [if_neg hi, if_neg hi, if_neg (by omega)]
theorem byteCells_set (l : List UInt8) (j : Nat) (x : UInt8) : (Lib.byteCells l).set j (.int .u8 (x.toNat : Int)) = Lib.byteCells (l.set j x) := by
  simp [Lib.byteCells, List.map_set]
theorem nb_step {t : List Rec} {k : Nat} {x : Rec} (hx : t[k]? = some x) : ((t.take k).map nb ++ t.drop k)[k]? = some x ∧ ((t.take k).map nb ++ t.drop k).set k (nb x) = (t.take (k + 1)).map nb ++ t.drop (k + 1) := by
  have hk := (List.getElem?_eq_some_iff.1 hx).1
  have hl : ((t.take k).map nb).length = k := by rw [List.length_map, List.length_take]; omega
  constructor
  · rw [List.getElem?_append_right (by omega), hl, Nat.sub_self, List.getElem?_drop, Nat.add_zero]; exact hx
  · rw [List.set_append_right _ _ (by omega), hl, Nat.sub_self, List.take_add_one, hx]
    have e : t.drop k = x :: t.drop (k + 1) := by
      rw [List.drop_eq_getElem_cons hk]
      have : t[k] = x := by rw [List.getElem?_eq_getElem hk] at hx; injection hx
      rw [this]
    rw [e]
    simp
set_option maxRecDepth 100000 in
set_option maxHeartbeats 8000000 in
theorem codes_any (A : Option Addr) (t : List Rec) (c : Nat) (cy hd : Int) (w : World) (hr : RecsAt w A t) (hf : Fit t) :
    Calls Try.prog 20 #[.int .i64 cy, .int .i64 hd, .slice A t.length c] w fun e w' => e = .returned (.bool true) ∧ Below w.heap.size w w' := by
  have HR := Lib.hid hr
  have HF := Lib.hid hf
  clear hr hf
  go_enter Try.func20, Try.ntmps20
  go_wp2_with fail
  refine (encode_any A t c cy hd (SL.start w) HR.out HF.out).mono ?_
  rintro e w1 ⟨A1, c1, rfl, S1⟩
  have H1 := Lib.hid S1
  clear S1
  go_wp2_with fail
  refine (rencode_any A t c cy hd H1.out (HR.out.grow H1.out.below) HF.out).mono ?_
  rintro e w2 ⟨A2, c2, rfl, S2⟩
  have H2 := Lib.hid S2
  clear S2 H1
  generalize encB cy hd t = eb at *
  generalize encE cy hd t = ee at *
  have hee : ((ee : Int) == (ee : Int)) = true := by simp
  have HC1 := run_string_of_at (P := Try.prog) (w := w2) 23 9 5 Try.underlying23 Try.underlying5 Try.underlying9 eb c1 H2.out.s1.at_
  have HC2 := run_string_of_at (P := Try.prog) (w := w2) 23 9 5 Try.underlying23 Try.underlying5 Try.underlying9 eb c2 H2.out.at_
  generalize (⟨eb.toArray⟩ : ByteArray) = sz at *
  have hss : (sz.toList == sz.toList) = true := by simp
  go_wp2
  go_ret
  exact ⟨rfl, H2.out.below⟩
theorem dec_len {b : List UInt8} (hb : b.length ≤ 1000000) : (Dec3.t (decP b)).length ≤ 1048576 := by
  rw [dec_eq]
  unfold decQ
  obtain ⟨i1, i2⟩ := goP_of b.length b [] 0 0 (Nat.le_refl _) (by omega) (by omega)
  cases hq : goQ [] 0 0 b with
  | none => simp [Dec3.t]
  | some q =>
    obtain ⟨cy, hd, t, r⟩ := q
    obtain ⟨_, _, _, u, hu, _, j5, _⟩ := i2 cy hd t r hq
    rw [List.nil_append] at hu
    subst hu
    have hle : ∀ t : List Rec, t.length ≤ (encL cy hd t).length := fun t => by
      induction t with
      | nil => simp
      | cons x t ih => simp only [encL, List.flatMap_cons, List.length_append, encR_len, List.length_cons] at *; omega
    have := hle t
    dsimp only
    split
    · show t.length ≤ _; omega
    · simp [Dec3.t]
set_option maxRecDepth 100000 in
set_option maxHeartbeats 8000000 in
theorem reads_any (A : Option Addr) (b : List UInt8) (c : Nat) (w : World) (hr : CardAt w A b c) (hb : b.length ≤ 1000000) :
    Calls Try.prog 22 #[.slice A b.length c] w fun e w' => e = .returned (.bool true) ∧ Below w.heap.size w w' := by
  have HR := Lib.hid hr
  have HL := Lib.hid (dec_len hb)
  clear hr
  go_enter Try.func22, Try.ntmps22
  go_wp2_with fail
  refine (decode_any A b c (SL.start w) HR.out hb).mono ?_
  rintro e w1 ⟨A1, c1, rfl, S1⟩
  have H1 := Lib.hid S1
  clear S1
  go_wp2_with fail
  have hq := rdecode_any A b c H1.out (HR.out.grow H1.out.below) hb
  rw [← dec_eq] at hq
  refine hq.mono ?_
  rintro e w2 ⟨A2, c2, rfl, S2⟩
  have H2 := Lib.hid S2
  clear S2 H1 hq
  generalize Dec3.c (decP b) = oc at *
  generalize Dec3.h (decP b) = oh at *
  generalize Dec3.e (decP b) = oe at *
  generalize Dec3.t (decP b) = ot at *
  have h1 : ((oc : Int) == (oc : Int)) = true := by simp
  have h2 : ((oh : Int) == (oh : Int)) = true := by simp
  have h3 : ((oe : Int) == (oe : Int)) = true := by simp
  go_wp2_with fail
  refine (same_any A1 A2 ot c1 c2 w2 (recsS_at H2.out.s1) (recsS_at H2.out) HL.out).mono ?_
  rintro e w3 ⟨rfl, b3⟩
  have H3 := Lib.hid (H2.out.grow b3)
  clear b3 H2
  go_wp2
  go_ret
  exact ⟨rfl, H3.out.below⟩
end
end Go.Proofs.Ytelfihgkbbaifaa
