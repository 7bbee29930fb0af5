/- Replace of the program. -/
import Derived.Test.YtmkndbledppniaaGreatPut
namespace Go.Proofs.YtmkndbledppniaaGreat
open Go.RowKit
def repE (rs : List Rec) (x : Rec) : Nat := if validB rs then (match findN rs x.r with
  | none => 3
  | some i => match rs[i]? with
    | none => 3
    | some y => if y.key.length = x.key.length ∧ y.data.length = x.data.length then 0 else 2) else 1
def repR (rs : List Rec) (x : Rec) : List Rec := if repE rs x = 0 then rs.set ((findN rs x.r).getD 0) x else []
theorem cells_set {ps : List RV} {i n : Nat} {p : RV} {cur : Array Value} (hn : ps.length = n) (hi : i < n) (hs : n * 4 ≤ cur.size) (h : cur.toList.take (n * 4) = ps.flatMap recCells) :
    ((((cur.setIfInBounds (i * 4) (.int .i64 p.2.r)).setIfInBounds (i * 4 + 1) p.1.1).setIfInBounds (i * 4 + 2) p.1.2).setIfInBounds (i * 4 + 3) (.bool p.2.bad)).toList.take (n * 4) = (ps.set i p).flatMap recCells := by
  have hlen : ∀ l : List RV, (l.flatMap recCells).length = l.length * 4 := fun l => by
    induction l with
    | nil => rfl
    | cons a l ih => simp only [List.flatMap_cons, List.length_append, ih, List.length_cons, recCells]; simp; omega
  refine List.ext_getElem? fun j => ?_
  by_cases hj : j < n * 4
  · obtain ⟨q, r, hr, rfl⟩ : ∃ q r, r < 4 ∧ j = q * 4 + r := ⟨j / 4, j % 4, Nat.mod_lt _ (by omega), by omega⟩
    have hq : q < n := by omega
    have hold : cur[q * 4 + r]? = (recCells (ps[q]'(by omega)))[r]? := by
      have h2 := congrArg (fun l => l[q * 4 + r]?) h
      simp only [List.getElem?_take, if_pos hj, Array.getElem?_toList] at h2
      rw [h2, recCells_get ps q r ps[q] (by simp) hr]
    have hnew : (ps.set i p)[q]? = some (if i = q then p else ps[q]'(by omega)) := by
      rw [List.getElem?_set]
      split
      · rename_i e; subst e; simp; omega
      · simp
    rw [recCells_get _ q r _ hnew hr, List.getElem?_take, if_pos hj]
    simp only [Array.getElem?_toList, Array.getElem?_setIfInBounds, Array.size_setIfInBounds]
    by_cases e : i = q
    · subst e
      rw [if_pos rfl]
      have h4 : r = 0 ∨ r = 1 ∨ r = 2 ∨ r = 3 := by omega
      rcases h4 with rfl | rfl | rfl | rfl
      · rw [if_neg (by omega), if_neg (by omega), if_neg (by omega), if_pos (by omega), if_pos (by omega)]; rfl
      · rw [if_neg (by omega), if_neg (by omega), if_pos (by omega), if_pos (by omega)]; rfl
      · rw [if_neg (by omega), if_pos (by omega), if_pos (by omega)]; rfl
      · rw [if_pos (by omega), if_pos (by omega)]; rfl
    · rw [if_neg e, if_neg (by omega), if_neg (by omega), if_neg (by omega), if_neg (by omega)]
      exact hold
  · rw [List.getElem?_eq_none (by rw [List.length_take]; omega), List.getElem?_eq_none (by rw [hlen, List.length_set]; omega)]
section
variable {W w : World} {F : List SA}
/-- A record of the call's own is laid over one of an owned list. -/
theorem recs_put {g n c i : Nat} {ps : List RV} {vk vd : Value} {x : Rec} (hi : i < n) (hn : ps.length = n)
    (S : SL W (rowS 62 4 (.slice (some ⟨g, 0, none⟩) n c) n (ps.flatMap recCells) :: rowS 5 1 vk x.key.length (Lib.byteCells x.key) :: rowS 5 1 vd x.data.length (Lib.byteCells x.data) :: star (ps.map recO) :: F) w) :
    SL W (recsS (.slice (some ⟨g, 0, none⟩) n c) ((ps.map Prod.snd).set i x) :: F) ((((w.setCell ⟨g, i * 4, none⟩ (.int .i64 x.r)).setCell ⟨g, i * 4 + 1, none⟩ vk).setCell ⟨g, i * 4 + 2, none⟩ vd).setCell ⟨g, i * 4 + 3, none⟩ (.bool x.bad)) := by
  obtain ⟨y, cap, cur, hv, h1, h2, h3, h4, S1⟩ := S.rowCel (by omega)
  injection hv with ha _ hc
  injection ha with ha
  injection ha with ha
  subst ha; subst hc
  have S2 := (((S1.set (off := i * 4) (v := .int .i64 x.r) rfl).set (off := i * 4 + 1) (v := vk) rfl).set (off := i * 4 + 2) (v := vd) rfl).set (off := i * 4 + 3) (v := .bool x.bad) rfl
  have h5 := cells_set (p := ((vk, vd), x)) hn hi (by rw [h3]; exact Nat.mul_le_mul_right _ h1) h4
  have S3 := SL.head S2 (rowS_pts (n := n) (size := 4) h1 h2 (by simp [h3]) h5)
  have S4 := SL.take S3.s3 (i := i) (P := recO (ps[i]'(by omega))) (by rw [List.getElem?_map, List.getElem?_eq_getElem (by omega)]; rfl)
  have S7 := SL.app (L := [rowS 5 1 vk x.key.length (Lib.byteCells x.key), rowS 5 1 vd x.data.length (Lib.byteCells x.data)]) (r := star ((ps.map recO).eraseIdx i) :: rowS 62 4 (.slice (some ⟨g, 0, none⟩) n c) n ((ps.set i ((vk, vd), x)).flatMap recCells) :: F) S4.drop.s2.s3.s1
  have S8 := SL.put (i := i) (P := recO ((vk, vd), x)) S7 (by simp; omega)
  rw [← List.map_set (f := recO)] at S8
  exact recsS_close' (by simp [hn]) (by simp [List.map_set]) S8.s1
set_option maxRecDepth 100000 in
set_option maxHeartbeats 8000000 in
theorem replace_any (A : Option Addr) (rs : List Rec) (c : Nat) (x : Rec) (Ak Ad : Option Addr) (ck cd : Nat) (S : SL W F w) (hr : RecsAt w A rs) (hf : Fit rs) (hk : CardAt w Ak x.key ck) (hd : CardAt w Ad x.data cd) (hl : x.key.length ≤ 140737488355328 ∧ x.data.length ≤ 140737488355328) :
    Calls Tryz.prog 100 #[.slice A rs.length c, .agg #[.int .i64 x.r, .slice Ak x.key.length ck, .slice Ad x.data.length cd, .bool x.bad]] w (RetL W F (repR rs x) (repE rs x)) := by
  have HS := Lib.hid S
  have HR := Lib.hid hr
  have HF := Lib.hid hf
  have HC := Lib.hid (And.intro hk (And.intro hd hl))
  have hfl := hf.1
  clear S hr hf hk hd hl
  go_enter Tryz.func100, Tryz.ntmps100
  have H0 := Lib.hid ((SL.start w).allocC #[.int .i64 x.r, .slice Ak x.key.length ck, .slice Ad x.data.length cd, .bool x.bad] 62)
  go_wp2_with fail
  refine (valid_any A rs c _ (HR.out.grow H0.out.1) HF.out).mono ?_
  rintro e w1 ⟨rfl, b1⟩
  have H1 := Lib.hid (H0.out.grow b1)
  clear b1 H0
  generalize w.heap.size = xb at *
  cases hv : validB rs
  · have HE := Lib.hid (show repE rs x = 1 by unfold repE; rw [hv]; rfl)
    have HP := Lib.hid (show repR rs x = [] by unfold repR; rw [HE.out]; rfl)
    clear hv
    go_wp2
    go_ret2
    rw [HE.out, HP.out]
    exact RetL.nil (HS.out.join H1.out.drop) rfl
  have HV := Lib.hid hv
  clear hv
  obtain ⟨L, K, z⟩ := H1.out.look
  go_wp2_with fail
  refine (find_any A rs c x.r _ (HR.out.grow H1.out.1) (by unfold maxLen; omega)).mono ?_
  rintro e w2 ⟨rfl, b2⟩
  have H2 := Lib.hid (H1.out.grow b2)
  clear b2 H1 L K z
  cases hfi : findN rs x.r with
  | none =>
    have HE := Lib.hid (show repE rs x = 3 by unfold repE; rw [HV.out, hfi]; rfl)
    have HP := Lib.hid (show repR rs x = [] by unfold repR; rw [HE.out]; rfl)
    clear hfi
    simp only [Option.getD_none, Option.isSome_none]
    go_wp2
    go_ret2
    rw [HE.out, HP.out]
    exact RetL.nil (HS.out.join H2.out.drop) rfl
  | some i =>
    have hi := findN_lt hfi
    have hb : rs[i]? = some rs[i] := by simp [hi]
    generalize rs[i] = y at hb
    have HE := Lib.hid (show repE rs x = (if y.key.length = x.key.length ∧ y.data.length = x.data.length then 0 else 2) by unfold repE; rw [HV.out, hfi]; simp only [if_true, hb])
    have HP := Lib.hid (show repR rs x = if repE rs x = 0 then rs.set i x else [] by unfold repR; rw [hfi]; rfl)
    obtain ⟨g, off, Bk, dk, Bd, dd, hA, k0, k1, k2, k3, a1, a2⟩ := HR.out.grow H2.out.1 i y hb
    subst hA
    clear hb hfi a1 a2
    simp only [Option.getD_some, Option.isSome_some]
    obtain ⟨L, K, z⟩ := H2.out.look
    by_cases h1 : y.key.length = x.key.length
    · have t1 : ((y.key.length : Int) != (x.key.length : Int)) = false := by simp; omega
      by_cases h2 : y.data.length = x.data.length
      · have t2 : ((y.data.length : Int) != (x.data.length : Int)) = false := by simp; omega
        have HE2 := Lib.hid (show repE rs x = 0 by rw [HE.out, if_pos ⟨h1, h2⟩])
        have HP2 := Lib.hid (show repR rs x = rs.set i x by rw [HP.out, HE2.out]; rfl)
        clear h1 h2
        go_wp2_with fail
        go_big_region
        go_wp2
        clear k0 k1 k2 k3 L K z t1 t2
        go_loopw [8, 47] (fun o j wr => ∃ (k : Nat) (A3 : Option Addr) (c3 : Nat) (ps : List RV), k ≤ rs.length ∧ j = .int .i64 k ∧ ps.length = k ∧ ps.map Prod.snd = rs.take k ∧ o = .slice A3 k c3 ∧
          SL w (rowS 62 4 (.slice A3 k c3) k (ps.flatMap recCells) :: star (ps.map recO) :: cel xb #[.int .i64 x.r, .slice Ak x.key.length ck, .slice Ad x.data.length cd, .bool x.bad] 62 :: []) wr) (fun _ i _ => rs.length - (intOf i).toNat)
        case atStart => exact ⟨0, none, 0, [], Nat.zero_le _, rfl, rfl, rfl, rfl, H2.out.drew.empty.nil _ _⟩
        case round =>
          obtain ⟨k, A3, c3, ps, hk, rfl, hpl, hp, rfl, S1⟩ := hrel
          have H1 := Lib.hid S1
          have HPS := Lib.hid (And.intro hpl hp)
          clear S1 H2 hpl hp
          by_cases hlt : k < rs.length
          · have hb : rs[k]? = some rs[k] := by simp [hlt]
            have hbl := HF.out.2 rs[k] (List.getElem_mem hlt)
            generalize rs[k] = z at hb hbl
            obtain ⟨g2, off2, Bk, dk, Bd, dd, hA, k0, k1, k2, k3, a1, a2⟩ := HR.out.grow H1.out.1 k z hb
            injection hA with hA; injection hA with h1 h2
            subst h1; subst h2
            have HB := Lib.hid hb
            have HA := Lib.hid (And.intro a1 a2)
            clear hb a1 a2
            go_wp2_with fail
            refine (clone_any z Bk Bd dk dd (H1.out.allocC _ _).drop (HA.out.1.grow (((Below.refl _ _).alloc (Nat.le_refl _) _))) (HA.out.2.grow (((Below.refl _ _).alloc (Nat.le_refl _) _))) hbl).mono ?_
            rintro e w2 ⟨vk, vd, rfl, S2⟩
            have H2 := Lib.hid S2
            clear S2 H1 k0 k1 k2 k3 HA
            go_wp2_with (at_builtin; refine wpList_pushS rfl _ _ _ rfl recElem w2 [.int .i64 z.r, vk, vd, .bool z.bad] 1 rfl rfl (by
                           obtain ⟨_, _, e1, _, _⟩ := own_slice H2.out.own
                           obtain ⟨_, _, e2, _, _⟩ := own_slice H2.out.s1.own
                           rw [e1, e2]
                           simp [Value.oneCell']) _ k _ rfl rfl H2.out.s2 (by unfold maxLen; omega) (by omega) ?_
                         intro A6 c6 w6 S6
                         have H6 := Lib.hid S6
                         clear S6 H2)
            go_roundw
            case rel =>
              refine ⟨k + 1, A6, c6, ps ++ [((vk, vd), z)], by omega, by go_num, by simp [HPS.out.1], by rw [List.take_add_one, HB.out]; simp [HPS.out.2], rfl, ?_⟩
              rw [flat_snoc]
              exact recO_snoc H6.out
            case measure => simp [intOf]; omega
          · obtain rfl : k = rs.length := by omega
            have H2 := Lib.hid H1.out.s2
            obtain ⟨L, K, z⟩ := H2.out.look
            clear H1
            go_wp2_with fail
            refine (clone_any x Ak Ad ck cd H2.out (HC.out.1.grow H2.out.1) (HC.out.2.1.grow H2.out.1) HC.out.2.2).mono ?_
            rintro e w2 ⟨vk, vd, rfl, S2⟩
            have H3 := Lib.hid S2.s2.drop.s2
            clear S2 H2 L K z
            obtain ⟨y3, cap3, cur3, hv3, hc1, _, hc2, _, S4⟩ := H3.out.rowCel (by omega)
            injection hv3 with hA3 _ hc3
            subst hA3; subst hc3
            obtain ⟨L, K, z⟩ := S4.look
            obtain ⟨_, _, ek, _, _⟩ := own_slice H3.out.s1.own
            obtain ⟨_, _, ed, _, _⟩ := own_slice H3.out.s2.own
            subst ek; subst ed
            have H4 := Lib.hid S4
            obtain ⟨q0, e0⟩ : ∃ v, cur3[i * 4]? = some v := ⟨_, Array.getElem?_eq_getElem (by omega)⟩
            obtain ⟨q1, e1⟩ : ∃ v, cur3[i * 4 + 1]? = some v := ⟨_, Array.getElem?_eq_getElem (by omega)⟩
            obtain ⟨q2, e2⟩ : ∃ v, cur3[i * 4 + 2]? = some v := ⟨_, Array.getElem?_eq_getElem (by omega)⟩
            obtain ⟨q3, e3⟩ : ∃ v, cur3[i * 4 + 3]? = some v := ⟨_, Array.getElem?_eq_getElem (by omega)⟩
            have H5 := Lib.hid (recs_put (i := i) (by omega) HPS.out.1 H3.out)
            clear S4 hc1 hc2 H4 H3
            go_wp2
            go_ret2
            have h := HS.out.join H5.out
            rw [HPS.out.2, List.take_of_length_le (Nat.le_refl _)] at h
            rw [HE2.out, HP2.out]
            exact ⟨_, _, by rw [List.length_set]; rfl, by rw [List.length_set]; exact h⟩
      · have t2 : ((y.data.length : Int) != (x.data.length : Int)) = true := by simp; omega
        have HE2 := Lib.hid (show repE rs x = 2 by rw [HE.out, if_neg (fun h => h2 h.2)])
        have HP2 := Lib.hid (show repR rs x = [] by rw [HP.out, HE2.out]; rfl)
        clear h1 h2
        go_wp2_with fail
        go_big_region
        go_wp2
        go_ret2
        rw [HE2.out, HP2.out]
        exact RetL.nil (HS.out.join H2.out.drew.drop) rfl
    · have t1 : ((y.key.length : Int) != (x.key.length : Int)) = true := by simp; omega
      have HE2 := Lib.hid (show repE rs x = 2 by rw [HE.out, if_neg (fun h => h1 h.1)])
      have HP2 := Lib.hid (show repR rs x = [] by rw [HP.out, HE2.out]; rfl)
      clear h1
      go_wp2_with fail
      go_big_region
      go_wp2
      go_ret2
      rw [HE2.out, HP2.out]
      exact RetL.nil (HS.out.join H2.out.drew.drop) rfl
end
end Go.Proofs.YtmkndbledppniaaGreat
