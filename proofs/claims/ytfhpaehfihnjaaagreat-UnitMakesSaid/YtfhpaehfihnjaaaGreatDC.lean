/- DPut, DReplace, DRep, DEncP, DWk. -/
import Derived.Test.YtfhpaehfihnjaaaGreatDB
import Derived.Test.YtfhpaehfihnjaaaGreatKitA
import Derived.Lib.MakeNoZero
import Derived.Laws.BitsAllLaws
import Derived.Laws.IdiomStrings
set_option maxRecDepth 100000
namespace Go.Proofs.YtfhpaehfihnjaaaGreat.D
open Go.RowKit
def lower (r : Int) (rs : List Rec) : List Rec := rs.filter fun y => decide (y.r < r)
def putN (rs : List Rec) (x : Rec) : List Rec := lower x.r rs ++ [x]
def putE (rs : List Rec) (x : Rec) : Nat := if validB rs && x.valid then (if 2048 < usedN (putN rs x) then 7 else 0) else 1
def putR (rs : List Rec) (x : Rec) : List Rec := if putE rs x = 0 then putN rs x else []
def RetL (W : World) (F : List SA) (rs : List Rec) (er : Nat) (e : Ending) (w' : World) : Prop :=
  ∃ A c, e = .returned (.tuple #[.slice A rs.length c, .int .i64 (er : Int)]) ∧ SL W (recsS (.slice A rs.length c) rs :: F) w'
section
variable {W w : World} {F : List SA}
theorem RetL.nil {w' : World} {er : Nat} {i : Int} (S : SL W F w') (h : (er : Int) = i) : RetL W F [] er (.returned (.tuple #[.slice none 0 0, .int .i64 i])) w' :=
  ⟨none, 0, by rw [h]; rfl, recsS_close (ps := []) (S.empty.nil _ _)⟩
theorem lower_take {rs : List Rec} {k : Nat} {x : Rec} {r : Int} (h : rs[k]? = some x) : lower r (rs.take (k + 1)) = lower r (rs.take k) ++ (if x.r < r then [x] else []) := by
  unfold lower
  rw [List.take_add_one, h, List.filter_append]
  by_cases hx : x.r < r <;> simp [hx]
theorem lower_len {rs : List Rec} {r : Int} : (lower r rs).length ≤ rs.length := List.length_filter_le _ _
theorem Fit.put {rs : List Rec} {x : Rec} (hf : Fit rs) (hn : rs.length + 1 ≤ 8192) (hl : x.key.length ≤ 140737488355328 ∧ x.data.length ≤ 140737488355328) : Fit (putN rs x) :=
  ⟨by unfold putN; have := lower_len (rs := rs) (r := x.r); simp; omega, fun y hy => by
    unfold putN at hy
    rcases List.mem_append.1 hy with h | h
    · exact hf.2 y (List.mem_filter.1 h).1
    · obtain rfl := List.mem_singleton.1 h; exact hl⟩
set_option maxHeartbeats 8000000 in
theorem put_any (A : Option Addr) (rs : List Rec) (c : Nat) (x : Rec) (Ak Ad : Option Addr) (ck cd : Nat) (S : SL W F w) (hr : RecsAt w A rs) (hf : Fit rs) (hn : rs.length + 1 ≤ 8192) (hk : CardAt w Ak x.key ck) (hd : CardAt w Ad x.data cd) (hl : x.key.length ≤ 140737488355328 ∧ x.data.length ≤ 140737488355328) :
    Calls Tryz.prog 249 #[.slice A rs.length c, .agg #[.int .i64 x.r, .slice Ak x.key.length ck, .slice Ad x.data.length cd, .bool x.bad]] w (RetL W F (putR rs x) (putE rs x)) := by
  have HS := Lib.hid S
  have HR := Lib.hid hr
  have HF := Lib.hid hf
  have HC := Lib.hid (And.intro hk (And.intro hd hl))
  have HFP := Lib.hid (Fit.put hf hn hl)
  have HPL := Lib.hid (lower_len (rs := rs) (r := x.r))
  have hfl := hf.1
  clear S hr hf hk hd hl
  go_enter Tryz.func249, Tryz.ntmps249
  have H0 := Lib.hid ((SL.start w).allocC #[.int .i64 x.r, .slice Ak x.key.length ck, .slice Ad x.data.length cd, .bool x.bad] 188)
  go_wp2_with fail
  refine (valid_any A rs c _ (HR.out.grow H0.out.1) HF.out).mono ?_
  rintro e w1 ⟨rfl, b1⟩
  have H1 := Lib.hid (H0.out.grow b1)
  clear b1 H0
  generalize w.heap.size = xb at *
  cases hv : validB rs
  · have HE := Lib.hid (show putE rs x = 1 by unfold putE; rw [hv]; rfl)
    have HP := Lib.hid (show putR rs x = [] by unfold putR; rw [HE.out]; rfl)
    clear hv
    go_wp2
    go_ret2
    rw [HE.out, HP.out]
    exact RetL.nil (HS.out.join H1.out.drop) rfl
  have HV := Lib.hid hv
  clear hv
  obtain ⟨L, K, z⟩ := H1.out.look
  go_wp2_with fail
  refine (valid1_any x.r Ak Ad x.key.length x.data.length ck cd x.bad _).mono ?_
  rintro e w2 ⟨rfl, b2⟩
  have H2 := Lib.hid (H1.out.grow b2)
  clear b2 H1 L K z
  cases hv : valid1 x.r x.key.length
  · have HE := Lib.hid (show putE rs x = 1 by unfold putE Rec.valid; rw [hv, HV.out]; rfl)
    have HP := Lib.hid (show putR rs x = [] by unfold putR; rw [HE.out]; rfl)
    clear hv
    go_wp2
    go_ret2
    rw [HE.out, HP.out]
    exact RetL.nil (HS.out.join H2.out.drop) rfl
  have HE := Lib.hid (show putE rs x = (if 2048 < usedN (putN rs x) then 7 else 0) by unfold putE Rec.valid; rw [hv, HV.out]; rfl)
  clear hv
  go_wp2
  go_loopw [6, 19] (fun o i wr => ∃ (k : Nat) (A3 : Option Addr) (c3 : Nat) (ps : List RV), k ≤ rs.length ∧ i = .int .i64 k ∧ ps.map Prod.snd = lower x.r (rs.take k) ∧ o = .slice A3 ps.length c3 ∧
    SL w (rowS 188 4 (.slice A3 ps.length c3) ps.length (ps.flatMap recCells) :: star (ps.map recO) :: cel xb #[.int .i64 x.r, .slice Ak x.key.length ck, .slice Ad x.data.length cd, .bool x.bad] 188 :: []) wr) (fun _ i _ => rs.length - (intOf i).toNat)
  case atStart => exact ⟨0, none, 0, [], Nat.zero_le _, rfl, rfl, rfl, H2.out.empty.nil _ _⟩
  case round =>
    obtain ⟨k, A3, c3, ps, hk, rfl, hp, rfl, S1⟩ := hrel
    have H1 := Lib.hid S1
    have HP := Lib.hid hp
    clear S1 H2 hp
    by_cases hlt : k < rs.length
    · have hb : rs[k]? = some rs[k] := by simp [hlt]
      have hbl := HF.out.2 rs[k] (List.getElem_mem hlt)
      generalize rs[k] = y at hb hbl
      obtain ⟨g, off, Bk, dk, Bd, dd, hA, k0, k1, k2, k3, a1, a2⟩ := HR.out.grow H1.out.1 k y hb
      subst hA
      have HB := Lib.hid (lower_take (r := x.r) hb)
      have HA := Lib.hid (And.intro a1 a2)
      clear hb a1 a2
      obtain ⟨L, K, z⟩ := H1.out.s2.look
      by_cases hyx : y.r < x.r
      · have HQ := Lib.hid (show lower x.r (rs.take (k + 1)) = lower x.r (rs.take k) ++ [y] by rw [HB.out, if_pos hyx])
        have hpl : ps.length ≤ k := by
          have h := congrArg List.length HP.out
          rw [List.length_map] at h
          have := lower_len (rs := rs.take k) (r := x.r)
          rw [List.length_take] at this
          omega
        go_wp2_with fail
        refine (clone_any y Bk Bd dk dd (H1.out.allocC _ _).drop (HA.out.1.grow (((Below.refl _ _).alloc (Nat.le_refl _) _))) (HA.out.2.grow (((Below.refl _ _).alloc (Nat.le_refl _) _))) hbl).mono ?_
        rintro e w2 ⟨vk, vd, rfl, S2⟩
        have H2 := Lib.hid S2
        clear S2 H1 k0 k1 k2 k3 HA L K z
        go_wp2_with (at_builtin; refine wpList_pushS rfl _ _ _ rfl recElem w2 [.int .i64 y.r, vk, vd, .bool y.bad] 1 rfl rfl (by
                       obtain ⟨_, _, e1, _, _⟩ := own_slice H2.out.own
                       obtain ⟨_, _, e2, _, _⟩ := own_slice H2.out.s1.own
                       rw [e1, e2]
                       simp [Value.oneCell']) _ ps.length _ rfl rfl H2.out.s2 (by unfold maxLen; omega) (by omega) ?_
                     intro A6 c6 w6 S6
                     have H6 := Lib.hid S6
                     clear S6 H2)
        go_roundw
        case rel =>
          refine ⟨k + 1, A6, c6, ps ++ [((vk, vd), y)], by omega, by go_num, by rw [HQ.out, ← HP.out]; simp, by simp, ?_⟩
          rw [flat_snoc, List.length_append, List.length_singleton]
          exact recO_snoc H6.out
        case measure => simp [intOf]; omega
      · have HQ := Lib.hid (show lower x.r (rs.take (k + 1)) = lower x.r (rs.take k) by rw [HB.out, if_neg hyx, List.append_nil])
        go_wp2
        go_roundw
        case rel => exact ⟨k + 1, A3, c3, ps, by omega, by go_num, by rw [HQ.out]; exact HP.out, rfl, (H1.out.allocC _ _).drop⟩
        case measure => simp [intOf]; omega
    · obtain rfl : k = rs.length := by omega
      have HQ := Lib.hid (show ps.map Prod.snd = lower x.r rs by rw [HP.out, List.take_of_length_le (Nat.le_refl _)])
      have hpl : ps.length ≤ rs.length := by
        have h := congrArg List.length HQ.out
        rw [List.length_map] at h
        have := HPL.out
        omega
      have H2 := Lib.hid H1.out.s2
      obtain ⟨L, K, z⟩ := H2.out.look
      clear H1 HP
      go_wp2_with fail
      refine (clone_any x Ak Ad ck cd H2.out (HC.out.1.grow H2.out.1) (HC.out.2.1.grow H2.out.1) HC.out.2.2).mono ?_
      rintro e w2 ⟨vk, vd, rfl, S2⟩
      have H3 := Lib.hid S2.s2.drop.s2
      clear S2 H2 L K z
      go_wp2_with (at_builtin; refine wpList_pushS rfl _ _ _ rfl recElem w2 [.int .i64 x.r, vk, vd, .bool x.bad] 1 rfl rfl (by
                     obtain ⟨_, _, e1, _, _⟩ := own_slice H3.out.s1.own
                     obtain ⟨_, _, e2, _, _⟩ := own_slice H3.out.s2.own
                     rw [e1, e2]
                     simp [Value.oneCell']) _ ps.length _ rfl rfl H3.out (by unfold maxLen; omega) (by omega) ?_
                   intro A6 c6 w6 S6
                   have H6 := Lib.hid S6
                   clear S6 H3)
      have hps : (ps ++ [((vk, vd), x)]).map Prod.snd = putN rs x := by unfold putN; rw [List.map_append, HQ.out]; rfl
      have hpn : ps.length + 1 = (putN rs x).length := by rw [← hps]; simp
      have H7 := Lib.hid (show SL w (recsS (.slice A6 (putN rs x).length c6) (putN rs x) :: []) w6 by
        refine recsS_close' (n := (putN rs x).length) (ps := ps ++ [((vk, vd), x)]) (by simpa using hpn) hps ?_
        rw [flat_snoc, ← hpn]
        exact recO_snoc H6.out)
      rw [hpn]
      have HU := Lib.hid (used_any A6 (putN rs x) c6 w6 (recsS_at H7.out) HFP.out)
      clear hps hpn H6
      go_wp2_with fail
      refine HU.out.mono ?_
      rintro e w7 ⟨rfl, b7⟩
      have H8 := Lib.hid (H7.out.grow b7)
      clear b7 H7 HU
      by_cases hu : 2048 < usedN (putN rs x)
      · have HE2 := Lib.hid (show putE rs x = 7 by rw [HE.out, if_pos hu])
        have HP := Lib.hid (show putR rs x = [] by unfold putR; rw [HE2.out]; rfl)
        have hu' : decide ((2048 : Int) < (usedN (putN rs x) : Int)) = true := by simp; omega
        clear hu
        go_wp2
        go_ret2
        rw [HE2.out, HP.out]
        exact RetL.nil (HS.out.join H8.out.drop) rfl
      · have HE2 := Lib.hid (show putE rs x = 0 by rw [HE.out, if_neg hu])
        have HP := Lib.hid (show putR rs x = putN rs x by unfold putR; rw [HE2.out]; rfl)
        have hu' : decide ((2048 : Int) < (usedN (putN rs x) : Int)) = false := by simp; omega
        clear hu
        go_wp2
        go_ret2
        rw [HE2.out, HP.out]
        exact ⟨_, _, rfl, HS.out.join H8.out⟩
end
end Go.Proofs.YtfhpaehfihnjaaaGreat.D
namespace Go.Proofs.YtfhpaehfihnjaaaGreat.D
open Go.RowKit
def repE (rs : List Rec) (x : Rec) : Nat := if validB rs then (match findN rs x.r with
  | none => 3
  | some i => match rs[i]? with
    | none => 3
    | some y => if y.key.length = x.key.length ∧ y.data.length = x.data.length then 0 else 2) else 1
def repR (rs : List Rec) (x : Rec) : List Rec := if repE rs x = 0 then rs.set ((findN rs x.r).getD 0) x else []
theorem cells_set {ps : List RV} {i n : Nat} {p : RV} {cur : Array Value} (hn : ps.length = n) (hi : i < n) (hs : n * 4 ≤ cur.size) (h : cur.toList.take (n * 4) = ps.flatMap recCells) :
    ((((cur.setIfInBounds (i * 4) (.int .i64 p.2.r)).setIfInBounds (i * 4 + 1) p.1.1).setIfInBounds (i * 4 + 2) p.1.2).setIfInBounds (i * 4 + 3) (.bool p.2.bad)).toList.take (n * 4) = (ps.set i p).flatMap recCells := by
  have hlen : ∀ l : List RV, (l.flatMap recCells).length = l.length * 4 := fun l => by
    induction l with
    | nil => rfl
    | cons a l ih => simp only [List.flatMap_cons, List.length_append, ih, List.length_cons, recCells]; simp; omega
  refine List.ext_getElem? fun j => ?_
  by_cases hj : j < n * 4
  · obtain ⟨q, r, hr, rfl⟩ : ∃ q r, r < 4 ∧ j = q * 4 + r := ⟨j / 4, j % 4, Nat.mod_lt _ (by omega), by omega⟩
    have hq : q < n := by omega
    have hold : cur[q * 4 + r]? = (recCells (ps[q]'(by omega)))[r]? := by
      have h2 := congrArg (fun l => l[q * 4 + r]?) h
      simp only [List.getElem?_take, if_pos hj, Array.getElem?_toList] at h2
      rw [h2, recCells_get ps q r ps[q] (by simp) hr]
    have hnew : (ps.set i p)[q]? = some (if i = q then p else ps[q]'(by omega)) := by
      rw [List.getElem?_set]
      split
      · rename_i e; subst e; simp; omega
      · simp
    rw [recCells_get _ q r _ hnew hr, List.getElem?_take, if_pos hj]
    simp only [Array.getElem?_toList, Array.getElem?_setIfInBounds, Array.size_setIfInBounds]
    by_cases e : i = q
    · subst e
      rw [if_pos rfl]
      have h4 : r = 0 ∨ r = 1 ∨ r = 2 ∨ r = 3 := by omega
      rcases h4 with rfl | rfl | rfl | rfl
      · rw [if_neg (by omega), if_neg (by omega), if_neg (by omega), if_pos (by omega), if_pos (by omega)]; rfl
      · rw [if_neg (by omega), if_neg (by omega), if_pos (by omega), if_pos (by omega)]; rfl
      · rw [if_neg (by omega), if_pos (by omega), if_pos (by omega)]; rfl
      · rw [if_pos (by omega), if_pos (by omega)]; rfl
    · rw [if_neg e, if_neg (by omega), if_neg (by omega), if_neg (by omega), if_neg (by omega)]
      exact hold
  · rw [List.getElem?_eq_none (by rw [List.length_take]; omega), List.getElem?_eq_none (by rw [hlen, List.length_set]; omega)]
section
variable {W w : World} {F : List SA}
theorem recs_put {g n c i : Nat} {ps : List RV} {vk vd : Value} {x : Rec} (hi : i < n) (hn : ps.length = n)
    (S : SL W (rowS 188 4 (.slice (some ⟨g, 0, none⟩) n c) n (ps.flatMap recCells) :: rowS 5 1 vk x.key.length (Lib.byteCells x.key) :: rowS 5 1 vd x.data.length (Lib.byteCells x.data) :: star (ps.map recO) :: F) w) :
    SL W (recsS (.slice (some ⟨g, 0, none⟩) n c) ((ps.map Prod.snd).set i x) :: F) ((((w.setCell ⟨g, i * 4, none⟩ (.int .i64 x.r)).setCell ⟨g, i * 4 + 1, none⟩ vk).setCell ⟨g, i * 4 + 2, none⟩ vd).setCell ⟨g, i * 4 + 3, none⟩ (.bool x.bad)) := by
  obtain ⟨y, cap, cur, hv, h1, h2, h3, h4, S1⟩ := S.rowCel (by omega)
  injection hv with ha _ hc
  injection ha with ha
  injection ha with ha
  subst ha; subst hc
  have S2 := (((S1.set (off := i * 4) (v := .int .i64 x.r) rfl).set (off := i * 4 + 1) (v := vk) rfl).set (off := i * 4 + 2) (v := vd) rfl).set (off := i * 4 + 3) (v := .bool x.bad) rfl
  have h5 := cells_set (p := ((vk, vd), x)) hn hi (by rw [h3]; exact Nat.mul_le_mul_right _ h1) h4
  have S3 := SL.head S2 (rowS_pts (n := n) (size := 4) h1 h2 (by simp [h3]) h5)
  have S4 := SL.take S3.s3 (i := i) (P := recO (ps[i]'(by omega))) (by rw [List.getElem?_map, List.getElem?_eq_getElem (by omega)]; rfl)
  have S7 := SL.app (L := [rowS 5 1 vk x.key.length (Lib.byteCells x.key), rowS 5 1 vd x.data.length (Lib.byteCells x.data)]) (r := star ((ps.map recO).eraseIdx i) :: rowS 188 4 (.slice (some ⟨g, 0, none⟩) n c) n ((ps.set i ((vk, vd), x)).flatMap recCells) :: F) S4.drop.s2.s3.s1
  have S8 := SL.put (i := i) (P := recO ((vk, vd), x)) S7 (by simp; omega)
  rw [← List.map_set (f := recO)] at S8
  exact recsS_close' (by simp [hn]) (by simp [List.map_set]) S8.s1
set_option maxHeartbeats 8000000 in
theorem replace_any (A : Option Addr) (rs : List Rec) (c : Nat) (x : Rec) (Ak Ad : Option Addr) (ck cd : Nat) (S : SL W F w) (hr : RecsAt w A rs) (hf : Fit rs) (hk : CardAt w Ak x.key ck) (hd : CardAt w Ad x.data cd) (hl : x.key.length ≤ 140737488355328 ∧ x.data.length ≤ 140737488355328) :
    Calls Tryz.prog 258 #[.slice A rs.length c, .agg #[.int .i64 x.r, .slice Ak x.key.length ck, .slice Ad x.data.length cd, .bool x.bad]] w (RetL W F (repR rs x) (repE rs x)) := by
  have HS := Lib.hid S
  have HR := Lib.hid hr
  have HF := Lib.hid hf
  have HC := Lib.hid (And.intro hk (And.intro hd hl))
  have hfl := hf.1
  clear S hr hf hk hd hl
  go_enter Tryz.func258, Tryz.ntmps258
  have H0 := Lib.hid ((SL.start w).allocC #[.int .i64 x.r, .slice Ak x.key.length ck, .slice Ad x.data.length cd, .bool x.bad] 188)
  go_wp2_with fail
  refine (valid_any A rs c _ (HR.out.grow H0.out.1) HF.out).mono ?_
  rintro e w1 ⟨rfl, b1⟩
  have H1 := Lib.hid (H0.out.grow b1)
  clear b1 H0
  generalize w.heap.size = xb at *
  cases hv : validB rs
  · have HE := Lib.hid (show repE rs x = 1 by unfold repE; rw [hv]; rfl)
    have HP := Lib.hid (show repR rs x = [] by unfold repR; rw [HE.out]; rfl)
    clear hv
    go_wp2
    go_ret2
    rw [HE.out, HP.out]
    exact RetL.nil (HS.out.join H1.out.drop) rfl
  have HV := Lib.hid hv
  clear hv
  obtain ⟨L, K, z⟩ := H1.out.look
  go_wp2_with fail
  refine (find_any A rs c x.r _ (HR.out.grow H1.out.1) (by unfold maxLen; omega)).mono ?_
  rintro e w2 ⟨rfl, b2⟩
  have H2 := Lib.hid (H1.out.grow b2)
  clear b2 H1 L K z
  cases hfi : findN rs x.r with
  | none =>
    have HE := Lib.hid (show repE rs x = 3 by unfold repE; rw [HV.out, hfi]; rfl)
    have HP := Lib.hid (show repR rs x = [] by unfold repR; rw [HE.out]; rfl)
    clear hfi
    simp only [Option.getD_none, Option.isSome_none]
    go_wp2
    go_ret2
    rw [HE.out, HP.out]
    exact RetL.nil (HS.out.join H2.out.drop) rfl
  | some i =>
    have hi := findN_lt hfi
    have hb : rs[i]? = some rs[i] := by simp [hi]
    generalize rs[i] = y at hb
    have HE := Lib.hid (show repE rs x = (if y.key.length = x.key.length ∧ y.data.length = x.data.length then 0 else 2) by unfold repE; rw [HV.out, hfi]; simp only [if_true, hb])
    have HP := Lib.hid (show repR rs x = if repE rs x = 0 then rs.set i x else [] by unfold repR; rw [hfi]; rfl)
    obtain ⟨g, off, Bk, dk, Bd, dd, hA, k0, k1, k2, k3, a1, a2⟩ := HR.out.grow H2.out.1 i y hb
    subst hA
    clear hb hfi a1 a2
    simp only [Option.getD_some, Option.isSome_some]
    obtain ⟨L, K, z⟩ := H2.out.look
    by_cases h1 : y.key.length = x.key.length
    · have t1 : ((y.key.length : Int) != (x.key.length : Int)) = false := by simp; omega
      by_cases h2 : y.data.length = x.data.length
      · have t2 : ((y.data.length : Int) != (x.data.length : Int)) = false := by simp; omega
        have HE2 := Lib.hid (show repE rs x = 0 by rw [HE.out, if_pos ⟨h1, h2⟩])
        have HP2 := Lib.hid (show repR rs x = rs.set i x by rw [HP.out, HE2.out]; rfl)
        clear h1 h2
        go_wp2_with fail
        go_big_region
        go_wp2
        clear k0 k1 k2 k3 L K z t1 t2
        go_loopw [8, 47] (fun o j wr => ∃ (k : Nat) (A3 : Option Addr) (c3 : Nat) (ps : List RV), k ≤ rs.length ∧ j = .int .i64 k ∧ ps.length = k ∧ ps.map Prod.snd = rs.take k ∧ o = .slice A3 k c3 ∧
          SL w (rowS 188 4 (.slice A3 k c3) k (ps.flatMap recCells) :: star (ps.map recO) :: cel xb #[.int .i64 x.r, .slice Ak x.key.length ck, .slice Ad x.data.length cd, .bool x.bad] 188 :: []) wr) (fun _ i _ => rs.length - (intOf i).toNat)
        case atStart => exact ⟨0, none, 0, [], Nat.zero_le _, rfl, rfl, rfl, rfl, H2.out.drew.empty.nil _ _⟩
        case round =>
          obtain ⟨k, A3, c3, ps, hk, rfl, hpl, hp, rfl, S1⟩ := hrel
          have H1 := Lib.hid S1
          have HPS := Lib.hid (And.intro hpl hp)
          clear S1 H2 hpl hp
          by_cases hlt : k < rs.length
          · have hb : rs[k]? = some rs[k] := by simp [hlt]
            have hbl := HF.out.2 rs[k] (List.getElem_mem hlt)
            generalize rs[k] = z at hb hbl
            obtain ⟨g2, off2, Bk, dk, Bd, dd, hA, k0, k1, k2, k3, a1, a2⟩ := HR.out.grow H1.out.1 k z hb
            injection hA with hA; injection hA with h1 h2
            subst h1; subst h2
            have HB := Lib.hid hb
            have HA := Lib.hid (And.intro a1 a2)
            clear hb a1 a2
            go_wp2_with fail
            refine (clone_any z Bk Bd dk dd (H1.out.allocC _ _).drop (HA.out.1.grow (((Below.refl _ _).alloc (Nat.le_refl _) _))) (HA.out.2.grow (((Below.refl _ _).alloc (Nat.le_refl _) _))) hbl).mono ?_
            rintro e w2 ⟨vk, vd, rfl, S2⟩
            have H2 := Lib.hid S2
            clear S2 H1 k0 k1 k2 k3 HA
            go_wp2_with (at_builtin; refine wpList_pushS rfl _ _ _ rfl recElem w2 [.int .i64 z.r, vk, vd, .bool z.bad] 1 rfl rfl (by
                           obtain ⟨_, _, e1, _, _⟩ := own_slice H2.out.own
                           obtain ⟨_, _, e2, _, _⟩ := own_slice H2.out.s1.own
                           rw [e1, e2]
                           simp [Value.oneCell']) _ k _ rfl rfl H2.out.s2 (by unfold maxLen; omega) (by omega) ?_
                         intro A6 c6 w6 S6
                         have H6 := Lib.hid S6
                         clear S6 H2)
            go_roundw
            case rel =>
              refine ⟨k + 1, A6, c6, ps ++ [((vk, vd), z)], by omega, by go_num, by simp [HPS.out.1], by rw [List.take_add_one, HB.out]; simp [HPS.out.2], rfl, ?_⟩
              rw [flat_snoc]
              exact recO_snoc H6.out
            case measure => simp [intOf]; omega
          · obtain rfl : k = rs.length := by omega
            have H2 := Lib.hid H1.out.s2
            obtain ⟨L, K, z⟩ := H2.out.look
            clear H1
            go_wp2_with fail
            refine (clone_any x Ak Ad ck cd H2.out (HC.out.1.grow H2.out.1) (HC.out.2.1.grow H2.out.1) HC.out.2.2).mono ?_
            rintro e w2 ⟨vk, vd, rfl, S2⟩
            have H3 := Lib.hid S2.s2.drop.s2
            clear S2 H2 L K z
            obtain ⟨y3, cap3, cur3, hv3, hc1, _, hc2, _, S4⟩ := H3.out.rowCel (by omega)
            injection hv3 with hA3 _ hc3
            subst hA3; subst hc3
            obtain ⟨L, K, z⟩ := S4.look
            obtain ⟨_, _, ek, _, _⟩ := own_slice H3.out.s1.own
            obtain ⟨_, _, ed, _, _⟩ := own_slice H3.out.s2.own
            subst ek; subst ed
            have H4 := Lib.hid S4
            obtain ⟨q0, e0⟩ : ∃ v, cur3[i * 4]? = some v := ⟨_, Array.getElem?_eq_getElem (by omega)⟩
            obtain ⟨q1, e1⟩ : ∃ v, cur3[i * 4 + 1]? = some v := ⟨_, Array.getElem?_eq_getElem (by omega)⟩
            obtain ⟨q2, e2⟩ : ∃ v, cur3[i * 4 + 2]? = some v := ⟨_, Array.getElem?_eq_getElem (by omega)⟩
            obtain ⟨q3, e3⟩ : ∃ v, cur3[i * 4 + 3]? = some v := ⟨_, Array.getElem?_eq_getElem (by omega)⟩
            have H5 := Lib.hid (recs_put (i := i) (by omega) HPS.out.1 H3.out)
            clear S4 hc1 hc2 H4 H3
            go_wp2
            go_ret2
            have h := HS.out.join H5.out
            rw [HPS.out.2, List.take_of_length_le (Nat.le_refl _)] at h
            rw [HE2.out, HP2.out]
            exact ⟨_, _, by rw [List.length_set]; rfl, by rw [List.length_set]; exact h⟩
      · have t2 : ((y.data.length : Int) != (x.data.length : Int)) = true := by simp; omega
        have HE2 := Lib.hid (show repE rs x = 2 by rw [HE.out, if_neg (fun h => h2 h.2)])
        have HP2 := Lib.hid (show repR rs x = [] by rw [HP.out, HE2.out]; rfl)
        clear h1 h2
        go_wp2_with fail
        go_big_region
        go_wp2
        go_ret2
        rw [HE2.out, HP2.out]
        exact RetL.nil (HS.out.join H2.out.drew.drop) rfl
    · have t1 : ((y.key.length : Int) != (x.key.length : Int)) = true := by simp; omega
      have HE2 := Lib.hid (show repE rs x = 2 by rw [HE.out, if_neg (fun h => h1 h.1)])
      have HP2 := Lib.hid (show repR rs x = [] by rw [HP.out, HE2.out]; rfl)
      clear h1
      go_wp2_with fail
      go_big_region
      go_wp2
      go_ret2
      rw [HE2.out, HP2.out]
      exact RetL.nil (HS.out.join H2.out.drew.drop) rfl
end
end Go.Proofs.YtfhpaehfihnjaaaGreat.D
namespace Go.Proofs.YtfhpaehfihnjaaaGreat.D
open Go.RowKit
section
variable {W w : World} {F : List SA}
theorem mul64_1_8 (w : World) : Calls Tryz.prog 272 #[.int .u64 1, .int .u64 8] w fun e w' => e = .returned (.tuple #[.int .u64 0, .int .u64 8]) ∧ w = w' := by
  go_enter Tryz.func272, Tryz.ntmps272
  go_wp2
  go_ret2
  exact ⟨rfl, rfl⟩
theorem mul_1_8 (w : World) : Calls Tryz.prog 264 #[.int .u64 1, .int .u64 8] w fun e w' => e = .returned (.tuple #[.int .u64 0, .int .u64 8]) ∧ w = w' := by
  go_enter Tryz.func264, Tryz.ntmps264
  go_wp2_with fail
  refine (mul64_1_8 _).mono ?_
  rintro e w' ⟨rfl, rfl⟩
  go_wp2
  go_ret2
  exact ⟨rfl, rfl⟩
def ff8 : List UInt8 := [255, 255, 255, 255, 255, 255, 255, 255]
set_option maxHeartbeats 4000000 in
theorem repeat_any (A : Option Addr) (c : Nat) (S : SL W F w) (hr : At w w.heap.size A (Lib.byteCells [255])) :
    Calls Tryz.prog 257 #[.slice A 1 c, .int .i64 8] w fun e w' => ∃ A' c', e = .returned (.slice A' 8 c') ∧ SL W (rowT 5 1 (.slice A' 8 c') 8 (Lib.byteCells ff8) :: F) w' := by
  have HS := Lib.hid S
  have HA := Lib.hid hr
  obtain ⟨ab, ao, hA, hab, _⟩ := hr (by simp [Lib.byteCells])
  clear S hr
  obtain ⟨cs, hrun, hc1, hc2⟩ := Lib.run_makeNoZero (P := Tryz.prog) w Tryz.f265.params 50 5 Tryz.underlying50 8 (by decide)
  rw [show ((8 : Nat) : Int) = 8 from rfl] at hrun
  have HRUN := Lib.hid hrun
  have HC := Lib.hid (And.intro hc1 (hc2 (by decide)))
  clear hrun hc1 hc2
  go_enter Tryz.func257, Tryz.ntmps257
  go_wp2_with fail
  refine (mul_1_8 _).mono ?_
  rintro e w1 ⟨rfl, rfl⟩
  go_wp2_with fail
  rw [run_callFunc_extern Tryz.func265 (by kernel_rfl) (by kernel_rfl) (by kernel_rfl) (e := Extern.BytealgMakeNoZero.makeNoZero Tryz.f265.params #[50]) (by kernel_rfl), HRUN.out]
  simp only [Result.andThen]
  rw [Oper.upon_value]
  have HSL := Lib.hid ((HS.out.drew.drew).allocC cs 5)
  have H1 := Lib.hid HSL.out
  have HA1 := Lib.hid (show At (w.drew.drew.alloc (.cells cs 5)) w.heap.size (some ⟨ab, ao, none⟩) (Lib.byteCells [255]) by rw [← hA]; exact (show At w.drew.drew w.heap.size A (Lib.byteCells [255]) from HA.out).alloc (Nat.le_refl _) _)
  have H2 := Lib.hid (((HS.out.allocC cs 5).drew.drew).setRow (cs' := (Value.int IntKind.u8 255 :: cs.toList.tail).toArray))
  clear HSL HRUN HS
  have hcs : 8 ≤ cs.size := HC.out.1
  have hf8 : (Lib.byteCells [(255 : UInt8)]) = [.int .u8 255] := rfl
  obtain ⟨ab', ao', hA', _, hcell⟩ := HA1.out (by simp [Lib.byteCells])
  obtain ⟨rfl, rfl⟩ : ab = ab' ∧ ao = ao' := by injection hA' with h; injection h with h1 h2; exact ⟨h1, h2⟩
  have c0 := hcell 0 _ rfl
  have C0 := Lib.hid c0
  clear hcell c0 hA'
  go_wp2_with (refine wpList_copy_own rfl _ _ _ _ rfl 5 Tryz.underlying50 (by kernel_rfl) w.heap.size 0 8 8 ⟨ab, ao, none⟩ 1 c rfl rfl cs 5 H1.out.crow [.int .u8 255] rfl (by
                 intro j v hj
                 match j, hj with
                 | 0, hj => injection hj with hj; subst hj; rw [add_none]; exact C0.out) (by simp; omega) (by simp [Value.oneCell']) ?_)
  have hz2 : 8 ≤ ((Value.int IntKind.u8 255 :: cs.toList.tail).toArray).size ∧ ((Value.int IntKind.u8 255 :: cs.toList.tail).toArray).size ≤ maxLen := by
    have := HC.out.2
    simp; omega
  have hq2 : ∀ j, j < 1 → ((Value.int IntKind.u8 255 :: cs.toList.tail).toArray)[j]? = some (Value.int .u8 255) := by
    intro j hj
    obtain rfl : j = 0 := by omega
    simp
  have HQ := Lib.hid (And.intro hz2 hq2)
  clear hz2 hq2 H1 HA1 C0 HC hcs
  go_loopw [10] (fun i wr => ∃ (m : Nat) (cu : Array Value), 1 ≤ m ∧ m ≤ 8 ∧ i = .int .i64 m ∧ 8 ≤ cu.size ∧ cu.size ≤ maxLen ∧ (∀ j, j < m → cu[j]? = some (.int .u8 255)) ∧ SL W (cel w.heap.size cu 5 :: F) wr) (fun i _ => 8 - (intOf i).toNat)
  case atStart => exact ⟨1, _, Nat.le_refl _, by decide, rfl, HQ.out.1.1, HQ.out.1.2, HQ.out.2, H2.out⟩
  case round =>
    clear HQ
    obtain ⟨m, cu, h1, h2, rfl, h3, h4, h5, S1⟩ := hrel
    have H3 := Lib.hid S1
    have HQ := Lib.hid (And.intro h4 h5)
    clear S1 H2 h4 h5
    generalize w.heap.size = gb at *
    by_cases hlt : m < 8
    · have hmin : min (m : Int) 8 = (m : Int) := by omega
      have hn : ([List.replicate (min m (8 - m)) (Value.int .u8 255)].flatten).length = min m (8 - m) := by simp
      go_upto_region 20 with fail
      refine wp_region_order (fun wx => wx = wr.drew) [0, 1, 2, 3, 4, 5, 6] [] [] [] [7, 8, 9] (by kernel_rfl) (by kernel_rfl) rfl (by intro c a d v w h; cases d <;> exact h) ?_
      simp only [pick, List.filterMap_cons, List.filterMap_nil, List.getElem?_cons_zero, List.getElem?_cons_succ]
      have e1 : ((m : Int) ≤ 8) = True := eq_true (by omega)
      have e2 : (8 = m) = False := eq_false (by omega)
      (repeat (with_reducible refine wpPure_step ?_; intro K hK; go_simp; with_reducible refine hK _ ?_; clear hK K))
      refine wpPure_nil ?_
      refine wpLoads_nil (wpQuiet_nil ?_)
      intro wq hwq
      have H4 := Lib.hid (hwq ▸ H3.out.drew : SL W _ wq)
      clear hwq H3
      refine wpKeep_nil ?_
      show wpList _ _ _ _ _ _
      refine wpList_copy_own rfl _ _ _ _ rfl 5 Tryz.underlying50 (by kernel_rfl) gb m (8 - m) (8 - m) ⟨gb, 0, none⟩ m 8 rfl rfl cu 5 H4.out.crow (List.replicate (min m (8 - m)) (.int .u8 255)) (by simp) (by
                     intro j v hj
                     rw [List.getElem?_replicate] at hj
                     split at hj
                     · injection hj with hj; subst hj; rw [add_none, Nat.zero_add, H4.out.look.1]; exact HQ.out.2 j (by omega)
                     · cases hj) (by simp; omega) (by intro v hv; rw [List.eq_of_mem_replicate hv]; rfl) ?_
      have h6 := H4.out.setRow (cs' := (List.take m cu.toList ++ (List.replicate (min m (8 - m)) (Value.int IntKind.u8 255) ++ List.drop (m + (List.replicate (min m (8 - m)) (Value.int IntKind.u8 255)).length) cu.toList)).toArray)
      have hq : ∀ j, j < m + min m (8 - m) → ((List.take m cu.toList ++ (List.replicate (min m (8 - m)) (Value.int IntKind.u8 255) ++ List.drop (m + (List.replicate (min m (8 - m)) (Value.int IntKind.u8 255)).length) cu.toList)).toArray)[j]? = some (.int .u8 255) := by
        intro j hj
        rw [List.getElem?_toArray]
        by_cases h : j < m
        · rw [List.getElem?_append_left (by rw [List.length_take, Array.length_toList]; omega), List.getElem?_take, if_pos h, Array.getElem?_toList]
          exact HQ.out.2 j h
        · rw [List.getElem?_append_right (by rw [List.length_take, Array.length_toList]; omega), List.length_take, Nat.min_eq_left (show m ≤ cu.toList.length by rw [Array.length_toList]; omega), List.getElem?_append_left (by rw [List.length_replicate]; omega), List.getElem?_replicate, if_pos (by omega)]
      have hz : ((List.take m cu.toList ++ (List.replicate (min m (8 - m)) (Value.int IntKind.u8 255) ++ List.drop (m + (List.replicate (min m (8 - m)) (Value.int IntKind.u8 255)).length) cu.toList)).toArray).size = cu.size := by
        simp only [List.size_toArray, List.length_append, List.length_take, List.length_replicate, List.length_drop, Array.length_toList]
        omega
      have hz8 : 8 ≤ cu.size := h3
      generalize (List.take m cu.toList ++ (List.replicate (min m (8 - m)) (Value.int IntKind.u8 255) ++ List.drop (m + (List.replicate (min m (8 - m)) (Value.int IntKind.u8 255)).length) cu.toList)).toArray = cu2 at *
      refine name_world (P := fun W => wpList _ _ _ _ _ W) ?_
      intro wd hwd
      rw [← hwd] at h6
      have H6 := Lib.hid h6
      have HQ2 := Lib.hid (And.intro hq hz)
      have hlen : (((List.replicate (min m (8 - m)) (Value.int IntKind.u8 255)).length : Nat) : Int) = ((min m (8 - m) : Nat) : Int) := by simp
      have hmn : min m (8 - m) ≤ 8 - m ∧ 1 ≤ min m (8 - m) := by omega
      rw [hlen]
      clear hlen hwd h6 hq hz H4 e1 e2 hmin hn
      generalize min m (8 - m) = mm at *
      go_wp2
      go_roundw
      case rel => exact ⟨m + mm, cu2, by omega, by omega, by go_num, by rw [HQ2.out.2]; exact hz8, by rw [HQ2.out.2]; exact HQ.out.1, HQ2.out.1, H6.out⟩
      case measure => simp [intOf]; omega
    · obtain rfl : m = 8 := by omega
      go_wp2
      go_ret
      refine ⟨_, _, rfl, SL.head H3.out (rowT_pts rfl (Nat.le_refl _) (by decide) (by omega) (Or.inl rfl) ?_)⟩
      refine List.ext_getElem? fun j => ?_
      rw [List.getElem?_take, Array.getElem?_toList]
      by_cases h : j < 8
      · rw [if_pos (by omega), HQ.out.2 j h]
        have : j = 0 ∨ j = 1 ∨ j = 2 ∨ j = 3 ∨ j = 4 ∨ j = 5 ∨ j = 6 ∨ j = 7 := by omega
        rcases this with rfl | rfl | rfl | rfl | rfl | rfl | rfl | rfl <;> rfl
      · rw [if_neg (by omega), List.getElem?_eq_none (by show 8 ≤ j; omega)]
end
end Go.Proofs.YtfhpaehfihnjaaaGreat.D
namespace Go.Proofs.YtfhpaehfihnjaaaGreat.D
open Go.RowKit
def halfL (n : Nat) : List UInt8 := [UInt8.ofNat (n / 256), UInt8.ofNat (n % 256)]
def encR (c h : Nat) (x : Rec) : List UInt8 := halfL c ++ halfL h ++ [UInt8.ofNat x.r.toNat, UInt8.ofNat x.key.length] ++ halfL x.data.length ++ x.key ++ x.data
def encL (c h : Nat) (rs : List Rec) : List UInt8 := rs.flatMap (encR c h)
section
variable {W w : World} {F : List SA}
set_option maxRecDepth 10000 in
theorem half_cells (n : Nat) (h : n ≤ 65535) : Lib.byteCells (halfL n) = [.int .u8 ((n : Int) / 256), .int .u8 ((n : Int) % 256)] := by
  have h1 : ((UInt8.ofNat (n / 256)).toNat : Int) = (n : Int) / 256 := by rw [UInt8.toNat_ofNat']; omega
  have h2 : ((UInt8.ofNat (n % 256)).toNat : Int) = (n : Int) % 256 := by rw [UInt8.toNat_ofNat']; omega
  show [Value.int .u8 ((UInt8.ofNat (n / 256)).toNat : Int), Value.int .u8 ((UInt8.ofNat (n % 256)).toNat : Int)] = _
  rw [h1, h2]
theorem byteCells_app (a b : List UInt8) : Lib.byteCells (a ++ b) = Lib.byteCells a ++ Lib.byteCells b := by simp [Lib.byteCells]
theorem _root_.Go.Proofs.YtfhpaehfihnjaaaGreat.SL.atT {e : TypeId} {size n c : Nat} {A : Option Addr} {xs : List Value} (S : SL W (rowT e size (.slice A n c) n xs :: F) w) : At w w.heap.size A xs := fun hne => by
  obtain ⟨x, l, rfl⟩ := List.exists_cons_of_ne_nil hne
  obtain ⟨b, hA, _, c0⟩ := S.cellT (j := 0) (u := x) rfl
  refine ⟨b, 0, hA, World.block_lt_of_cell? w _ c0, fun j u hu => ?_⟩
  obtain ⟨b2, hA2, _, cj⟩ := S.cellT hu
  rw [hA] at hA2
  injection hA2 with h
  injection h with h
  subst h
  rw [Nat.zero_add]
  exact cj
set_option maxHeartbeats 2000000 in
theorem half_any (v : Value) (l : List UInt8) (m n : Nat) (S : SL W (rowS 5 1 v m (Lib.byteCells l) :: F) w) (hn : n ≤ 65535) (hl : m ≤ 1073741824) :
    Calls Tryz.prog 256 #[v, .int .i64 (n : Int)] w fun e w' => ∃ A c, e = .returned (.slice A (m + 2) c) ∧ SL W (rowS 5 1 (.slice A (m + 2) c) (m + 2) (Lib.byteCells (l ++ halfL n)) :: F) w' := by
  have HS := Lib.hid S
  obtain ⟨A0, c0, rfl, _, _⟩ := own_slice S.own
  clear S
  have hc := half_cells n hn
  go_enter Tryz.func256, Tryz.ntmps256
  have HC := Lib.hid hc
  clear hc
  go_wp2_with (at_builtin; refine wpList_pushS rfl _ _ _ rfl bElem w [.int .u8 ((n : Int) / 256), .int .u8 ((n : Int) % 256)] 2 rfl rfl (by simp [Value.oneCell']) _ m _ rfl rfl HS.out (by unfold maxLen; omega) (by omega) ?_
               intro A6 c6 w6 S6
               have H6 := Lib.hid S6
               clear S6)
  go_ret
  refine ⟨_, _, rfl, ?_⟩
  rw [byteCells_app, HC.out]
  exact H6.out
end
end Go.Proofs.YtfhpaehfihnjaaaGreat.D
namespace Go.Proofs.YtfhpaehfihnjaaaGreat.D
open Go.RowKit
def encE (c h : Int) (rs : List Rec) : Nat := if 0 ≤ c ∧ c ≤ 65535 ∧ 0 ≤ h ∧ h ≤ 65535 then (if validB rs && !(rs.any Rec.bad) then 0 else 1) else 6
def encB (c h : Int) (rs : List Rec) : List UInt8 := if encE c h rs = 0 then encL c.toNat h.toNat rs ++ ff8 else []
def RetBy (W : World) (F : List SA) (l : List UInt8) (er : Nat) (e : Ending) (w' : World) : Prop :=
  ∃ A c, e = .returned (.tuple #[.slice A l.length c, .int .i64 (er : Int)]) ∧ SL W (rowS 5 1 (.slice A l.length c) l.length (Lib.byteCells l) :: F) w'
theorem encR_len {c h : Nat} {x : Rec} : (encR c h x).length = 8 + x.key.length + x.data.length := by simp [encR, halfL]; omega
theorem encL_len {c h : Nat} : ∀ {rs : List Rec}, (encL c h rs).length ≤ usedN rs
  | [] => by simp [encL]
  | x :: rs => by
    have ih := encL_len (c := c) (h := h) (rs := rs)
    unfold encL usedN at *
    simp only [List.flatMap_cons, List.length_append, List.map_cons, List.sum_cons, encR_len, Rec.cost, costN]
    split <;> omega
theorem encL_take {c h : Nat} {rs : List Rec} {k : Nat} {x : Rec} (hx : rs[k]? = some x) : encL c h (rs.take (k + 1)) = encL c h (rs.take k) ++ encR c h x := by
  rw [List.take_add_one, hx]; simp [encL]
theorem used_take {rs : List Rec} (k : Nat) : usedN (rs.take k) ≤ usedN rs := by
  have h := usedN_app (rs.take k) (rs.drop k)
  rw [List.take_append_drop] at h
  omega
theorem used_mem {rs : List Rec} {k : Nat} {x : Rec} (hx : rs[k]? = some x) : x.cost ≤ usedN rs := by
  have h := usedN_take hx
  have := used_take (rs := rs) (k + 1)
  omega
theorem valid_rec {rs : List Rec} (hv : validB rs = true) {k : Nat} {x : Rec} (hx : rs[k]? = some x) : 1 ≤ x.r ∧ x.r ≤ 255 ∧ x.key.length ≤ 255 ∧ x.data.length ≤ 2016 := by
  obtain ⟨h1, h2⟩ := validB_iff.1 hv
  have h3 := h1 k (List.getElem?_eq_some_iff.1 hx).1
  have h4 : x.valid = true := by
    unfold okAt at h3
    rw [hx] at h3
    simp only [Bool.and_eq_true] at h3
    exact h3.1
  unfold Rec.valid valid1 at h4
  simp only [Bool.and_eq_true, decide_eq_true_iff] at h4
  have h5 := used_mem hx
  unfold Rec.cost costN at h5
  refine ⟨h4.1.1, h4.1.2, h4.2, ?_⟩
  split at h5 <;> omega
section
variable {W w : World} {F : List SA}
theorem RetBy.nil {w' : World} {er : Nat} {i : Int} (S : SL W F w') (h : (er : Int) = i) : RetBy W F [] er (.returned (.tuple #[.slice none 0 0, .int .i64 i])) w' :=
  ⟨none, 0, by rw [h]; rfl, S.nil _ _⟩
set_option maxHeartbeats 1000000 in
theorem bad1_any (x : Rec) (Ak Ad : Option Addr) (ck cd : Nat) (w : World) :
    Calls Tryz.prog 255 #[.agg #[.int .i64 x.r, .slice Ak x.key.length ck, .slice Ad x.data.length cd, .bool x.bad]] w fun e w' => e = .returned (.bool x.bad) ∧ Below w.heap.size w w' := by
  go_enter Tryz.func255, Tryz.ntmps255
  go_wp2
  go_ret
  exact ⟨rfl, by (repeat' (first | (with_reducible exact Below.refl _ _) | (with_reducible assumption) | (with_reducible refine below_drewN ?_ _) | (with_reducible refine Below.drew ?_) | (with_reducible refine Below.alloc ?_ ?_ _) | (with_reducible refine Below.setCell ?_ ?_ _) | (with_reducible refine below_row ?_ ?_ _) | (with_reducible exact Nat.le_refl _) | omega | (simp only [World.size_alloc, World.size_setCell, World.size_drew, World.size_drewN]; omega) | (simp; done) | (simp; omega)))⟩
set_option maxHeartbeats 4000000 in
theorem indexB_any (A : Option Addr) (rs : List Rec) (c : Nat) (w : World) (hr : RecsAt w A rs) (hl : rs.length ≤ maxLen) :
    Calls Tryz.prog 235 #[.slice A rs.length c, .func (.func 255) #[] #[]] w fun e w' => e = .returned (.int .i64 (idxV (rs.findIdx? Rec.bad))) ∧ Below w.heap.size w w' := by
  have HR := Lib.hid hr
  have hfl : rs.length ≤ 9223372036854775807 := by unfold maxLen at hl; omega
  clear hr hl
  go_enter Tryz.func235, Tryz.ntmps235
  go_wp2
  go_loopw [8] (fun i wr => ∃ k : Nat, k ≤ rs.length ∧ i = .int .i64 k ∧ (∀ j y, j < k → rs[j]? = some y → y.bad = false) ∧ Below w.heap.size w wr) (fun i _ => rs.length - (intOf i).toNat)
  case atStart => exact ⟨0, Nat.zero_le _, rfl, fun j y h => absurd h (by omega), Below.refl _ _⟩
  case round =>
    obtain ⟨k, hk, rfl, hok, b1⟩ := hrel
    have B1 := Lib.hid b1
    have HOK := Lib.hid hok
    clear b1 hok
    by_cases hlt : k < rs.length
    · have hx : rs[k]? = some rs[k] := by simp [hlt]
      generalize rs[k] = x at hx
      obtain ⟨g, off, Ak, ck, Ad, cd, hA, k0, k1, k2, k3, a1, _⟩ := HR.out.grow B1.out k x hx
      subst hA
      have HX := Lib.hid hx
      have HK := Lib.hid (bad1_any x Ak Ad ck cd wr)
      clear hx a1
      go_wp2_with fail
      refine HK.out.mono ?_
      rintro e w2 ⟨rfl, b2⟩
      have B2 := Lib.hid (B1.out.trans (b2.mono B1.out.size))
      clear b2 k0 k1 k2 k3 HK
      cases hp : x.bad
      · have HP := Lib.hid hp
        clear hp
        go_wp2
        go_roundw
        case rel => exact ⟨k + 1, by omega, by go_num, fun j y hj hy => (by
          rcases Nat.lt_succ_iff_lt_or_eq.1 hj with h | rfl
          · exact HOK.out j y h hy
          · have hx := HX.out
            rw [hy] at hx; injection hx with hx; subst hx; exact HP.out), B2.out⟩
        case measure => simp [intOf]; omega
      · have HF := Lib.hid (show rs.findIdx? Rec.bad = some k from findIdx_some HX.out hp HOK.out)
        clear hp
        go_wp2
        go_ret
        exact ⟨by rw [HF.out]; rfl, B2.out⟩
    · obtain rfl : k = rs.length := by omega
      have HF := Lib.hid (show rs.findIdx? Rec.bad = none from findIdx_none HOK.out)
      go_wp2
      go_ret
      exact ⟨by rw [HF.out]; rfl, B1.out⟩
theorem anyIdx {rs : List Rec} : decide ((0 : Int) ≤ idxV (rs.findIdx? Rec.bad)) = rs.any Rec.bad := by
  cases h : rs.findIdx? Rec.bad with
  | none =>
    have h2 := List.findIdx?_eq_none_iff.1 h
    have : rs.any Rec.bad = false := List.any_eq_false.2 fun x hx => by simp [h2 x hx]
    rw [this]; rfl
  | some i =>
    rw [List.findIdx?_eq_some_iff_getElem] at h
    obtain ⟨hi, hb, _⟩ := h
    have : rs.any Rec.bad = true := List.any_eq_true.2 ⟨_, List.getElem_mem hi, hb⟩
    rw [this]
    exact decide_eq_true (by show (0 : Int) ≤ (i : Int); omega)
set_option maxHeartbeats 2000000 in
theorem contains_any (A : Option Addr) (rs : List Rec) (c : Nat) (w : World) (hr : RecsAt w A rs) (hl : rs.length ≤ maxLen) :
    Calls Tryz.prog 254 #[.slice A rs.length c, .func (.func 255) #[] #[]] w fun e w' => e = .returned (.bool (rs.any Rec.bad)) ∧ Below w.heap.size w w' := by
  have HI := Lib.hid (indexB_any A rs c w hr hl)
  have HN := Lib.hid (anyIdx (rs := rs))
  generalize idxV (rs.findIdx? Rec.bad) = i at *
  clear hr
  go_enter Tryz.func254, Tryz.ntmps254
  go_wp2_with fail
  refine HI.out.mono ?_
  rintro e w2 ⟨rfl, b2⟩
  have B2 := Lib.hid b2
  clear b2 HI
  go_wp2
  go_ret
  exact ⟨by rw [← HN.out]; rfl, B2.out⟩
set_option maxHeartbeats 8000000 in
theorem encode_any (A : Option Addr) (rs : List Rec) (c : Nat) (cy hd : Int) (S : SL W F w) (hr : RecsAt w A rs) (hf : Fit rs) :
    Calls Tryz.prog 247 #[.int .i64 cy, .int .i64 hd, .slice A rs.length c] w (RetBy W F (encB cy hd rs) (encE cy hd rs)) := by
  have HS := Lib.hid S
  have HR := Lib.hid hr
  have HF := Lib.hid hf
  have hfl := hf.1
  clear S hr hf
  by_cases hrange : 0 ≤ cy ∧ cy ≤ 65535 ∧ 0 ≤ hd ∧ hd ≤ 65535
  · have HE := Lib.hid (show encE cy hd rs = if validB rs && !(rs.any Rec.bad) then 0 else 1 by unfold encE; rw [if_pos hrange])
    obtain ⟨a1, a2, a3, a4⟩ := hrange
    obtain ⟨cn, rfl⟩ : ∃ n : Nat, cy = n := ⟨cy.toNat, by omega⟩
    obtain ⟨hn, rfl⟩ : ∃ n : Nat, hd = n := ⟨hd.toNat, by omega⟩
    go_enter Tryz.func247, Tryz.ntmps247
    go_wp2_with fail
    refine (valid_any A rs c _ HR.out HF.out).mono ?_
    rintro e w1 ⟨rfl, b1⟩
    have B1 := Lib.hid b1
    clear b1
    cases hv : validB rs
    · have HE2 := Lib.hid (show encE cn hn rs = 1 by rw [HE.out, hv]; rfl)
      have HP := Lib.hid (show encB cn hn rs = [] by unfold encB; rw [HE2.out]; rfl)
      clear hv
      go_wp2
      go_ret2
      rw [HE2.out, HP.out]
      exact RetBy.nil (HS.out.grow B1.out) rfl
    have HV := Lib.hid hv
    clear hv
    go_wp2_with fail
    refine (contains_any A rs c w1 (HR.out.grow B1.out) (by unfold maxLen; omega)).mono ?_
    rintro e w2 ⟨rfl, b2⟩
    have B2 := Lib.hid (B1.out.trans (b2.mono B1.out.size))
    clear b2 B1
    cases hb : rs.any Rec.bad
    case true =>
      have HE2 := Lib.hid (show encE cn hn rs = 1 by rw [HE.out, hb, HV.out]; rfl)
      have HP := Lib.hid (show encB cn hn rs = [] by unfold encB; rw [HE2.out]; rfl)
      clear hb
      go_wp2
      go_ret2
      rw [HE2.out, HP.out]
      exact RetBy.nil (HS.out.grow B2.out) rfl
    have HE2 := Lib.hid (show encE cn hn rs = 0 by rw [HE.out, hb, HV.out]; rfl)
    have HP := Lib.hid (show encB cn hn rs = encL cn hn rs ++ ff8 by unfold encB; rw [HE2.out]; rfl)
    have HU := Lib.hid ((validB_iff.1 HV.out).2)
    clear hb
    go_wp2
    go_loopw [8, 34] (fun b i wr => ∃ (k : Nat) (A3 : Option Addr) (c3 : Nat) (l : List UInt8), k ≤ rs.length ∧ i = .int .i64 k ∧ l = encL cn hn (rs.take k) ∧ b = .slice A3 l.length c3 ∧
      SL w (rowS 5 1 (.slice A3 l.length c3) l.length (Lib.byteCells l) :: []) wr) (fun _ i _ => rs.length - (intOf i).toNat)
    case atStart => exact ⟨0, none, 0, [], Nat.zero_le _, rfl, rfl, rfl, ((SL.start w).grow B2.out).nil _ _⟩
    case round =>
      obtain ⟨k, A3, c3, l, hk, rfl, hl, rfl, S1⟩ := hrel
      have H1 := Lib.hid S1
      have hll : l.length ≤ 2048 := by
        rw [hl]
        have h1 := encL_len (c := cn) (h := hn) (rs := rs.take k)
        have h2 := used_take (rs := rs) k
        have h3 := HU.out
        omega
      have HL := Lib.hid hl
      clear S1 hl
      by_cases hlt : k < rs.length
      · have hb : rs[k]? = some rs[k] := by simp [hlt]
        generalize rs[k] = y at hb
        obtain ⟨g, off, Bk, dk, Bd, dd, hA, k0, k1, k2, k3, a1, a2⟩ := (RecsB.base HR.out _) wr H1.out k y hb
        subst hA
        obtain ⟨v1, v2, v3, v4⟩ := valid_rec HV.out hb
        have HLN := Lib.hid (show l ++ encR cn hn y = encL cn hn (rs.take (k + 1)) by rw [HL.out, encL_take hb])
        have HA := Lib.hid (And.intro a1 a2)
        clear hb a1 a2
        go_wp2_with fail
        refine (half_any _ l l.length cn (H1.out.allocC _ _).s1 (by omega) (by omega)).mono ?_
        rintro e w3 ⟨A4, c4, rfl, S3⟩
        have H3 := Lib.hid S3
        clear S3 H1 k0 k1 k2 k3
        generalize wr.heap.size = yb at *
        go_wp2_with fail
        refine (half_any _ (l ++ halfL cn) (l.length + 2) hn H3.out (by omega) (by omega)).mono ?_
        rintro e w4 ⟨A5, c5, rfl, S4⟩
        have H4 := Lib.hid S4
        clear S4 H3
        rw [show l.length + 2 + 2 = l.length + 4 from rfl] at *
        have hx1 : IntKind.u8.wrap y.r = y.r := by rw [IntKind.wrap_u8]; omega
        have hx2 : IntKind.u8.wrap (y.key.length : Int) = (y.key.length : Int) := by rw [IntKind.wrap_u8]; omega
        go_upto_region 10 with fail
        refine wp_region_order2 (fun wx => wx = w4.drew) (SL w [cel yb #[.int .i64 y.r, .slice Bk y.key.length dk, .slice Bd y.data.length dd, .bool y.bad] 188]) (fun wx e => SL.cast e H4.out.s1.only.drew) [0, 1, 4, 10] [2, 3, 5, 6, 7, 11, 12] [] [8, 9] [13, 14] (by kernel_rfl) (by kernel_rfl) rfl (by intro c a d v w h; cases d <;> exact h) ?_
        simp only [pick, List.filterMap_cons, List.filterMap_nil, List.getElem?_cons_zero, List.getElem?_cons_succ]
        (repeat (with_reducible refine wpPure_step ?_; intro K hK; go_simp; with_reducible refine hK _ ?_; clear hK K))
        refine wpPure_nil ?_
        (repeat (with_reducible refine wpLoads_step ?_; intro K hK; go_simp; first | (with_reducible refine hK _ ?_; clear hK K) | (rw [if_neg (by decide)]; with_reducible refine hK _ ?_; clear hK K) | (refine ⟨_, fun wx hx => (by obtain ⟨f0, f1, f2⟩ := hx.look; go_simp; with_reducible rfl), hK _ ?_⟩; clear hK K) | (refine ⟨_, fun _ _ => rfl, hK _ ?_⟩; clear hK K))); with_reducible refine wpLoads_nil ?_
        refine wpQuiet_nil ?_
        intro wq hwq
        subst hwq
        (with_reducible refine wpKeep_step ?_; intro K hK; go_simp)
        refine hK _ _ (H4.out.allocC _ _).s2.only.drew ?_
        clear hK K
        with_reducible refine wpKeep_step ?_
        intro K hK
        refine step_pushS (by rfl) _ _ _ (by rfl) bElem w4.drew [.int .u8 y.r, .int .u8 (y.key.length : Int)] 2 (by rfl) rfl (by simp [Value.oneCell']) _ (l.length + 4) _ (by rfl) (by rfl) H4.out.drew (by unfold maxLen; omega) (by omega) ?_
        intro A6 c6 w6 S6
        have HBY := Lib.hid (show Lib.byteCells [UInt8.ofNat y.r.toNat, UInt8.ofNat y.key.length] = [.int .u8 y.r, .int .u8 (y.key.length : Int)] by
          have h1 : ((UInt8.ofNat y.r.toNat).toNat : Int) = y.r := by rw [UInt8.toNat_ofNat']; omega
          have h2 : ((UInt8.ofNat y.key.length).toNat : Int) = (y.key.length : Int) := by rw [UInt8.toNat_ofNat']; omega
          show [Value.int .u8 ((UInt8.ofNat y.r.toNat).toNat : Int), Value.int .u8 ((UInt8.ofNat y.key.length).toNat : Int)] = _
          rw [h1, h2])
        refine hK _ _ S6.s1.only ?_
        clear hK K
        rw [← HBY.out, ← byteCells_app, show l.length + 4 + 2 = l.length + 6 from rfl] at S6
        have H6 := Lib.hid S6
        clear S6 H4 HBY hx1 hx2
        refine wpKeep_nil ?_
        rw [show l.length + 4 + 2 = l.length + 6 from rfl]
        show wpList _ _ _ _ _ _
        go_wp2_with fail
        refine (half_any _ _ (l.length + 6) y.data.length H6.out (by omega) (by omega)).mono ?_
        rintro e w7 ⟨A7, c7, rfl, S7⟩
        rw [show l.length + 6 + 2 = l.length + 8 from rfl] at *
        have H7 := Lib.hid S7
        clear S7 H6
        go_upto_region 11 with fail
        refine wp_region_order2 (fun wx => wx = w7.drew) (SL w [cel yb #[.int .i64 y.r, .slice Bk y.key.length dk, .slice Bd y.data.length dd, .bool y.bad] 188]) (fun wx e => SL.cast e H7.out.s1.only.drew) [0, 1, 4] [2, 5] [] [3] [6, 7] (by kernel_rfl) (by kernel_rfl) rfl (by intro c a d v w h; cases d <;> exact h) ?_
        simp only [pick, List.filterMap_cons, List.filterMap_nil, List.getElem?_cons_zero, List.getElem?_cons_succ]
        (repeat (with_reducible refine wpPure_step ?_; intro K hK; go_simp; with_reducible refine hK _ ?_; clear hK K))
        refine wpPure_nil ?_
        (repeat (with_reducible refine wpLoads_step ?_; intro K hK; go_simp; first | (with_reducible refine hK _ ?_; clear hK K) | (rw [if_neg (by decide)]; with_reducible refine hK _ ?_; clear hK K) | (refine ⟨_, fun wx hx => (by obtain ⟨f0, f1, f2⟩ := hx.look; go_simp; with_reducible rfl), hK _ ?_⟩; clear hK K) | (refine ⟨_, fun _ _ => rfl, hK _ ?_⟩; clear hK K))); with_reducible refine wpLoads_nil ?_
        refine wpQuiet_nil ?_
        intro wq hwq
        subst hwq
        with_reducible refine wpKeep_step ?_
        intro K hK
        have HKK := Lib.hid (HA.out.1.grow H7.out.1)
        refine step_appS (by rfl) _ _ _ (by rfl) bElem _ (l.length + 8) _ (by rfl) H7.out.drew _ Bk y.key.length dk (Lib.byteCells y.key) (by rfl) HKK.out.1 (by rw [byteCells_len, Nat.mul_one]) (byteCells_one _) (by unfold maxLen; omega) (by omega) ?_
        intro A8 c8 w8 S8
        refine hK _ _ S8.s1.only ?_
        clear hK K
        rw [← byteCells_app] at S8
        have H8 := Lib.hid S8
        clear S8 H7 HKK
        refine wpKeep_nil ?_
        show wpList _ _ _ _ _ _
        have HKK := Lib.hid (HA.out.2.grow H8.out.1)
        refine wpList_appS rfl _ _ _ rfl bElem _ (l.length + 8 + y.key.length) _ rfl H8.out _ Bd y.data.length dd (Lib.byteCells y.data) rfl HKK.out.1 (by rw [byteCells_len, Nat.mul_one]) (byteCells_one _) (by unfold maxLen; omega) (by omega) ?_
        intro A9 c9 w9 S9
        rw [← byteCells_app] at S9
        have H9 := Lib.hid S9
        clear S9 H8 HKK
        go_wp2
        go_roundw
        case rel =>
          have hn9 : (l ++ encR cn hn y).length = l.length + 8 + y.key.length + y.data.length := by rw [List.length_append, encR_len]; omega
          refine ⟨k + 1, A9, c9, l ++ encR cn hn y, by omega, by go_num, HLN.out, by rw [hn9], ?_⟩
          rw [hn9]
          have h := H9.out.s1.drop
          simp only [List.append_assoc] at h
          simp only [encR, List.append_assoc]
          exact h
        case measure => simp [intOf]; omega
      · obtain rfl : k = rs.length := by omega
        have HQ := Lib.hid (show encB cn hn rs = l ++ ff8 by rw [HP.out, HL.out, List.take_of_length_le (Nat.le_refl _)])
        clear HL HP
        go_wp2_with fail
        refine (repeat_any (some ⟨wr.heap.size, 0, none⟩) 1 (SL.lit H1.out #[.int .u8 255] 5 1 1 rfl (by decide)) (by rw [World.size_alloc]; exact at_lit wr [255] 5)).mono ?_
        rintro e w2 ⟨A2, c2, rfl, S2⟩
        have HAT := Lib.hid (S2.atT)
        have H2 := Lib.hid S2.s2
        clear S2 H1
        go_wp2_with (at_builtin; refine wpList_appS rfl _ _ _ rfl bElem _ l.length _ rfl H2.out _ A2 8 c2 (Lib.byteCells ff8) rfl HAT.out rfl (byteCells_one _) (by unfold maxLen; omega) (by omega) ?_
                     intro A9 c9 w9 S9
                     rw [← byteCells_app] at S9
                     have H9 := Lib.hid S9
                     clear S9 H2 HAT)
        go_ret2
        rw [HE2.out, HQ.out]
        exact ⟨A9, c9, by rw [List.length_append]; rfl, by rw [List.length_append]; exact HS.out.join H9.out.only⟩
  · have HE2 := Lib.hid (show encE cy hd rs = 6 by unfold encE; rw [if_neg hrange])
    have HP := Lib.hid (show encB cy hd rs = [] by unfold encB; rw [HE2.out]; rfl)
    have hcases : cy < 0 ∨ (0 ≤ cy ∧ 65535 < cy) ∨ ((0 ≤ cy ∧ cy ≤ 65535) ∧ hd < 0) ∨ ((0 ≤ cy ∧ cy ≤ 65535) ∧ (0 ≤ hd ∧ 65535 < hd)) := by omega
    clear hrange
    go_enter Tryz.func247, Tryz.ntmps247
    rcases hcases with h1 | ⟨h1, h2⟩ | ⟨⟨h1, h2⟩, h3⟩ | ⟨⟨h1, h2⟩, h3, h4⟩
    all_goals
      go_wp2
      go_ret2
      rw [HE2.out, HP.out]
      exact RetBy.nil HS.out rfl
end
end Go.Proofs.YtfhpaehfihnjaaaGreat.D
namespace Go.Proofs.YtfhpaehfihnjaaaGreat.D
open Go.RowKit
def fitsB (len : Nat) (at_ n : Int) : Bool := decide (0 ≤ at_) && decide (at_ ≤ (len : Int) - n)
theorem fitsB_yes {len : Nat} {at_ n : Int} (h0 : 0 ≤ at_) (h : at_ ≤ (len : Int) - n) : fitsB len at_ n = true := by simp [fitsB, h0, h]
theorem fitsB_no {len : Nat} {at_ n : Int} (h : ¬ (0 ≤ at_ ∧ at_ ≤ (len : Int) - n)) : fitsB len at_ n = false := by
  cases hb : fitsB len at_ n
  · rfl
  · simp [fitsB] at hb; exact absurd hb h
def half32 (x y : UInt8) : Int := wrap32 (bits BinOp.or IntKind.i16 (IntKind.i16.wrap (IntKind.i16.wrap (x.toNat : Int) * 256)) (IntKind.i16.wrap (y.toNat : Int))) % 4294967296
theorem i16_wrap (n : Int) : IntKind.i16.wrap n = (n + 32768) % 65536 - 32768 := by
  simp only [IntKind.wrap, IntKind.signed, IntKind.bits]
  simp
  split <;> omega
theorem half32_eq (x y : UInt8) : half32 x y = if x.toNat < 128 then ((x.toNat * 256 + y.toNat : Nat) : Int) else ((x.toNat * 256 + y.toNat : Nat) : Int) + 4294901760 := by
  have hx := x.toNat_lt
  have hy := y.toNat_lt
  unfold half32
  have h1 : (BitVec.ofInt 16 (IntKind.i16.wrap (IntKind.i16.wrap (x.toNat : Int) * 256))).toNat = x.toNat * 256 := by
    rw [BitVec.toNat_ofInt, i16_wrap, i16_wrap]
    omega
  have h2 : (BitVec.ofInt 16 (IntKind.i16.wrap (y.toNat : Int))).toNat = y.toNat := by
    rw [BitVec.toNat_ofInt, i16_wrap]
    omega
  have h3 : bits BinOp.or IntKind.i16 (IntKind.i16.wrap (IntKind.i16.wrap (x.toNat : Int) * 256)) (IntKind.i16.wrap (y.toNat : Int)) = IntKind.i16.wrap ((x.toNat * 256 + y.toNat : Nat) : Int) := by
    show IntKind.i16.wrap (((BitVec.ofInt 16 _ ||| BitVec.ofInt 16 _).toNat : Nat) : Int) = _
    rw [BitVec.toNat_or, h1, h2, nat_join 8 _ _ (by omega) (by omega)]
  rw [h3, i16_wrap]
  unfold wrap32
  split <;> omega
theorem half_low (x y : UInt8) : bits .and .u32 (half32 x y) 65535 = ((x.toNat * 256 + y.toNat : Nat) : Int) ∧ 0 ≤ half32 x y ∧ half32 x y < 4294967296 := by
  have hx := x.toNat_lt
  have hy := y.toNat_lt
  have key : ∀ n : Nat, n < 4294967296 → bits .and .u32 (n : Int) 65535 = ((n % 65536 : Nat) : Int) := fun n hn => by
    rw [show (65535 : Int) = ((65535 : Nat) : Int) from rfl, u32_and_nat n 65535 hn (by omega)]
    congr 1
    exact Nat.and_two_pow_sub_one_eq_mod n 16
  rw [half32_eq]
  split
  · exact ⟨by rw [key _ (by omega)]; omega, by omega, by omega⟩
  · rw [show ((x.toNat * 256 + y.toNat : Nat) : Int) + 4294901760 = ((x.toNat * 256 + y.toNat + 4294901760 : Nat) : Int) by omega]
    exact ⟨by rw [key _ (by omega)]; omega, by omega, by omega⟩
def hN (l : List UInt8) (i : Nat) : Nat := 256 * (l.getD i 0).toNat + (l.getD (i + 1) 0).toNat
theorem hN_lt (l : List UInt8) (i : Nat) : hN l i ≤ 65535 := by
  unfold hN
  have h1 := (l.getD i 0).toNat_lt
  have h2 := (l.getD (i + 1) 0).toNat_lt
  omega
theorem hN_eq {l : List UInt8} {i : Nat} (h : i + 1 < l.length) : l[i].toNat * 256 + l[i + 1].toNat = hN l i := by
  unfold hN
  rw [List.getD_eq_getElem?_getD, List.getD_eq_getElem?_getD, List.getElem?_eq_getElem h, List.getElem?_eq_getElem (by omega)]
  simp only [Option.getD_some]; omega
section
variable {W w : World} {F : List SA}
theorem byte_cell {w : World} {A : Option Addr} {l : List UInt8} {i : Nat} (hr : At w w.heap.size A (Lib.byteCells l)) (hi : i < l.length) : ∃ b off, A = some ⟨b, off, none⟩ ∧ w.cell? ⟨b, off + i, none⟩ = some (.int .u8 ((l.getD i 0).toNat : Int)) := by
  obtain ⟨b, off, hA, _, hc⟩ := hr.cell (byteCells_get l i hi)
  refine ⟨b, off, hA, ?_⟩
  rw [hc, List.getD_eq_getElem?_getD, List.getElem?_eq_getElem hi]; rfl
end
end Go.Proofs.YtfhpaehfihnjaaaGreat.D
namespace Go.Proofs.YtfhpaehfihnjaaaGreat.D
open Go.RowKit
def kl (r : List UInt8) : Nat := (r.getD 5 0).toNat
def dl (r : List UInt8) : Nat := hN r 6
def pend (r : List UInt8) : Nat := 8 + kl r + dl r
def recOf (r : List UInt8) : Rec := ⟨((r.getD 4 0).toNat : Int), (r.drop 8).take (kl r), (r.drop (8 + kl r)).take (dl r), false⟩
def goP (t : List Rec) (cy hd : Nat) (r : List UInt8) : Option (Nat × Nat × List Rec × List UInt8) :=
  if h : 8 < r.length then
    if hN r 0 ≠ (if t.length = 0 then hN r 0 else cy) ∨ hN r 2 ≠ (if t.length = 0 then hN r 2 else hd) ∨ r.length < pend r then none
    else goP (t ++ [recOf r]) (if t.length = 0 then hN r 0 else cy) (if t.length = 0 then hN r 2 else hd) (r.drop (pend r))
  else some (cy, hd, t, r)
termination_by r.length
decreasing_by rw [List.length_drop]; unfold pend; omega
def goQ (t : List Rec) (cy hd : Nat) (r : List UInt8) : Option (Nat × Nat × List Rec × List UInt8) :=
  if h : 8 < r.length then
    if r.length < pend r then none
    else goQ (t ++ [recOf r]) (if t.length = 0 then hN r 0 else cy) (if t.length = 0 then hN r 2 else hd) (r.drop (pend r))
  else some (cy, hd, t, r)
termination_by r.length
decreasing_by rw [List.length_drop]; unfold pend; omega
def decP (b : List UInt8) : Option (Nat × Nat × List Rec) := match goP [] 0 0 b with
  | none => none
  | some (cy, hd, t, r) => if r.length = 8 ∧ validB t = true ∧ r.all (· == 255) = true then some (cy, hd, t) else none
def decQ (b : List UInt8) : Option (Nat × Nat × List Rec) := match goQ [] 0 0 b with
  | none => none
  | some (cy, hd, t, _) => if encE cy hd t = 0 ∧ encB cy hd t = b then some (cy, hd, t) else none
theorem getD_of {l : List UInt8} {i : Nat} (h : i < l.length) : l.getD i 0 = l[i] := by rw [List.getD_eq_getElem?_getD, List.getElem?_eq_getElem h]; rfl
theorem halfL_hN {l : List UInt8} {i : Nat} : halfL (hN l i) = [l.getD i 0, l.getD (i + 1) 0] := by
  have h1 := (l.getD i 0).toNat_lt
  have h2 := (l.getD (i + 1) 0).toNat_lt
  unfold halfL hN
  rw [show (256 * (l.getD i 0).toNat + (l.getD (i + 1) 0).toNat) / 256 = (l.getD i 0).toNat by omega, show (256 * (l.getD i 0).toNat + (l.getD (i + 1) 0).toNat) % 256 = (l.getD (i + 1) 0).toNat by omega, UInt8.ofNat_toNat, UInt8.ofNat_toNat]
theorem drop_cons {l : List UInt8} {i : Nat} (h : i < l.length) : l.drop i = l.getD i 0 :: l.drop (i + 1) := by rw [getD_of h, List.drop_eq_getElem_cons h]
theorem recOf_len {r : List UInt8} (h : pend r ≤ r.length) : (recOf r).key.length = kl r ∧ (recOf r).data.length = dl r := by
  unfold pend at h
  simp only [recOf, List.length_take, List.length_drop]
  omega
theorem enc_recOf {r : List UInt8} (h8 : 8 < r.length) (h : pend r ≤ r.length) : encR (hN r 0) (hN r 2) (recOf r) ++ r.drop (pend r) = r := by
  obtain ⟨e1, e2⟩ := recOf_len h
  have hk := (r.getD 5 0).toNat_lt
  have e3 : UInt8.ofNat (recOf r).r.toNat = r.getD 4 0 := by simp only [recOf, Int.toNat_natCast, UInt8.ofNat_toNat]
  have e4 : UInt8.ofNat (kl r) = r.getD 5 0 := by simp only [kl, UInt8.ofNat_toNat]
  have e5 : halfL (dl r) = [r.getD 6 0, r.getD 7 0] := halfL_hN
  unfold encR
  rw [e1, e2, e3, e4, e5, halfL_hN, halfL_hN]
  have e6 : (recOf r).key ++ ((recOf r).data ++ r.drop (pend r)) = r.drop 8 := by
    have a1 : (recOf r).data ++ r.drop (pend r) = r.drop (8 + kl r) := by
      show (r.drop (8 + kl r)).take (dl r) ++ r.drop (8 + kl r + dl r) = _
      rw [← List.drop_drop (i := dl r), List.take_append_drop]
    rw [a1]
    show (r.drop 8).take (kl r) ++ r.drop (8 + kl r) = _
    rw [← List.drop_drop, List.take_append_drop]
  have e7 : r = r.getD 0 0 :: r.getD 1 0 :: r.getD 2 0 :: r.getD 3 0 :: r.getD 4 0 :: r.getD 5 0 :: r.getD 6 0 :: r.getD 7 0 :: r.drop 8 := by
    have := drop_cons (l := r) (i := 0) (by omega)
    rw [List.drop_zero, drop_cons (i := 0 + 1) (by omega), drop_cons (i := 0 + 1 + 1) (by omega), drop_cons (i := 0 + 1 + 1 + 1) (by omega), drop_cons (i := 0 + 1 + 1 + 1 + 1) (by omega), drop_cons (i := 0 + 1 + 1 + 1 + 1 + 1) (by omega), drop_cons (i := 0 + 1 + 1 + 1 + 1 + 1 + 1) (by omega), drop_cons (i := 0 + 1 + 1 + 1 + 1 + 1 + 1 + 1) (by omega)] at this
    exact this
  simp only [List.append_assoc, List.cons_append, List.nil_append, e6]
  exact e7.symm
theorem halfL_inj {a b : Nat} (ha : a ≤ 65535) (hb : b ≤ 65535) (h : halfL a = halfL b) : a = b := by
  unfold halfL at h
  injection h with h1 h2
  injection h2 with h2 _
  have h1 := congrArg UInt8.toNat h1
  have h2 := congrArg UInt8.toNat h2
  rw [UInt8.toNat_ofNat', UInt8.toNat_ofNat'] at h1 h2
  omega
theorem encR_inj {c h c' h' : Nat} {x : Rec} {s s' : List UInt8} (hc : c ≤ 65535) (hh : h ≤ 65535) (hc' : c' ≤ 65535) (hh' : h' ≤ 65535) (e : encR c h x ++ s = encR c' h' x ++ s') : c = c' ∧ h = h' ∧ s = s' := by
  obtain ⟨e1, e2⟩ := List.append_inj e (by rw [encR_len, encR_len])
  unfold encR at e1
  simp only [List.append_assoc] at e1
  obtain ⟨e3, e4⟩ := List.append_inj e1 rfl
  obtain ⟨e5, _⟩ := List.append_inj e4 rfl
  exact ⟨halfL_inj hc hc' e3, halfL_inj hh hh' e5, e2⟩
theorem goP_of (n : Nat) : ∀ (r : List UInt8) (t : List Rec) (cy hd : Nat), r.length ≤ n → cy ≤ 65535 → hd ≤ 65535 →
    (∀ q, goP t cy hd r = some q → goQ t cy hd r = some q) ∧
    (∀ cy' hd' t' r', goQ t cy hd r = some (cy', hd', t', r') → cy' ≤ 65535 ∧ hd' ≤ 65535 ∧ (t.length ≠ 0 → cy' = cy ∧ hd' = hd) ∧ ∃ u, t' = t ++ u ∧ (∀ x ∈ u, x.bad = false) ∧ r.length = (encL cy' hd' u).length + r'.length ∧ r.drop (encL cy' hd' u).length = r' ∧
      (encL cy' hd' u ++ r' = r ↔ goP t cy hd r = some (cy', hd', t', r'))) := by
  induction n with
  | zero =>
    intro r t cy hd hr hc hh
    have h8 : ¬ 8 < r.length := by omega
    refine ⟨fun q hq => ?_, fun cy' hd' t' r' hq => ?_⟩
    · rw [goP, dif_neg h8] at hq
      rw [goQ, dif_neg h8]; exact hq
    · rw [goQ, dif_neg h8] at hq
      injection hq with hq
      injection hq with h1 h2
      injection h2 with h2 h3
      injection h3 with h3 h4
      subst h1; subst h2; subst h3; subst h4
      exact ⟨hc, hh, fun _ => ⟨rfl, rfl⟩, [], by simp, by simp, by simp [encL], by simp [encL], by rw [goP, dif_neg h8]; simp [encL]⟩
  | succ n ih =>
    intro r t cy hd hr hc hh
    by_cases h8 : 8 < r.length
    · have hstep := ih (r.drop (pend r)) (t ++ [recOf r]) (if t.length = 0 then hN r 0 else cy) (if t.length = 0 then hN r 2 else hd) (by rw [List.length_drop]; unfold pend; omega)
        (by split; exact hN_lt _ _; exact hc) (by split; exact hN_lt _ _; exact hh)
      obtain ⟨i1, i2⟩ := hstep
      have hA0 : t.length ≠ 0 → (if t.length = 0 then hN r 0 else cy) = cy ∧ (if t.length = 0 then hN r 2 else hd) = hd := fun h => ⟨if_neg h, if_neg h⟩
      have gP := goP.eq_1 t cy hd r
      have gQ := goQ.eq_1 t cy hd r
      rw [dif_pos h8] at gP gQ
      rw [gP, gQ]
      generalize (if t.length = 0 then hN r 0 else cy) = ca at *
      generalize (if t.length = 0 then hN r 2 else hd) = ha at *
      clear gP gQ
      refine ⟨fun q hq => ?_, fun cy' hd' t' r' hq => ?_⟩
      · split at hq
        · cases hq
        · rename_i hn
          rw [if_neg (fun h => hn (Or.inr (Or.inr h)))]
          exact i1 q hq
      · split at hq
        · cases hq
        · rename_i hn
          have hpe : pend r ≤ r.length := by omega
          obtain ⟨j1, j2, j3, u, rfl, j4, j5, j6, j7⟩ := i2 cy' hd' t' r' hq
          have j3 := j3 (by simp)
          have henc := enc_recOf h8 hpe
          have hln : (encR cy' hd' (recOf r)).length = pend r := by
            obtain ⟨e1, e2⟩ := recOf_len hpe
            rw [encR_len, e1, e2]; rfl
          refine ⟨j1, j2, fun ht => ?_, recOf r :: u, by simp, ?_, ?_, ?_, ?_⟩
          · have h := hA0 ht; exact ⟨j3.1.trans h.1, j3.2.trans h.2⟩
          · intro x hx
            rcases List.mem_cons.1 hx with rfl | hx
            · rfl
            · exact j4 x hx
          · rw [List.length_drop] at j5
            simp only [encL, List.flatMap_cons, List.length_append, hln] at *
            omega
          · simp only [encL, List.flatMap_cons, List.length_append, hln]
            rw [← List.drop_drop]
            exact j6
          · constructor
            · intro he
              have he2 : encR cy' hd' (recOf r) ++ (encL cy' hd' u ++ r') = encR (hN r 0) (hN r 2) (recOf r) ++ r.drop (pend r) := by
                rw [henc]
                refine Eq.trans ?_ he
                simp [encL]
              obtain ⟨k1, k2, k3⟩ := encR_inj j1 j2 (hN_lt _ _) (hN_lt _ _) he2
              rw [if_neg]
              · exact j7.1 k3
              · rw [← j3.1, ← j3.2, k1, k2]
                rintro (h | h | h)
                · exact h rfl
                · exact h rfl
                · exact hn h
            · intro he
              split at he
              · cases he
              · rename_i hn2
                have k3 := j7.2 he
                have k1 : hN r 0 = cy' := by
                  rw [j3.1]; exact Classical.byContradiction fun h => hn2 (Or.inl h)
                have k2 : hN r 2 = hd' := by
                  rw [j3.2]; exact Classical.byContradiction fun h => hn2 (Or.inr (Or.inl h))
                rw [← k1, ← k2] at k3 ⊢
                have : encL (hN r 0) (hN r 2) (recOf r :: u) ++ r' = encR (hN r 0) (hN r 2) (recOf r) ++ (encL (hN r 0) (hN r 2) u ++ r') := by simp [encL]
                rw [this, k3, henc]
    · refine ⟨fun q hq => ?_, fun cy' hd' t' r' hq => ?_⟩
      · rw [goP, dif_neg h8] at hq
        rw [goQ, dif_neg h8]; exact hq
      · rw [goQ, dif_neg h8] at hq
        injection hq with hq
        injection hq with h1 h2
        injection h2 with h2 h3
        injection h3 with h3 h4
        subst h1; subst h2; subst h3; subst h4
        exact ⟨hc, hh, fun _ => ⟨rfl, rfl⟩, [], by simp, by simp, by simp [encL], by simp [encL], by rw [goP, dif_neg h8]; simp [encL]⟩
theorem ff8_iff {r : List UInt8} : (r.length = 8 ∧ r.all (· == 255) = true) ↔ r = ff8 := by
  constructor
  · rintro ⟨h1, h2⟩
    have h3 : r = List.replicate 8 255 := List.eq_replicate_iff.2 ⟨h1, fun b hb => by have := List.all_eq_true.1 h2 b hb; simpa using this⟩
    rw [h3]; rfl
  · rintro rfl; exact ⟨rfl, rfl⟩
theorem dec_eq (b : List UInt8) : decP b = decQ b := by
  unfold decP decQ
  obtain ⟨i1, i2⟩ := goP_of b.length b [] 0 0 (Nat.le_refl _) (by omega) (by omega)
  cases hq : goQ [] 0 0 b with
  | none =>
    cases hp : goP [] 0 0 b with
    | none => rfl
    | some q => rw [i1 q hp] at hq; cases hq
  | some q =>
    obtain ⟨cy, hd, t, r⟩ := q
    obtain ⟨j1, j2, _, u, hu, j4, j5, j6, j7⟩ := i2 cy hd t r hq
    rw [List.nil_append] at hu
    subst hu
    have hany : t.any Rec.bad = false := List.any_eq_false.2 fun x hx => by rw [j4 x hx]; decide
    have hE : encE cy hd t = if validB t then 0 else 1 := by
      unfold encE
      rw [if_pos ⟨by omega, by omega, by omega, by omega⟩, hany]
      cases validB t <;> rfl
    dsimp only
    cases hv : validB t
    · rw [hv] at hE
      rw [if_neg (fun h => by rw [hE] at h; exact absurd h.1 (by decide))]
      cases hp : goP [] 0 0 b with
      | none => rfl
      | some q =>
        have := i1 q hp
        rw [hq] at this
        injection this with this
        subst this
        dsimp only
        rw [if_neg (fun h => by rw [hv] at h; exact absurd h.2.1 (by decide))]
    · rw [hv] at hE
      rw [if_pos rfl] at hE
      have hB : encB cy hd t = encL cy hd t ++ ff8 := by
        unfold encB
        rw [hE, if_pos rfl]
        simp
      rw [hE, hB]
      by_cases he : encL cy hd t ++ r = b
      · rw [j7.1 he]
        dsimp only
        by_cases hf : r = ff8
        · have := ff8_iff.2 hf
          rw [if_pos ⟨this.1, hv, this.2⟩, if_pos ⟨rfl, by rw [← hf]; exact he⟩]
        · rw [if_neg (fun h => hf (ff8_iff.1 ⟨h.1, h.2.2⟩)), if_neg (fun h => hf (by have h2 := h.2; rw [← he] at h2; exact (List.append_cancel_left h2).symm))]
      · have hp : goP [] 0 0 b = none := by
          cases hp : goP [] 0 0 b with
          | none => rfl
          | some q =>
            have := i1 q hp
            rw [hq] at this
            injection this with this
            subst this
            exact absurd (j7.2 hp) he
        rw [hp]
        dsimp only
        rw [if_neg]
        rintro ⟨_, h⟩
        apply he
        rw [← j6, ← h, List.drop_left]
theorem hN_app {a b : List UInt8} {i : Nat} (h : i + 1 < a.length) : hN (a ++ b) i = hN a i := by
  unfold hN
  rw [List.getD_eq_getElem?_getD, List.getD_eq_getElem?_getD, List.getElem?_append_left (by omega), List.getElem?_append_left (by omega), ← List.getD_eq_getElem?_getD, ← List.getD_eq_getElem?_getD]
theorem halfL_val {n : Nat} (h : n ≤ 65535) : 256 * (UInt8.ofNat (n / 256)).toNat + (UInt8.ofNat (n % 256)).toNat = n := by
  rw [UInt8.toNat_ofNat', UInt8.toNat_ofNat']; omega
theorem enc_read {c h : Nat} {x : Rec} {s : List UInt8} (hc : c ≤ 65535) (hh : h ≤ 65535) (hx : 1 ≤ x.r ∧ x.r ≤ 255 ∧ x.key.length ≤ 255 ∧ x.data.length ≤ 2016) (hb : x.bad = false) :
    hN (encR c h x ++ s) 0 = c ∧ hN (encR c h x ++ s) 2 = h ∧ pend (encR c h x ++ s) = (encR c h x).length ∧ recOf (encR c h x ++ s) = x := by
  obtain ⟨h1, h2, h3, h4⟩ := hx
  have e : encR c h x ++ s = UInt8.ofNat (c / 256) :: UInt8.ofNat (c % 256) :: UInt8.ofNat (h / 256) :: UInt8.ofNat (h % 256) :: UInt8.ofNat x.r.toNat :: UInt8.ofNat x.key.length :: UInt8.ofNat (x.data.length / 256) :: UInt8.ofNat (x.data.length % 256) :: (x.key ++ (x.data ++ s)) := by
    simp [encR, halfL]
  have hkl : kl (encR c h x ++ s) = x.key.length := by
    rw [e]; show (UInt8.ofNat x.key.length).toNat = _
    rw [UInt8.toNat_ofNat']; omega
  have hdl : dl (encR c h x ++ s) = x.data.length := by
    rw [e]; exact halfL_val (by omega)
  refine ⟨by rw [e]; exact halfL_val hc, by rw [e]; exact halfL_val hh, by unfold pend; rw [hkl, hdl, encR_len], ?_⟩
  unfold recOf
  rw [hkl, hdl, e]
  obtain ⟨r, k, d, bd⟩ := x
  dsimp only at *
  subst hb
  have a1 : (UInt8.ofNat r.toNat).toNat = r.toNat := by rw [UInt8.toNat_ofNat']; omega
  congr 1
  · show ((UInt8.ofNat r.toNat).toNat : Int) = r
    rw [a1]; omega
  · simp
  · rw [← List.drop_drop]
    simp
theorem goP_enc {c h : Nat} (hc : c ≤ 65535) (hh : h ≤ 65535) : ∀ (u t : List Rec) (cy hd : Nat), (t.length ≠ 0 → cy = c ∧ hd = h) → (∀ x ∈ u, (1 ≤ x.r ∧ x.r ≤ 255 ∧ x.key.length ≤ 255 ∧ x.data.length ≤ 2016) ∧ x.bad = false) →
    goP t cy hd (encL c h u ++ ff8) = some (if u.length = 0 then cy else c, if u.length = 0 then hd else h, t ++ u, ff8)
  | [], t, cy, hd, _, _ => by
    rw [goP, dif_neg (by simp [encL, ff8])]
    simp [encL]
  | x :: u, t, cy, hd, ht, hu => by
    obtain ⟨hx, hb⟩ := hu x (by simp)
    have e : encL c h (x :: u) ++ ff8 = encR c h x ++ (encL c h u ++ ff8) := by simp [encL]
    obtain ⟨r1, r2, r3, r4⟩ := enc_read (s := encL c h u ++ ff8) hc hh hx hb
    rw [e, goP, dif_pos (by rw [List.length_append, List.length_append, encR_len]; show 8 < _ + (_ + 8); omega), r1, r2, r3, r4]
    have k1 : (if t.length = 0 then c else cy) = c := by
      split
      · rfl
      · rename_i h0; exact (ht h0).1
    have k2 : (if t.length = 0 then h else hd) = h := by
      split
      · rfl
      · rename_i h0; exact (ht h0).2
    rw [k1, k2, if_neg (by rintro (h | h | h); exact h rfl; exact h rfl; rw [List.length_append] at h; omega), List.drop_left, goP_enc hc hh u (t ++ [x]) c h (fun _ => ⟨rfl, rfl⟩) (fun y hy => hu y (by simp [hy]))]
    simp
theorem dec_enc {c h : Nat} {t : List Rec} (hc : c ≤ 65535) (hh : h ≤ 65535) (hv : validB t = true) (hb : ∀ x ∈ t, x.bad = false) : decP (encL c h t ++ ff8) = some (if t.length = 0 then 0 else c, if t.length = 0 then 0 else h, t) := by
  unfold decP
  rw [goP_enc hc hh t [] 0 0 (by simp) (fun x hx => by
    obtain ⟨k, hk⟩ := List.mem_iff_getElem?.1 hx
    exact ⟨valid_rec hv hk, hb x hx⟩)]
  dsimp only
  rw [List.nil_append, if_pos ⟨rfl, hv, rfl⟩]
end Go.Proofs.YtfhpaehfihnjaaaGreat.D
namespace Go.Proofs.YtfhpaehfihnjaaaGreat.D
open Go.RowKit
abbrev Dec3 := Option (Nat × Nat × List Rec)
def Dec3.c (o : Dec3) : Nat := match o with | none => 0 | some x => x.1
def Dec3.h (o : Dec3) : Nat := match o with | none => 0 | some x => x.2.1
def Dec3.t (o : Dec3) : List Rec := match o with | none => [] | some x => x.2.2
def Dec3.e (o : Dec3) : Nat := match o with | none => 5 | some _ => 0
def RetD (W : World) (F : List SA) (o : Dec3) (e : Ending) (w' : World) : Prop :=
  ∃ A cp, e = .returned (.tuple #[.int .i64 (o.c : Int), .int .i64 (o.h : Int), .slice A o.t.length cp, .int .i64 (o.e : Int)]) ∧ SL W (recsS (.slice A o.t.length cp) o.t :: F) w'
theorem CardAt.drop {w : World} {b off : Nat} {l : List UInt8} {c : Nat} (h : CardAt w (some ⟨b, off, none⟩) l c) (n : Nat) (hn : n ≤ l.length) (A : Option Addr) (hA : n < l.length → A = some ⟨b, off + n, none⟩) : CardAt w A (l.drop n) (c - n) := by
  refine ⟨fun hne => ?_, by have := h.2.1; rw [List.length_drop]; omega, by have := h.2.2; omega⟩
  have hlt : n < l.length := by
    rcases Nat.lt_or_ge n l.length with h1 | h1
    · exact h1
    · rw [List.drop_of_length_le h1] at hne; exact absurd rfl hne
  have h0 : Lib.byteCells l ≠ [] := fun e => by
    have h2 := congrArg List.length e
    rw [byteCells_len] at h2
    have h3 : l.length = 0 := h2
    omega
  obtain ⟨b2, off2, e, hb, hc⟩ := h.1 h0
  injection e with e; injection e with e1 e2
  subst e1; subst e2
  refine ⟨b, off + n, hA hlt, hb, fun j u hu => ?_⟩
  have : (Lib.byteCells l)[n + j]? = some u := by
    simp only [Lib.byteCells, List.map_drop, List.getElem?_drop] at hu
    exact hu
  rw [Nat.add_assoc]
  exact hc (n + j) u this
section
variable {W w : World} {F : List SA}
theorem RetD.bad {w' : World} (S : SL W F w') : RetD W F none (.returned (.tuple #[.int .i64 0, .int .i64 0, .slice none 0 0, .int .i64 5])) w' :=
  ⟨none, 0, rfl, recsS_close (ps := []) (S.empty.nil _ _)⟩
def no255 (x : UInt8) : Bool := ((x.toNat : Int) != 255)
theorem any8Idx {l : List UInt8} : decide ((0 : Int) ≤ idxV (l.findIdx? no255)) = !(l.all (· == 255)) := by
  have hno : ∀ x, no255 x = !(x == 255) := fun x => by
    unfold no255
    by_cases h : x = 255
    · subst h; rfl
    · have : ¬ ((x.toNat : Int) = 255) := fun e => h (by apply UInt8.toNat_inj.1; show x.toNat = 255; omega)
      have a : ((x.toNat : Int) != 255) = true := by rw [bne_iff_ne]; exact this
      have b : (x == 255) = false := by rw [beq_eq_false_iff_ne]; exact h
      rw [a, b]; rfl
  cases h : l.findIdx? no255 with
  | none =>
    have h2 := List.findIdx?_eq_none_iff.1 h
    have : l.all (· == 255) = true := List.all_eq_true.2 fun x hx => by have := h2 x hx; rw [hno] at this; simpa using this
    rw [this]; rfl
  | some i =>
    rw [List.findIdx?_eq_some_iff_getElem] at h
    obtain ⟨hi, hb, _⟩ := h
    have : l.all (· == 255) = false := List.all_eq_false.2 ⟨_, List.getElem_mem hi, by rw [hno] at hb; simpa using hb⟩
    rw [this]
    exact decide_eq_true (by show (0 : Int) ≤ (i : Int); omega)
end
end Go.Proofs.YtfhpaehfihnjaaaGreat.D
namespace Go.Proofs.YtfhpaehfihnjaaaGreat.D
open Go.RowKit
theorem getD_drop {l : List UInt8} {k i : Nat} : (l.drop k).getD i 0 = l.getD (k + i) 0 := by
  rw [List.getD_eq_getElem?_getD, List.getD_eq_getElem?_getD, List.getElem?_drop]
theorem hN_drop {l : List UInt8} {k i : Nat} : hN (l.drop k) i = hN l (k + i) := by
  unfold hN; rw [getD_drop, getD_drop, Nat.add_assoc]
theorem ret_val {a b : Int} (h : a = b) : Value.int .i64 a = .int .i64 b := by rw [h]
section
variable {W w : World} {F : List SA}
end
end Go.Proofs.YtfhpaehfihnjaaaGreat.D
namespace Go.Proofs.YtfhpaehfihnjaaaGreat.D
open Go.RowKit
section
variable {W w : World} {F : List SA}
end
end Go.Proofs.YtfhpaehfihnjaaaGreat.D
namespace Go.Proofs.YtfhpaehfihnjaaaGreat.D
open Go.RowKit
theorem bytes_str {P : Program} (w : World) (src dst e : TypeId) (l : List UInt8) (hs : P.underlying src = some .string) (hd : P.underlying dst = some (.slice e)) (he : P.underlying e = some (.int .u8)) (hl : l.length ≤ 140737488355328) :
    ∃ c w', (convert src dst (.string ⟨l.toArray⟩)).run P w = .ok (.slice (some ⟨w.heap.size, 0, none⟩) l.length c) w' ∧ CardAt w' (some ⟨w.heap.size, 0, none⟩) l c ∧ Below w.heap.size w w' := by
  have hz : (⟨l.toArray⟩ : ByteArray).size = l.length := by show l.toArray.size = _; simp
  refine ⟨_, _, (by have h := run_bytes_of_string w src dst e ⟨l.toArray⟩ hs hd he; rw [hz] at h; exact h), ⟨fun _ => ⟨_, 0, rfl, by simp, fun j u hu => ?_⟩, ?_, ?_⟩, ((Below.refl _ _).drew).alloc (Nat.le_refl _) _⟩
  · have hrow : ∀ (C : Array Value) (fr : Nat × Nat), (w.drew.alloc (.cells C e fr)).cell? ⟨w.heap.size, 0 + j, none⟩ = C[j]? := fun C fr => by
      rw [Nat.zero_add]
      exact cell_of_row _ _ j C e fr (heap_alloc_new w.drew _)
    rw [hrow]
    have hb : bytesRow ⟨l.toArray⟩ (grownCap w l.length 0 e) = (Lib.byteCells l).toArray ++ Array.replicate (grownCap w l.length 0 e - l.length) (.int .u8 0) := by
      unfold bytesRow
      rw [hz]
      congr 1
      simp [Lib.byteCells]
    rw [hb, Array.getElem?_append_left (by have := (List.getElem?_eq_some_iff.1 hu).1; simpa using this)]
    simpa using hu
  · exact grownCap_ge w l.length 0 e
  · exact grownCap_le_maxLen w l.length 0 e (by unfold maxLen; omega)
theorem CardAt.far {w : World} {b off : Nat} {l : List UInt8} {c : Nat} (h : CardAt w (some ⟨b, off, none⟩) l c) {p : Addr} (v : Value) (hne : p.block ≠ b) : CardAt (w.setCell p v) (some ⟨b, off, none⟩) l c := by
  refine ⟨fun hx => ?_, h.2⟩
  obtain ⟨b2, off2, e, hb, hc⟩ := h.1 hx
  injection e with e; injection e with e1 e2
  subst e1; subst e2
  exact ⟨b, off, rfl, by rw [World.size_setCell]; exact hb, fun j u hu => (World.cell?_setCell_far w p ⟨b, off + j, none⟩ v hne).trans (hc j u hu)⟩
theorem zeros_made (n : Nat) : Lib.byteCells (List.replicate n 0) = (madeCells (Value.int .u8 0).cells (n * 1)).toList := by
  refine List.ext_getElem? fun j => ?_
  simp only [Lib.byteCells, List.map_replicate, List.getElem?_replicate, Array.getElem?_toList, madeCells, Nat.mul_one]
  by_cases h : j < n
  · rw [if_pos h, Array.getElem?_map, Array.getElem?_range, if_pos h]
    simp only [Option.map_some]
    have h0 : j % (Value.int .u8 0).cells.size = 0 := Nat.mod_one j
    show some (Value.int .u8 0) = some ((Value.int .u8 0).cells[j % (Value.int .u8 0).cells.size]!)
    rw [h0]; rfl
  · rw [if_neg h, Array.getElem?_map, Array.getElem?_range, if_neg h]; rfl
abbrev recV (x : Rec) (Ak Ad : Option Addr) (ck cd : Nat) : Value := .agg #[.int .i64 x.r, .slice Ak x.key.length ck, .slice Ad x.data.length cd, .bool x.bad]
section
def atB (rs : List Rec) (fr : Int) (key : List UInt8) (high : Bool) (want : Int) : Bool :=
  match searchN rs fr key high with
  | none => decide (want < 0)
  | some i => decide (0 ≤ want) && decide ((i : Int) = want)
end
end Go.Proofs.YtfhpaehfihnjaaaGreat.D
namespace Go.Proofs.YtfhpaehfihnjaaaGreat.D
open Go.RowKit
theorem RecV.mk' {w : World} {x : Rec} {Ak Ad : Option Addr} {ck cd : Nat} (h1 : CardAt w Ak x.key ck) (h2 : CardAt w Ad x.data cd) : RecV w ((.slice Ak x.key.length ck, .slice Ad x.data.length cd), x) := ⟨Ak, ck, Ad, cd, rfl, h1, h2⟩
theorem RecV.get {w : World} {x : Rec} {Ak Ad : Option Addr} {nk nd ck cd : Nat} (h : RecV w ((.slice Ak nk ck, .slice Ad nd cd), x)) : CardAt w Ak x.key ck ∧ CardAt w Ad x.data cd := by
  obtain ⟨_, _, _, _, e, h1, h2⟩ := h
  injection e with e1 e2
  injection e1 with e1 _ e1c
  injection e2 with e2 _ e2c
  subst e1; subst e2; subst e1c; subst e2c
  exact ⟨h1, h2⟩
theorem all1 {w : World} {p : RV} (h : RecV w p) : ∀ x ∈ [p], RecV w x := fun x hx => by rw [List.mem_singleton.1 hx]; exact h
theorem all2 {w : World} {p q : RV} (h : RecV w p) (h2 : RecV w q) : ∀ x ∈ [p, q], RecV w x := fun x hx => by
  rcases List.mem_cons.1 hx with rfl | hx
  · exact h
  · exact all1 h2 x hx
theorem all3 {w : World} {p q r : RV} (h : RecV w p) (h2 : RecV w q) (h3 : RecV w r) : ∀ x ∈ [p, q, r], RecV w x := fun x hx => by
  rcases List.mem_cons.1 hx with rfl | hx
  · exact h
  · exact all2 h2 h3 x hx
theorem row_lit {W w : World} {F : List SA} (S : SL W F w) (ps : List RV) (hn : ps.length ≤ 1000) : SL W (rowS 188 4 (.slice (some ⟨w.heap.size, 0, none⟩) ps.length ps.length) ps.length (ps.flatMap recCells) :: F) (w.alloc (.cells (ps.flatMap recCells).toArray 188)) :=
  S.lit (ps.flatMap recCells).toArray 188 4 ps.length (by
    simp only [List.size_toArray]
    clear hn S
    induction ps with
    | nil => rfl
    | cons a l ih => simp only [List.flatMap_cons, List.length_append, ih, List.length_cons, recCells]; simp; omega) (by unfold maxLen; omega)
theorem recs_lit {w : World} (ps : List RV) (hv : ∀ p ∈ ps, RecV w p) (hn : ps.length ≤ 1000) : RecsAt (w.alloc (.cells (ps.flatMap recCells).toArray 188)) (some ⟨w.heap.size, 0, none⟩) (ps.map Prod.snd) :=
  recs_at' (row_lit (SL.start w) ps hn) fun p hp => (hv p hp).grow ((Below.refl _ _).alloc (Nat.le_refl _) _)
section
variable {W w : World} {F : List SA}
theorem valid_lit (w : World) (ps : List RV) (n : Nat) (hn : ps.length = n) (h1000 : n ≤ 1000) (hv : ∀ p ∈ ps, RecV w p) (q : Bool) (hq : validB (ps.map Prod.snd) = q) (hf : ∀ p ∈ ps, p.2.key.length ≤ 1000 ∧ p.2.data.length ≤ 1000) :
    Calls Tryz.prog 253 #[.slice (some ⟨w.heap.size, 0, none⟩) n n] (w.alloc (.cells (ps.flatMap recCells).toArray 188)) fun e w' => e = .returned (.bool q) ∧ Below w.heap.size w w' := by
  subst hq; subst hn
  have h := valid_any (some ⟨w.heap.size, 0, none⟩) (ps.map Prod.snd) ps.length _ (recs_lit ps hv h1000) ⟨by rw [List.length_map]; omega, fun x hx => by
    obtain ⟨p, hp, rfl⟩ := List.mem_map.1 hx
    have := hf p hp; omega⟩
  rw [List.length_map] at h
  refine h.mono ?_
  rintro e w' ⟨he, b⟩
  exact ⟨he, ((Below.refl _ _).alloc (Nat.le_refl _) _).trans (b.mono (by rw [World.size_alloc]; omega))⟩
theorem dec_short {b : List UInt8} (h : b.length < 8) : decP b = none := by
  have e := goP.eq_1 [] 0 0 b
  rw [dif_neg (by omega)] at e
  unfold decP
  rw [e]
  dsimp only
  rw [if_neg (by omega)]
def rA : Rec := ⟨1, [], [], false⟩
def rC : Rec := ⟨3, [], [], false⟩
def rD : Rec := ⟨2, [67], [120, 121], false⟩
def t3 : List Rec := [⟨1, [65], [112], false⟩, ⟨2, [67], [120, 121], false⟩, ⟨3, [69], [113], false⟩]
theorem t3fit : Fit t3 := ⟨by decide, fun x hx => by simp only [t3, List.mem_cons, List.not_mem_nil, or_false] at hx; rcases hx with rfl | rfl | rfl <;> decide⟩
end
end Go.Proofs.YtfhpaehfihnjaaaGreat.D
