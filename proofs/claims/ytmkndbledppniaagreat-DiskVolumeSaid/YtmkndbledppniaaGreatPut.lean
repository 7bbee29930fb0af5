/- Put of the program and of the reference. -/
import Derived.Test.YtmkndbledppniaaGreatRSearch
namespace Go.Proofs.YtmkndbledppniaaGreat
open Go.RowKit
def lower (r : Int) (rs : List Rec) : List Rec := rs.filter fun y => decide (y.r < r)
def putN (rs : List Rec) (x : Rec) : List Rec := lower x.r rs ++ [x]
def putE (rs : List Rec) (x : Rec) : Nat := if validB rs && x.valid then (if 2048 < usedN (putN rs x) then 7 else 0) else 1
def putR (rs : List Rec) (x : Rec) : List Rec := if putE rs x = 0 then putN rs x else []
/-- What a function leaves that returns a list of records in new memory and a number. -/
def RetL (W : World) (F : List SA) (rs : List Rec) (er : Nat) (e : Ending) (w' : World) : Prop :=
  ∃ A c, e = .returned (.tuple #[.slice A rs.length c, .int .i64 (er : Int)]) ∧ SL W (recsS (.slice A rs.length c) rs :: F) w'
section
variable {W w : World} {F : List SA}
theorem RetL.nil {w' : World} {er : Nat} {i : Int} (S : SL W F w') (h : (er : Int) = i) : RetL W F [] er (.returned (.tuple #[.slice none 0 0, .int .i64 i])) w' :=
  ⟨none, 0, by rw [h]; rfl, recsS_close (ps := []) (S.empty.nil _ _)⟩
theorem lower_take {rs : List Rec} {k : Nat} {x : Rec} {r : Int} (h : rs[k]? = some x) : lower r (rs.take (k + 1)) = lower r (rs.take k) ++ (if x.r < r then [x] else []) := by
  unfold lower
  rw [List.take_add_one, h, List.filter_append]
  by_cases hx : x.r < r <;> simp [hx]
theorem lower_len {rs : List Rec} {r : Int} : (lower r rs).length ≤ rs.length := List.length_filter_le _ _
theorem Fit.put {rs : List Rec} {x : Rec} (hf : Fit rs) (hn : rs.length + 1 ≤ 8192) (hl : x.key.length ≤ 140737488355328 ∧ x.data.length ≤ 140737488355328) : Fit (putN rs x) :=
  ⟨by unfold putN; have := lower_len (rs := rs) (r := x.r); simp; omega, fun y hy => by
    unfold putN at hy
    rcases List.mem_append.1 hy with h | h
    · exact hf.2 y (List.mem_filter.1 h).1
    · obtain rfl := List.mem_singleton.1 h; exact hl⟩
set_option maxRecDepth 100000 in
set_option maxHeartbeats 8000000 in
theorem put_any (A : Option Addr) (rs : List Rec) (c : Nat) (x : Rec) (Ak Ad : Option Addr) (ck cd : Nat) (S : SL W F w) (hr : RecsAt w A rs) (hf : Fit rs) (hn : rs.length + 1 ≤ 8192) (hk : CardAt w Ak x.key ck) (hd : CardAt w Ad x.data cd) (hl : x.key.length ≤ 140737488355328 ∧ x.data.length ≤ 140737488355328) :
    Calls Tryz.prog 89 #[.slice A rs.length c, .agg #[.int .i64 x.r, .slice Ak x.key.length ck, .slice Ad x.data.length cd, .bool x.bad]] w (RetL W F (putR rs x) (putE rs x)) := by
  have HS := Lib.hid S
  have HR := Lib.hid hr
  have HF := Lib.hid hf
  have HC := Lib.hid (And.intro hk (And.intro hd hl))
  have HFP := Lib.hid (Fit.put hf hn hl)
  have HPL := Lib.hid (lower_len (rs := rs) (r := x.r))
  have hfl := hf.1
  clear S hr hf hk hd hl
  go_enter Tryz.func89, Tryz.ntmps89
  have H0 := Lib.hid ((SL.start w).allocC #[.int .i64 x.r, .slice Ak x.key.length ck, .slice Ad x.data.length cd, .bool x.bad] 62)
  go_wp2_with fail
  refine (valid_any A rs c _ (HR.out.grow H0.out.1) HF.out).mono ?_
  rintro e w1 ⟨rfl, b1⟩
  have H1 := Lib.hid (H0.out.grow b1)
  clear b1 H0
  generalize w.heap.size = xb at *
  cases hv : validB rs
  · have HE := Lib.hid (show putE rs x = 1 by unfold putE; rw [hv]; rfl)
    have HP := Lib.hid (show putR rs x = [] by unfold putR; rw [HE.out]; rfl)
    clear hv
    go_wp2
    go_ret2
    rw [HE.out, HP.out]
    exact RetL.nil (HS.out.join H1.out.drop) rfl
  have HV := Lib.hid hv
  clear hv
  obtain ⟨L, K, z⟩ := H1.out.look
  go_wp2_with fail
  refine (valid1_any x.r Ak Ad x.key.length x.data.length ck cd x.bad _).mono ?_
  rintro e w2 ⟨rfl, b2⟩
  have H2 := Lib.hid (H1.out.grow b2)
  clear b2 H1 L K z
  cases hv : valid1 x.r x.key.length
  · have HE := Lib.hid (show putE rs x = 1 by unfold putE Rec.valid; rw [hv, HV.out]; rfl)
    have HP := Lib.hid (show putR rs x = [] by unfold putR; rw [HE.out]; rfl)
    clear hv
    go_wp2
    go_ret2
    rw [HE.out, HP.out]
    exact RetL.nil (HS.out.join H2.out.drop) rfl
  have HE := Lib.hid (show putE rs x = (if 2048 < usedN (putN rs x) then 7 else 0) by unfold putE Rec.valid; rw [hv, HV.out]; rfl)
  clear hv
  go_wp2
  go_loopw [6, 19] (fun o i wr => ∃ (k : Nat) (A3 : Option Addr) (c3 : Nat) (ps : List RV), k ≤ rs.length ∧ i = .int .i64 k ∧ ps.map Prod.snd = lower x.r (rs.take k) ∧ o = .slice A3 ps.length c3 ∧
    SL w (rowS 62 4 (.slice A3 ps.length c3) ps.length (ps.flatMap recCells) :: star (ps.map recO) :: cel xb #[.int .i64 x.r, .slice Ak x.key.length ck, .slice Ad x.data.length cd, .bool x.bad] 62 :: []) wr) (fun _ i _ => rs.length - (intOf i).toNat)
  case atStart => exact ⟨0, none, 0, [], Nat.zero_le _, rfl, rfl, rfl, H2.out.empty.nil _ _⟩
  case round =>
    obtain ⟨k, A3, c3, ps, hk, rfl, hp, rfl, S1⟩ := hrel
    have H1 := Lib.hid S1
    have HP := Lib.hid hp
    clear S1 H2 hp
    by_cases hlt : k < rs.length
    · have hb : rs[k]? = some rs[k] := by simp [hlt]
      have hbl := HF.out.2 rs[k] (List.getElem_mem hlt)
      generalize rs[k] = y at hb hbl
      obtain ⟨g, off, Bk, dk, Bd, dd, hA, k0, k1, k2, k3, a1, a2⟩ := HR.out.grow H1.out.1 k y hb
      subst hA
      have HB := Lib.hid (lower_take (r := x.r) hb)
      have HA := Lib.hid (And.intro a1 a2)
      clear hb a1 a2
      obtain ⟨L, K, z⟩ := H1.out.s2.look
      by_cases hyx : y.r < x.r
      · have HQ := Lib.hid (show lower x.r (rs.take (k + 1)) = lower x.r (rs.take k) ++ [y] by rw [HB.out, if_pos hyx])
        have hpl : ps.length ≤ k := by
          have h := congrArg List.length HP.out
          rw [List.length_map] at h
          have := lower_len (rs := rs.take k) (r := x.r)
          rw [List.length_take] at this
          omega
        go_wp2_with fail
        refine (clone_any y Bk Bd dk dd (H1.out.allocC _ _).drop (HA.out.1.grow (((Below.refl _ _).alloc (Nat.le_refl _) _))) (HA.out.2.grow (((Below.refl _ _).alloc (Nat.le_refl _) _))) hbl).mono ?_
        rintro e w2 ⟨vk, vd, rfl, S2⟩
        have H2 := Lib.hid S2
        clear S2 H1 k0 k1 k2 k3 HA L K z
        go_wp2_with (at_builtin; refine wpList_pushS rfl _ _ _ rfl recElem w2 [.int .i64 y.r, vk, vd, .bool y.bad] 1 rfl rfl (by
                       obtain ⟨_, _, e1, _, _⟩ := own_slice H2.out.own
                       obtain ⟨_, _, e2, _, _⟩ := own_slice H2.out.s1.own
                       rw [e1, e2]
                       simp [Value.oneCell']) _ ps.length _ rfl rfl H2.out.s2 (by unfold maxLen; omega) (by omega) ?_
                     intro A6 c6 w6 S6
                     have H6 := Lib.hid S6
                     clear S6 H2)
        go_roundw
        case rel =>
          refine ⟨k + 1, A6, c6, ps ++ [((vk, vd), y)], by omega, by go_num, by rw [HQ.out, ← HP.out]; simp, by simp, ?_⟩
          rw [flat_snoc, List.length_append, List.length_singleton]
          exact recO_snoc H6.out
        case measure => simp [intOf]; omega
      · have HQ := Lib.hid (show lower x.r (rs.take (k + 1)) = lower x.r (rs.take k) by rw [HB.out, if_neg hyx, List.append_nil])
        go_wp2
        go_roundw
        case rel => exact ⟨k + 1, A3, c3, ps, by omega, by go_num, by rw [HQ.out]; exact HP.out, rfl, (H1.out.allocC _ _).drop⟩
        case measure => simp [intOf]; omega
    · obtain rfl : k = rs.length := by omega
      have HQ := Lib.hid (show ps.map Prod.snd = lower x.r rs by rw [HP.out, List.take_of_length_le (Nat.le_refl _)])
      have hpl : ps.length ≤ rs.length := by
        have h := congrArg List.length HQ.out
        rw [List.length_map] at h
        have := HPL.out
        omega
      have H2 := Lib.hid H1.out.s2
      obtain ⟨L, K, z⟩ := H2.out.look
      clear H1 HP
      go_wp2_with fail
      refine (clone_any x Ak Ad ck cd H2.out (HC.out.1.grow H2.out.1) (HC.out.2.1.grow H2.out.1) HC.out.2.2).mono ?_
      rintro e w2 ⟨vk, vd, rfl, S2⟩
      have H3 := Lib.hid S2.s2.drop.s2
      clear S2 H2 L K z
      go_wp2_with (at_builtin; refine wpList_pushS rfl _ _ _ rfl recElem w2 [.int .i64 x.r, vk, vd, .bool x.bad] 1 rfl rfl (by
                     obtain ⟨_, _, e1, _, _⟩ := own_slice H3.out.s1.own
                     obtain ⟨_, _, e2, _, _⟩ := own_slice H3.out.s2.own
                     rw [e1, e2]
                     simp [Value.oneCell']) _ ps.length _ rfl rfl H3.out (by unfold maxLen; omega) (by omega) ?_
                   intro A6 c6 w6 S6
                   have H6 := Lib.hid S6
                   clear S6 H3)
      have hps : (ps ++ [((vk, vd), x)]).map Prod.snd = putN rs x := by unfold putN; rw [List.map_append, HQ.out]; rfl
      have hpn : ps.length + 1 = (putN rs x).length := by rw [← hps]; simp
      have H7 := Lib.hid (show SL w (recsS (.slice A6 (putN rs x).length c6) (putN rs x) :: []) w6 by
        refine recsS_close' (n := (putN rs x).length) (ps := ps ++ [((vk, vd), x)]) (by simpa using hpn) hps ?_
        rw [flat_snoc, ← hpn]
        exact recO_snoc H6.out)
      rw [hpn]
      have HU := Lib.hid (used_any A6 (putN rs x) c6 w6 (recsS_at H7.out) HFP.out)
      clear hps hpn H6
      go_wp2_with fail
      refine HU.out.mono ?_
      rintro e w7 ⟨rfl, b7⟩
      have H8 := Lib.hid (H7.out.grow b7)
      clear b7 H7 HU
      by_cases hu : 2048 < usedN (putN rs x)
      · have HE2 := Lib.hid (show putE rs x = 7 by rw [HE.out, if_pos hu])
        have HP := Lib.hid (show putR rs x = [] by unfold putR; rw [HE2.out]; rfl)
        have hu' : decide ((2048 : Int) < (usedN (putN rs x) : Int)) = true := by simp; omega
        clear hu
        go_wp2
        go_ret2
        rw [HE2.out, HP.out]
        exact RetL.nil (HS.out.join H8.out.drop) rfl
      · have HE2 := Lib.hid (show putE rs x = 0 by rw [HE.out, if_neg hu])
        have HP := Lib.hid (show putR rs x = putN rs x by unfold putR; rw [HE2.out]; rfl)
        have hu' : decide ((2048 : Int) < (usedN (putN rs x) : Int)) = false := by simp; omega
        clear hu
        go_wp2
        go_ret2
        rw [HE2.out, HP.out]
        exact ⟨_, _, rfl, HS.out.join H8.out⟩
end
end Go.Proofs.YtmkndbledppniaaGreat
