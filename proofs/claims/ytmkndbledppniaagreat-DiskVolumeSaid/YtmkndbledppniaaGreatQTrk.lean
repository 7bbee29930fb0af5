/- The reference's track functions: Search, Put, Encode, Half. -/
import Derived.Test.YtmkndbledppniaaGreatUndo2
namespace Go.Proofs.YtmkndbledppniaaGreat
open Go.RowKit
set_option maxRecDepth 100000 in
set_option maxHeartbeats 8000000 in
theorem rsearch_any (A : Option Addr) (rs : List Rec) (c : Nat) (fr : Int) (A2 : Option Addr) (key : List UInt8) (c2 : Nat) (high : Bool) (w : World) (hr : RecsAt w A rs) (hl : rs.length ≤ maxLen) (hk : CardAt w A2 key c2) :
    Calls Tryz.prog 65 #[.slice A rs.length c, .int .i64 fr, .slice A2 key.length c2, .bool high] w fun e w' => e = .returned (.int .i64 (idxV (searchN rs fr key high))) ∧ Below w.heap.size w w' := by
  have HR := Lib.hid hr
  have hfl : rs.length ≤ 9223372036854775807 := by unfold maxLen at hl; omega
  have hz2 : key.length ≤ 9223372036854775807 := by have := hk.2; unfold maxLen at this; omega
  have HKX := Lib.hid hk
  clear hr hl hk
  go_enter Tryz.func65, Tryz.ntmps65
  go_wp2
  go_loopw [9] (fun i wr => ∃ k : Nat, k ≤ rs.length ∧ i = .int .i64 k ∧ (∀ j y, j < k → rs[j]? = some y → hitB fr key high j y = false) ∧ Below w.heap.size w wr) (fun i _ => rs.length - (intOf i).toNat)
  case atStart => exact ⟨0, Nat.zero_le _, rfl, fun j y h => absurd h (by omega), Below.refl _ _⟩
  case round =>
    obtain ⟨k, hk, rfl, hok, b1⟩ := hrel
    have B1 := Lib.hid b1
    have HOK := Lib.hid hok
    clear b1 hok
    by_cases hlt : k < rs.length
    · have hx : rs[k]? = some rs[k] := by simp [hlt]
      generalize rs[k] = x at hx
      obtain ⟨g, off, Ak, ck, Ad, cd, hA, k0, k1, k2, k3, a1, _⟩ := HR.out.grow B1.out k x hx
      subst hA
      have HNEXT := Lib.hid (fun (hp : hitB fr key high k x = false) j y (hj : j < k + 1) (hy : rs[j]? = some y) => (by
        rcases Nat.lt_succ_iff_lt_or_eq.1 hj with h | rfl
        · exact HOK.out j y h hy
        · rw [hy] at hx; injection hx with hx; subst hx; exact hp : hitB fr key high j y = false))
      have HF := Lib.hid (fun (hp : hitB fr key high k x = true) => (searchN_some hx hp HOK.out))
      have HA1 := Lib.hid a1
      have hz1 : x.key.length ≤ 9223372036854775807 := by have := a1.2; unfold maxLen at this; omega
      clear hx a1
      by_cases h1 : (k : Int) < fr
      · have HN := Lib.hid (HNEXT.out (hit_before h1))
        go_wp2
        go_roundw
        case rel => exact ⟨k + 1, by omega, by go_num, HN.out, B1.out⟩
        case measure => simp [intOf]; omega
      have h1' : fr ≤ (k : Int) := by omega
      by_cases h2 : x.bad = true
      · have HN := Lib.hid (HNEXT.out (hit_bad h2))
        rw [h2] at k3
        clear h2
        go_wp2
        go_roundw
        case rel => exact ⟨k + 1, by omega, by go_num, HN.out, B1.out⟩
        case measure => simp [intOf]; omega
      have h2' : x.bad = false := by simpa using h2
      rw [h2'] at k3
      by_cases h3 : key.length = 0
      · have HN := Lib.hid (HNEXT.out (hit_zero h3))
        clear h2 h2'
        rw [h3]
        go_wp2
        go_roundw
        case rel => exact ⟨k + 1, by omega, by go_num, HN.out, B1.out⟩
        case measure => simp [intOf]; omega
      have t3 : ((key.length : Int) == 0) = false := by rw [beq_eq_false_iff_ne]; omega
      by_cases h4 : x.key.length = key.length
      · have HQ := Lib.hid (hit_else (key := key) (high := high) h1' h2' h3 h4)
        have t4 : ((x.key.length : Int) != (key.length : Int)) = false := by simp; omega
        have HL := Lib.hid (fun (wx : World) (hx : Below wr.heap.size wr wx) => And.intro ((hx.cell (p := ⟨g, off + k * 4 + 1, none⟩) (World.block_lt_of_cell? wr _ k1)).trans k1) (And.intro
          (run_string_of_at (P := Tryz.prog) (w := wx) 34 9 5 Tryz.underlying34 Tryz.underlying5 Tryz.underlying9 x.key ck (HA1.out.grow hx).1)
          (run_string_of_at (P := Tryz.prog) (w := wx) 34 9 5 Tryz.underlying34 Tryz.underlying5 Tryz.underlying9 key c2 ((HKX.out.grow B1.out).grow hx).1)))
        have e1 := bytes_beq x.key key
        have e2 := bytes_less x.key key
        generalize (⟨x.key.toArray⟩ : ByteArray) = sk at *
        generalize (⟨key.toArray⟩ : ByteArray) = sl at *
        generalize Op.bytesLess x.key key = q2 at *
        generalize decide (x.key = key) = q1 at *
        clear h2 h2' h3 h4
        go_upto_region 5 with fail
        clear k0 k1 k2 k3
        cases q1
        · cases high
          · have HN := Lib.hid (HNEXT.out (by rw [HQ.out]; rfl))
            refine wp_region_quiet (C := Below wr.heap.size wr) (by kernel_rfl) (by kernel_rfl) (Below.refl _ _).drew ?_
            (repeat (with_reducible refine wpQuiet_step ?_; intro K hK; go_simp; first | (with_reducible refine hK _ ?_; clear hK K) | (rw [if_neg (by decide)]; with_reducible refine hK _ ?_; clear hK K) | (refine ⟨_, fun wx hx => (by obtain ⟨f1, s1, s2⟩ := HL.out wx hx; go_simp; with_reducible rfl), hK _ ?_⟩; clear hK K) | fail | (refine ⟨_, fun _ _ => rfl, hK _ ?_⟩; clear hK K))); with_reducible refine wpQuiet_nil ?_
            intro w3 hw3
            have B3 := Lib.hid (B1.out.trans (Below.mono hw3 B1.out.size))
            clear hw3
            go_wp2
            go_roundw
            case rel => exact ⟨k + 1, by omega, by go_num, HN.out, B3.out⟩
            case measure => simp [intOf]; omega
          · cases q2
            · have HFX := Lib.hid (HF.out (by rw [HQ.out]; rfl))
              refine wp_region_quiet (C := Below wr.heap.size wr) (by kernel_rfl) (by kernel_rfl) (Below.refl _ _).drew ?_
              (repeat (with_reducible refine wpQuiet_step ?_; intro K hK; go_simp; first | (with_reducible refine hK _ ?_; clear hK K) | (rw [if_neg (by decide)]; with_reducible refine hK _ ?_; clear hK K) | (refine ⟨_, fun wx hx => (by obtain ⟨f1, s1, s2⟩ := HL.out wx hx; go_simp; with_reducible rfl), hK _ ?_⟩; clear hK K) | fail | (refine ⟨_, fun _ _ => rfl, hK _ ?_⟩; clear hK K))); with_reducible refine wpQuiet_nil ?_
              intro w3 hw3
              have B3 := Lib.hid (B1.out.trans (Below.mono hw3 B1.out.size))
              clear hw3
              go_wp2
              go_ret
              exact ⟨by rw [HFX.out]; rfl, B3.out⟩
            · have HN := Lib.hid (HNEXT.out (by rw [HQ.out]; rfl))
              refine wp_region_quiet (C := Below wr.heap.size wr) (by kernel_rfl) (by kernel_rfl) (Below.refl _ _).drew ?_
              (repeat (with_reducible refine wpQuiet_step ?_; intro K hK; go_simp; first | (with_reducible refine hK _ ?_; clear hK K) | (rw [if_neg (by decide)]; with_reducible refine hK _ ?_; clear hK K) | (refine ⟨_, fun wx hx => (by obtain ⟨f1, s1, s2⟩ := HL.out wx hx; go_simp; with_reducible rfl), hK _ ?_⟩; clear hK K) | fail | (refine ⟨_, fun _ _ => rfl, hK _ ?_⟩; clear hK K))); with_reducible refine wpQuiet_nil ?_
              intro w3 hw3
              have B3 := Lib.hid (B1.out.trans (Below.mono hw3 B1.out.size))
              clear hw3
              go_wp2
              go_roundw
              case rel => exact ⟨k + 1, by omega, by go_num, HN.out, B3.out⟩
              case measure => simp [intOf]; omega
        · have HFX := Lib.hid (HF.out (by rw [HQ.out]; rfl))
          refine wp_region_quiet (C := Below wr.heap.size wr) (by kernel_rfl) (by kernel_rfl) (Below.refl _ _).drew ?_
          (repeat (with_reducible refine wpQuiet_step ?_; intro K hK; go_simp; first | (with_reducible refine hK _ ?_; clear hK K) | (rw [if_neg (by decide)]; with_reducible refine hK _ ?_; clear hK K) | (refine ⟨_, fun wx hx => (by obtain ⟨f1, s1, s2⟩ := HL.out wx hx; go_simp; with_reducible rfl), hK _ ?_⟩; clear hK K) | fail | (refine ⟨_, fun _ _ => rfl, hK _ ?_⟩; clear hK K))); with_reducible refine wpQuiet_nil ?_
          intro w3 hw3
          have B3 := Lib.hid (B1.out.trans (Below.mono hw3 B1.out.size))
          clear hw3
          go_wp2
          go_ret
          exact ⟨by rw [HFX.out]; rfl, B3.out⟩
      · have HN := Lib.hid (HNEXT.out (hit_len h4))
        have t4 : ((x.key.length : Int) != (key.length : Int)) = true := by simp; omega
        clear h2 h2' h3
        go_wp2
        go_roundw
        case rel => exact ⟨k + 1, by omega, by go_num, HN.out, B1.out⟩
        case measure => simp [intOf]; omega
    · obtain rfl : k = rs.length := by omega
      have HF := Lib.hid (show searchN rs fr key high = none from searchN_none HOK.out)
      go_wp2
      go_ret
      exact ⟨by rw [HF.out]; rfl, B1.out⟩
section
variable {W w : World} {F : List SA}
set_option maxHeartbeats 2000000 in
theorem rhalf_any (n : Nat) (S : SL W F w) (hn : n ≤ 65535) :
    Calls Tryz.prog 90 #[.int .i64 (n : Int)] w fun e w' => ∃ A c, e = .returned (.slice A 2 c) ∧ SL W (rowS 5 1 (.slice A 2 c) 2 (Lib.byteCells (halfL n)) :: F) w' := by
  have HS := Lib.hid S
  clear S
  have hc := half_cells n hn
  go_enter Tryz.func90, Tryz.ntmps90
  have HC := Lib.hid hc
  clear hc
  go_wp2
  go_ret
  refine ⟨_, _, rfl, ?_⟩
  rw [HC.out]
  exact HS.out.lit _ _ 1 2 rfl (by decide)
end
section
variable {W w : World} {F : List SA}
set_option maxRecDepth 100000 in
set_option maxHeartbeats 8000000 in
theorem rput_any (A : Option Addr) (rs : List Rec) (c : Nat) (x : Rec) (Ak Ad : Option Addr) (ck cd : Nat) (S : SL W F w) (hr : RecsAt w A rs) (hf : Fit rs) (hn : rs.length + 1 ≤ 8192) (hk : CardAt w Ak x.key ck) (hd : CardAt w Ad x.data cd) (hl : x.key.length ≤ 140737488355328 ∧ x.data.length ≤ 140737488355328) :
    Calls Tryz.prog 69 #[.slice A rs.length c, .agg #[.int .i64 x.r, .slice Ak x.key.length ck, .slice Ad x.data.length cd, .bool x.bad]] w (RetL W F (putR rs x) (putE rs x)) := by
  have HS := Lib.hid S
  have HR := Lib.hid hr
  have HF := Lib.hid hf
  have HC := Lib.hid (And.intro hk (And.intro hd hl))
  have HFP := Lib.hid (Fit.put hf hn hl)
  have HPL := Lib.hid (lower_len (rs := rs) (r := x.r))
  have hfl := hf.1
  clear S hr hf hk hd hl
  go_enter Tryz.func69, Tryz.ntmps69
  have H0 := Lib.hid ((SL.start w).allocC #[.int .i64 x.r, .slice Ak x.key.length ck, .slice Ad x.data.length cd, .bool x.bad] 62)
  go_wp2_with fail
  refine (rvalid_any A rs c _ (HR.out.grow H0.out.1) HF.out).mono ?_
  rintro e w1 ⟨rfl, b1⟩
  have H1 := Lib.hid (H0.out.grow b1)
  clear b1 H0
  generalize w.heap.size = xb at *
  cases hv : validB rs
  · have HE := Lib.hid (show putE rs x = 1 by unfold putE; rw [hv]; rfl)
    have HP := Lib.hid (show putR rs x = [] by unfold putR; rw [HE.out]; rfl)
    clear hv
    go_wp2
    go_ret2
    rw [HE.out, HP.out]
    exact RetL.nil (HS.out.join H1.out.drop) rfl
  have HV := Lib.hid hv
  clear hv
  obtain ⟨L, K, z⟩ := H1.out.look
  go_wp2_with fail
  refine (record_any x.r Ak Ad x.key.length x.data.length ck cd x.bad _).mono ?_
  rintro e w2 ⟨rfl, b2⟩
  have H2 := Lib.hid (H1.out.grow b2)
  clear b2 H1 L K z
  cases hv : valid1 x.r x.key.length
  · have HE := Lib.hid (show putE rs x = 1 by unfold putE Rec.valid; rw [hv, HV.out]; rfl)
    have HP := Lib.hid (show putR rs x = [] by unfold putR; rw [HE.out]; rfl)
    clear hv
    go_wp2
    go_ret2
    rw [HE.out, HP.out]
    exact RetL.nil (HS.out.join H2.out.drop) rfl
  have HE := Lib.hid (show putE rs x = (if 2048 < usedN (putN rs x) then 7 else 0) by unfold putE Rec.valid; rw [hv, HV.out]; rfl)
  clear hv
  go_wp2
  go_loopw [6, 7] (fun o i wr => ∃ (k : Nat) (A3 : Option Addr) (c3 : Nat) (ps : List RV), k ≤ rs.length ∧ i = .int .i64 k ∧ ps.map Prod.snd = lower x.r (rs.take k) ∧ o = .slice A3 ps.length c3 ∧
    SL w (rowS 62 4 (.slice A3 ps.length c3) ps.length (ps.flatMap recCells) :: star (ps.map recO) :: cel xb #[.int .i64 x.r, .slice Ak x.key.length ck, .slice Ad x.data.length cd, .bool x.bad] 62 :: []) wr) (fun _ i _ => rs.length - (intOf i).toNat)
  case atStart => exact ⟨0, none, 0, [], Nat.zero_le _, rfl, rfl, rfl, H2.out.empty.nil _ _⟩
  case round =>
    obtain ⟨k, A3, c3, ps, hk, rfl, hp, rfl, S1⟩ := hrel
    have H1 := Lib.hid S1
    have HP := Lib.hid hp
    clear S1 H2 hp
    by_cases hlt : k < rs.length
    · have hb : rs[k]? = some rs[k] := by simp [hlt]
      have hbl := HF.out.2 rs[k] (List.getElem_mem hlt)
      generalize rs[k] = y at hb hbl
      obtain ⟨g, off, Bk, dk, Bd, dd, hA, k0, k1, k2, k3, a1, a2⟩ := HR.out.grow H1.out.1 k y hb
      subst hA
      have HB := Lib.hid (lower_take (r := x.r) hb)
      have HA := Lib.hid (And.intro a1 a2)
      clear hb a1 a2
      obtain ⟨L, K, z⟩ := H1.out.s2.look
      by_cases hyx : y.r < x.r
      · have HQ := Lib.hid (show lower x.r (rs.take (k + 1)) = lower x.r (rs.take k) ++ [y] by rw [HB.out, if_pos hyx])
        have hpl : ps.length ≤ k := by
          have h := congrArg List.length HP.out
          rw [List.length_map] at h
          have := lower_len (rs := rs.take k) (r := x.r)
          rw [List.length_take] at this
          omega
        go_wp2_with fail
        go_big_region
        go_wp2_with fail
        refine (one_any y Bk Bd dk dd H1.out.drew (HA.out.1.grow (Below.refl _ _).drew) (HA.out.2.grow (Below.refl _ _).drew) hbl).mono ?_
        rintro e w2 ⟨vk, vd, rfl, S2⟩
        have H2 := Lib.hid S2
        clear S2 H1 k0 k1 k2 k3 HA L K z
        go_wp2_with (at_builtin; refine wpList_pushS rfl _ _ _ rfl recElem w2 [.int .i64 y.r, vk, vd, .bool y.bad] 1 rfl rfl (by
                       obtain ⟨_, _, e1, _, _⟩ := own_slice H2.out.own
                       obtain ⟨_, _, e2, _, _⟩ := own_slice H2.out.s1.own
                       rw [e1, e2]
                       simp [Value.oneCell']) _ ps.length _ rfl rfl H2.out.s2 (by unfold maxLen; omega) (by omega) ?_
                     intro A6 c6 w6 S6
                     have H6 := Lib.hid S6
                     clear S6 H2)
        go_roundw
        case rel =>
          refine ⟨k + 1, A6, c6, ps ++ [((vk, vd), y)], by omega, by go_num, by rw [HQ.out, ← HP.out]; simp, by simp, ?_⟩
          rw [flat_snoc, List.length_append, List.length_singleton]
          exact recO_snoc H6.out
        case measure => simp [intOf]; omega
      · have HQ := Lib.hid (show lower x.r (rs.take (k + 1)) = lower x.r (rs.take k) by rw [HB.out, if_neg hyx, List.append_nil])
        go_wp2_with fail
        go_big_region
        go_wp2
        go_roundw
        case rel => exact ⟨k + 1, A3, c3, ps, by omega, by go_num, by rw [HQ.out]; exact HP.out, rfl, H1.out.drew⟩
        case measure => simp [intOf]; omega
    · obtain rfl : k = rs.length := by omega
      have HQ := Lib.hid (show ps.map Prod.snd = lower x.r rs by rw [HP.out, List.take_of_length_le (Nat.le_refl _)])
      have hpl : ps.length ≤ rs.length := by
        have h := congrArg List.length HQ.out
        rw [List.length_map] at h
        have := HPL.out
        omega
      have H2 := Lib.hid H1.out.s2
      obtain ⟨L, K, z⟩ := H2.out.look
      clear H1 HP
      go_wp2_with fail
      refine (one_any x Ak Ad ck cd H2.out (HC.out.1.grow H2.out.1) (HC.out.2.1.grow H2.out.1) HC.out.2.2).mono ?_
      rintro e w2 ⟨vk, vd, rfl, S2⟩
      have H3 := Lib.hid S2.s2.drop.s2
      clear S2 H2 L K z
      go_wp2_with (at_builtin; refine wpList_pushS rfl _ _ _ rfl recElem w2 [.int .i64 x.r, vk, vd, .bool x.bad] 1 rfl rfl (by
                     obtain ⟨_, _, e1, _, _⟩ := own_slice H3.out.s1.own
                     obtain ⟨_, _, e2, _, _⟩ := own_slice H3.out.s2.own
                     rw [e1, e2]
                     simp [Value.oneCell']) _ ps.length _ rfl rfl H3.out (by unfold maxLen; omega) (by omega) ?_
                   intro A6 c6 w6 S6
                   have H6 := Lib.hid S6
                   clear S6 H3)
      have hps : (ps ++ [((vk, vd), x)]).map Prod.snd = putN rs x := by unfold putN; rw [List.map_append, HQ.out]; rfl
      have hpn : ps.length + 1 = (putN rs x).length := by rw [← hps]; simp
      have H7 := Lib.hid (show SL w (recsS (.slice A6 (putN rs x).length c6) (putN rs x) :: []) w6 by
        refine recsS_close' (n := (putN rs x).length) (ps := ps ++ [((vk, vd), x)]) (by simpa using hpn) hps ?_
        rw [flat_snoc, ← hpn]
        exact recO_snoc H6.out)
      rw [hpn]
      have HU := Lib.hid (rused_any A6 (putN rs x) c6 w6 (recsS_at H7.out) HFP.out)
      clear hps hpn H6
      go_wp2_with fail
      refine HU.out.mono ?_
      rintro e w7 ⟨rfl, b7⟩
      have H8 := Lib.hid (H7.out.grow b7)
      clear b7 H7 HU
      by_cases hu : 2048 < usedN (putN rs x)
      · have HE2 := Lib.hid (show putE rs x = 7 by rw [HE.out, if_pos hu])
        have HP := Lib.hid (show putR rs x = [] by unfold putR; rw [HE2.out]; rfl)
        have hu' : decide ((2048 : Int) < (usedN (putN rs x) : Int)) = true := by simp; omega
        clear hu
        go_wp2
        go_ret2
        rw [HE2.out, HP.out]
        exact RetL.nil (HS.out.join H8.out.drop) rfl
      · have HE2 := Lib.hid (show putE rs x = 0 by rw [HE.out, if_neg hu])
        have HP := Lib.hid (show putR rs x = putN rs x by unfold putR; rw [HE2.out]; rfl)
        have hu' : decide ((2048 : Int) < (usedN (putN rs x) : Int)) = false := by simp; omega
        clear hu
        go_wp2
        go_ret2
        rw [HE2.out, HP.out]
        exact ⟨_, _, rfl, HS.out.join H8.out⟩
end
section
variable {W w : World} {F : List SA}
set_option maxRecDepth 100000 in
set_option maxHeartbeats 16000000 in
theorem rencode_any (A : Option Addr) (rs : List Rec) (c : Nat) (cy hd : Int) (S : SL W F w) (hr : RecsAt w A rs) (hf : Fit rs) :
    Calls Tryz.prog 67 #[.int .i64 cy, .int .i64 hd, .slice A rs.length c] w (RetBy W F (encB cy hd rs) (encE cy hd rs)) := by
  have HS := Lib.hid S
  have HR := Lib.hid hr
  have HF := Lib.hid hf
  have hfl := hf.1
  clear S hr hf
  by_cases hrange : 0 ≤ cy ∧ cy ≤ 65535 ∧ 0 ≤ hd ∧ hd ≤ 65535
  · have HE := Lib.hid (show encE cy hd rs = if validB rs && !(rs.any Rec.bad) then 0 else 1 by unfold encE; rw [if_pos hrange])
    obtain ⟨a1, a2, a3, a4⟩ := hrange
    obtain ⟨cn, rfl⟩ : ∃ n : Nat, cy = n := ⟨cy.toNat, by omega⟩
    obtain ⟨hn, rfl⟩ : ∃ n : Nat, hd = n := ⟨hd.toNat, by omega⟩
    go_enter Tryz.func67, Tryz.ntmps67
    go_wp2_with fail
    refine (rvalid_any A rs c _ HR.out HF.out).mono ?_
    rintro e w1 ⟨rfl, b1⟩
    have B1 := Lib.hid b1
    clear b1
    cases hv : validB rs
    · have HE2 := Lib.hid (show encE cn hn rs = 1 by rw [HE.out, hv]; rfl)
      have HP := Lib.hid (show encB cn hn rs = [] by unfold encB; rw [HE2.out]; rfl)
      clear hv
      go_wp2
      go_ret2
      rw [HE2.out, HP.out]
      exact RetBy.nil (HS.out.grow B1.out) rfl
    have HV := Lib.hid hv
    have HU := Lib.hid ((validB_iff.1 hv).2)
    clear hv
    go_wp2
    go_loopw [8, 9] (fun b i wr => ∃ (k : Nat) (A3 : Option Addr) (c3 : Nat) (l : List UInt8), k ≤ rs.length ∧ i = .int .i64 k ∧ l = encL cn hn (rs.take k) ∧ (∀ j y, j < k → rs[j]? = some y → y.bad = false) ∧ b = .slice A3 l.length c3 ∧
      SL w (rowS 5 1 (.slice A3 l.length c3) l.length (Lib.byteCells l) :: []) wr) (fun _ i _ => rs.length - (intOf i).toNat)
    case atStart => exact ⟨0, none, 0, [], Nat.zero_le _, rfl, rfl, fun j y h => absurd h (by omega), rfl, ((SL.start w).grow B1.out).nil _ _⟩
    case round =>
      obtain ⟨k, A3, c3, l, hk, rfl, hl, hbad, rfl, S1⟩ := hrel
      have H1 := Lib.hid S1
      have hll : l.length ≤ 2048 := by
        rw [hl]
        have h1 := encL_len (c := cn) (h := hn) (rs := rs.take k)
        have h2 := used_take (rs := rs) k
        have h3 := HU.out
        omega
      have HL := Lib.hid hl
      have HBD := Lib.hid hbad
      clear S1 hl hbad
      by_cases hlt : k < rs.length
      · have hb : rs[k]? = some rs[k] := by simp [hlt]
        generalize rs[k] = y at hb
        obtain ⟨g, off, Bk, dk, Bd, dd, hA, k0, k1, k2, k3, a1, a2⟩ := HR.out k y hb
        subst hA
        obtain ⟨v1, v2, v3, v4⟩ := valid_rec HV.out hb
        have HLN := Lib.hid (show l ++ encR cn hn y = encL cn hn (rs.take (k + 1)) by rw [HL.out, encL_take hb])
        have HA := Lib.hid (And.intro a1 a2)
        have z0 := World.block_lt_of_cell? w _ k0
        have HC := Lib.hid (fun (wx : World) (hx : Below w.heap.size w wx) => (⟨(hx.cell (p := ⟨g, off + k * 4, none⟩) z0).trans k0, (hx.cell (p := ⟨g, off + k * 4 + 1, none⟩) z0).trans k1, (hx.cell (p := ⟨g, off + k * 4 + 2, none⟩) z0).trans k2, (hx.cell (p := ⟨g, off + k * 4 + 3, none⟩) z0).trans k3⟩ :
          wx.cell? ⟨g, off + k * 4, none⟩ = some (.int .i64 y.r) ∧ wx.cell? ⟨g, off + k * 4 + 1, none⟩ = some (.slice Bk y.key.length dk) ∧ wx.cell? ⟨g, off + k * 4 + 2, none⟩ = some (.slice Bd y.data.length dd) ∧ wx.cell? ⟨g, off + k * 4 + 3, none⟩ = some (.bool y.bad)))
        clear a1 a2 k0 k1 k2 k3 z0
        cases hyb : y.bad
        case true =>
          have HE2 := Lib.hid (show encE cn hn rs = 1 by
            have : rs.any Rec.bad = true := List.any_eq_true.2 ⟨y, List.mem_iff_getElem?.2 ⟨k, hb⟩, hyb⟩
            rw [HE.out, this, HV.out]; rfl)
          have HP := Lib.hid (show encB cn hn rs = [] by unfold encB; rw [HE2.out]; rfl)
          rw [hyb] at HC
          clear hb hyb
          obtain ⟨k0, k1, k2, k3⟩ := HC.out wr H1.out.1
          go_wp2
          go_ret2
          rw [HE2.out, HP.out]
          exact RetBy.nil (HS.out.join H1.out.drop) rfl
        have HNB := Lib.hid (fun j z (hj : j < k + 1) (hz : rs[j]? = some z) => (by
          rcases Nat.lt_succ_iff_lt_or_eq.1 hj with h | rfl
          · exact HBD.out j z h hz
          · rw [hz] at hb; injection hb with hb; subst hb; exact hyb : z.bad = false))
        rw [hyb] at HC
        clear hb hyb
        obtain ⟨k0, k1, k2, k3⟩ := HC.out wr H1.out.1
        go_wp2_with fail
        refine (rhalf_any cn H1.out (by omega)).mono ?_
        rintro e w2 ⟨A2, c2, rfl, S2⟩
        have H2 := Lib.hid S2.s1
        have HAT := Lib.hid S2.at_
        clear S2 H1 k0 k1 k2 k3
        go_wp2_with (at_builtin; refine wpList_appS rfl _ _ _ rfl bElem _ l.length _ rfl H2.out _ A2 2 c2 (Lib.byteCells (halfL cn)) rfl HAT.out rfl (byteCells_one _) (by unfold maxLen; omega) (by omega) ?_
                     intro A4 c4 w4 S4
                     rw [← byteCells_app] at S4
                     have H4 := Lib.hid S4.only
                     clear S4 H2 HAT)
        refine (rhalf_any hn H4.out (by omega)).mono ?_
        rintro e w5 ⟨A5, c5, rfl, S5⟩
        have H5 := Lib.hid S5.s1
        have HAT := Lib.hid S5.at_
        clear S5 H4
        go_wp2_with (at_builtin; refine wpList_appS rfl _ _ _ rfl bElem _ (l.length + 2) _ rfl H5.out _ A5 2 c5 (Lib.byteCells (halfL hn)) rfl HAT.out rfl (byteCells_one _) (by unfold maxLen; omega) (by omega) ?_
                     intro A6 c6 w6 S6
                     rw [← byteCells_app, show l.length + 2 + 2 = l.length + 4 from rfl] at S6
                     have H6 := Lib.hid S6.only
                     clear S6 H5 HAT)
        rw [show l.length + 2 + 2 = l.length + 4 from rfl]
        have hx1 : IntKind.u8.wrap y.r = y.r := by rw [IntKind.wrap_u8]; omega
        have hx2 : IntKind.u8.wrap (y.key.length : Int) = (y.key.length : Int) := by rw [IntKind.wrap_u8]; omega
        refine wp_region_order2 (fun wx => wx = w6.drew) (Below w.heap.size w) (fun wx e => by rw [e]; exact H6.out.1.drew) [0, 1, 2, 3, 4, 7, 8, 9, 10] [5, 6, 11, 12, 13] [] [14] [15, 16] (by kernel_rfl) (by kernel_rfl) rfl (by intro c a d v w h; cases d <;> exact h) ?_
        simp only [pick, List.filterMap_cons, List.filterMap_nil, List.getElem?_cons_zero, List.getElem?_cons_succ]
        (repeat (with_reducible refine wpPure_step ?_; intro K hK; go_simp; with_reducible refine hK _ ?_; clear hK K))
        refine wpPure_nil ?_
        (repeat (with_reducible refine wpLoads_step ?_; intro K hK; go_simp; first | (with_reducible refine hK _ ?_; clear hK K) | (rw [if_neg (by decide)]; with_reducible refine hK _ ?_; clear hK K) | (refine ⟨_, fun wx hx => (by obtain ⟨f0, f1, f2, f3⟩ := HC.out wx hx; go_simp; with_reducible rfl), hK _ ?_⟩; clear hK K) | (refine ⟨_, fun _ _ => rfl, hK _ ?_⟩; clear hK K))); with_reducible refine wpLoads_nil ?_
        refine wpQuiet_nil ?_
        intro wq hwq
        subst hwq
        (with_reducible refine wpKeep_step ?_; intro K hK; go_simp)
        refine hK _ _ (H6.out.allocC _ _).1.drew ?_
        clear hK K
        refine wpKeep_nil ?_
        show wpList _ _ _ _ _ _
        refine wpList_pushS rfl _ _ _ rfl bElem w6.drew [.int .u8 y.r, .int .u8 (y.key.length : Int)] 2 rfl rfl (by simp [Value.oneCell']) _ (l.length + 4) _ rfl rfl H6.out.drew (by unfold maxLen; omega) (by omega) ?_
        intro A7 c7 w7 S7
        have HBY := Lib.hid (show Lib.byteCells [UInt8.ofNat y.r.toNat, UInt8.ofNat y.key.length] = [.int .u8 y.r, .int .u8 (y.key.length : Int)] by
          have h1 : ((UInt8.ofNat y.r.toNat).toNat : Int) = y.r := by rw [UInt8.toNat_ofNat']; omega
          have h2 : ((UInt8.ofNat y.key.length).toNat : Int) = (y.key.length : Int) := by rw [UInt8.toNat_ofNat']; omega
          show [Value.int .u8 ((UInt8.ofNat y.r.toNat).toNat : Int), Value.int .u8 ((UInt8.ofNat y.key.length).toNat : Int)] = _
          rw [h1, h2])
        rw [← HBY.out, ← byteCells_app, show l.length + 4 + 2 = l.length + 6 from rfl] at S7
        have H7 := Lib.hid S7
        clear S7 H6 HBY hx1 hx2
        rw [show l.length + 4 + 2 = l.length + 6 from rfl]
        obtain ⟨k0, k1, k2, k3⟩ := HC.out w7 H7.out.1
        go_wp2_with fail
        refine (rhalf_any y.data.length H7.out (by omega)).mono ?_
        rintro e w8 ⟨A8, c8, rfl, S8⟩
        have H8 := Lib.hid S8.s1
        have HAT := Lib.hid S8.at_
        clear S8 H7 k0 k1 k2 k3
        obtain ⟨k0, k1, k2, k3⟩ := HC.out w8 H8.out.1
        go_wp2_with (first
          | (at_builtin; refine wpList_appS rfl _ _ _ rfl bElem _ (l.length + 6) _ rfl H8.out _ A8 2 c8 (Lib.byteCells (halfL y.data.length)) rfl HAT.out rfl (byteCells_one _) (by unfold maxLen; omega) (by omega) ?_
             intro A9 c9 w9 S9
             rw [← byteCells_app, show l.length + 6 + 2 = l.length + 8 from rfl] at S9
             rw [show l.length + 6 + 2 = l.length + 8 from rfl]
             have H9 := Lib.hid S9.only
             clear S9 H8 HAT k0 k1 k2 k3
             obtain ⟨k0, k1, k2, k3⟩ := HC.out w9 H9.out.1
             have HK1 := Lib.hid (HA.out.1.grow H9.out.1))
          | (at_builtin; refine wpList_appS rfl _ _ _ rfl bElem _ (l.length + 8) _ rfl H9.out _ Bk y.key.length dk (Lib.byteCells y.key) rfl HK1.out.1 (by rw [byteCells_len, Nat.mul_one]) (byteCells_one _) (by unfold maxLen; omega) (by omega) ?_
             intro A10 c10 w10 S10
             rw [← byteCells_app] at S10
             have H10 := Lib.hid S10
             clear S10 H9 HK1 k0 k1 k2 k3
             obtain ⟨k0, k1, k2, k3⟩ := HC.out w10 H10.out.1
             have HK2 := Lib.hid (HA.out.2.grow H10.out.1))
          | (at_builtin; refine wpList_appS rfl _ _ _ rfl bElem _ (l.length + 8 + y.key.length) _ rfl H10.out _ Bd y.data.length dd (Lib.byteCells y.data) rfl HK2.out.1 (by rw [byteCells_len, Nat.mul_one]) (byteCells_one _) (by unfold maxLen; omega) (by omega) ?_
             intro A11 c11 w11 S11
             rw [← byteCells_app] at S11
             have H11 := Lib.hid S11
             clear S11 H10 HK2 k0 k1 k2 k3))
        go_roundw
        case rel =>
          have hn9 : (l ++ encR cn hn y).length = l.length + 8 + y.key.length + y.data.length := by rw [List.length_append, encR_len]; omega
          refine ⟨k + 1, A11, c11, l ++ encR cn hn y, by omega, by go_num, HLN.out, HNB.out, by rw [hn9], ?_⟩
          rw [hn9]
          have h := H11.out
          simp only [List.append_assoc] at h
          simp only [encR, List.append_assoc]
          exact h
        case measure => simp [intOf]; omega
      · obtain rfl : k = rs.length := by omega
        have HE2 := Lib.hid (show encE cn hn rs = 0 by
          have : rs.any Rec.bad = false := List.any_eq_false.2 fun x hx => by
            obtain ⟨j, hj⟩ := List.mem_iff_getElem?.1 hx
            rw [HBD.out j x (List.getElem?_eq_some_iff.1 hj).1 hj]; decide
          rw [HE.out, this, HV.out]; rfl)
        have HQ := Lib.hid (show encB cn hn rs = l ++ ff8 by unfold encB; rw [HE2.out, HL.out, List.take_of_length_le (Nat.le_refl _)]; rfl)
        clear HL
        have hff : [Value.int .u8 255, .int .u8 255, .int .u8 255, .int .u8 255, .int .u8 255, .int .u8 255, .int .u8 255, .int .u8 255] = Lib.byteCells ff8 := rfl
        have HFF := Lib.hid hff
        clear hff
        go_wp2_with (at_builtin; refine wpList_pushS rfl _ _ _ rfl bElem wr [Value.int .u8 255, .int .u8 255, .int .u8 255, .int .u8 255, .int .u8 255, .int .u8 255, .int .u8 255, .int .u8 255] 8 rfl rfl (by simp [Value.oneCell']) _ l.length _ rfl rfl H1.out (by unfold maxLen; omega) (by omega) ?_
                     intro A9 c9 w9 S9
                     rw [HFF.out, ← byteCells_app] at S9
                     have H9 := Lib.hid S9
                     clear S9 H1)
        go_ret2
        rw [HE2.out, HQ.out]
        exact ⟨A9, c9, by rw [List.length_append]; rfl, by rw [List.length_append]; exact HS.out.join H9.out⟩
  · have HE2 := Lib.hid (show encE cy hd rs = 6 by unfold encE; rw [if_neg hrange])
    have HP := Lib.hid (show encB cy hd rs = [] by unfold encB; rw [HE2.out]; rfl)
    have hcases : cy < 0 ∨ (0 ≤ cy ∧ 65535 < cy) ∨ ((0 ≤ cy ∧ cy ≤ 65535) ∧ hd < 0) ∨ ((0 ≤ cy ∧ cy ≤ 65535) ∧ (0 ≤ hd ∧ 65535 < hd)) := by omega
    clear hrange
    go_enter Tryz.func67, Tryz.ntmps67
    rcases hcases with h1 | ⟨h1, h2⟩ | ⟨⟨h1, h2⟩, h3⟩ | ⟨⟨h1, h2⟩, h3, h4⟩
    all_goals
      go_wp2
      go_ret2
      rw [HE2.out, HP.out]
      exact RetBy.nil HS.out rfl
end
end Go.Proofs.YtmkndbledppniaaGreat
