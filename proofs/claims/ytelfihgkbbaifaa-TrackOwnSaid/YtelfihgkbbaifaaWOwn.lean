/- TrackOwn: the walk. -/
import Derived.Test.YtelfihgkbbaifaaMut
namespace Go.Proofs.Ytelfihgkbbaifaa
open Go.RowKit
/-- A list of records of whatever content. -/
def shp (v : Value) : SA := fun h => ∃ rs : List Rec, recsS v rs h
theorem idx3r (cs : Array Value) (v : Value) (i : Nat) (z : Int) (hz : z = (i : Int)) (hi : i < 3) (hv : cs[i]? = some v) (w : World) : (Instr.index 59 (.agg cs) (.int .i64 z)).run Try.prog w = .ok v w := by
  subst hz
  have h1 : (Try.prog.info? 22).map (·.size) = some 1 := by kernel_rfl
  obtain ⟨inf, hinf, hs⟩ := Option.map_eq_some_iff.1 h1
  have h3 : (0 : Int) ≤ (i : Int) ∧ (i : Int) < 3 := by omega
  simp [Instr.index, asIntOf, run_underlying Try.underlying59, part, isAgg, run_underlying Try.underlying22, sizeOf, typeInfo, hinf, hs, h3, hv]
  intro h; omega
section
variable {W w : World} {F : List SA}
theorem shp_open {A : Option Addr} {n c : Nat} (S : SL W (shp (.slice A n c) :: F) w) : ∃ rs : List Rec, rs.length = n ∧ SL W (recsS (.slice A n c) rs :: F) w := by
  obtain ⟨rs, S1⟩ : ∃ rs, SL W (recsS (.slice A n c) rs :: F) w := by
    obtain ⟨rs, _, S1⟩ := SL.unpack (α := List Rec) (φ := fun _ => True) (K := fun rs => [recsS (.slice A n c) rs]) S (by
      rintro h ⟨rs, s⟩
      exact ⟨rs, trivial, h, fun _ => none, s, trivial, (by intro b o o' _ e; cases e), Hp.le_refl _, (by intro b o e; cases e)⟩)
    exact ⟨rs, S1⟩
  obtain ⟨A', c', e, _, _⟩ := recsS_len S1
  injection e with _ e _
  exact ⟨rs, e.symm, S1⟩
theorem shp_close {v : Value} {rs : List Rec} (S : SL W (recsS v rs :: F) w) : SL W (shp v :: F) w := S.head fun _ h => ⟨rs, h⟩
theorem recs_ne {g g2 n n2 c c2 : Nat} {rs rs2 : List Rec} (h : rs.length ≠ 0) (h2 : rs2.length ≠ 0) (S : SL W (recsS (.slice (some ⟨g, 0, none⟩) n c) rs :: recsS (.slice (some ⟨g2, 0, none⟩) n2 c2) rs2 :: F) w) : g ≠ g2 := by
  obtain ⟨ps, rfl, S1⟩ := recsS_open S
  rw [List.length_map] at h
  obtain ⟨y, _, cur, hv, _, _, _, _, S2⟩ := S1.rowCel (by omega)
  injection hv with ha _ _
  injection ha with ha; injection ha with ha
  subst ha
  obtain ⟨qs, rfl, S3⟩ := recsS_open S2.s2
  rw [List.length_map] at h2
  obtain ⟨y2, _, cur2, hv2, _, _, _, _, S4⟩ := S3.rowCel (by omega)
  injection hv2 with ha2 _ _
  injection ha2 with ha2; injection ha2 with ha2
  subst ha2
  exact (S4.s1.drop.s1).cne
set_option maxRecDepth 100000 in
set_option maxHeartbeats 32000000 in
theorem walk_trackOwn (W : World) (A : Option Addr) (l : List Rec) (c : Nat) (hl : l.length ≤ c) (hcm : c ≤ maxLen) (hat : RecsAt W A l) (r : Int) (k d : CardV) (bad : Bool) (_wr : (Lit.int .i64 r).wf = true) (gk : CardV.good W W.heap.size k) (gd : CardV.good W W.heap.size d) :
    Calls Try.prog 9 #[.slice A l.length c, .agg #[.int .i64 r, cardV k, cardV d, .bool bad]] W fun e W' => e = .returned (.bool true) ∧ Below W.heap.size W W' := by
  obtain ⟨Ak, key, ck⟩ := k
  obtain ⟨Ad, data, cd⟩ := d
  have HK := Lib.hid (show CardAt W Ak key ck from gk)
  have HD := Lib.hid (show CardAt W Ad data cd from gd)
  have HR := Lib.hid hat
  have HM := Lib.hid (Nat.le_trans hl hcm)
  clear gk gd hat hl hcm
  simp only [cardV]
  go_enter Try.func9, Try.ntmps9
  have H0 := Lib.hid ((SL.start W).allocC #[.int .i64 r, .slice Ak key.length ck, .slice Ad data.length cd, .bool bad] 25)
  go_wp2_with fail
  refine (works_any _).mono ?_
  rintro e w0 ⟨rfl, b0⟩
  have H1 := Lib.hid (H0.out.grow b0)
  clear b0 H0
  generalize W.heap.size = xb at *
  go_wp2_with fail
  refine (track_any A l c H1.out (RecsB.base HR.out _) HM.out).mono ?_
  rintro e w1 ⟨A1, c1, rfl, S1⟩
  have H2 := Lib.hid S1
  clear S1 H1
  go_wp2_with fail
  refine (track_any A l c H2.out (RecsB.base HR.out _) HM.out).mono ?_
  rintro e w2 ⟨A2, c2, rfl, S2⟩
  have H3 := Lib.hid S2.s2
  clear S2 H2
  obtain ⟨t, ht⟩ : ∃ t, t = trackL l := ⟨_, rfl⟩
  have HTF := Lib.hid (show t.length ≤ 40 ∧ (∀ x ∈ t, x.key.length ≤ 255 ∧ x.data.length ≤ 2016) ∧ validB t = true by rw [ht]; exact ⟨trackL_len l, trackL_size l, trackL_valid l⟩)
  have htl : t.length ≤ 40 := HTF.out.1
  rw [← ht] at H3 ⊢
  clear ht
  go_upto_region 4 with fail
  have hyk : min key.length 20 = (key.take 20).length := by simp [Nat.min_comm]
  have hyd : min data.length 50 = (data.take 50).length := by simp [Nat.min_comm]
  have HA1 := Lib.hid (HK.out.take 20)
  have HA2 := Lib.hid (HD.out.take 50)
  have HC1 := Lib.hid (fun wx => cut_any Ak key.length ck 20 20 rfl wx HK.out.2.1 HK.out.2.2)
  have HC2 := Lib.hid (fun wx => cut_any Ad data.length cd 50 50 rfl wx HD.out.2.1 HD.out.2.2)
  have HLB := Lib.hid (show (key.take 20).length ≤ 20 ∧ (data.take 50).length ≤ 50 by simp only [List.length_take]; omega)
  rw [hyk] at HC1
  rw [hyd] at HC2
  clear hyk hyd
  generalize hk0 : key.take 20 = key2 at *
  generalize hd0 : data.take 50 = data2 at *
  clear hk0 hd0
  obtain ⟨L, K, z⟩ := H3.out.look
  obtain ⟨rn, hrn⟩ : ∃ rn, wrap64 (1 + wrap64 ((IntKind.u64.wrap r).tmod 9)) = rn := ⟨_, rfl⟩
  refine wp_region_order (fun wx => wx = w2.drew) [] [] [0, 1, 2, 3, 4, 5, 6, 7, 8, 9, 10, 11, 12] [] [13, 14, 15, 16, 17] (by kernel_rfl) (by kernel_rfl) rfl (by intro c a d v w h; cases d <;> exact h) ?_
  simp only [pick, List.filterMap_cons, List.filterMap_nil, List.getElem?_cons_zero, List.getElem?_cons_succ]
  refine wpPure_nil ?_
  refine wpLoads_nil ?_
  (repeat (with_reducible refine wpQuiet_step ?_; intro K hK; go_simp; first | (with_reducible refine hK _ ?_; clear hK K) | (rw [if_neg (by decide)]; with_reducible refine hK _ ?_; clear hK K) | (refine ⟨_, fun wx hx => (by subst hx; go_simp; with_reducible rfl), hK _ ?_⟩; clear hK K) | (first | (refine ⟨_, (by with_reducible refine (HC1.out _).mono ?_; rintro e w' ⟨rfl, rfl⟩; exact ⟨rfl, rfl⟩), hK _ ?_⟩; clear hK K) | (refine ⟨_, (by with_reducible refine (HC2.out _).mono ?_; rintro e w' ⟨rfl, rfl⟩; exact ⟨rfl, rfl⟩), hK _ ?_⟩; clear hK K)) | (refine ⟨_, fun _ _ => rfl, hK _ ?_⟩; clear hK K))); with_reducible refine wpQuiet_nil ?_
  intro w3 hw3
  have H4 := Lib.hid (hw3 ▸ H3.out.drew : SL W _ w3)
  clear hw3 H3 L K z HC1 HC2
  refine wpKeep_nil ?_
  obtain ⟨L, K, z⟩ := H4.out.look
  go_upto_region 5 with fail
  refine name_world (P := Code.wp _ _ _ _) ?_
  intro w4 hw4
--STOP
  have H5 := Lib.hid (SL.cast hw4 (((H4.out.set (off := 0) (v := .int .i64 rn) (cs' := #[.int .i64 rn, .slice Ak key.length ck, .slice Ad data.length cd, .bool bad]) rfl).set (off := 1) (v := .slice Ak key2.length ck) (cs' := #[.int .i64 rn, .slice Ak key2.length ck, .slice Ad data.length cd, .bool bad]) rfl).set (off := 2) (v := .slice Ad data2.length cd) (cs' := #[.int .i64 rn, .slice Ak key2.length ck, .slice Ad data2.length cd, .bool bad]) rfl)).b2.s1
  clear hw4 H4 L K z hrn
  go_wp2
  go_loopw [48] (fun i wr => ∃ k : Nat, k ≤ t.length ∧ i = .int .i64 k ∧ SL W (recsS (.slice A1 t.length c1) ((t.take k).map nb ++ t.drop k) :: recsS (.slice A2 t.length c2) ((t.take k).map nb ++ t.drop k) :: cel xb #[.int .i64 rn, .slice Ak key2.length ck, .slice Ad data2.length cd, .bool bad] 25 :: []) wr) (fun i _ => t.length - (intOf i).toNat)
  case atStart => exact ⟨0, Nat.zero_le _, rfl, by simpa using H5.out⟩
  case round =>
    obtain ⟨k, hk, rfl, S2⟩ := hrel
    have H2 := Lib.hid S2
    clear S2 H5
    by_cases hlt : k < t.length
    · have hy : t[k]? = some t[k] := by simp [hlt]
      obtain ⟨hy1, hy2⟩ := nb_step hy
      have hl0 : ((t.take k).map nb ++ t.drop k).length ≠ 0 := by simp; omega
      generalize t[k] = y at *
      obtain ⟨g, hA, m3, mf, S3⟩ := recs_bad hy1 H2.out
      subst hA
      obtain ⟨g2, hA2, n3, nf, _⟩ := recs_bad hy1 H2.out.s1
      subst hA2
      have hne : g ≠ g2 := recs_ne hl0 hl0 H2.out
      have S4 := (S3 false).s1
      obtain ⟨g3, hA3, _, _, S5⟩ := recs_bad hy1 S4
      injection hA3 with hA3; injection hA3 with hA3; subst hA3
      have H3 := Lib.hid (S5 false).s1
      rw [show (⟨y.r, y.key, y.data, false⟩ : Rec) = nb y from rfl, hy2] at H3
      clear S3 S4 S5 hy hy1 hy2 H2 hl0
      go_wp2
      go_roundw
      case rel => exact ⟨k + 1, by omega, by go_num, H3.out⟩
      case measure => simp [intOf]; omega
    · obtain rfl : k = t.length := by omega
      have hts : (t.take t.length).map nb ++ t.drop t.length = t.map nb := by rw [List.take_of_length_le (Nat.le_refl _), List.drop_of_length_le (Nat.le_refl _), List.append_nil]
      rw [hts] at H2
      have HUF := Lib.hid (show Fit (t.map nb) from ⟨by rw [List.length_map]; omega, fun y hy => by
        obtain ⟨z, hz, rfl⟩ := List.mem_map.1 hy
        have := HTF.out.2.1 z hz
        simp only [nb]; omega⟩)
      have HEN := Lib.hid (enc_nb (c := 1) (h := 1) HTF.out.2.2 (by omega) (by omega))
      have HDE := Lib.hid (dec_enc (c := 1) (h := 1) (t := t.map nb) (by omega) (by omega) (by rw [valid_nb]; exact HTF.out.2.2) (fun x hx => by obtain ⟨y, _, rfl⟩ := List.mem_map.1 hx; rfl))
      obtain ⟨told, htold⟩ : ∃ told, told = encL 1 1 (t.map nb) ++ ff8 := ⟨_, rfl⟩
      have HLEN := Lib.hid (show told.length ≤ 2056 by
        rw [htold, List.length_append]
        have h1 := encL_len (c := 1) (h := 1) (rs := t.map nb)
        have h2 := (validB_iff.1 HTF.out.2.2).2
        rw [used_nb] at h1
        show _ + 8 ≤ 2056
        omega)
      rw [← htold] at HEN HDE
      obtain ⟨u, hu⟩ : ∃ u, u = t.map nb := ⟨_, rfl⟩
      have hul : u.length = t.length := by rw [hu, List.length_map]
      rw [← hu] at H2 HUF HEN HDE
      rw [← hul] at H2 ⊢
      have htl2 : u.length ≤ 40 := by omega
      clear hts hu hul htold
      have hcP := put_any A1 u c1 ⟨rn, key2, data2, bad⟩ Ak Ad ck cd H2.out (recsS_at H2.out) HUF.out (by omega) (HA1.out.grow H2.out.below) (HA2.out.grow H2.out.below) (by have := HLB.out; show key2.length ≤ _ ∧ data2.length ≤ _; omega)
      dsimp only at hcP
      generalize putR u _ = pl at hcP
      generalize putE u _ = pe at hcP
      have HCP := Lib.hid hcP
      clear hcP
      obtain ⟨L, K, z⟩ := H2.out.s2.look
      go_wp2_with fail
      refine HCP.out.mono ?_
      rintro e w6 ⟨A3, c3, rfl, S6⟩
      have H6 := Lib.hid S6
      clear S6 HCP H2 L K z
      have hcR := replace_any A1 u c1 ⟨rn, key2, data2, bad⟩ Ak Ad ck cd H6.out (recsS_at H6.out.s1) HUF.out (HA1.out.grow H6.out.below) (HA2.out.grow H6.out.below) (by have := HLB.out; show key2.length ≤ _ ∧ data2.length ≤ _; omega)
      dsimp only at hcR
      generalize repR u _ = rl at hcR
      generalize repE u _ = re at hcR
      have HCR := Lib.hid hcR
      clear hcR
      obtain ⟨L, K, z⟩ := H6.out.s3.look
      go_wp2_with fail
      refine HCR.out.mono ?_
      rintro e w7 ⟨A4, c4, rfl, S7⟩
      have H7 := Lib.hid S7
      clear S7 HCR H6 L K z
      have hcE := encode_any A1 u c1 1 1 H7.out (recsS_at H7.out.s2) HUF.out
      rw [show encB 1 1 u = told from HEN.out.2, show encE 1 1 u = 0 from HEN.out.1] at hcE
      have HCE := Lib.hid hcE
      clear hcE
      go_wp2_with fail
      refine HCE.out.mono ?_
      rintro e w8 ⟨A5, c5, rfl, S8⟩
      have H8 := Lib.hid S8
      clear S8 HCE H7
      have hcD := decode_any A5 told c5 H8.out (rowS_card H8.out) (by have := HLEN.out; omega)
      rw [HDE.out] at hcD
      have HCD := Lib.hid (hcD.mono (R' := fun e w' => ∃ (ca cb : Int) (A6 : Option Addr) (c6 : Nat), e = .returned (.tuple #[.int .i64 ca, .int .i64 cb, .slice A6 u.length c6, .int .i64 0]) ∧ SL W (recsS (.slice A6 u.length c6) u :: rowS 5 1 (.slice A5 told.length c5) told.length (Lib.byteCells told) :: recsS (.slice A4 rl.length c4) rl :: recsS (.slice A3 pl.length c3) pl :: recsS (.slice A1 u.length c1) u :: recsS (.slice A2 u.length c2) u :: cel xb #[.int .i64 rn, .slice Ak key2.length ck, .slice Ad data2.length cd, .bool bad] 25 :: []) w') (by
        rintro e w' ⟨A6, c6, rfl, S⟩
        exact ⟨_, _, A6, c6, rfl, S⟩))
      clear hcD
      go_wp2_with fail
      refine HCD.out.mono ?_
      rintro e w9 ⟨ca, cb, A6, c6, rfl, S9⟩
      have H9 := Lib.hid (shp_close (shp_close (shp_close S9).s2).s3).s3
      clear S9 HCD H8
      have hto : told.length ≤ 2056 := HLEN.out
      go_wp2
      go_loopw [86] (fun i wr => ∃ k : Nat, k ≤ told.length ∧ i = .int .i64 k ∧ ∃ xs, SL W (rowS 5 1 (.slice A5 told.length c5) told.length xs :: shp (.slice A3 pl.length c3) :: shp (.slice A4 rl.length c4) :: shp (.slice A6 u.length c6) :: recsS (.slice A1 u.length c1) u :: recsS (.slice A2 u.length c2) u :: cel xb #[.int .i64 rn, .slice Ak key2.length ck, .slice Ad data2.length cd, .bool bad] 25 :: []) wr) (fun i _ => told.length - (intOf i).toNat)
      case atStart => exact ⟨0, Nat.zero_le _, rfl, _, H9.out⟩
      case round =>
        obtain ⟨k, hk, rfl, xs, S2⟩ := hrel
        have H2 := Lib.hid S2
        clear S2 H9
        by_cases hlt : k < told.length
        · obtain ⟨g, v, hA, _, mc, mf, zg, SET⟩ := row_set hlt H2.out
          subst hA
          have H3 := Lib.hid (SET (.int .u8 0))
          clear SET H2
          go_wp2
          go_roundw
          case rel => exact ⟨k + 1, by omega, by go_num, _, H3.out⟩
          case measure => simp [intOf]; omega
        · obtain rfl : k = told.length := by omega
          have H3 := Lib.hid H2.out.drop
          clear H2
          go_wp2
          go_loopw [97] (fun i wr => ∃ k : Nat, k ≤ 3 ∧ i = .int .i64 k ∧ SL W (shp (.slice A3 pl.length c3) :: shp (.slice A4 rl.length c4) :: shp (.slice A6 u.length c6) :: recsS (.slice A1 u.length c1) u :: recsS (.slice A2 u.length c2) u :: cel xb #[.int .i64 rn, .slice Ak key2.length ck, .slice Ad data2.length cd, .bool bad] 25 :: []) wr) (fun i _ => 3 - (intOf i).toNat)
          case atStart => exact ⟨0, by omega, rfl, H3.out⟩
          case round =>
            obtain ⟨wa, hnm⟩ : ∃ x : World, x = wr := ⟨_, rfl⟩
            subst hnm
            obtain ⟨k, hk, rfl, S2⟩ := hrel
            have H2 := Lib.hid S2
            clear S2 H3
            by_cases hk3 : k < 3
            · obtain ⟨v, n, cc, G, hv, SG, SB⟩ : ∃ (v : Option Addr) (n cc : Nat) (G : List SA), (#[.slice A3 pl.length c3, .slice A4 rl.length c4, .slice A6 u.length c6] : Array Value)[k]? = some (.slice v n cc) ∧ SL W (shp (.slice v n cc) :: G) wa ∧ ∀ wy, SL W (shp (.slice v n cc) :: G) wy → SL W (shp (.slice A3 pl.length c3) :: shp (.slice A4 rl.length c4) :: shp (.slice A6 u.length c6) :: recsS (.slice A1 u.length c1) u :: recsS (.slice A2 u.length c2) u :: cel xb #[.int .i64 rn, .slice Ak key2.length ck, .slice Ad data2.length cd, .bool bad] 25 :: []) wy := by
                obtain rfl | rfl | rfl : k = 0 ∨ k = 1 ∨ k = 2 := by omega
                · exact ⟨A3, _, c3, _, rfl, H2.out, fun _ S => S⟩
                · exact ⟨A4, _, c4, _, rfl, H2.out.s1, fun _ S => S.s1⟩
                · exact ⟨A6, _, c6, _, rfl, H2.out.s2, fun _ S => S.b2⟩
              have HG := Lib.hid SG
              have HB := Lib.hid SB
              have HK3 := Lib.hid hk3
              have ix3 := idx3r _ _ k k rfl hk3 hv
              have hnl : n ≤ 9223372036854775807 := by
                obtain ⟨rs, hrl, S⟩ := shp_open SG
                obtain ⟨A', c', e, h1, h2⟩ := recsS_len S
                unfold maxLen at h2; omega
              clear SG SB H2 hv
              go_wp2
              go_loopw [102] (fun i wr => ∃ q : Nat, q ≤ n ∧ i = .int .i64 q ∧ SL W (shp (.slice v n cc) :: G) wr) (fun i _ => n - (intOf i).toNat)
              case atStart => exact ⟨0, Nat.zero_le _, rfl, HG.out⟩
              case round =>
                obtain ⟨wb, hnm⟩ : ∃ x : World, x = wr := ⟨_, rfl⟩
                subst hnm
                obtain ⟨q, hq, rfl, S2⟩ := hrel
                have H2 := Lib.hid S2
                clear S2 HG
                by_cases hq2 : q < n
                · have HQ := Lib.hid hq2
                  obtain ⟨rs, hrl, S⟩ := shp_open H2.out
                  have hx : rs[q]? = some rs[q] := by simp
                  generalize rs[q] = x at hx
                  obtain ⟨g, hA, _, _, _⟩ := recs_num hx S
                  subst hA
                  obtain ⟨g1, off, Bk, dk, Bd, dd, hA, _, k1, _, _, ck1, _⟩ := recsS_at S q x hx
                  injection hA with hA; injection hA with hA hoff; subst hA; subst hoff
                  rw [Nat.zero_add] at k1
                  obtain ⟨nk, hnk⟩ : ∃ nk, x.key.length = nk := ⟨_, rfl⟩
                  have hnl2 : nk ≤ 9223372036854775807 := by
                    have h1 := ck1.2.1
                    have h2 := ck1.2.2
                    unfold maxLen at h2; omega
                  rw [hnk] at k1
                  have HX := Lib.hid (show ∃ (rs1 : List Rec) (x1 : Rec), rs1.length = n ∧ rs1[q]? = some x1 ∧ x1.key.length = nk ∧ SL W (recsS (.slice (some ⟨g, 0, none⟩) n cc) rs1 :: G) wb from ⟨rs, x, hrl, hx, hnk, S⟩)
                  clear hx hrl hnk S ck1 H2
                  go_wp2
                  go_loopw [111] (fun i wr => ∃ j : Nat, j ≤ nk ∧ i = .int .i64 j ∧ ∃ (rs1 : List Rec) (x1 : Rec), rs1.length = n ∧ rs1[q]? = some x1 ∧ x1.key.length = nk ∧ SL W (recsS (.slice (some ⟨g, 0, none⟩) n cc) rs1 :: G) wr) (fun i _ => nk - (intOf i).toNat)
                  case atStart => exact ⟨0, Nat.zero_le _, rfl, HX.out⟩
                  case round =>
                    obtain ⟨wj, hnm⟩ : ∃ x : World, x = wr := ⟨_, rfl⟩
                    subst hnm
                    obtain ⟨j, hj, rfl, hx1⟩ := hrel
                    have HX1 := Lib.hid hx1
                    clear hx1 HX
                    by_cases hlt : j < nk
                    · have HLT := Lib.hid hlt
                      obtain ⟨rs1, x1, hr1, hx1, hl1, S1⟩ := HX1.out
                      have hj1 : j < x1.key.length := by omega
                      obtain ⟨g1, kb, kc, hA1, m1, m2, mf, SET⟩ := recs_key hx1 hj1 S1
                      injection hA1 with hA1; injection hA1 with hA1; subst hA1
                      rw [hl1] at m1
                      have hq1 : q < rs1.length := (List.getElem?_eq_some_iff.1 hx1).1
                      obtain ⟨y1, hy1⟩ : ∃ y1, y1 = x1.key[j] := ⟨_, rfl⟩
                      rw [← hy1] at m2
                      have HZ := Lib.hid (show ((y1 + 1).toNat : Int) = ((y1.toNat : Int) + 1) % 256 by rw [UInt8.toNat_add, show (1 : UInt8).toNat = 1 from rfl]; omega)
                      have H1 := SET (y1 + 1)
                      rw [HZ.out] at H1
                      have HE := Lib.hid (show ∀ wy, SL W (recsS (.slice (some ⟨g, 0, none⟩) n cc) (rs1.set q ⟨x1.r, x1.key.set j (y1 + 1), x1.data, x1.bad⟩) :: G) wy → ∃ (rs1 : List Rec) (x1 : Rec), rs1.length = n ∧ rs1[q]? = some x1 ∧ x1.key.length = nk ∧ SL W (recsS (.slice (some ⟨g, 0, none⟩) n cc) rs1 :: G) wy from fun wy S => ⟨_, _, by rw [List.length_set]; exact hr1, by rw [List.getElem?_set, if_pos rfl, if_pos hq1], by show (x1.key.set j _).length = _; rw [List.length_set]; exact hl1, S⟩)
                      have HS1 := Lib.hid H1
                      clear H1 SET HX1 S1 hx1 hl1 hr1 hy1 hj1 hq1
                      generalize (y1.toNat : Int) = z at *
                      go_upto_region 28 with fail
                      go_big_region
                      go_wp2
                      go_roundw
                      case rel => exact ⟨j + 1, HLT.out, by go_num, HE.out _ HS1.out.drew⟩
                      case measure => have := HLT.out; simp [intOf]; omega
                    · obtain rfl : j = nk := by omega
                      obtain ⟨rs, x, hrl, hx, _, S⟩ := HX1.out
                      obtain ⟨g1, off, Bk, dk, Bd, dd, hA, _, _, k2, _, _, ck2⟩ := recsS_at S q x hx
                      injection hA with hA; injection hA with hA hoff; subst hA; subst hoff
                      rw [Nat.zero_add] at k2
                      obtain ⟨nd, hnd⟩ : ∃ nd, x.data.length = nd := ⟨_, rfl⟩
                      have hnl3 : nd ≤ 9223372036854775807 := by
                        have h1 := ck2.2.1
                        have h2 := ck2.2.2
                        unfold maxLen at h2; omega
                      rw [hnd] at k2
                      have HX := Lib.hid (show ∃ (rs1 : List Rec) (x1 : Rec), rs1.length = n ∧ rs1[q]? = some x1 ∧ x1.data.length = nd ∧ SL W (recsS (.slice (some ⟨g, 0, none⟩) n cc) rs1 :: G) wj from ⟨rs, x, hrl, hx, hnd, S⟩)
                      clear hx hrl hnd S ck2 HX1
                      go_wp2
                      go_loopw [137] (fun i wr => ∃ j : Nat, j ≤ nd ∧ i = .int .i64 j ∧ ∃ (rs1 : List Rec) (x1 : Rec), rs1.length = n ∧ rs1[q]? = some x1 ∧ x1.data.length = nd ∧ SL W (recsS (.slice (some ⟨g, 0, none⟩) n cc) rs1 :: G) wr) (fun i _ => nd - (intOf i).toNat)
                      case atStart => exact ⟨0, Nat.zero_le _, rfl, HX.out⟩
                      case round =>
                        obtain ⟨wj, hnm⟩ : ∃ x : World, x = wr := ⟨_, rfl⟩
                        subst hnm
                        obtain ⟨j, hj, rfl, hx1⟩ := hrel
                        have HX1 := Lib.hid hx1
                        clear hx1 HX
                        by_cases hlt : j < nd
                        · have HLT := Lib.hid hlt
                          obtain ⟨rs1, x1, hr1, hx1, hl1, S1⟩ := HX1.out
                          have hj1 : j < x1.data.length := by omega
                          obtain ⟨g1, kb, kc, hA1, m1, m2, mf, SET⟩ := recs_data hx1 hj1 S1
                          injection hA1 with hA1; injection hA1 with hA1; subst hA1
                          rw [hl1] at m1
                          have hq1 : q < rs1.length := (List.getElem?_eq_some_iff.1 hx1).1
                          obtain ⟨y1, hy1⟩ : ∃ y1, y1 = x1.data[j] := ⟨_, rfl⟩
                          rw [← hy1] at m2
                          have HZ := Lib.hid (show ((y1 + 1).toNat : Int) = ((y1.toNat : Int) + 1) % 256 by rw [UInt8.toNat_add, show (1 : UInt8).toNat = 1 from rfl]; omega)
                          have H1 := SET (y1 + 1)
                          rw [HZ.out] at H1
                          have HE := Lib.hid (show ∀ wy, SL W (recsS (.slice (some ⟨g, 0, none⟩) n cc) (rs1.set q ⟨x1.r, x1.key, x1.data.set j (y1 + 1), x1.bad⟩) :: G) wy → ∃ (rs1 : List Rec) (x1 : Rec), rs1.length = n ∧ rs1[q]? = some x1 ∧ x1.data.length = nd ∧ SL W (recsS (.slice (some ⟨g, 0, none⟩) n cc) rs1 :: G) wy from fun wy S => ⟨_, _, by rw [List.length_set]; exact hr1, by rw [List.getElem?_set, if_pos rfl, if_pos hq1], by show (x1.data.set j _).length = _; rw [List.length_set]; exact hl1, S⟩)
                          have HS1 := Lib.hid H1
                          clear H1 SET HX1 S1 hx1 hl1 hr1 hy1 hj1 hq1
                          generalize (y1.toNat : Int) = z at *
                          go_upto_region 33 with fail
                          go_big_region
                          go_wp2
                          go_roundw
                          case rel => exact ⟨j + 1, HLT.out, by go_num, HE.out _ HS1.out.drew⟩
                          case measure => have := HLT.out; simp [intOf]; omega
                        · obtain rfl : j = nd := by omega
                          obtain ⟨rs, x, hrl, hx, _, S⟩ := HX1.out
                          obtain ⟨g1, hA, m0, mf, SET⟩ := recs_num hx S
                          injection hA with hA; injection hA with hA; subst hA
                          have H3 := Lib.hid (shp_close (SET 0))
                          rw [Nat.add_zero] at m0 mf H3
                          clear SET S hx hrl HX1
                          go_wp2
                          refine ⟨⟨_, _, _, .int .i64 ((q + 1 : Nat) : Int), ⟨q + 1, HQ.out, rfl, H3.out⟩, rfl, rfl, rfl, by go_num⟩, ?_⟩
                          have := HQ.out; simp [intOf]; omega
                · obtain rfl : q = n := by omega
                  have H3 := Lib.hid (HB.out _ H2.out)
                  clear H2 HB
                  go_wp2
                  go_roundw
                  case rel => exact ⟨k + 1, HK3.out, by go_num, H3.out⟩
                  case measure => have := HK3.out; simp [intOf]; omega
            · have hk4 : 3 ≤ k := by omega
              have HA4 := Lib.hid (And.intro (recsS_at H2.out.s3) (recsS_at H2.out.s4))
              have HBW := Lib.hid H2.out.below
              clear H2
              go_wp2
              go_loopw [165] (fun i wr => ∃ k : Nat, k ≤ u.length ∧ i = .int .i64 k ∧ Below wa.heap.size wa wr) (fun i _ => u.length - (intOf i).toNat)
              case atStart => exact ⟨0, Nat.zero_le _, rfl, Below.refl _ _⟩
              case round =>
                obtain ⟨k, hk, rfl, b1⟩ := hrel
                have B1 := Lib.hid b1
                clear b1
                by_cases hlt : k < u.length
                · have HLT := Lib.hid hlt
                  have hx : u[k]? = some u[k] := List.getElem?_eq_getElem hlt
                  generalize u[k] = x at hx
                  obtain ⟨g, off, Bk, dk, Bd, dd, hA, k0, k1, k2, k3, a1, a2⟩ := HA4.out.1 k x hx
                  obtain ⟨g2, off2, Ek, ek, Ed, ed, hB, m0, m1, m2, m3, a3, a4⟩ := HA4.out.2 k x hx
                  subst hA; subst hB
                  have z0 := World.block_lt_of_cell? wa _ k0
                  have y0 := World.block_lt_of_cell? wa _ m0
                  have HL := Lib.hid (fun (wx : World) (hx : Below wa.heap.size wa wx) => (⟨(hx.cell (p := ⟨g, off + k * 4, none⟩) z0).trans k0, (hx.cell (p := ⟨g, off + k * 4 + 1, none⟩) z0).trans k1, (hx.cell (p := ⟨g, off + k * 4 + 2, none⟩) z0).trans k2, (hx.cell (p := ⟨g, off + k * 4 + 3, none⟩) z0).trans k3⟩ :
                    wx.cell? ⟨g, off + k * 4, none⟩ = some (.int .i64 x.r) ∧ wx.cell? ⟨g, off + k * 4 + 1, none⟩ = some (.slice Bk x.key.length dk) ∧ wx.cell? ⟨g, off + k * 4 + 2, none⟩ = some (.slice Bd x.data.length dd) ∧ wx.cell? ⟨g, off + k * 4 + 3, none⟩ = some (.bool x.bad)))
                  have HMM := Lib.hid (fun (wx : World) (hx : Below wa.heap.size wa wx) => (⟨(hx.cell (p := ⟨g2, off2 + k * 4, none⟩) y0).trans m0, (hx.cell (p := ⟨g2, off2 + k * 4 + 1, none⟩) y0).trans m1, (hx.cell (p := ⟨g2, off2 + k * 4 + 2, none⟩) y0).trans m2, (hx.cell (p := ⟨g2, off2 + k * 4 + 3, none⟩) y0).trans m3⟩ :
                    wx.cell? ⟨g2, off2 + k * 4, none⟩ = some (.int .i64 x.r) ∧ wx.cell? ⟨g2, off2 + k * 4 + 1, none⟩ = some (.slice Ek x.key.length ek) ∧ wx.cell? ⟨g2, off2 + k * 4 + 2, none⟩ = some (.slice Ed x.data.length ed) ∧ wx.cell? ⟨g2, off2 + k * 4 + 3, none⟩ = some (.bool x.bad)))
                  have HSE := Lib.hid (fun (wx : World) (hx : Below wa.heap.size wa wx) => equal2_any x Bk Bd Ek Ed dk dd ek ed wx (a1.grow hx) (a2.grow hx) (a3.grow hx) (a4.grow hx))
                  clear k0 k1 k2 k3 m0 m1 m2 m3 a1 a2 a3 a4 hx z0 y0
                  go_upto_region 41 with fail
                  refine wp_region_quiet (C := Below wa.heap.size wa) (by kernel_rfl) (by kernel_rfl) B1.out.drew ?_
                  (repeat (with_reducible refine wpQuiet_step ?_; intro K hK; go_simp; first | (with_reducible refine hK _ ?_; clear hK K) | (rw [if_neg (by decide)]; with_reducible refine hK _ ?_; clear hK K) | (refine ⟨_, fun wx hx => (by obtain ⟨f0, f1, f2, f3⟩ := HL.out wx hx; obtain ⟨g0, g1, g2, g3⟩ := HMM.out wx hx; go_simp; with_reducible rfl), hK _ ?_⟩; clear hK K) | (refine ⟨_, fun wx hx => (by with_reducible refine (HSE.out wx hx).mono ?_; rintro e w' ⟨rfl, h2⟩; exact ⟨rfl, hx.trans (h2.mono hx.size)⟩), hK _ ?_⟩; clear hK K) | (refine ⟨_, fun _ _ => rfl, hK _ ?_⟩; clear hK K))); with_reducible refine wpQuiet_nil ?_
                  intro w5 hw5
                  have B3 := Lib.hid hw5
                  clear hw5
                  go_wp2
                  go_roundw
                  case rel => exact ⟨k + 1, HLT.out, by go_num, B3.out⟩
                  case measure => have := HLT.out; simp [intOf]; omega
                · obtain rfl : k = u.length := by omega
                  have HWR := Lib.hid (HBW.out.trans (B1.out.mono HBW.out.size))
                  go_wp2
                  go_ret
                  exact ⟨rfl, HWR.out⟩
end
end Go.Proofs.Ytelfihgkbbaifaa
