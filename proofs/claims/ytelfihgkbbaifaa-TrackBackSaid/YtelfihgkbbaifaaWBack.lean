/- TrackBack: the walk. -/
import Derived.Test.YtelfihgkbbaifaaCodes
namespace Go.Proofs.Ytelfihgkbbaifaa
open Go.RowKit
theorem decP_some {b : List UInt8} {c h : Nat} {t : List Rec} (hd : decP b = some (c, h, t)) : c ≤ 65535 ∧ h ≤ 65535 ∧ encE c h t = 0 ∧ encB c h t = b ∧ validB t = true := by
  have hv : validB t = true := by
    have h2 := hd
    unfold decP at h2
    split at h2
    · cases h2
    · rename_i cy hd' t' r hg
      split at h2
      · rename_i hh
        injection h2 with h2
        injection h2 with _ h2
        injection h2 with _ h2
        subst h2
        exact hh.2.1
      · cases h2
  rw [dec_eq] at hd
  unfold decQ at hd
  obtain ⟨_, i2⟩ := goP_of b.length b [] 0 0 (Nat.le_refl _) (by omega) (by omega)
  split at hd
  · cases hd
  · rename_i cy hd' t' r hg
    split at hd
    · rename_i hh
      injection hd with hd
      injection hd with h1 h2
      injection h2 with h2 h3
      subst h1; subst h2; subst h3
      obtain ⟨j1, j2, _⟩ := i2 _ _ _ _ hg
      exact ⟨j1, j2, hh.1, hh.2, hv⟩
    · cases hd
theorem valid_fit {t : List Rec} (hv : validB t = true) : Fit t := by
  have h2 := (validB_iff.1 hv).2
  have h3 : ∀ l : List Rec, l.length ≤ usedN l := fun l => by
    induction l with
    | nil => simp
    | cons x l ih => simp only [usedN, List.map_cons, List.sum_cons, List.length_cons, Rec.cost, costN] at *; omega
  have := h3 t
  refine ⟨by omega, fun x hx => ?_⟩
  obtain ⟨k, hk⟩ := List.mem_iff_getElem?.1 hx
  have := valid_rec hv hk
  omega
section
variable {W w : World} {F : List SA}
set_option maxRecDepth 100000 in
set_option maxHeartbeats 32000000 in
theorem walk_trackBack (W : World) (A : Option Addr) (l : List Rec) (c : Nat) (hl : l.length ≤ c) (hcm : c ≤ maxLen) (hat : RecsAt W A l) (cy : Int) (wc : (Lit.int .u16 cy).wf = true) (hd : Int) (wh : (Lit.int .u16 hd).wf = true) (A2 : Option Addr) (b : List UInt8) (c2 : Nat) (hl2 : b.length ≤ c2) (hcm2 : c2 ≤ maxLen) (hat2 : At W W.heap.size A2 (Lib.byteCells b)) :
    Calls Try.prog 7 #[.slice A l.length c, .int .u16 cy, .int .u16 hd, .slice A2 b.length c2] W fun e W' => e = .returned (.bool true) ∧ Below W.heap.size W W' := by
  have HR := Lib.hid hat
  have HM := Lib.hid (Nat.le_trans hl hcm)
  have HB := Lib.hid (show CardAt W A2 b c2 from ⟨hat2, hl2, hcm2⟩)
  obtain ⟨cn, hcn, rfl⟩ : ∃ n : Nat, n ≤ 65535 ∧ cy = (n : Int) := by have := bounds_u16 wc; exact ⟨cy.toNat, by omega, by omega⟩
  obtain ⟨hn, hhn, rfl⟩ : ∃ n : Nat, n ≤ 65535 ∧ hd = (n : Int) := by have := bounds_u16 wh; exact ⟨hd.toNat, by omega, by omega⟩
  clear hat hl hcm hat2
  go_enter Try.func7, Try.ntmps7
  go_wp2_with fail
  refine (works_any _).mono ?_
  rintro e w0 ⟨rfl, b0⟩
  have H0 := Lib.hid ((SL.start W).grow b0)
  clear b0
  go_wp2_with fail
  refine (track_any A l c H0.out (RecsB.base HR.out _) HM.out).mono ?_
  rintro e w1 ⟨A1, c1, rfl, S1⟩
  have H1 := Lib.hid S1
  clear S1 H0
  obtain ⟨t, ht⟩ : ∃ t, t = trackL l := ⟨_, rfl⟩
  have HTF := Lib.hid (show t.length ≤ 40 ∧ (∀ x ∈ t, x.key.length ≤ 255 ∧ x.data.length ≤ 2016) ∧ validB t = true by rw [ht]; exact ⟨trackL_len l, trackL_size l, trackL_valid l⟩)
  have htl : t.length ≤ 40 := HTF.out.1
  rw [← ht] at H1 ⊢
  clear ht
  go_wp2
  go_loopw [26] (fun i wr => ∃ k : Nat, k ≤ t.length ∧ i = .int .i64 k ∧ SL W (recsS (.slice A1 t.length c1) ((t.take k).map nb ++ t.drop k) :: []) wr) (fun i _ => t.length - (intOf i).toNat)
  case atStart => exact ⟨0, Nat.zero_le _, rfl, by simpa using H1.out⟩
  case round =>
    obtain ⟨k, hk, rfl, S2⟩ := hrel
    have H2 := Lib.hid S2
    clear S2 H1
    by_cases hlt : k < t.length
    · have hy : t[k]? = some t[k] := by simp [hlt]
      obtain ⟨hy1, hy2⟩ := nb_step hy
      generalize t[k] = y at *
      obtain ⟨g, hA, m3, mf, S3⟩ := recs_bad hy1 H2.out
      have H3 := Lib.hid (S3 false)
      rw [show (⟨y.r, y.key, y.data, false⟩ : Rec) = nb y from rfl, hy2] at H3
      subst hA
      clear S3 hy hy1 hy2 H2
      go_wp2
      go_roundw
      case rel => exact ⟨k + 1, by omega, by go_num, H3.out⟩
      case measure => simp [intOf]; omega
    · obtain rfl : k = t.length := by omega
      have hts : (t.take t.length).map nb ++ t.drop t.length = t.map nb := by rw [List.take_of_length_le (Nat.le_refl _), List.drop_of_length_le (Nat.le_refl _), List.append_nil]
      rw [hts] at H2
      have HUF := Lib.hid (show Fit (t.map nb) from ⟨by rw [List.length_map]; omega, fun y hy => by
        obtain ⟨z, hz, rfl⟩ := List.mem_map.1 hy
        have := HTF.out.2.1 z hz
        simp only [nb]; omega⟩)
      have HEN := Lib.hid (enc_nb HTF.out.2.2 hcn hhn)
      have HDE := Lib.hid (dec_enc (t := t.map nb) hcn hhn (by rw [valid_nb]; exact HTF.out.2.2) (fun x hx => by obtain ⟨y, _, rfl⟩ := List.mem_map.1 hx; rfl))
      obtain ⟨told, htold⟩ : ∃ told, told = encL cn hn (t.map nb) ++ ff8 := ⟨_, rfl⟩
      have HLEN := Lib.hid (show told.length ≤ 2056 by
        rw [htold, List.length_append]
        have h1 := encL_len (c := cn) (h := hn) (rs := t.map nb)
        have h2 := (validB_iff.1 HTF.out.2.2).2
        rw [used_nb] at h1
        show _ + 8 ≤ 2056
        omega)
      rw [← htold] at HEN HDE
      obtain ⟨u, hu⟩ : ∃ u, u = t.map nb := ⟨_, rfl⟩
      have hul : u.length = t.length := by rw [hu, List.length_map]
      rw [← hu] at H2 HUF HEN HDE
      rw [← hul] at H2 ⊢
      have hcE := encode_any A1 u c1 (cn : Int) (hn : Int) H2.out (recsS_at H2.out) HUF.out
      rw [HEN.out.1, HEN.out.2] at hcE
      have HCE := Lib.hid hcE
      have htl2 : u.length ≤ 40 := by omega
      clear hts hcE hu hul htold
      go_wp2_with fail
      refine HCE.out.mono ?_
      rintro e w3 ⟨A3, c3, rfl, S3⟩
      have H3 := Lib.hid S3
      clear S3 HCE H2
      have hcD := decode_any A3 told c3 H3.out (rowS_card H3.out) (by have := HLEN.out; omega)
      rw [HDE.out] at hcD
      have HCD := Lib.hid hcD
      clear hcD
      go_wp2_with fail
      refine HCD.out.mono ?_
      rintro e w4 ⟨A4, c4, rfl, S4⟩
      simp only [Dec3.c, Dec3.h, Dec3.t, Dec3.e] at S4 ⊢
      have H4 := Lib.hid S4.s2
      clear S4 HCD H3
      have hcc : u.length ≠ 0 → (if u.length = 0 then 0 else cn) = cn ∧ (if u.length = 0 then 0 else hn) = hn := fun h => ⟨if_neg h, if_neg h⟩
      generalize (if u.length = 0 then 0 else cn) = ca at *
      generalize (if u.length = 0 then 0 else hn) = ha at *
      have HCC := Lib.hid hcc
      clear hcc
      have HEND := Lib.hid (show ∀ wx, SL W (recsS (.slice A1 u.length c1) u :: recsS (.slice A4 u.length c4) u :: rowS 5 1 (.slice A3 told.length c3) told.length (Lib.byteCells told) :: []) wx → RecsAt wx A1 u ∧ RecsAt wx A4 u from fun wx S => ⟨recsS_at S, recsS_at S.s1⟩)
      go_upto_region 11 with fail
      go_cut [79] (fun v wx => v = .bool false ∧ wx = w4)
      case first =>
        by_cases h0 : u.length = 0
        · have t0 : decide (0 < u.length) = false := decide_eq_false (by omega)
          clear h0
          go_wp2_with fail
          go_meet
          case rel => exact ⟨rfl, rfl⟩
        · have t0 : decide (0 < u.length) = true := decide_eq_true (by omega)
          obtain ⟨hc1, hc2⟩ := HCC.out h0
          have t1 : ((ca : Int) != (cn : Int)) = false := by simp; omega
          have t2 : ((ha : Int) != (hn : Int)) = false := by simp; omega
          clear hc1 hc2 h0
          go_wp2_with fail
          go_meet
          case rel => exact ⟨rfl, rfl⟩
      case rest =>
        obtain ⟨rfl, rfl⟩ := hcut
        have HBW := Lib.hid H4.out.below
        have HA4 := Lib.hid (HEND.out _ H4.out)
        clear H4 HEND HCC
        go_wp2
        go_loopw [82] (fun i wr => ∃ k : Nat, k ≤ u.length ∧ i = .int .i64 k ∧ Below wc.heap.size wc wr) (fun i _ => u.length - (intOf i).toNat)
        case atStart => exact ⟨0, Nat.zero_le _, rfl, Below.refl _ _⟩
        case round =>
          obtain ⟨k, hk, rfl, b1⟩ := hrel
          have B1 := Lib.hid b1
          clear b1
          by_cases hlt : k < u.length
          · have HLT := Lib.hid hlt
            have hx : u[k]? = some u[k] := List.getElem?_eq_getElem hlt
            generalize u[k] = x at hx
            obtain ⟨g, off, Ak, ck, Ad, cd, hA, k0, k1, k2, k3, a1, a2⟩ := HA4.out.2 k x hx
            obtain ⟨g2, off2, Bk, dk, Bd, dd, hB, m0, m1, m2, m3, a3, a4⟩ := HA4.out.1 k x hx
            subst hA; subst hB
            have z0 := World.block_lt_of_cell? wc _ k0
            have y0 := World.block_lt_of_cell? wc _ m0
            have HL := Lib.hid (fun (wx : World) (hx : Below wc.heap.size wc wx) => (⟨(hx.cell (p := ⟨g, off + k * 4, none⟩) z0).trans k0, (hx.cell (p := ⟨g, off + k * 4 + 1, none⟩) z0).trans k1, (hx.cell (p := ⟨g, off + k * 4 + 2, none⟩) z0).trans k2, (hx.cell (p := ⟨g, off + k * 4 + 3, none⟩) z0).trans k3⟩ :
              wx.cell? ⟨g, off + k * 4, none⟩ = some (.int .i64 x.r) ∧ wx.cell? ⟨g, off + k * 4 + 1, none⟩ = some (.slice Ak x.key.length ck) ∧ wx.cell? ⟨g, off + k * 4 + 2, none⟩ = some (.slice Ad x.data.length cd) ∧ wx.cell? ⟨g, off + k * 4 + 3, none⟩ = some (.bool x.bad)))
            have HMM := Lib.hid (fun (wx : World) (hx : Below wc.heap.size wc wx) => (⟨(hx.cell (p := ⟨g2, off2 + k * 4, none⟩) y0).trans m0, (hx.cell (p := ⟨g2, off2 + k * 4 + 1, none⟩) y0).trans m1, (hx.cell (p := ⟨g2, off2 + k * 4 + 2, none⟩) y0).trans m2, (hx.cell (p := ⟨g2, off2 + k * 4 + 3, none⟩) y0).trans m3⟩ :
              wx.cell? ⟨g2, off2 + k * 4, none⟩ = some (.int .i64 x.r) ∧ wx.cell? ⟨g2, off2 + k * 4 + 1, none⟩ = some (.slice Bk x.key.length dk) ∧ wx.cell? ⟨g2, off2 + k * 4 + 2, none⟩ = some (.slice Bd x.data.length dd) ∧ wx.cell? ⟨g2, off2 + k * 4 + 3, none⟩ = some (.bool x.bad)))
            have HSE := Lib.hid (fun (wx : World) (hx : Below wc.heap.size wc wx) => equal2_any x Ak Ad Bk Bd ck cd dk dd wx (a1.grow hx) (a2.grow hx) (a3.grow hx) (a4.grow hx))
            clear k0 k1 k2 k3 m0 m1 m2 m3 a1 a2 a3 a4 hx z0 y0
            go_upto_region 16 with fail
            refine wp_region_quiet (C := Below wc.heap.size wc) (by kernel_rfl) (by kernel_rfl) B1.out.drew ?_
            (repeat (with_reducible refine wpQuiet_step ?_; intro K hK; go_simp; first | (with_reducible refine hK _ ?_; clear hK K) | (rw [if_neg (by decide)]; with_reducible refine hK _ ?_; clear hK K) | (refine ⟨_, fun wx hx => (by obtain ⟨f0, f1, f2, f3⟩ := HL.out wx hx; obtain ⟨g0, g1, g2, g3⟩ := HMM.out wx hx; go_simp; with_reducible rfl), hK _ ?_⟩; clear hK K) | (refine ⟨_, fun wx hx => (by with_reducible refine (HSE.out wx hx).mono ?_; rintro e w' ⟨rfl, h2⟩; exact ⟨rfl, hx.trans (h2.mono hx.size)⟩), hK _ ?_⟩; clear hK K) | (refine ⟨_, fun _ _ => rfl, hK _ ?_⟩; clear hK K))); with_reducible refine wpQuiet_nil ?_
            intro w5 hw5
            have B3 := Lib.hid hw5
            clear hw5
            go_wp2
            go_roundw
            case rel => exact ⟨k + 1, HLT.out, by go_num, B3.out⟩
            case measure => have := HLT.out; simp [intOf]; omega
          · obtain rfl : k = u.length := by omega
            have HWR := Lib.hid (HBW.out.trans (B1.out.mono HBW.out.size))
            go_wp2_with fail
            refine (cut_any A2 b.length c2 600 600 rfl _ hl2 hcm2).mono ?_
            rintro e w5 ⟨rfl, rfl⟩
            have h600 : (b.take 600).length = min b.length 600 := by rw [List.length_take, Nat.min_comm]
            have HB6 := Lib.hid ((HB.out.take 600).grow HWR.out)
            rw [← h600]
            have hb6 : (b.take 600).length ≤ 600 := by rw [List.length_take]; omega
            clear h600 hl2 hcm2
            generalize b.take 600 = bb at *
            have hcD := decode_any A2 bb c2 (SL.start wr) HB6.out (by omega)
            have HCD := Lib.hid hcD
            clear hcD
            cases hdc : decP bb with
            | none =>
              rw [hdc] at HCD
              clear hdc
              go_wp2_with fail
              refine HCD.out.mono ?_
              rintro e w6 ⟨A6, c6, rfl, S6⟩
              have HW6 := Lib.hid (HWR.out.trans (S6.below.mono HWR.out.size))
              simp only [Dec3.c, Dec3.h, Dec3.t, Dec3.e, List.length_nil]
              clear S6 HCD
              go_wp2
              go_ret
              exact ⟨rfl, HW6.out⟩
            | some q =>
              obtain ⟨cq, hq, uq⟩ := q
              have HDS := Lib.hid (decP_some hdc)
              rw [hdc] at HCD
              clear hdc
              go_wp2_with fail
              refine HCD.out.mono ?_
              rintro e w6 ⟨A6, c6, rfl, S6⟩
              simp only [Dec3.c, Dec3.h, Dec3.t, Dec3.e] at S6 ⊢
              have H6 := Lib.hid S6
              have HFQ := Lib.hid (valid_fit HDS.out.2.2.2.2)
              clear S6 HCD
              have hcE := encode_any A6 uq c6 (cq : Int) (hq : Int) H6.out (recsS_at H6.out) HFQ.out
              rw [HDS.out.2.2.1, HDS.out.2.2.2.1] at hcE
              have HCE := Lib.hid hcE
              clear hcE
              go_wp2_with fail
              refine HCE.out.mono ?_
              rintro e w7 ⟨A7, c7, rfl, S7⟩
              have H7 := Lib.hid S7
              clear S7 HCE H6
              have HC1 := run_string_of_at (P := Try.prog) (w := w7) 23 9 5 Try.underlying23 Try.underlying5 Try.underlying9 bb c7 H7.out.at_
              have HC2 := run_string_of_at (P := Try.prog) (w := w7) 23 9 5 Try.underlying23 Try.underlying5 Try.underlying9 bb c2 (HB6.out.grow H7.out.below).1
              generalize (⟨bb.toArray⟩ : ByteArray) = sz at *
              have hss : (sz.toList == sz.toList) = true := by simp
              go_wp2_with fail
              have hv := valid_any A6 uq c6 w7 (recsS_at H7.out.s1) HFQ.out
              rw [HDS.out.2.2.2.2] at hv
              refine hv.mono ?_
              rintro e w8 ⟨rfl, b8⟩
              have HW8 := Lib.hid (HWR.out.trans ((H7.out.grow b8).below.mono HWR.out.size))
              clear b8 hv H7
              go_wp2
              go_ret
              exact ⟨rfl, HW8.out⟩
end
end Go.Proofs.Ytelfihgkbbaifaa
