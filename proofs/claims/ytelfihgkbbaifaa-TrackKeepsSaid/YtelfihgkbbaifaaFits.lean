/- Fits: the program's and the reference's. -/
import Derived.Test.YtelfihgkbbaifaaCopy
namespace Go.Proofs.Ytelfihgkbbaifaa
open Go.RowKit
section
set_option maxRecDepth 100000 in
set_option maxHeartbeats 8000000 in
theorem fits_any (A : Option Addr) (rs : List Rec) (c : Nat) (x : Rec) (Ak Ad : Option Addr) (ck cd : Nat) (w : World) (hr : RecsAt w A rs) (hf : Fit rs) (hl : x.key.length ≤ 1073741824 ∧ x.data.length ≤ 1073741824) :
    Calls Try.prog 32 #[.slice A rs.length c, .agg #[.int .i64 x.r, .slice Ak x.key.length ck, .slice Ad x.data.length cd, .bool x.bad]] w fun e w' => e = .returned (.bool (validB (rs ++ [x]))) ∧ Below w.heap.size w w' := by
  have HF := Lib.hid hf
  have hfl := hf.1
  have hu := hf.used
  have hco := cost_le hl
  unfold Rec.cost at hco
  have hww : IntKind.i64.wrap ((usedN rs : Int) + (costN x.key.length x.data.length : Int)) = (usedN rs : Int) + (costN x.key.length x.data.length : Int) := IntWalk.i64_in _ (by omega)
  have HR := Lib.hid hr
  have HQ := Lib.hid (fits_eq rs x)
  obtain ⟨hl1, hl2⟩ := hl
  clear hf hr
  go_enter Try.func32, Try.ntmps32
  go_upto_region 1 with fail
  refine name_world (P := Code.wp _ _ _ _) ?_
  intro wd hwd
  have bd : Below w.heap.size w wd := by rw [hwd]; (repeat' (first | (with_reducible exact Below.refl _ _) | (with_reducible assumption) | (with_reducible refine below_drewN ?_ _) | (with_reducible refine Below.drew ?_) | (with_reducible refine Below.alloc ?_ ?_ _) | (with_reducible refine Below.setCell ?_ ?_ _) | (with_reducible refine below_row ?_ ?_ _) | (with_reducible exact Nat.le_refl _) | omega | (simp only [World.size_alloc, World.size_setCell, World.size_drew, World.size_drewN]; omega) | (simp; done) | (simp; omega)))
  have HB := Lib.hid (show wd.heap[w.heap.size]? = some (.cells #[.int .i64 x.r, .slice Ak x.key.length ck, .slice Ad x.data.length cd, .bool x.bad] 25 (0, 0)) by rw [hwd]; exact hl_new rfl)
  have B1 := Lib.hid bd
  have HR1 := Lib.hid (HR.out.grow bd)
  clear hwd bd
  generalize hxb : w.heap.size = xb at *
  have HXB := Lib.hid hxb
  have HZ := Lib.hid (show xb ≤ wd.heap.size by rw [← hxb]; exact B1.out.size)
  clear hxb
  have HL := Lib.hid (fun (wx : World) (hx : Below wd.heap.size wd wx) => row_look (hl_grow hx HB.out))
  have HV1 := Lib.hid (fun (wx : World) (hx : Below wd.heap.size wd wx) => valid_any A rs c wx (HR1.out.grow hx) HF.out)
  have HV2 := Lib.hid (fun wx => valid1_any x.r Ak Ad x.key.length x.data.length ck cd x.bad wx)
  have HU := Lib.hid (fun (wx : World) (hx : Below wd.heap.size wd wx) => used_any A rs c wx (HR1.out.grow hx) HF.out)
  have HC := Lib.hid (fun wx => cost_any x.r Ak Ad x.key.length x.data.length ck cd x.bad wx (by omega) (by omega))
  cases hv1 : validB rs
  · rw [hv1] at HV1
    have HNO := Lib.hid (show validB (rs ++ [x]) = false by rw [HQ.out, hv1]; rfl)
    clear hv1
    refine wp_region_quiet (C := Below wd.heap.size wd) (by kernel_rfl) (by kernel_rfl) (Below.refl _ _).drew ?_
    (repeat (with_reducible refine wpQuiet_step ?_; intro K hK; go_simp; first | (with_reducible refine hK _ ?_; clear hK K) | (rw [if_neg (by decide)]; with_reducible refine hK _ ?_; clear hK K) | (refine ⟨_, fun wx hx => (by obtain ⟨f0, f1, f2⟩ := HL.out wx hx; go_simp; with_reducible rfl), hK _ ?_⟩; clear hK K) | (first | (refine ⟨_, fun wx hx => (by with_reducible refine (HV1.out wx hx).mono ?_; rintro e w' ⟨rfl, h2⟩; exact ⟨rfl, hx.trans (h2.mono hx.size)⟩), hK _ ?_⟩; clear hK K) | (refine ⟨_, fun wx hx => (by with_reducible refine (HV2.out wx).mono ?_; rintro e w' ⟨rfl, h2⟩; exact ⟨rfl, hx.trans (h2.mono hx.size)⟩), hK _ ?_⟩; clear hK K)) | (refine ⟨_, fun _ _ => rfl, hK _ ?_⟩; clear hK K))); with_reducible refine wpQuiet_nil ?_
    intro w3 hw3
    have H3 := Lib.hid hw3
    clear hw3
    go_wp2
    go_ret
    exact ⟨by rw [HNO.out]; rfl, by rw [HXB.out]; exact B1.out.trans (H3.out.mono HZ.out)⟩
  · rw [hv1] at HV1
    have HV1X := Lib.hid hv1
    clear hv1
    cases hv2 : valid1 x.r x.key.length
    · rw [hv2] at HV2
      have HNO := Lib.hid (show validB (rs ++ [x]) = false by rw [HQ.out, HV1X.out]; unfold Rec.valid; rw [hv2]; rfl)
      clear hv2
      refine wp_region_quiet (C := Below wd.heap.size wd) (by kernel_rfl) (by kernel_rfl) (Below.refl _ _).drew ?_
      (repeat (with_reducible refine wpQuiet_step ?_; intro K hK; go_simp; first | (with_reducible refine hK _ ?_; clear hK K) | (rw [if_neg (by decide)]; with_reducible refine hK _ ?_; clear hK K) | (refine ⟨_, fun wx hx => (by obtain ⟨f0, f1, f2⟩ := HL.out wx hx; go_simp; with_reducible rfl), hK _ ?_⟩; clear hK K) | (first | (refine ⟨_, fun wx hx => (by with_reducible refine (HV1.out wx hx).mono ?_; rintro e w' ⟨rfl, h2⟩; exact ⟨rfl, hx.trans (h2.mono hx.size)⟩), hK _ ?_⟩; clear hK K) | (refine ⟨_, fun wx hx => (by with_reducible refine (HV2.out wx).mono ?_; rintro e w' ⟨rfl, h2⟩; exact ⟨rfl, hx.trans (h2.mono hx.size)⟩), hK _ ?_⟩; clear hK K)) | (refine ⟨_, fun _ _ => rfl, hK _ ?_⟩; clear hK K))); with_reducible refine wpQuiet_nil ?_
      intro w3 hw3
      have H3 := Lib.hid hw3
      clear hw3
      go_wp2
      go_ret
      exact ⟨by rw [HNO.out]; rfl, by rw [HXB.out]; exact B1.out.trans (H3.out.mono HZ.out)⟩
    · rw [hv2] at HV2
      have HV2X := Lib.hid (show x.valid = true from hv2)
      clear hv2
      rcases Nat.eq_zero_or_pos rs.length with h0 | h0
      · have HYES := Lib.hid (show validB (rs ++ [x]) = decide (usedN rs + x.cost ≤ 2048) by rw [HQ.out, HV1X.out, HV2X.out, List.eq_nil_of_length_eq_zero h0]; rfl)
        have HN0 := Lib.hid h0
        rw [h0] at HV1 HU ⊢
        clear h0
        refine wp_region_quiet (C := Below wd.heap.size wd) (by kernel_rfl) (by kernel_rfl) (Below.refl _ _).drew ?_
        (repeat (with_reducible refine wpQuiet_step ?_; intro K hK; go_simp; first | (with_reducible refine hK _ ?_; clear hK K) | (rw [if_neg (by decide)]; with_reducible refine hK _ ?_; clear hK K) | (refine ⟨_, fun wx hx => (by obtain ⟨f0, f1, f2⟩ := HL.out wx hx; go_simp; with_reducible rfl), hK _ ?_⟩; clear hK K) | (first | (refine ⟨_, fun wx hx => (by with_reducible refine (HV1.out wx hx).mono ?_; rintro e w' ⟨rfl, h2⟩; exact ⟨rfl, hx.trans (h2.mono hx.size)⟩), hK _ ?_⟩; clear hK K) | (refine ⟨_, fun wx hx => (by with_reducible refine (HV2.out wx).mono ?_; rintro e w' ⟨rfl, h2⟩; exact ⟨rfl, hx.trans (h2.mono hx.size)⟩), hK _ ?_⟩; clear hK K)) | (refine ⟨_, fun _ _ => rfl, hK _ ?_⟩; clear hK K))); with_reducible refine wpQuiet_nil ?_
        intro w3 hw3
        have H3 := Lib.hid hw3
        clear hw3
        go_upto_region 3 with fail
        refine wp_region_quiet (C := Below wd.heap.size wd) (by kernel_rfl) (by kernel_rfl) H3.out.drew ?_
        (repeat (with_reducible refine wpQuiet_step ?_; intro K hK; go_simp; first | (with_reducible refine hK _ ?_; clear hK K) | (rw [if_neg (by decide)]; with_reducible refine hK _ ?_; clear hK K) | (refine ⟨_, fun wx hx => (by obtain ⟨f0, f1, f2⟩ := HL.out wx hx; go_simp; with_reducible rfl), hK _ ?_⟩; clear hK K) | (first | (refine ⟨_, fun wx hx => (by with_reducible refine (HU.out wx hx).mono ?_; rintro e w' ⟨rfl, h2⟩; exact ⟨rfl, hx.trans (h2.mono hx.size)⟩), hK _ ?_⟩; clear hK K) | (refine ⟨_, fun wx hx => (by with_reducible refine (HC.out wx).mono ?_; rintro e w' ⟨rfl, h2⟩; exact ⟨rfl, hx.trans (h2.mono hx.size)⟩), hK _ ?_⟩; clear hK K)) | (refine ⟨_, fun _ _ => rfl, hK _ ?_⟩; clear hK K))); with_reducible refine wpQuiet_nil ?_
        intro w4 hw4
        have H4 := Lib.hid hw4
        clear hw4 H3
        go_wp2
        go_ret
        exact ⟨by rw [HYES.out]; unfold Rec.cost; exact congrArg (fun b => Ending.returned (.bool b)) (decide_eq_decide.2 (by omega)), by rw [HXB.out]; exact B1.out.trans (H4.out.mono HZ.out)⟩
      · obtain ⟨j, hj⟩ : ∃ j, rs.length = j + 1 := ⟨rs.length - 1, by omega⟩
        have hy : rs[j]? = some rs[j] := by simp
        have hlast : rs.getLast? = some rs[j] := by
          rw [List.getLast?_eq_getElem?]
          have : rs.length - 1 = j := by omega
          rw [this]; exact hy
        generalize rs[j] = y at *
        obtain ⟨g, off, Ak2, ck2, Ad2, cd2, hA, m0, _, _, _, _⟩ := HR1.out j y hy
        subst hA
        have HM := Lib.hid (fun (wx : World) (hx : Below wd.heap.size wd wx) => (hx.cell (p := ⟨g, off + j * 4, none⟩) (World.block_lt_of_cell? wd _ m0)).trans m0)
        have HQ2 := Lib.hid (show validB (rs ++ [x]) = (decide (y.r < x.r) && decide (usedN rs + x.cost ≤ 2048)) by rw [HQ.out, HV1X.out, HV2X.out, hlast]; simp)
        have t4 : decide ((0 : Int) < (rs.length : Int)) = true := by simp; omega
        have t4' : decide (0 < rs.length) = true := by simp; omega
        have t5 : ((rs.length : Int) - 1) = (j : Int) := by omega
        have hw5 : IntKind.i64.wrap (j : Int) = (j : Int) := IntWalk.i64_in _ (by omega)
        have hw6 : (0 : Int) ≤ (j : Int) := by omega
        have t6 : (j : Int) < (rs.length : Int) := by omega
        clear hy m0 hj h0 hlast
        cases ht : decide (y.r < x.r)
        · have t7 : decide (x.r ≤ y.r) = true := by simp at ht ⊢; omega
          have HNO := Lib.hid (show validB (rs ++ [x]) = false by rw [HQ2.out, ht]; rfl)
          clear ht
          refine wp_region_quiet (C := Below wd.heap.size wd) (by kernel_rfl) (by kernel_rfl) (Below.refl _ _).drew ?_
          (repeat (with_reducible refine wpQuiet_step ?_; intro K hK; go_simp; first | (with_reducible refine hK _ ?_; clear hK K) | (rw [if_neg (by decide)]; with_reducible refine hK _ ?_; clear hK K) | (refine ⟨_, fun wx hx => (by obtain ⟨f0, f1, f2⟩ := HL.out wx hx; have m0 := HM.out wx hx; go_simp; with_reducible rfl), hK _ ?_⟩; clear hK K) | (first | (refine ⟨_, fun wx hx => (by with_reducible refine (HV1.out wx hx).mono ?_; rintro e w' ⟨rfl, h2⟩; exact ⟨rfl, hx.trans (h2.mono hx.size)⟩), hK _ ?_⟩; clear hK K) | (refine ⟨_, fun wx hx => (by with_reducible refine (HV2.out wx).mono ?_; rintro e w' ⟨rfl, h2⟩; exact ⟨rfl, hx.trans (h2.mono hx.size)⟩), hK _ ?_⟩; clear hK K)) | (refine ⟨_, fun _ _ => rfl, hK _ ?_⟩; clear hK K))); with_reducible refine wpQuiet_nil ?_
          intro w3 hw3
          have H3 := Lib.hid hw3
          clear hw3
          go_wp2
          go_ret
          exact ⟨by rw [HNO.out]; rfl, by rw [HXB.out]; exact B1.out.trans (H3.out.mono HZ.out)⟩
        · have t7 : decide (x.r ≤ y.r) = false := by simp at ht ⊢; omega
          have HYES := Lib.hid (show validB (rs ++ [x]) = decide (usedN rs + x.cost ≤ 2048) by rw [HQ2.out, ht]; rfl)
          clear ht
          refine wp_region_quiet (C := Below wd.heap.size wd) (by kernel_rfl) (by kernel_rfl) (Below.refl _ _).drew ?_
          (repeat (with_reducible refine wpQuiet_step ?_; intro K hK; go_simp; first | (with_reducible refine hK _ ?_; clear hK K) | (rw [if_neg (by decide)]; with_reducible refine hK _ ?_; clear hK K) | (refine ⟨_, fun wx hx => (by obtain ⟨f0, f1, f2⟩ := HL.out wx hx; have m0 := HM.out wx hx; go_simp; with_reducible rfl), hK _ ?_⟩; clear hK K) | (first | (refine ⟨_, fun wx hx => (by with_reducible refine (HV1.out wx hx).mono ?_; rintro e w' ⟨rfl, h2⟩; exact ⟨rfl, hx.trans (h2.mono hx.size)⟩), hK _ ?_⟩; clear hK K) | (refine ⟨_, fun wx hx => (by with_reducible refine (HV2.out wx).mono ?_; rintro e w' ⟨rfl, h2⟩; exact ⟨rfl, hx.trans (h2.mono hx.size)⟩), hK _ ?_⟩; clear hK K)) | (refine ⟨_, fun _ _ => rfl, hK _ ?_⟩; clear hK K))); with_reducible refine wpQuiet_nil ?_
          intro w3 hw3
          have H3 := Lib.hid hw3
          clear hw3
          go_upto_region 3 with fail
          refine wp_region_quiet (C := Below wd.heap.size wd) (by kernel_rfl) (by kernel_rfl) H3.out.drew ?_
          (repeat (with_reducible refine wpQuiet_step ?_; intro K hK; go_simp; first | (with_reducible refine hK _ ?_; clear hK K) | (rw [if_neg (by decide)]; with_reducible refine hK _ ?_; clear hK K) | (refine ⟨_, fun wx hx => (by obtain ⟨f0, f1, f2⟩ := HL.out wx hx; go_simp; with_reducible rfl), hK _ ?_⟩; clear hK K) | (first | (refine ⟨_, fun wx hx => (by with_reducible refine (HU.out wx hx).mono ?_; rintro e w' ⟨rfl, h2⟩; exact ⟨rfl, hx.trans (h2.mono hx.size)⟩), hK _ ?_⟩; clear hK K) | (refine ⟨_, fun wx hx => (by with_reducible refine (HC.out wx).mono ?_; rintro e w' ⟨rfl, h2⟩; exact ⟨rfl, hx.trans (h2.mono hx.size)⟩), hK _ ?_⟩; clear hK K)) | (refine ⟨_, fun _ _ => rfl, hK _ ?_⟩; clear hK K))); with_reducible refine wpQuiet_nil ?_
          intro w4 hw4
          have H4 := Lib.hid hw4
          clear hw4 H3
          go_wp2
          go_ret
          exact ⟨by rw [HYES.out]; unfold Rec.cost; exact congrArg (fun b => Ending.returned (.bool b)) (decide_eq_decide.2 (by omega)), by rw [HXB.out]; exact B1.out.trans (H4.out.mono HZ.out)⟩
end
end Go.Proofs.Ytelfihgkbbaifaa
