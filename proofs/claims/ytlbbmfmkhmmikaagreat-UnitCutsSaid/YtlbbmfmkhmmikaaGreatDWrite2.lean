/- The disk's writes: writeKeyData. -/
import Derived.Test.YtlbbmfmkhmmikaaGreatDWrite
import Derived.BigRegion
namespace Go.Proofs.YtlbbmfmkhmmikaaGreat.D
open Go.RowKit
section
variable {W w : World} {F : List SA} {x : Nat} {s : DK} {was : Bool}
set_option maxRecDepth 100000 in
set_option maxHeartbeats 16000000 in
theorem writeKeyData_any (A : Option Addr) (b : List UInt8) (c : Nat) (hd : CardB W F A b c) (h : s.ok) (hl : s.last = none) (hw : was = true → s.next < s.recs.length) (S : SL W (diskW x s was :: F) w) :
    Calls Tryz.prog 238 #[.pointer (some ⟨x, 0, none⟩), .slice A b.length c] w (RetM W F x (dkWriteKey s was b)) := by
  obtain ⟨tb, lp, vs, A0, c0, hv0, hva, hvz, hlc, hcm, S1⟩ := sel_open h S
  have HS := Lib.hid S1
  have HV := Lib.hid hv0
  have HVZ := Lib.hid (And.intro hva hvz)
  have HH := Lib.hid (And.intro h hl)
  have HDB := Lib.hid hd
  have hrl := h.rl
  have hnx := h.nx
  clear S S1 h hv0 hva hvz hl hd
  cases was with
  | false =>
    have HR := Lib.hid (show dkWriteKey s false b = dkCheck s 128 from rfl)
    (go_enter Tryz.func238, Tryz.ntmps238; go_upto_region 1 with fail; refine name_world (P := Code.wp _ _ _ _) ?_; intro wA hwA; have H1 := Lib.hid (SL.cast hwA (HS.out.allocC #[.slice none 0 0, .int .i64 0, .int .i64 0] 30)); clear hwA HS; generalize w.heap.size = rb at *)
    obtain ⟨L, K, z⟩ := H1.out.s1.look
    go_wp2_with fail
    (refine (check_any 128 H1.out.s1).mono ?_; rintro e w9 ⟨rfl, S9⟩; have H9 := Lib.hid S9.s1; clear S9; (obtain ⟨L, K, z⟩ := H9.out.look; go_wp2; refine bodyPost_ret (v := .agg #[.slice none 0 0, .int .i64 14, .int .i64 128]) (by simp [results, Tryz.results238, go_sem, L]) rfl ?_); rw [HR.out]; exact RetM.of (sel_close HV.out H9.out.set3.drop))
  | true =>
    have hlt := hw rfl
    have hy : s.recs[s.next]? = some s.recs[s.next] := List.getElem?_eq_getElem hlt
    have hyr := valid_rec HH.out.1.rv hy
    generalize s.recs[s.next] = y at hy hyr
    have HY := Lib.hid (And.intro hy hyr)
    have HR := Lib.hid (show dkWriteKey s true b = dkRewrite s ⟨y.r, (padL b (y.key.length + y.data.length)).take y.key.length, (padL b (y.key.length + y.data.length)).drop y.key.length, false⟩ by unfold dkWriteKey; rw [if_neg (by simp), hy])
    clear hw hyr
    (go_enter Tryz.func238, Tryz.ntmps238; go_upto_region 1 with fail; refine name_world (P := Code.wp _ _ _ _) ?_; intro wA hwA; have H1 := Lib.hid (SL.cast hwA (HS.out.allocC #[.slice none 0 0, .int .i64 0, .int .i64 0] 30)); clear hwA HS; generalize w.heap.size = rb at *)
    obtain ⟨PT, g1, ck, cd, Ak, Ad, hA, SP, hback, hrec⟩ := rec_sel HVZ.out.2 hy H1.out.s3
    subst hA
    -- PT, reply, disk, slices, last
    have H2 := Lib.hid SP
    have HB := Lib.hid (And.intro hback hrec)
    clear hy SP hback hrec H1
    obtain ⟨L, K, z⟩ := H2.out.s2.look
    have HX := Lib.hid (fun (wx : World) (hx : Below wA.heap.size wA wx) => (⟨(hx.cell (p := ⟨x, 6, none⟩) z).trans (L 6), (HB.out.2 _ _ (H2.out.grow hx)).1, (HB.out.2 _ _ (H2.out.grow hx)).2.1, (HB.out.2 _ _ (H2.out.grow hx)).2.2.1, (HB.out.2 _ _ (H2.out.grow hx)).2.2.2.1⟩ :
      wx.cell? ⟨x, 6, none⟩ = some (.int .i64 (s.next : Int)) ∧ wx.cell? ⟨g1, s.next * 4, none⟩ = some (.int .i64 y.r) ∧ wx.cell? ⟨g1, s.next * 4 + 1, none⟩ = some (.slice Ak y.key.length ck) ∧ wx.cell? ⟨g1, s.next * 4 + 2, none⟩ = some (.slice Ad y.data.length cd) ∧ wx.cell? ⟨g1, s.next * 4 + 3, none⟩ = some (.bool y.bad)))
    have HCR := Lib.hid (fun (wx : World) (hx : Below wA.heap.size wA wx) => records_any HH.out.1 (((H2.out.grow hx).s3.look.1 s.here).trans HVZ.out.1) (H2.out.grow hx).s2)
    go_upto_region 3 with fail
    go_cut [5] (fun v wx => ∃ bx, v = .pointer (some ⟨bx, 0, none⟩) ∧ SL W (cel bx #[.int .i64 y.r, .slice Ak y.key.length ck, .slice Ad y.data.length cd, .bool y.bad] 78 :: PT :: cel rb #[.slice none 0 0, .int .i64 0, .int .i64 0] 30 :: cel x (dkCells s tb lp true) 136 :: cel tb vs.toArray 72 :: lastS lp s.last :: F) wx)
    case first =>
      have HCS := Lib.hid (fun (wx : World) (hx : Below wA.heap.size wA wx) => records_still HH.out.1 (((H2.out.grow hx).s3.look.1 s.here).trans HVZ.out.1) (H2.out.grow hx).s2)
      have L6 := L 6
      obtain ⟨k0, k1, k2, k3, _, _⟩ := HB.out.2 _ _ H2.out
      have zg := World.block_lt_of_cell? wA _ k0
      clear L
      go_region_with (go_at_call 246
                      refine (HCS.out _ (by (repeat' (first | (with_reducible exact Below.refl _ _) | (with_reducible assumption) | (with_reducible refine below_drewN ?_ _) | (with_reducible refine Below.drew ?_) | (with_reducible refine Below.alloc ?_ ?_ _) | (with_reducible refine Below.setCell ?_ ?_ _) | (with_reducible refine below_row ?_ ?_ _) | (with_reducible exact Nat.le_refl _) | omega | (simp only [World.size_alloc, World.size_setCell, World.size_drew, World.size_drewN]; omega) | (simp; done) | (simp; omega))))).mono ?_
                      rintro e w2 ⟨rfl, hs⟩
                      have hA := still_cell hs
                      have hF := still_frozen hs
                      have hZ := still_size hs
                      have HST := Lib.hid hs
                      clear hs)
      all_goals (go_wp2_with fail)
      all_goals (go_meet)
      all_goals (refine ⟨_, rfl, ?_⟩)
      all_goals (first
        | exact box5 ((H2.out.allocC #[.int .i64 0, .slice none 0 0, .slice none 0 0, .bool false] 78).drew.still HST.out) _ _ _ _
        | exact box5 ((H2.out.drew.allocC #[.int .i64 0, .slice none 0 0, .slice none 0 0, .bool false] 78).still HST.out) _ _ _ _
        | (have S := (H2.out.drew.still HST.out).allocC #[.int .i64 y.r, .slice Ak y.key.length ck, .slice Ad y.data.length cd, .bool y.bad] 78
           rw [still_size HST.out] at S
           exact S))
    case rest =>
    obtain ⟨bx, rfl, S4⟩ := hcut
    obtain ⟨w4, hnm⟩ : ∃ x : World, x = wc := ⟨_, rfl⟩
    subst hnm
    have H4 := Lib.hid S4
    clear S4 H2 HX HCR L K z
    -- box, PT, reply, disk, slices, last
    obtain ⟨L, K, z⟩ := H4.out.look
    have hyl := HY.out.2
    have hpd0 := padded_any A b b.length c (y.key.length + y.data.length) rfl (HDB.out w4 H4.out.drop.drop.drop.drop.drop.drop) (by omega) H4.out
    rw [Int.natCast_add] at hpd0
    have HPD := Lib.hid hpd0
    have hkl : y.key.length ≤ 255 := hyl.2.2.1
    have hdl : y.data.length ≤ 2016 := hyl.2.2.2
    clear hpd0 hyl
    obtain ⟨pd, hpd, hpl⟩ : ∃ pd, pd = padL b (y.key.length + y.data.length) ∧ pd.length = y.key.length + y.data.length := ⟨_, rfl, padL_len _ _⟩
    obtain ⟨k2, hk2, hk2l⟩ : ∃ k2, k2 = pd.take y.key.length ∧ k2.length = y.key.length := ⟨_, rfl, by rw [List.length_take]; omega⟩
    obtain ⟨d2, hd2, hd2l⟩ : ∃ d2, d2 = pd.drop y.key.length ∧ d2.length = y.data.length := ⟨_, rfl, by rw [List.length_drop]; omega⟩
    have HRR := Lib.hid (show dkWriteKey s true b = dkRewrite s ⟨y.r, k2, d2, false⟩ by rw [HR.out, hk2, hd2, hpd])
    have HPS := Lib.hid (And.intro hpd (And.intro hk2 (And.intro hd2 hpl)))
    clear hpd hk2 hd2 hpl HR
    go_wp2_with fail
    refine HPD.out.mono ?_
    rintro e w5 ⟨g, rfl, S5, b5⟩
    rw [← HPS.out.1, ← hk2l, ← hd2l] at S5
    have HPL := Lib.hid (show pd.length = k2.length + d2.length by rw [HPS.out.2.2.2, hk2l, hd2l])
    rw [← hk2l] at hkl
    rw [← hd2l] at hdl
    have HKD := Lib.hid (show pd.take k2.length = k2 ∧ pd.drop k2.length = d2 by rw [hk2l]; exact ⟨HPS.out.2.1.symm, HPS.out.2.2.1.symm⟩)
    rw [← hk2l, ← hd2l]
    have H5 := Lib.hid S5
    clear S5 b5 hk2l hd2l H4 HPD L K z HPS
    -- all, box, PT, reply, disk, slices, last
    obtain ⟨L, K, z⟩ := H5.out.s1.look
    obtain ⟨kn, hkn⟩ : ∃ n, k2.length = n := ⟨_, rfl⟩
    obtain ⟨dn, hdn⟩ : ∃ n, d2.length = n := ⟨_, rfl⟩
    rw [hkn] at hkl HPL HKD H5 L ⊢
    rw [hdn] at hdl HPL H5 L ⊢
    have HKL := Lib.hid (And.intro hkn (And.intro hdn (And.intro hkl hdl)))
    clear hkn hdn
    rcases Nat.eq_zero_or_pos dn with hz | hz
    · subst hz
      rw [Nat.add_zero] at H5 HPL
      go_upto_region 6 with fail
      go_big_region
      go_wp2_with fail
      refine name_world (P := fun W => Calls _ _ _ W _) ?_; intro wd hwd
      have H6 := Lib.hid (SL.cast hwd (((H5.out.s1.set (off := 1) (v := .slice (some ⟨g, 0, none⟩) kn (kn)) (cs' := #[.int .i64 y.r, .slice (some ⟨g, 0, none⟩) kn (kn), .slice Ad 0 cd, .bool y.bad]) rfl).set (off := 2) (v := .slice (some ⟨g, 0, none⟩) 0 0) (cs' := #[.int .i64 y.r, .slice (some ⟨g, 0, none⟩) kn (kn), .slice (some ⟨g, 0, none⟩) 0 0, .bool y.bad]) rfl).set (off := 3) (v := .bool false) (cs' := #[.int .i64 y.r, .slice (some ⟨g, 0, none⟩) kn (kn), .slice (some ⟨g, 0, none⟩) 0 0, .bool false]) rfl).drew)
      clear hwd H5 L K z
      -- box, all, PT, reply, disk, slices, last
      have hall := rowS_card (l := pd) (c := kn) (by rw [HPL.out]; exact H6.out.s1)
      have ck2 : CardAt wd (some ⟨g, 0, none⟩) k2 (kn) := by
        have h := hall.take kn
        rw [HKD.out.1] at h; exact h
      have cd2 : CardAt wd (some ⟨g, 0, none⟩) d2 0 := by
        have h := hall.drop kn (by rw [HPL.out]; omega) (some ⟨g, 0, none⟩) (by intro h; rw [HPL.out] at h; omega)
        rw [HKD.out.2] at h
        simpa using h
      have hrw := rewrite_any ⟨y.r, k2, d2, false⟩ (some ⟨g, 0, none⟩) (some ⟨g, 0, none⟩) (kn) 0 HH.out.1 HH.out.2 hlt ck2 cd2 (by have := HKL.out; exact ⟨by show k2.length ≤ _; omega, by show d2.length ≤ _; omega⟩) (sel_close HV.out (HB.out.1 _ _ H6.out.s2).s6.s1.s6.s6)
      dsimp only at hrw
      rw [HKL.out.1, HKL.out.2.1] at hrw
      have HRW := Lib.hid hrw
      clear hrw ck2 cd2 hall
      refine HRW.out.mono ?_
      rintro e w9 ⟨A9, c9, rfl, S9⟩
      have H9 := Lib.hid S9.s4
      clear S9 H6
      obtain ⟨L, K, z⟩ := H9.out.look
      go_wp2
      refine bodyPost_ret (by simp [results, Tryz.results238, go_sem, L]; rfl) rfl ?_
      rw [HRR.out]
      exact ⟨A9, c9, rfl, H9.out.set3.drop.s2.drop.s2.drop⟩
    · have hz2 : ¬ dn = 0 := by omega
      have g1 : ((kn : Int) ≤ (kn : Int) + (dn : Int)) = True := eq_true (by omega)
      go_upto_region 6 with fail
      go_big_region
      go_wp2_with fail
      refine name_world (P := fun W => Calls _ _ _ W _) ?_; intro wd hwd
      have H6 := Lib.hid (SL.cast hwd (((H5.out.s1.set (off := 1) (v := .slice (some ⟨g, 0, none⟩) kn (kn + dn)) (cs' := #[.int .i64 y.r, .slice (some ⟨g, 0, none⟩) kn (kn + dn), .slice Ad dn cd, .bool y.bad]) rfl).set (off := 2) (v := .slice (some ⟨g, kn, none⟩) dn dn) (cs' := #[.int .i64 y.r, .slice (some ⟨g, 0, none⟩) kn (kn + dn), .slice (some ⟨g, kn, none⟩) dn dn, .bool y.bad]) rfl).set (off := 3) (v := .bool false) (cs' := #[.int .i64 y.r, .slice (some ⟨g, 0, none⟩) kn (kn + dn), .slice (some ⟨g, kn, none⟩) dn dn, .bool false]) rfl).drew)
      clear hwd H5 L K z
      -- box, all, PT, reply, disk, slices, last
      have hall := rowS_card (l := pd) (c := kn + dn) (by rw [HPL.out]; exact H6.out.s1)
      have ck2 : CardAt wd (some ⟨g, 0, none⟩) k2 (kn + dn) := by
        have h := hall.take kn
        rw [HKD.out.1] at h; exact h
      have cd2 : CardAt wd (some ⟨g, kn, none⟩) d2 dn := by
        have h := hall.drop kn (by rw [HPL.out]; omega) (some ⟨g, kn, none⟩) (by intro h; simp)
        rw [HKD.out.2] at h
        rw [Nat.add_sub_cancel_left] at h; exact h
      have hrw := rewrite_any ⟨y.r, k2, d2, false⟩ (some ⟨g, 0, none⟩) (some ⟨g, kn, none⟩) (kn + dn) dn HH.out.1 HH.out.2 hlt ck2 cd2 (by have := HKL.out; exact ⟨by show k2.length ≤ _; omega, by show d2.length ≤ _; omega⟩) (sel_close HV.out (HB.out.1 _ _ H6.out.s2).s6.s1.s6.s6)
      dsimp only at hrw
      rw [HKL.out.1, HKL.out.2.1] at hrw
      have HRW := Lib.hid hrw
      clear hrw ck2 cd2 hall
      refine HRW.out.mono ?_
      rintro e w9 ⟨A9, c9, rfl, S9⟩
      have H9 := Lib.hid S9.s4
      clear S9 H6
      obtain ⟨L, K, z⟩ := H9.out.look
      go_wp2
      refine bodyPost_ret (by simp [results, Tryz.results238, go_sem, L]; rfl) rfl ?_
      rw [HRR.out]
      exact ⟨A9, c9, rfl, H9.out.set3.drop.s2.drop.s2.drop⟩
end
end Go.Proofs.YtlbbmfmkhmmikaaGreat.D
