/- Replace of the reference. -/
import Derived.Test.YtelfihgkbbaifaaReplace
namespace Go.Proofs.Ytelfihgkbbaifaa
open Go.RowKit
section
variable {W w : World} {F : List SA}
set_option maxRecDepth 100000 in
set_option maxHeartbeats 8000000 in
theorem rreplace_any (A : Option Addr) (rs : List Rec) (c : Nat) (x : Rec) (Ak Ad : Option Addr) (ck cd : Nat) (S : SL W F w) (hr : RecsAt w A rs) (hf : Fit rs) (hk : CardAt w Ak x.key ck) (hd : CardAt w Ad x.data cd) (hl : x.key.length ≤ 1073741824 ∧ x.data.length ≤ 1073741824) :
    Calls Try.prog 45 #[.slice A rs.length c, .agg #[.int .i64 x.r, .slice Ak x.key.length ck, .slice Ad x.data.length cd, .bool x.bad]] w (RetL W F (repR rs x) (repE rs x)) := by
  have HS := Lib.hid S
  have HR := Lib.hid hr
  have HF := Lib.hid hf
  have HC := Lib.hid (And.intro hk (And.intro hd hl))
  have hfl := hf.1
  clear S hr hf hk hd hl
  go_enter Try.func45, Try.ntmps45
  have H0 := Lib.hid ((SL.start w).allocC #[.int .i64 x.r, .slice Ak x.key.length ck, .slice Ad x.data.length cd, .bool x.bad] 25)
  go_wp2_with fail
  refine (rvalid_any A rs c _ (HR.out.grow H0.out.1) HF.out).mono ?_
  rintro e w1 ⟨rfl, b1⟩
  have H1 := Lib.hid (H0.out.grow b1)
  clear b1 H0
  generalize w.heap.size = xb at *
  cases hv : validB rs
  · have HE := Lib.hid (show repE rs x = 1 by unfold repE; rw [hv]; rfl)
    have HP := Lib.hid (show repR rs x = [] by unfold repR; rw [HE.out]; rfl)
    clear hv
    go_wp2
    go_ret2
    rw [HE.out, HP.out]
    exact RetL.nil (HS.out.join H1.out.drop) rfl
  have HV := Lib.hid hv
  clear hv
  obtain ⟨L, K, z⟩ := H1.out.look
  go_wp2_with fail
  refine (rfind_any A rs c x.r _ (HR.out.grow H1.out.1) (by unfold maxLen; omega)).mono ?_
  rintro e w2 ⟨rfl, b2⟩
  have H2 := Lib.hid (H1.out.grow b2)
  clear b2 H1 L K z
  cases hfi : findN rs x.r with
  | none =>
    have HE := Lib.hid (show repE rs x = 3 by unfold repE; rw [HV.out, hfi]; rfl)
    have HP := Lib.hid (show repR rs x = [] by unfold repR; rw [HE.out]; rfl)
    clear hfi
    simp only [idxV]
    go_wp2
    go_ret2
    rw [HE.out, HP.out]
    exact RetL.nil (HS.out.join H2.out.drop) rfl
  | some i =>
    have hi := findN_lt hfi
    have hb : rs[i]? = some rs[i] := by simp [hi]
    generalize rs[i] = y at hb
    have HE := Lib.hid (show repE rs x = (if y.key.length = x.key.length ∧ y.data.length = x.data.length then 0 else 2) by unfold repE; rw [HV.out, hfi]; simp only [if_true, hb])
    have HP := Lib.hid (show repR rs x = if repE rs x = 0 then rs.set i x else [] by unfold repR; rw [hfi]; rfl)
    obtain ⟨g, off, Bk, dk, Bd, dd, hA, k0, k1, k2, k3, a1, a2⟩ := HR.out.grow H2.out.1 i y hb
    subst hA
    clear hb hfi a1 a2
    simp only [idxV]
    have h0 : ¬ ((i : Int) < 0) := by omega
    have h0' : (0 : Int) ≤ (i : Int) := by omega
    have h0'' : (i : Int) < (rs.length : Int) := by omega
    obtain ⟨L, K, z⟩ := H2.out.look
    by_cases h1 : y.key.length = x.key.length
    · have t1 : ((y.key.length : Int) != (x.key.length : Int)) = false := by simp; omega
      by_cases h2 : y.data.length = x.data.length
      · have t2 : ((y.data.length : Int) != (x.data.length : Int)) = false := by simp; omega
        have HE2 := Lib.hid (show repE rs x = 0 by rw [HE.out, if_pos ⟨h1, h2⟩])
        have HP2 := Lib.hid (show repR rs x = rs.set i x by rw [HP.out, HE2.out]; rfl)
        clear h1 h2
        go_wp2_with fail
        go_big_region
        go_wp2_with fail
        refine (rcopy_any _ rs c H2.out.drew (fun wx S => HR.out.grow S.1) HF.out).mono ?_
        rintro e w3 ⟨A3, c3, rfl, S3⟩
        obtain ⟨ps, hps, S3⟩ := recsS_open S3
        have hpl : ps.length = rs.length := by rw [← hps, List.length_map]
        rw [hpl] at S3
        have H1 := Lib.hid S3
        have HPS := Lib.hid (And.intro hpl hps)
        clear S3 H2 k0 k1 k2 k3 L K z t1 t2 hps hpl
        have H2 := Lib.hid H1.out.s2
        obtain ⟨L, K, z⟩ := H2.out.look
        clear H1
        go_wp2_with fail
        refine (one_any x Ak Ad ck cd H2.out (HC.out.1.grow H2.out.1) (HC.out.2.1.grow H2.out.1) HC.out.2.2).mono ?_
        rintro e w2 ⟨vk, vd, rfl, S2⟩
        have H3 := Lib.hid S2.s2.drop.s2
        clear S2 H2 L K z
        obtain ⟨y3, cap3, cur3, hv3, hc1, _, hc2, _, S4⟩ := H3.out.rowCel (by omega)
        injection hv3 with hA3 _ hc3
        subst hA3; subst hc3
        obtain ⟨L, K, z⟩ := S4.look
        obtain ⟨_, _, ek, _, _⟩ := own_slice H3.out.s1.own
        obtain ⟨_, _, ed, _, _⟩ := own_slice H3.out.s2.own
        subst ek; subst ed
        have H4 := Lib.hid S4
        obtain ⟨q0, e0⟩ : ∃ v, cur3[i * 4]? = some v := ⟨_, Array.getElem?_eq_getElem (by omega)⟩
        obtain ⟨q1, e1⟩ : ∃ v, cur3[i * 4 + 1]? = some v := ⟨_, Array.getElem?_eq_getElem (by omega)⟩
        obtain ⟨q2, e2⟩ : ∃ v, cur3[i * 4 + 2]? = some v := ⟨_, Array.getElem?_eq_getElem (by omega)⟩
        obtain ⟨q3, e3⟩ : ∃ v, cur3[i * 4 + 3]? = some v := ⟨_, Array.getElem?_eq_getElem (by omega)⟩
        have H5 := Lib.hid (recs_put (i := i) (by omega) HPS.out.1 H3.out)
        clear S4 hc1 hc2 H4 H3
        go_wp2
        go_ret2
        have h := HS.out.join H5.out
        rw [HPS.out.2] at h
        rw [HE2.out, HP2.out]
        exact ⟨_, _, by rw [List.length_set]; rfl, by rw [List.length_set]; exact h⟩
      · have t2 : ((y.data.length : Int) != (x.data.length : Int)) = true := by simp; omega
        have HE2 := Lib.hid (show repE rs x = 2 by rw [HE.out, if_neg (fun h => h2 h.2)])
        have HP2 := Lib.hid (show repR rs x = [] by rw [HP.out, HE2.out]; rfl)
        clear h1 h2
        go_wp2_with fail
        go_big_region
        go_wp2
        go_ret2
        rw [HE2.out, HP2.out]
        exact RetL.nil (HS.out.join H2.out.drew.drop) rfl
    · have t1 : ((y.key.length : Int) != (x.key.length : Int)) = true := by simp; omega
      have HE2 := Lib.hid (show repE rs x = 2 by rw [HE.out, if_neg (fun h => h1 h.1)])
      have HP2 := Lib.hid (show repR rs x = [] by rw [HP.out, HE2.out]; rfl)
      clear h1
      go_wp2_with fail
      go_big_region
      go_wp2
      go_ret2
      rw [HE2.out, HP2.out]
      exact RetL.nil (HS.out.join H2.out.drew.drop) rfl
end
end Go.Proofs.Ytelfihgkbbaifaa
