/- slices.IndexFunc with the two tests of a search; Search of the program. -/
import Derived.Test.YtmkndbledppniaaGreatEq
namespace Go.Proofs.YtmkndbledppniaaGreat
open Go.RowKit
section
set_option maxRecDepth 100000 in
set_option maxHeartbeats 4000000 in
theorem indexE_any (A : Option Addr) (rs : List Rec) (c : Nat) (key : List UInt8) (A2 : Option Addr) (c2 : Nat) (w : World) (hr : RecsAt w A rs) (hl : rs.length ≤ maxLen) (hk : CardAt w A2 key c2) :
    Calls Tryz.prog 70 #[.slice A rs.length c, .func (.func 104) #[.slice A2 key.length c2] #[]] w fun e w' => e = .returned (.int .i64 (idxV (rs.findIdx? (matchE key)))) ∧ Below w.heap.size w w' := by
  have HR := Lib.hid hr
  have HN := Lib.hid hk
  have hfl : rs.length ≤ 9223372036854775807 := by unfold maxLen at hl; omega
  clear hr hk hl
  go_enter Tryz.func70, Tryz.ntmps70
  go_wp2
  go_loopw [8] (fun i wr => ∃ k : Nat, k ≤ rs.length ∧ i = .int .i64 k ∧ (∀ j y, j < k → rs[j]? = some y → matchE key y = false) ∧ Below w.heap.size w wr) (fun i _ => rs.length - (intOf i).toNat)
  case atStart => exact ⟨0, Nat.zero_le _, rfl, fun j y h => absurd h (by omega), Below.refl _ _⟩
  case round =>
    obtain ⟨k, hk, rfl, hok, b1⟩ := hrel
    have B1 := Lib.hid b1
    have HOK := Lib.hid hok
    clear b1 hok
    by_cases hlt : k < rs.length
    · have hx : rs[k]? = some rs[k] := by simp [hlt]
      generalize rs[k] = x at hx
      obtain ⟨g, off, Ak, ck, Ad, cd, hA, k0, k1, k2, k3, a1, _⟩ := HR.out.grow B1.out k x hx
      subst hA
      have HX := Lib.hid hx
      have HK := Lib.hid (wequal_any x key A2 Ak Ad c2 ck cd wr (HN.out.grow B1.out) a1)
      clear hx a1
      go_wp2_with fail
      refine HK.out.mono ?_
      rintro e w2 ⟨rfl, b2⟩
      have B2 := Lib.hid (B1.out.trans (b2.mono B1.out.size))
      clear b2 k0 k1 k2 k3 HK
      cases hp : matchE key x
      · have HP := Lib.hid hp
        clear hp
        go_wp2
        go_roundw
        case rel => exact ⟨k + 1, by omega, by go_num, fun j y hj hy => (by
          rcases Nat.lt_succ_iff_lt_or_eq.1 hj with h | rfl
          · exact HOK.out j y h hy
          · have hx := HX.out
            rw [hy] at hx; injection hx with hx; subst hx; exact HP.out), B2.out⟩
        case measure => simp [intOf]; omega
      · have HF := Lib.hid (show rs.findIdx? (matchE key) = some k from findIdx_some HX.out hp HOK.out)
        clear hp
        go_wp2
        go_ret
        exact ⟨by rw [HF.out]; rfl, B2.out⟩
    · obtain rfl : k = rs.length := by omega
      have HF := Lib.hid (show rs.findIdx? (matchE key) = none from findIdx_none HOK.out)
      go_wp2
      go_ret
      exact ⟨by rw [HF.out]; rfl, B1.out⟩
set_option maxRecDepth 100000 in
set_option maxHeartbeats 4000000 in
theorem indexH_any (A : Option Addr) (rs : List Rec) (c : Nat) (key : List UInt8) (A2 : Option Addr) (c2 : Nat) (w : World) (hr : RecsAt w A rs) (hl : rs.length ≤ maxLen) (hk : CardAt w A2 key c2) :
    Calls Tryz.prog 70 #[.slice A rs.length c, .func (.func 105) #[.slice A2 key.length c2] #[]] w fun e w' => e = .returned (.int .i64 (idxV (rs.findIdx? (matchH key)))) ∧ Below w.heap.size w w' := by
  have HR := Lib.hid hr
  have HN := Lib.hid hk
  have hfl : rs.length ≤ 9223372036854775807 := by unfold maxLen at hl; omega
  clear hr hk hl
  go_enter Tryz.func70, Tryz.ntmps70
  go_wp2
  go_loopw [8] (fun i wr => ∃ k : Nat, k ≤ rs.length ∧ i = .int .i64 k ∧ (∀ j y, j < k → rs[j]? = some y → matchH key y = false) ∧ Below w.heap.size w wr) (fun i _ => rs.length - (intOf i).toNat)
  case atStart => exact ⟨0, Nat.zero_le _, rfl, fun j y h => absurd h (by omega), Below.refl _ _⟩
  case round =>
    obtain ⟨k, hk, rfl, hok, b1⟩ := hrel
    have B1 := Lib.hid b1
    have HOK := Lib.hid hok
    clear b1 hok
    by_cases hlt : k < rs.length
    · have hx : rs[k]? = some rs[k] := by simp [hlt]
      generalize rs[k] = x at hx
      obtain ⟨g, off, Ak, ck, Ad, cd, hA, k0, k1, k2, k3, a1, _⟩ := HR.out.grow B1.out k x hx
      subst hA
      have HX := Lib.hid hx
      have HK := Lib.hid (wreached_any x key A2 Ak Ad c2 ck cd wr (HN.out.grow B1.out) a1)
      clear hx a1
      go_wp2_with fail
      refine HK.out.mono ?_
      rintro e w2 ⟨rfl, b2⟩
      have B2 := Lib.hid (B1.out.trans (b2.mono B1.out.size))
      clear b2 k0 k1 k2 k3 HK
      cases hp : matchH key x
      · have HP := Lib.hid hp
        clear hp
        go_wp2
        go_roundw
        case rel => exact ⟨k + 1, by omega, by go_num, fun j y hj hy => (by
          rcases Nat.lt_succ_iff_lt_or_eq.1 hj with h | rfl
          · exact HOK.out j y h hy
          · have hx := HX.out
            rw [hy] at hx; injection hx with hx; subst hx; exact HP.out), B2.out⟩
        case measure => simp [intOf]; omega
      · have HF := Lib.hid (show rs.findIdx? (matchH key) = some k from findIdx_some HX.out hp HOK.out)
        clear hp
        go_wp2
        go_ret
        exact ⟨by rw [HF.out]; rfl, B2.out⟩
    · obtain rfl : k = rs.length := by omega
      have HF := Lib.hid (show rs.findIdx? (matchH key) = none from findIdx_none HOK.out)
      go_wp2
      go_ret
      exact ⟨by rw [HF.out]; rfl, B1.out⟩
def searchN (rs : List Rec) (from_ : Int) (key : List UInt8) (high : Bool) : Option Nat :=
  if key.length = 0 ∨ (rs.length : Int) ≤ from_ then none else ((rs.drop from_.toNat).findIdx? (if high then matchH key else matchE key)).map (from_.toNat + ·)
theorem RecsAt.drop {w : World} {g off : Nat} {rs : List Rec} (h : RecsAt w (some ⟨g, off, none⟩) rs) (n : Nat) : RecsAt w (some ⟨g, off + n * 4, none⟩) (rs.drop n) := fun i x hx => by
  rw [List.getElem?_drop] at hx
  obtain ⟨g2, off2, Ak, ck, Ad, cd, hA, k0, k1, k2, k3, a1, a2⟩ := h (n + i) x hx
  injection hA with hA; injection hA with h1 h2
  subst h1; subst h2
  have e : off + (n + i) * 4 = off + n * 4 + i * 4 := by omega
  rw [e] at k0 k1 k2 k3
  exact ⟨g, off + n * 4, Ak, ck, Ad, cd, rfl, k0, k1, k2, k3, a1, a2⟩
set_option maxRecDepth 100000 in
set_option maxHeartbeats 2000000 in
theorem search_any (A : Option Addr) (rs : List Rec) (c : Nat) (fr : Int) (A2 : Option Addr) (key : List UInt8) (c2 : Nat) (high : Bool) (w : World) (hr : RecsAt w A rs) (hc : rs.length ≤ c) (hcm : c ≤ maxLen) (hk : CardAt w A2 key c2) :
    Calls Tryz.prog 95 #[.slice A rs.length c, .int .i64 fr, .slice A2 key.length c2, .bool high] w fun e w' => e = .returned (.tuple #[.int .i64 (((searchN rs fr key high).getD 0 : Nat) : Int), .bool (searchN rs fr key high).isSome]) ∧ Below w.heap.size w w' := by
  have hz1 : c ≤ 9223372036854775807 := by unfold maxLen at hcm; omega
  have hz2 : key.length ≤ 9223372036854775807 := by have := hk.2; unfold maxLen at this; omega
  have HR := Lib.hid hr
  have HK := Lib.hid hk
  have HS := Lib.hid (rfl : searchN rs fr key high = searchN rs fr key high)
  generalize hs : searchN rs fr key high = s at *
  clear hr hk HS
  by_cases h0 : key.length = 0
  · obtain rfl : s = none := by rw [← hs]; unfold searchN; rw [if_pos (Or.inl h0)]
    rw [h0]
    clear hs h0
    go_enter Tryz.func95, Tryz.ntmps95
    go_wp2
    go_ret2
    exact ⟨rfl, by (repeat' (first | (with_reducible exact Below.refl _ _) | (with_reducible assumption) | (with_reducible refine below_drewN ?_ _) | (with_reducible refine Below.drew ?_) | (with_reducible refine Below.alloc ?_ ?_ _) | (with_reducible refine Below.setCell ?_ ?_ _) | (with_reducible refine below_row ?_ ?_ _) | (with_reducible exact Nat.le_refl _) | omega | (simp only [World.size_alloc, World.size_setCell, World.size_drew, World.size_drewN]; omega) | (simp; done) | (simp; omega)))⟩
  · have t0 : ((key.length : Int) == 0) = false := by rw [beq_eq_false_iff_ne]; omega
    by_cases h1 : (rs.length : Int) ≤ fr
    · obtain rfl : s = none := by rw [← hs]; unfold searchN; rw [if_pos (Or.inr h1)]
      clear hs h0
      go_enter Tryz.func95, Tryz.ntmps95
      go_wp2
      go_ret2
      exact ⟨rfl, by (repeat' (first | (with_reducible exact Below.refl _ _) | (with_reducible assumption) | (with_reducible refine below_drewN ?_ _) | (with_reducible refine Below.drew ?_) | (with_reducible refine Below.alloc ?_ ?_ _) | (with_reducible refine Below.setCell ?_ ?_ _) | (with_reducible refine below_row ?_ ?_ _) | (with_reducible exact Nat.le_refl _) | omega | (simp only [World.size_alloc, World.size_setCell, World.size_drew, World.size_drewN]; omega) | (simp; done) | (simp; omega)))⟩
    · by_cases hr0 : rs.length = 0
      · obtain rfl := List.eq_nil_of_length_eq_zero hr0
        obtain rfl : s = none := by rw [← hs]; unfold searchN; rw [if_neg (by rintro (h | h) <;> omega)]; cases high <;> simp
        have hm : max fr 0 = 0 := by simp at h1; omega
        have h2 : ¬ ((0 : Int) ≤ fr) := h1
        have HE := Lib.hid (fun A' c' wx (hx : Below w.heap.size w wx) => indexE_any A' [] c' key A2 c2 wx RecsAt.nil (by simp) (HK.out.grow hx))
        have HH := Lib.hid (fun A' c' wx (hx : Below w.heap.size w wx) => indexH_any A' [] c' key A2 c2 wx RecsAt.nil (by simp) (HK.out.grow hx))
        clear hs h1 hr0 h0
        simp only [List.length_nil] at HE HH ⊢
        go_enter Tryz.func95, Tryz.ntmps95
        cases high <;> cases A
        all_goals
          go_wp2_with fail
          first
            | (with_reducible refine (HE.out _ _ _ (Below.refl _ _)).mono ?_)
            | (with_reducible refine (HH.out _ _ _ (Below.refl _ _)).mono ?_)
          rintro e w2 ⟨rfl, b2⟩
          have B2 := Lib.hid b2
          clear b2 HE HH
          simp only [List.findIdx?_nil, idxV]
          go_wp2
          go_ret2
          exact ⟨rfl, B2.out⟩
      by_cases hneg : fr ≤ 0
      · have hs2 : s = rs.findIdx? (if high then matchH key else matchE key) := by
          rw [← hs]; unfold searchN; rw [if_neg (by rintro (h | h) <;> omega)]
          have e : fr.toNat = 0 := by omega
          rw [e, List.drop_zero]
          cases rs.findIdx? (if high then matchH key else matchE key) <;> simp
        have HF := Lib.hid (fun (i : Nat) (h : rs.findIdx? (if high then matchH key else matchE key) = some i) => (by
          rw [List.findIdx?_eq_some_iff_getElem] at h
          exact h.1 : i < rs.length))
        have HS2 := Lib.hid hs2
        have HE := Lib.hid (indexE_any A rs c key A2 c2 w HR.out (by omega) HK.out)
        have HH := Lib.hid (indexH_any A rs c key A2 c2 w HR.out (by omega) HK.out)
        have hm : max fr 0 = 0 := by omega
        have h2 : ¬ ((rs.length : Int) ≤ fr) := h1
        clear hs hs2 h0 h1
        go_enter Tryz.func95, Tryz.ntmps95
        cases high
        all_goals
          simp only [Bool.false_eq_true, if_false, if_true] at HF HS2
          obtain hneg | rfl : fr < 0 ∨ fr = 0 := by omega
        all_goals
          cases A
        all_goals
          go_wp2_with fail
          first
            | ((with_reducible refine HE.out.mono ?_); rintro e w2 ⟨rfl, b2⟩; generalize List.findIdx? (matchE key) rs = f at *)
            | ((with_reducible refine HH.out.mono ?_); rintro e w2 ⟨rfl, b2⟩; generalize List.findIdx? (matchH key) rs = f at *)
          have B2 := Lib.hid b2
          clear b2 HE HH
          cases f with
          | none =>
            have HSN := Lib.hid (show s = none from HS2.out)
            simp only [idxV]
            go_wp2
            go_ret2
            exact ⟨by rw [HSN.out]; rfl, B2.out⟩
          | some i =>
            have hi := HF.out i rfl
            have HSN := Lib.hid (show s = some i from HS2.out)
            simp only [idxV]
            have h0 : ¬ ((i : Int) < 0) := by omega
            go_wp2
            go_ret2
            exact ⟨by rw [HSN.out]; rfl, B2.out⟩
      obtain ⟨n, hn⟩ : ∃ n : Nat, fr = (n : Int) := ⟨fr.toNat, by omega⟩
      subst hn
      have hm : max (n : Int) 0 = (n : Int) := by omega
      have hnl : n < rs.length := by omega
      have h2 : ¬ ((rs.length : Int) ≤ (n : Int)) := h1
      obtain ⟨g, off, hA⟩ : ∃ g off, A = some ⟨g, off, none⟩ := by
        obtain ⟨g, off, _, _, _, _, hA, _⟩ := HR.out 0 (rs[0]'(by omega)) (by simp)
        exact ⟨g, off, hA⟩
      subst hA
      have HR2 := Lib.hid (HR.out.drop n)
      have hdl : (rs.drop n).length = rs.length - n := List.length_drop
      have hs2 : s = ((rs.drop n).findIdx? (if high then matchH key else matchE key)).map (n + ·) := by
        rw [← hs]; unfold searchN; rw [if_neg (by rintro (h | h) <;> omega)]; rfl
      have HF := Lib.hid (fun (i : Nat) (h : (rs.drop n).findIdx? (if high then matchH key else matchE key) = some i) => (by
        rw [List.findIdx?_eq_some_iff_getElem] at h
        have := h.1
        omega : n + i < rs.length))
      have HS2 := Lib.hid hs2
      have HE := Lib.hid (fun wx (hx : Below w.heap.size w wx) => (by
        have h := indexE_any (some ⟨g, off + n * 4, none⟩) (rs.drop n) (c - n) key A2 c2 wx (HR2.out.grow hx) (by unfold maxLen at hcm ⊢; omega) (HK.out.grow hx)
        rw [hdl] at h; exact h : Calls Tryz.prog 70 #[.slice (some ⟨g, off + n * 4, none⟩) (rs.length - n) (c - n), .func (.func 104) #[.slice A2 key.length c2] #[]] wx fun e w' => e = .returned (.int .i64 (idxV ((rs.drop n).findIdx? (matchE key)))) ∧ Below wx.heap.size wx w'))
      have HH := Lib.hid (fun wx (hx : Below w.heap.size w wx) => (by
        have h := indexH_any (some ⟨g, off + n * 4, none⟩) (rs.drop n) (c - n) key A2 c2 wx (HR2.out.grow hx) (by unfold maxLen at hcm ⊢; omega) (HK.out.grow hx)
        rw [hdl] at h; exact h : Calls Tryz.prog 70 #[.slice (some ⟨g, off + n * 4, none⟩) (rs.length - n) (c - n), .func (.func 105) #[.slice A2 key.length c2] #[]] wx fun e w' => e = .returned (.int .i64 (idxV ((rs.drop n).findIdx? (matchH key)))) ∧ Below wx.heap.size wx w'))
      have hnc : n ≤ c := by omega
      have hnc2 : c - n ≠ 0 := by omega
      clear hs hs2 hdl h0 h1 hneg
      go_enter Tryz.func95, Tryz.ntmps95
      cases high
      · simp only [Bool.false_eq_true, if_false] at HF HS2
        go_wp2_with fail
        with_reducible refine (HE.out _ (Below.refl _ _)).mono ?_
        rintro e w2 ⟨rfl, b2⟩
        have B2 := Lib.hid b2
        clear b2 HE HH
        generalize List.findIdx? (matchE key) (rs.drop n) = f at *
        cases f with
        | none =>
          have HSN := Lib.hid (show s = none from HS2.out)
          simp only [idxV]
          go_wp2
          go_ret2
          exact ⟨by rw [HSN.out]; rfl, B2.out⟩
        | some i =>
          have hi := HF.out i rfl
          have HSN := Lib.hid (show s = some (n + i) from HS2.out)
          simp only [idxV]
          have h0 : ¬ ((i : Int) < 0) := by omega
          go_wp2
          go_ret2
          exact ⟨by rw [HSN.out]; rfl, B2.out⟩
      · simp only [if_true] at HF HS2
        go_wp2_with fail
        with_reducible refine (HH.out _ (Below.refl _ _)).mono ?_
        rintro e w2 ⟨rfl, b2⟩
        have B2 := Lib.hid b2
        clear b2 HE HH
        generalize List.findIdx? (matchH key) (rs.drop n) = f at *
        cases f with
        | none =>
          have HSN := Lib.hid (show s = none from HS2.out)
          simp only [idxV]
          go_wp2
          go_ret2
          exact ⟨by rw [HSN.out]; rfl, B2.out⟩
        | some i =>
          have hi := HF.out i rfl
          have HSN := Lib.hid (show s = some (n + i) from HS2.out)
          simp only [idxV]
          have h0 : ¬ ((i : Int) < 0) := by omega
          go_wp2
          go_ret2
          exact ⟨by rw [HSN.out]; rfl, B2.out⟩
end
end Go.Proofs.YtmkndbledppniaaGreat
