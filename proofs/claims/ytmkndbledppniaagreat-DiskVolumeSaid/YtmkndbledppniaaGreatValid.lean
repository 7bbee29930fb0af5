/- Valid: the program's and the reference's; Used of the reference. -/
import Derived.Test.YtmkndbledppniaaGreatUsed
import Derived.IntWalk
import Derived.Deep.CutBlock
import Derived.Deep.CutRange
namespace Go.Proofs.YtmkndbledppniaaGreat
open Go.RowKit

theorem okAt_zero {rs : List Rec} {x : Rec} (h : rs[0]? = some x) : okAt rs 0 = x.valid := by simp [okAt, h]
theorem okAt_succ {rs : List Rec} {j : Nat} {x y : Rec} (h : rs[j + 1]? = some x) (hy : rs[j]? = some y) : okAt rs (j + 1) = (x.valid && decide (y.r < x.r)) := by simp only [okAt, h, hy]
theorem ok_num {rs : List Rec} (h : ∀ j, j < rs.length → okAt rs j = true) : ∀ (j : Nat) (x : Rec), rs[j]? = some x → (j : Int) + 1 ≤ x.r ∧ x.r ≤ 255
  | 0, x, hx => by
    have h1 := h 0 (List.getElem?_eq_some_iff.1 hx).1
    rw [okAt_zero hx] at h1
    simp only [Rec.valid, valid1, Bool.and_eq_true, decide_eq_true_eq] at h1
    omega
  | j + 1, x, hx => by
    have hl := (List.getElem?_eq_some_iff.1 hx).1
    have hy : rs[j]? = some (rs[j]'(by omega)) := List.getElem?_eq_getElem (by omega)
    have h1 := h (j + 1) hl
    have h2 := ok_num h j _ hy
    rw [okAt_succ hx hy] at h1
    simp only [Rec.valid, valid1, Bool.and_eq_true, decide_eq_true_eq] at h1
    push_cast
    omega
theorem ok_fit {rs : List Rec} (h : ∀ j, j < rs.length → okAt rs j = true) (hf : FitV rs) : Fit rs := ⟨by
  by_cases h0 : rs.length = 0
  · omega
  · have h1 := ok_num h (rs.length - 1) _ (List.getElem?_eq_getElem (by omega))
    omega, hf.2⟩
theorem validB_false {rs : List Rec} {k : Nat} (hk : k < rs.length) (h : okAt rs k = false) : validB rs = false := by
  have : ordB rs = false := by
    unfold ordB
    rw [List.all_eq_false]
    exact ⟨k, List.mem_range.2 hk, by rw [h]; decide⟩
  unfold validB; rw [this]; rfl
theorem validB_true {rs : List Rec} (h : ∀ j, j < rs.length → okAt rs j = true) : validB rs = decide (usedN rs ≤ 2048) := by
  have : ordB rs = true := by
    unfold ordB
    rw [List.all_eq_true]
    exact fun j hj => h j (List.mem_range.1 hj)
  unfold validB; rw [this]; rfl
section
set_option maxHeartbeats 4000000 in
theorem rused_any (A : Option Addr) (rs : List Rec) (c : Nat) (w : World) (hr : RecsAt w A rs) (hf : Fit rs) :
    Calls Tryz.prog 76 #[.slice A rs.length c] w fun e w' => e = .returned (.int .i64 (usedN rs : Nat)) ∧ Below w.heap.size w w' := by
  have HF := Lib.hid hf
  have hfl := hf.1
  have HR := Lib.hid hr
  have hfu : ∀ k, usedN (rs.take k) ≤ 8192 * 281474976710704 := fun k => by
    refine Nat.le_trans (used_le fun x hx => HF.out.2 x (List.mem_of_mem_take hx)) (Nat.mul_le_mul_right _ ?_)
    rw [List.length_take]; omega
  have HFU := Lib.hid hfu
  clear hf hr hfu
  go_enter Tryz.func76, Tryz.ntmps76
  go_wp2
  go_loopw [3, 4] (fun n i wr => ∃ k : Nat, k ≤ rs.length ∧ n = .int .i64 (usedN (rs.take k) : Nat) ∧ i = .int .i64 k ∧ Below w.heap.size w wr) (fun _ i _ => rs.length - (intOf i).toNat)
  case atStart => exact ⟨0, Nat.zero_le _, rfl, rfl, Below.refl _ _⟩
  case round =>
    obtain ⟨k, hk, rfl, rfl, b1⟩ := hrel
    have B1 := Lib.hid b1
    clear b1
    by_cases hlt : k < rs.length
    · have hx : rs[k]? = some rs[k] := by simp [hlt]
      have hfx := HF.out.2 rs[k] (List.getElem_mem hlt)
      generalize rs[k] = x at hx hfx
      obtain ⟨g, off, Ak, ck, Ad, cd, hA, k0, k1, k2, k3, a1, a2⟩ := HR.out.grow B1.out k x hx
      subst hA
      have hu := HFU.out k
      have hc := cost_le hfx
      have HX := Lib.hid (usedN_take hx)
      clear hx a1 a2
      unfold Rec.cost at hc HX
      generalize usedN (rs.take k) = u at *
      go_wp2_with fail
      refine (rcost_any x.r Ak Ad x.key.length x.data.length ck cd x.bad _ (by omega) (by omega)).mono ?_
      rintro e w2 ⟨rfl, b2⟩
      have B2 := Lib.hid (B1.out.trans (b2.mono B1.out.size))
      clear b2 k0 k1 k2 k3
      generalize costN x.key.length x.data.length = q at *
      go_wp2
      go_roundw
      case rel => exact ⟨k + 1, by omega, by rw [HX.out]; push_cast; rfl, by go_num, B2.out⟩
      case measure => simp [intOf]; omega
    · obtain rfl : k = rs.length := by omega
      go_wp2
      go_ret
      exact ⟨by rw [List.take_of_length_le (Nat.le_refl _)]; rfl, B1.out⟩
set_option maxRecDepth 100000 in
set_option maxHeartbeats 8000000 in
theorem valid_wide (A : Option Addr) (rs : List Rec) (c : Nat) (w : World) (hr : RecsAt w A rs) (hf : FitV rs) :
    Calls Tryz.prog 44 #[.slice A rs.length c] w fun e w' => e = .returned (.bool (validB rs)) ∧ Below w.heap.size w w' := by
  have HF := Lib.hid hf
  have hfl := hf.1
  have HR := Lib.hid hr
  clear hf hr
  go_enter Tryz.func44, Tryz.ntmps44
  go_wp2
  go_loopw [7] (fun i wr => ∃ k : Nat, k ≤ rs.length ∧ i = .int .i64 k ∧ (∀ j, j < k → okAt rs j = true) ∧ Below w.heap.size w wr) (fun i _ => rs.length - (intOf i).toNat)
  case atStart => exact ⟨0, Nat.zero_le _, rfl, fun j h => absurd h (by omega), Below.refl _ _⟩
  case round =>
    obtain ⟨k, hk, rfl, hok, b1⟩ := hrel
    have B1 := Lib.hid b1
    have HOK := Lib.hid hok
    clear b1 hok
    by_cases hlt : k < rs.length
    · have hx : rs[k]? = some rs[k] := by simp [hlt]
      generalize rs[k] = x at hx
      obtain ⟨g, off, Ak, ck, Ad, cd, hA, k0, k1, k2, k3, _⟩ := HR.out.grow B1.out k x hx
      subst hA
      have HX := Lib.hid hx
      have HV := Lib.hid (fun wx => valid1_any x.r Ak Ad x.key.length x.data.length ck cd x.bad wx)
      clear hx
      go_upto_region 4 with fail
      refine name_world (P := Code.wp _ _ _ _) ?_
      intro wd hwd
      have bd : Below wr.heap.size wr wd := by rw [hwd]; (repeat' (first | (with_reducible exact Below.refl _ _) | (with_reducible assumption) | (with_reducible refine below_drewN ?_ _) | (with_reducible refine Below.drew ?_) | (with_reducible refine Below.alloc ?_ ?_ _) | (with_reducible refine Below.setCell ?_ ?_ _) | (with_reducible refine below_row ?_ ?_ _) | (with_reducible exact Nat.le_refl _) | omega | (simp only [World.size_alloc, World.size_setCell, World.size_drew, World.size_drewN]; omega) | (simp; done) | (simp; omega)))
      have HB := Lib.hid (show wd.heap[wr.heap.size]? = some (.cells #[.int .i64 x.r, .slice Ak x.key.length ck, .slice Ad x.data.length cd, .bool x.bad] 62 (0, 0)) by rw [hwd]; exact hl_new rfl)
      have BD := Lib.hid bd
      have B2 := Lib.hid (B1.out.trans (bd.mono B1.out.size))
      clear hwd bd k0 k1 k2 k3
      generalize wr.heap.size = xb at *
      have HL := Lib.hid (fun (wx : World) (hx : Below wd.heap.size wd wx) => row_look (hl_grow hx HB.out))
      cases hv : valid1 x.r x.key.length
      · have hno := validB_false hlt (by
          rcases Nat.eq_zero_or_pos k with rfl | hp
          · rw [okAt_zero HX.out]; exact hv
          · obtain ⟨j, rfl⟩ : ∃ j, k = j + 1 := ⟨k - 1, by omega⟩
            rw [okAt_succ HX.out (y := rs[j]) (by simp)]
            unfold Rec.valid; rw [hv]; rfl)
        have HNO := Lib.hid hno
        rw [hv] at HV
        clear hv hno
        refine wp_region_quiet (C := Below wd.heap.size wd) (by kernel_rfl) (by kernel_rfl) (Below.refl _ _).drew ?_
        (repeat (with_reducible refine wpQuiet_step ?_; intro K hK; go_simp; first | (with_reducible refine hK _ ?_; clear hK K) | (rw [if_neg (by decide)]; with_reducible refine hK _ ?_; clear hK K) | (refine ⟨_, fun wx hx => (by obtain ⟨f0, f1, f2⟩ := HL.out wx hx; go_simp; with_reducible rfl), hK _ ?_⟩; clear hK K) | (refine ⟨_, fun wx hx => (by with_reducible refine (HV.out wx).mono ?_; rintro e w' ⟨rfl, h2⟩; exact ⟨rfl, hx.trans (h2.mono hx.size)⟩), hK _ ?_⟩; clear hK K) | (refine ⟨_, fun _ _ => rfl, hK _ ?_⟩; clear hK K)))
        with_reducible refine wpQuiet_nil ?_
        intro w3 hw3
        have B3 := Lib.hid (B2.out.trans (Below.mono hw3 B2.out.size))
        clear hw3
        go_wp2
        go_ret
        exact ⟨by rw [HNO.out]; rfl, B3.out⟩
      · rw [hv] at HV
        have HVX := Lib.hid hv
        clear hv
        rcases Nat.eq_zero_or_pos k with hk0 | hk0
        · subst hk0
          have HT := Lib.hid (show okAt rs 0 = true from by
            rw [okAt_zero HX.out]; exact HVX.out)
          rw [show ((0 : Nat) : Int) = 0 from rfl]
          refine wp_region_quiet (C := Below wd.heap.size wd) (by kernel_rfl) (by kernel_rfl) (Below.refl _ _).drew ?_
          (repeat (with_reducible refine wpQuiet_step ?_; intro K hK; go_simp; first | (with_reducible refine hK _ ?_; clear hK K) | (rw [if_neg (by decide)]; with_reducible refine hK _ ?_; clear hK K) | (refine ⟨_, fun wx hx => (by obtain ⟨f0, f1, f2⟩ := HL.out wx hx; go_simp; with_reducible rfl), hK _ ?_⟩; clear hK K) | (refine ⟨_, fun wx hx => (by with_reducible refine (HV.out wx).mono ?_; rintro e w' ⟨rfl, h2⟩; exact ⟨rfl, hx.trans (h2.mono hx.size)⟩), hK _ ?_⟩; clear hK K) | (refine ⟨_, fun _ _ => rfl, hK _ ?_⟩; clear hK K)))
          with_reducible refine wpQuiet_nil ?_
          intro w3 hw3
          have B3 := Lib.hid (B2.out.trans (Below.mono hw3 B2.out.size))
          clear hw3
          go_wp2
          go_roundw
          case rel => exact ⟨1, by omega, by go_num, fun j hj => (by
            obtain rfl : j = 0 := by omega
            exact HT.out), B3.out⟩
          case measure => simp [intOf]; omega
        · obtain ⟨j, hj⟩ : ∃ j, j = k - 1 := ⟨_, rfl⟩
          have hjk : k = j + 1 := by omega
          have hjl : j < rs.length := by omega
          have hy : rs[j]? = some rs[j] := by simp [hjl]
          generalize rs[j] = y at hy
          obtain ⟨g2, off2, Ak2, ck2, Ad2, cd2, hA, m0, _, _, _, _⟩ := HR.out.grow B2.out j y hy
          injection hA with hA; injection hA with h1 h2
          subst h1; subst h2
          have HM := Lib.hid (fun (wx : World) (hx : Below wd.heap.size wd wx) => (hx.cell (p := ⟨g, off + j * 4, none⟩) (World.block_lt_of_cell? wd _ m0)).trans m0)
          have HT := Lib.hid (show okAt rs k = decide (y.r < x.r) from by
            have hx := HX.out
            rw [hjk] at hx ⊢
            rw [okAt_succ hx hy]
            unfold Rec.valid
            rw [HVX.out, Bool.true_and])
          have t4 : decide ((0 : Int) < (k : Int)) = true := by simp; omega
          have t4' : decide (0 < k) = true := by simp; omega
          have t5 : ((k : Int) - 1) = (j : Int) := by omega
          have hw5 : IntKind.i64.wrap (j : Int) = (j : Int) := IntWalk.i64_in _ (by omega)
          have hw6 : (0 : Int) ≤ (j : Int) := by omega
          have t6 : (j : Int) < (rs.length : Int) := by omega
          clear hy m0 hj hjk hk0
          cases ht : decide (y.r < x.r)
          · have t7 : decide (x.r ≤ y.r) = true := by simp at ht ⊢; omega
            rw [ht] at HT
            have HNO := Lib.hid (validB_false hlt HT.out)
            clear ht
            refine wp_region_quiet (C := Below wd.heap.size wd) (by kernel_rfl) (by kernel_rfl) (Below.refl _ _).drew ?_
            (repeat (with_reducible refine wpQuiet_step ?_; intro K hK; go_simp; first | (with_reducible refine hK _ ?_; clear hK K) | (rw [if_neg (by decide)]; with_reducible refine hK _ ?_; clear hK K) | (refine ⟨_, fun wx hx => (by obtain ⟨f0, f1, f2⟩ := HL.out wx hx; have m0 := HM.out wx hx; go_simp; with_reducible rfl), hK _ ?_⟩; clear hK K) | (refine ⟨_, fun wx hx => (by with_reducible refine (HV.out wx).mono ?_; rintro e w' ⟨rfl, h2⟩; exact ⟨rfl, hx.trans (h2.mono hx.size)⟩), hK _ ?_⟩; clear hK K) | (refine ⟨_, fun _ _ => rfl, hK _ ?_⟩; clear hK K))); with_reducible refine wpQuiet_nil ?_
            intro w3 hw3
            have B3 := Lib.hid (B2.out.trans (Below.mono hw3 B2.out.size))
            clear hw3
            go_wp2
            go_ret
            exact ⟨by rw [HNO.out]; rfl, B3.out⟩
          · have t7 : decide (x.r ≤ y.r) = false := by simp at ht ⊢; omega
            rw [ht] at HT
            clear ht
            refine wp_region_quiet (C := Below wd.heap.size wd) (by kernel_rfl) (by kernel_rfl) (Below.refl _ _).drew ?_
            (repeat (with_reducible refine wpQuiet_step ?_; intro K hK; go_simp; first | (with_reducible refine hK _ ?_; clear hK K) | (rw [if_neg (by decide)]; with_reducible refine hK _ ?_; clear hK K) | (refine ⟨_, fun wx hx => (by obtain ⟨f0, f1, f2⟩ := HL.out wx hx; have m0 := HM.out wx hx; go_simp; with_reducible rfl), hK _ ?_⟩; clear hK K) | (refine ⟨_, fun wx hx => (by with_reducible refine (HV.out wx).mono ?_; rintro e w' ⟨rfl, h2⟩; exact ⟨rfl, hx.trans (h2.mono hx.size)⟩), hK _ ?_⟩; clear hK K) | (refine ⟨_, fun _ _ => rfl, hK _ ?_⟩; clear hK K))); with_reducible refine wpQuiet_nil ?_
            intro w3 hw3
            have B3 := Lib.hid (B2.out.trans (Below.mono hw3 B2.out.size))
            clear hw3
            go_wp2
            go_roundw
            case rel => exact ⟨k + 1, by omega, by go_num, fun j hj => (by
              rcases Nat.lt_succ_iff_lt_or_eq.1 hj with h | rfl
              · exact HOK.out j h
              · exact HT.out), B3.out⟩
            case measure => simp [intOf]; omega
    · obtain rfl : k = rs.length := by omega
      have HNO := Lib.hid (validB_true HOK.out)
      go_wp2_with fail
      refine (used_any A rs c wr (HR.out.grow B1.out) (ok_fit HOK.out HF.out)).mono ?_
      rintro e w2 ⟨rfl, b2⟩
      have B2 := Lib.hid (B1.out.trans (b2.mono B1.out.size))
      clear b2
      go_wp2
      go_ret
      exact ⟨by rw [HNO.out]; exact congrArg (fun b => Ending.returned (.bool b)) (decide_eq_decide.2 (by omega)), B2.out⟩
set_option maxRecDepth 100000 in
set_option maxHeartbeats 8000000 in
theorem rvalid_wide (A : Option Addr) (rs : List Rec) (c : Nat) (w : World) (hr : RecsAt w A rs) (hf : FitV rs) :
    Calls Tryz.prog 46 #[.slice A rs.length c] w fun e w' => e = .returned (.bool (validB rs)) ∧ Below w.heap.size w w' := by
  have HF := Lib.hid hf
  have hfl := hf.1
  have HR := Lib.hid hr
  clear hf hr
  go_enter Tryz.func46, Tryz.ntmps46
  go_wp2
  go_loopw [3] (fun i wr => ∃ k : Nat, k ≤ rs.length ∧ i = .int .i64 k ∧ (∀ j, j < k → okAt rs j = true) ∧ Below w.heap.size w wr) (fun i _ => rs.length - (intOf i).toNat)
  case atStart => exact ⟨0, Nat.zero_le _, rfl, fun j h => absurd h (by omega), Below.refl _ _⟩
  case round =>
    obtain ⟨k, hk, rfl, hok, b1⟩ := hrel
    have B1 := Lib.hid b1
    have HOK := Lib.hid hok
    clear b1 hok
    by_cases hlt : k < rs.length
    · have hx : rs[k]? = some rs[k] := by simp [hlt]
      generalize rs[k] = x at hx
      obtain ⟨g, off, Ak, ck, Ad, cd, hA, k0, k1, k2, k3, _⟩ := HR.out.grow B1.out k x hx
      subst hA
      have z0 := World.block_lt_of_cell? wr _ k0
      have HX := Lib.hid hx
      have HV := Lib.hid (fun wx => record_any x.r Ak Ad x.key.length x.data.length ck cd x.bad wx)
      have HL := Lib.hid (fun (wx : World) (hx : Below wr.heap.size wr wx) => (⟨(hx.cell (p := ⟨g, off + k * 4, none⟩) z0).trans k0, (hx.cell (p := ⟨g, off + k * 4 + 1, none⟩) z0).trans k1, (hx.cell (p := ⟨g, off + k * 4 + 2, none⟩) z0).trans k2, (hx.cell (p := ⟨g, off + k * 4 + 3, none⟩) z0).trans k3⟩ :
        wx.cell? ⟨g, off + k * 4, none⟩ = some (.int .i64 x.r) ∧ wx.cell? ⟨g, off + k * 4 + 1, none⟩ = some (.slice Ak x.key.length ck) ∧ wx.cell? ⟨g, off + k * 4 + 2, none⟩ = some (.slice Ad x.data.length cd) ∧ wx.cell? ⟨g, off + k * 4 + 3, none⟩ = some (.bool x.bad)))
      clear hx k0 k1 k2 k3 z0
      go_upto_region 4 with fail
      cases hv : valid1 x.r x.key.length
      · have hno := validB_false hlt (by
          rcases Nat.eq_zero_or_pos k with rfl | hp
          · rw [okAt_zero HX.out]; exact hv
          · obtain ⟨j, rfl⟩ : ∃ j, k = j + 1 := ⟨k - 1, by omega⟩
            rw [okAt_succ HX.out (y := rs[j]) (by simp)]
            unfold Rec.valid; rw [hv]; rfl)
        have HNO := Lib.hid hno
        rw [hv] at HV
        clear hv hno
        refine wp_region_quiet (C := Below wr.heap.size wr) (by kernel_rfl) (by kernel_rfl) (Below.refl _ _).drew ?_
        (repeat (with_reducible refine wpQuiet_step ?_; intro K hK; go_simp; first | (with_reducible refine hK _ ?_; clear hK K) | (rw [if_neg (by decide)]; with_reducible refine hK _ ?_; clear hK K) | (refine ⟨_, fun wx hx => (by obtain ⟨f0, f1, f2, f3⟩ := HL.out wx hx; go_simp; with_reducible rfl), hK _ ?_⟩; clear hK K) | (refine ⟨_, fun wx hx => (by with_reducible refine (HV.out wx).mono ?_; rintro e w' ⟨rfl, h2⟩; exact ⟨rfl, hx.trans (h2.mono hx.size)⟩), hK _ ?_⟩; clear hK K) | (refine ⟨_, fun _ _ => rfl, hK _ ?_⟩; clear hK K))); with_reducible refine wpQuiet_nil ?_
        intro w3 hw3
        have B3 := Lib.hid (B1.out.trans (Below.mono hw3 B1.out.size))
        clear hw3
        go_wp2
        go_ret
        exact ⟨by rw [HNO.out]; rfl, B3.out⟩
      · rw [hv] at HV
        have HVX := Lib.hid hv
        clear hv
        rcases Nat.eq_zero_or_pos k with hk0 | hk0
        · subst hk0
          have HT := Lib.hid (show okAt rs 0 = true from by
            rw [okAt_zero HX.out]; exact HVX.out)
          rw [show ((0 : Nat) : Int) = 0 from rfl]
          refine wp_region_quiet (C := Below wr.heap.size wr) (by kernel_rfl) (by kernel_rfl) (Below.refl _ _).drew ?_
          (repeat (with_reducible refine wpQuiet_step ?_; intro K hK; go_simp; first | (with_reducible refine hK _ ?_; clear hK K) | (rw [if_neg (by decide)]; with_reducible refine hK _ ?_; clear hK K) | (refine ⟨_, fun wx hx => (by obtain ⟨f0, f1, f2, f3⟩ := HL.out wx hx; simp only [Nat.zero_mul, Nat.add_zero] at f0 f1 f2 f3; go_simp; with_reducible rfl), hK _ ?_⟩; clear hK K) | (refine ⟨_, fun wx hx => (by with_reducible refine (HV.out wx).mono ?_; rintro e w' ⟨rfl, h2⟩; exact ⟨rfl, hx.trans (h2.mono hx.size)⟩), hK _ ?_⟩; clear hK K) | (refine ⟨_, fun _ _ => rfl, hK _ ?_⟩; clear hK K))); with_reducible refine wpQuiet_nil ?_
          intro w3 hw3
          have B3 := Lib.hid (B1.out.trans (Below.mono hw3 B1.out.size))
          clear hw3
          go_wp2
          go_roundw
          case rel => exact ⟨1, by omega, by go_num, fun j hj => (by
            obtain rfl : j = 0 := by omega
            exact HT.out), B3.out⟩
          case measure => simp [intOf]; omega
        · obtain ⟨j, hj⟩ : ∃ j, j = k - 1 := ⟨_, rfl⟩
          have hjk : k = j + 1 := by omega
          have hjl : j < rs.length := by omega
          have hy : rs[j]? = some rs[j] := by simp [hjl]
          generalize rs[j] = y at hy
          obtain ⟨g2, off2, Ak2, ck2, Ad2, cd2, hA, m0, _, _, _, _⟩ := HR.out.grow B1.out j y hy
          injection hA with hA; injection hA with h1 h2
          subst h1; subst h2
          have HM := Lib.hid (fun (wx : World) (hx : Below wr.heap.size wr wx) => (hx.cell (p := ⟨g, off + j * 4, none⟩) (World.block_lt_of_cell? wr _ m0)).trans m0)
          have HT := Lib.hid (show okAt rs k = decide (y.r < x.r) from by
            have hx := HX.out
            rw [hjk] at hx ⊢
            rw [okAt_succ hx hy]
            unfold Rec.valid
            rw [HVX.out, Bool.true_and])
          have t4 : decide ((0 : Int) < (k : Int)) = true := by simp; omega
          have t4' : decide (0 < k) = true := by simp; omega
          have t5 : ((k : Int) - 1) = (j : Int) := by omega
          have hw5 : IntKind.i64.wrap (j : Int) = (j : Int) := IntWalk.i64_in _ (by omega)
          have hw6 : (0 : Int) ≤ (j : Int) := by omega
          have t6 : (j : Int) < (rs.length : Int) := by omega
          clear hy m0 hj hjk hk0
          cases ht : decide (y.r < x.r)
          · have t7 : decide (x.r ≤ y.r) = true := by simp at ht ⊢; omega
            rw [ht] at HT
            have HNO := Lib.hid (validB_false hlt HT.out)
            clear ht
            refine wp_region_quiet (C := Below wr.heap.size wr) (by kernel_rfl) (by kernel_rfl) (Below.refl _ _).drew ?_
            (repeat (with_reducible refine wpQuiet_step ?_; intro K hK; go_simp; first | (with_reducible refine hK _ ?_; clear hK K) | (rw [if_neg (by decide)]; with_reducible refine hK _ ?_; clear hK K) | (refine ⟨_, fun wx hx => (by obtain ⟨f0, f1, f2, f3⟩ := HL.out wx hx; have m0 := HM.out wx hx; go_simp; with_reducible rfl), hK _ ?_⟩; clear hK K) | (refine ⟨_, fun wx hx => (by with_reducible refine (HV.out wx).mono ?_; rintro e w' ⟨rfl, h2⟩; exact ⟨rfl, hx.trans (h2.mono hx.size)⟩), hK _ ?_⟩; clear hK K) | (refine ⟨_, fun _ _ => rfl, hK _ ?_⟩; clear hK K))); with_reducible refine wpQuiet_nil ?_
            intro w3 hw3
            have B3 := Lib.hid (B1.out.trans (Below.mono hw3 B1.out.size))
            clear hw3
            go_wp2
            go_ret
            exact ⟨by rw [HNO.out]; rfl, B3.out⟩
          · have t7 : decide (x.r ≤ y.r) = false := by simp at ht ⊢; omega
            rw [ht] at HT
            clear ht
            refine wp_region_quiet (C := Below wr.heap.size wr) (by kernel_rfl) (by kernel_rfl) (Below.refl _ _).drew ?_
            (repeat (with_reducible refine wpQuiet_step ?_; intro K hK; go_simp; first | (with_reducible refine hK _ ?_; clear hK K) | (rw [if_neg (by decide)]; with_reducible refine hK _ ?_; clear hK K) | (refine ⟨_, fun wx hx => (by obtain ⟨f0, f1, f2, f3⟩ := HL.out wx hx; have m0 := HM.out wx hx; go_simp; with_reducible rfl), hK _ ?_⟩; clear hK K) | (refine ⟨_, fun wx hx => (by with_reducible refine (HV.out wx).mono ?_; rintro e w' ⟨rfl, h2⟩; exact ⟨rfl, hx.trans (h2.mono hx.size)⟩), hK _ ?_⟩; clear hK K) | (refine ⟨_, fun _ _ => rfl, hK _ ?_⟩; clear hK K))); with_reducible refine wpQuiet_nil ?_
            intro w3 hw3
            have B3 := Lib.hid (B1.out.trans (Below.mono hw3 B1.out.size))
            clear hw3
            go_wp2
            go_roundw
            case rel => exact ⟨k + 1, by omega, by go_num, fun j hj => (by
              rcases Nat.lt_succ_iff_lt_or_eq.1 hj with h | rfl
              · exact HOK.out j h
              · exact HT.out), B3.out⟩
            case measure => simp [intOf]; omega
    · obtain rfl : k = rs.length := by omega
      have HNO := Lib.hid (validB_true HOK.out)
      go_wp2_with fail
      refine (rused_any A rs c wr (HR.out.grow B1.out) (ok_fit HOK.out HF.out)).mono ?_
      rintro e w2 ⟨rfl, b2⟩
      have B2 := Lib.hid (B1.out.trans (b2.mono B1.out.size))
      clear b2
      go_wp2
      go_ret
      exact ⟨by rw [HNO.out]; exact congrArg (fun b => Ending.returned (.bool b)) (decide_eq_decide.2 (by omega)), B2.out⟩
theorem valid_any (A : Option Addr) (rs : List Rec) (c : Nat) (w : World) (hr : RecsAt w A rs) (hf : Fit rs) :
    Calls Tryz.prog 44 #[.slice A rs.length c] w fun e w' => e = .returned (.bool (validB rs)) ∧ Below w.heap.size w w' := valid_wide A rs c w hr hf.v
theorem rvalid_any (A : Option Addr) (rs : List Rec) (c : Nat) (w : World) (hr : RecsAt w A rs) (hf : Fit rs) :
    Calls Tryz.prog 46 #[.slice A rs.length c] w fun e w' => e = .returned (.bool (validB rs)) ∧ Below w.heap.size w w' := rvalid_wide A rs c w hr hf.v
end
end Go.Proofs.YtmkndbledppniaaGreat
