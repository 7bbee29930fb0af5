/- The law's own comparisons. -/
import Derived.Test.YtlbbmfmkhmmikaaGreatDev
import Derived.BigRegion
namespace Go.Proofs.YtlbbmfmkhmmikaaGreat
open Go.RowKit
section
variable {W w : World} {F : List SA}
set_option maxRecDepth 100000 in
set_option maxHeartbeats 4000000 in
theorem same_any (A B : Option Addr) (l : List UInt8) (c d : Nat) (w : World) (ha : At w w.heap.size A (Lib.byteCells l)) (hb : At w w.heap.size B (Lib.byteCells l)) (hl : l.length ≤ maxLen) :
    Calls Tryz.prog 26 #[.slice A l.length c, .slice B l.length d] w fun e w' => e = .returned (.bool true) ∧ Still w w' := by
  have HA := Lib.hid ha
  have HB := Lib.hid hb
  have hl2 : l.length ≤ 9223372036854775807 := by unfold maxLen at hl; omega
  clear ha hb hl
  go_enter Tryz.func26, Tryz.ntmps26
  go_wp2
  go_loopw [5] (fun i wr => ∃ k : Nat, k ≤ l.length ∧ i = .int .i64 k ∧ Still w wr) (fun i _ => l.length - (intOf i).toNat)
  case atStart => exact ⟨0, Nat.zero_le _, rfl, still_refl _⟩
  case round =>
    obtain ⟨k, hk, rfl, hst⟩ := hrel
    have HST := Lib.hid hst
    clear hst
    by_cases hlt : k < l.length
    · obtain ⟨b1, o1, rfl, _, k1⟩ := HA.out.cell (byteCells_get l k hlt)
      obtain ⟨b2, o2, rfl, _, k2⟩ := HB.out.cell (byteCells_get l k hlt)
      have q1 : wr.cell? ⟨b1, o1 + k, none⟩ = some (.int .u8 (l[k].toNat : Int)) := ((HST.out.below w.heap.size).cell (p := ⟨b1, o1 + k, none⟩) (World.block_lt_of_cell? w _ k1)).trans k1
      have q2 : wr.cell? ⟨b2, o2 + k, none⟩ = some (.int .u8 (l[k].toNat : Int)) := ((HST.out.below w.heap.size).cell (p := ⟨b2, o2 + k, none⟩) (World.block_lt_of_cell? w _ k2)).trans k2
      generalize (l[k].toNat : Int) = z at *
      clear k1 k2
      go_wp2
      go_big_region
      go_wp2
      go_roundw
      case rel => exact ⟨k + 1, by omega, by go_num, HST.out.trans (still_1 wr 1)⟩
      case measure => simp [intOf]; omega
    · obtain rfl : k = l.length := by omega
      go_wp2
      go_ret
      exact ⟨rfl, HST.out⟩
set_option maxRecDepth 100000 in
set_option maxHeartbeats 4000000 in
theorem fine_any (v : Value) (st sn : Int) (w : World) : Calls Tryz.prog 12 #[.agg #[v, .int .i64 st, .int .i64 sn]] w fun e w' => e = .returned (.bool (decide (st = 12) && decide (sn = 0))) ∧ Below w.heap.size w w' := by
  by_cases h1 : st = 12
  · subst h1
    by_cases h2 : sn = 0
    · subst h2
      go_enter Tryz.func12, Tryz.ntmps12
      go_wp2
      go_ret
      exact ⟨rfl, by (repeat' (first | (with_reducible exact Below.refl _ _) | (with_reducible assumption) | (with_reducible refine below_drewN ?_ _) | (with_reducible refine Below.drew ?_) | (with_reducible refine Below.alloc ?_ ?_ _) | (with_reducible refine Below.setCell ?_ ?_ _) | (with_reducible refine below_row ?_ ?_ _) | (with_reducible exact Nat.le_refl _) | omega | (simp only [World.size_alloc, World.size_setCell, World.size_drew, World.size_drewN]; omega) | (simp; done) | (simp; omega)))⟩
    · have t2 : (sn == 0) = false := by simpa using h2
      rw [decide_eq_false h2]
      go_enter Tryz.func12, Tryz.ntmps12
      go_wp2
      go_ret
      exact ⟨rfl, by (repeat' (first | (with_reducible exact Below.refl _ _) | (with_reducible assumption) | (with_reducible refine below_drewN ?_ _) | (with_reducible refine Below.drew ?_) | (with_reducible refine Below.alloc ?_ ?_ _) | (with_reducible refine Below.setCell ?_ ?_ _) | (with_reducible refine below_row ?_ ?_ _) | (with_reducible exact Nat.le_refl _) | omega | (simp only [World.size_alloc, World.size_setCell, World.size_drew, World.size_drewN]; omega) | (simp; done) | (simp; omega)))⟩
  · have t1 : (st == 12) = false := by simpa using h1
    rw [decide_eq_false h1]
    go_enter Tryz.func12, Tryz.ntmps12
    go_wp2
    go_ret
    exact ⟨rfl, by (repeat' (first | (with_reducible exact Below.refl _ _) | (with_reducible assumption) | (with_reducible refine below_drewN ?_ _) | (with_reducible refine Below.drew ?_) | (with_reducible refine Below.alloc ?_ ?_ _) | (with_reducible refine Below.setCell ?_ ?_ _) | (with_reducible refine below_row ?_ ?_ _) | (with_reducible exact Nat.le_refl _) | omega | (simp only [World.size_alloc, World.size_setCell, World.size_drew, World.size_drewN]; omega) | (simp; done) | (simp; omega)))⟩
theorem same_below (A B : Option Addr) (l : List UInt8) (c d : Nat) (w : World) (ha : At w w.heap.size A (Lib.byteCells l)) (hb : At w w.heap.size B (Lib.byteCells l)) (hl : l.length ≤ maxLen) :
    Calls Tryz.prog 26 #[.slice A l.length c, .slice B l.length d] w fun e w' => e = .returned (.bool true) ∧ Below w.heap.size w w' :=
  (same_any A B l c d w ha hb hl).mono fun _ _ h => ⟨h.1, h.2.below _⟩
set_option maxRecDepth 100000 in
set_option maxHeartbeats 8000000 in
theorem blocks_any (A B : Option Addr) (t : List T.Blk) (c d : Nat) (w : World) (ha : T.BlksAt w A t) (hb : T.BlksAt w B t) (hl : t.length ≤ 1048576) :
    Calls Tryz.prog 16 #[.slice A t.length c, .slice B t.length d] w fun e w' => e = .returned (.bool true) ∧ Below w.heap.size w w' := by
  have HA := Lib.hid ha
  have HB := Lib.hid hb
  clear ha hb
  go_enter Tryz.func16, Tryz.ntmps16
  go_wp2
  go_loopw [5] (fun i wr => ∃ k : Nat, k ≤ t.length ∧ i = .int .i64 k ∧ Below w.heap.size w wr) (fun i _ => t.length - (intOf i).toNat)
  case atStart => exact ⟨0, Nat.zero_le _, rfl, Below.refl _ _⟩
  case round =>
    obtain ⟨k, hk, rfl, b1⟩ := hrel
    have B1 := Lib.hid b1
    clear b1
    by_cases hlt : k < t.length
    · have hx : t[k]? = some t[k] := by simp [hlt]
      generalize t[k] = x at hx
      obtain ⟨g, off, Ad, cd, hA, k0, k1, k2, a1, a2, a3⟩ := HA.out k x hx
      obtain ⟨g2, off2, Bd, dd, hB, m0, m1, m2, a4, a5, a6⟩ := HB.out k x hx
      subst hA; subst hB
      have z0 := World.block_lt_of_cell? w _ k0
      have y0 := World.block_lt_of_cell? w _ m0
      have HL := Lib.hid (fun (wx : World) (hx : Below w.heap.size w wx) => (⟨(hx.cell (p := ⟨g, off + k * 3, none⟩) z0).trans k0, (hx.cell (p := ⟨g, off + k * 3 + 1, none⟩) z0).trans k1, (hx.cell (p := ⟨g, off + k * 3 + 2, none⟩) z0).trans k2⟩ :
        wx.cell? ⟨g, off + k * 3, none⟩ = some (.bool x.mark) ∧ wx.cell? ⟨g, off + k * 3 + 1, none⟩ = some (.slice Ad x.data.length cd) ∧ wx.cell? ⟨g, off + k * 3 + 2, none⟩ = some (.bool x.bad)))
      have HM := Lib.hid (fun (wx : World) (hx : Below w.heap.size w wx) => (⟨(hx.cell (p := ⟨g2, off2 + k * 3, none⟩) y0).trans m0, (hx.cell (p := ⟨g2, off2 + k * 3 + 1, none⟩) y0).trans m1, (hx.cell (p := ⟨g2, off2 + k * 3 + 2, none⟩) y0).trans m2⟩ :
        wx.cell? ⟨g2, off2 + k * 3, none⟩ = some (.bool x.mark) ∧ wx.cell? ⟨g2, off2 + k * 3 + 1, none⟩ = some (.slice Bd x.data.length dd) ∧ wx.cell? ⟨g2, off2 + k * 3 + 2, none⟩ = some (.bool x.bad)))
      have HS := Lib.hid (fun (wx : World) (hx : Below w.heap.size w wx) => same_below Ad Bd x.data cd dd wx ((a1.below hx).mono hx.size) ((a4.below hx).mono hx.size) (by omega))
      clear k0 k1 k2 m0 m1 m2 a1 a2 a3 a4 a5 a6 hx z0 y0
      go_upto_region 6 with fail
      refine wp_region_quiet (C := Below w.heap.size w) (by kernel_rfl) (by kernel_rfl) B1.out.drew ?_
      (repeat (with_reducible refine wpQuiet_step ?_; intro K hK; go_simp; first | (with_reducible refine hK _ ?_; clear hK K) | (rw [if_neg (by decide)]; with_reducible refine hK _ ?_; clear hK K) | (refine ⟨_, fun wx hx => (by obtain ⟨f0, f1, f2⟩ := HL.out wx hx; obtain ⟨g0, g1, g2⟩ := HM.out wx hx; go_simp; with_reducible rfl), hK _ ?_⟩; clear hK K) | (refine ⟨_, fun wx hx => (by with_reducible refine (HS.out wx hx).mono ?_; rintro e w' ⟨rfl, h2⟩; exact ⟨rfl, hx.trans (h2.mono hx.size)⟩), hK _ ?_⟩; clear hK K) | (refine ⟨_, fun _ _ => rfl, hK _ ?_⟩; clear hK K))); with_reducible refine wpQuiet_nil ?_
      intro w3 hw3
      have B3 := Lib.hid hw3
      clear hw3
      go_wp2
      go_roundw
      case rel => exact ⟨k + 1, by omega, by go_num, B3.out⟩
      case measure => simp [intOf]; omega
    · obtain rfl : k = t.length := by omega
      go_wp2
      go_ret
      exact ⟨rfl, B1.out⟩
set_option maxRecDepth 100000 in
set_option maxHeartbeats 8000000 in
theorem recs_any (A B : Option Addr) (t : List D.Rec) (c d : Nat) (w : World) (ha : D.RecsAt w A t) (hb : D.RecsAt w B t) (hl : t.length ≤ 1048576) (hz : ∀ x ∈ t, x.key.length ≤ maxLen ∧ x.data.length ≤ maxLen) :
    Calls Tryz.prog 37 #[.slice A t.length c, .slice B t.length d] w fun e w' => e = .returned (.bool true) ∧ Below w.heap.size w w' := by
  have HA := Lib.hid ha
  have HB := Lib.hid hb
  have HZ := Lib.hid hz
  clear ha hb hz
  go_enter Tryz.func37, Tryz.ntmps37
  go_wp2
  go_loopw [5] (fun i wr => ∃ k : Nat, k ≤ t.length ∧ i = .int .i64 k ∧ Below w.heap.size w wr) (fun i _ => t.length - (intOf i).toNat)
  case atStart => exact ⟨0, Nat.zero_le _, rfl, Below.refl _ _⟩
  case round =>
    obtain ⟨k, hk, rfl, b1⟩ := hrel
    have B1 := Lib.hid b1
    clear b1
    by_cases hlt : k < t.length
    · have hx : t[k]? = some t[k] := by simp [hlt]
      have hxz := HZ.out t[k] (List.getElem_mem hlt)
      generalize t[k] = x at hx hxz
      obtain ⟨g, off, Ak, ck, Ad, cd, hA, k0, k1, k2, k3, a1, a2⟩ := HA.out k x hx
      obtain ⟨g2, off2, Bk, dk, Bd, dd, hB, m0, m1, m2, m3, a3, a4⟩ := HB.out k x hx
      subst hA; subst hB
      have z0 := World.block_lt_of_cell? w _ k0
      have y0 := World.block_lt_of_cell? w _ m0
      have HL := Lib.hid (fun (wx : World) (hx : Below w.heap.size w wx) => (⟨(hx.cell (p := ⟨g, off + k * 4, none⟩) z0).trans k0, (hx.cell (p := ⟨g, off + k * 4 + 1, none⟩) z0).trans k1, (hx.cell (p := ⟨g, off + k * 4 + 2, none⟩) z0).trans k2, (hx.cell (p := ⟨g, off + k * 4 + 3, none⟩) z0).trans k3⟩ :
        wx.cell? ⟨g, off + k * 4, none⟩ = some (.int .i64 x.r) ∧ wx.cell? ⟨g, off + k * 4 + 1, none⟩ = some (.slice Ak x.key.length ck) ∧ wx.cell? ⟨g, off + k * 4 + 2, none⟩ = some (.slice Ad x.data.length cd) ∧ wx.cell? ⟨g, off + k * 4 + 3, none⟩ = some (.bool x.bad)))
      have HM := Lib.hid (fun (wx : World) (hx : Below w.heap.size w wx) => (⟨(hx.cell (p := ⟨g2, off2 + k * 4, none⟩) y0).trans m0, (hx.cell (p := ⟨g2, off2 + k * 4 + 1, none⟩) y0).trans m1, (hx.cell (p := ⟨g2, off2 + k * 4 + 2, none⟩) y0).trans m2, (hx.cell (p := ⟨g2, off2 + k * 4 + 3, none⟩) y0).trans m3⟩ :
        wx.cell? ⟨g2, off2 + k * 4, none⟩ = some (.int .i64 x.r) ∧ wx.cell? ⟨g2, off2 + k * 4 + 1, none⟩ = some (.slice Bk x.key.length dk) ∧ wx.cell? ⟨g2, off2 + k * 4 + 2, none⟩ = some (.slice Bd x.data.length dd) ∧ wx.cell? ⟨g2, off2 + k * 4 + 3, none⟩ = some (.bool x.bad)))
      have HS := Lib.hid (fun (wx : World) (hx : Below w.heap.size w wx) => same_below Ak Bk x.key ck dk wx ((a1.1.below hx).mono hx.size) ((a3.1.below hx).mono hx.size) hxz.1)
      have HT := Lib.hid (fun (wx : World) (hx : Below w.heap.size w wx) => same_below Ad Bd x.data cd dd wx ((a2.1.below hx).mono hx.size) ((a4.1.below hx).mono hx.size) hxz.2)
      clear k0 k1 k2 k3 m0 m1 m2 m3 a1 a2 a3 a4 hx z0 y0
      go_upto_region 6 with fail
      refine wp_region_quiet (C := Below w.heap.size w) (by kernel_rfl) (by kernel_rfl) B1.out.drew ?_
      (repeat (with_reducible refine wpQuiet_step ?_; intro K hK; go_simp; first | (with_reducible refine hK _ ?_; clear hK K) | (rw [if_neg (by decide)]; with_reducible refine hK _ ?_; clear hK K) | (refine ⟨_, fun wx hx => (by obtain ⟨f0, f1, f2, f3⟩ := HL.out wx hx; obtain ⟨g0, g1, g2, g3⟩ := HM.out wx hx; go_simp; with_reducible rfl), hK _ ?_⟩; clear hK K) | (first | (refine ⟨_, fun wx hx => (by with_reducible refine (HS.out wx hx).mono ?_; rintro e w' ⟨rfl, h2⟩; exact ⟨rfl, hx.trans (h2.mono hx.size)⟩), hK _ ?_⟩; clear hK K) | (refine ⟨_, fun wx hx => (by with_reducible refine (HT.out wx hx).mono ?_; rintro e w' ⟨rfl, h2⟩; exact ⟨rfl, hx.trans (h2.mono hx.size)⟩), hK _ ?_⟩; clear hK K)) | (refine ⟨_, fun _ _ => rfl, hK _ ?_⟩; clear hK K))); with_reducible refine wpQuiet_nil ?_
      intro w3 hw3
      have B3 := Lib.hid hw3
      clear hw3
      go_wp2
      go_roundw
      case rel => exact ⟨k + 1, by omega, by go_num, B3.out⟩
      case measure => simp [intOf]; omega
    · obtain rfl : k = t.length := by omega
      go_wp2
      go_ret
      exact ⟨rfl, B1.out⟩
set_option maxRecDepth 100000 in
set_option maxHeartbeats 4000000 in
theorem reply_any (A B : Option Addr) (l : List UInt8) (c d : Nat) (st sn : Int) (w : World) (ha : At w w.heap.size A (Lib.byteCells l)) (hb : At w w.heap.size B (Lib.byteCells l)) (hl : l.length ≤ maxLen) :
    Calls Tryz.prog 28 #[.agg #[.slice A l.length c, .int .i64 st, .int .i64 sn], .agg #[.slice B l.length d, .int .i64 st, .int .i64 sn]] w fun e w' => e = .returned (.bool true) ∧ Below w.heap.size w w' := by
  have HS := Lib.hid (fun (wx : World) (hx : Below w.heap.size w wx) => same_below A B l c d wx ((ha.below hx).mono hx.size) ((hb.below hx).mono hx.size) hl)
  clear ha hb hl
  go_enter Tryz.func28, Tryz.ntmps28
  go_wp2_with fail
  refine (HS.out _ (by (repeat' (first | (with_reducible exact Below.refl _ _) | (with_reducible assumption) | (with_reducible refine below_drewN ?_ _) | (with_reducible refine Below.drew ?_) | (with_reducible refine Below.alloc ?_ ?_ _) | (with_reducible refine Below.setCell ?_ ?_ _) | (with_reducible refine below_row ?_ ?_ _) | (with_reducible exact Nat.le_refl _) | omega | (simp only [World.size_alloc, World.size_setCell, World.size_drew, World.size_drewN]; omega) | (simp; done) | (simp; omega))))).mono ?_
  rintro e w2 ⟨rfl, b2⟩
  have B2 : Below w.heap.size w w2 := Below.trans (by (repeat' (first | (with_reducible exact Below.refl _ _) | (with_reducible assumption) | (with_reducible refine below_drewN ?_ _) | (with_reducible refine Below.drew ?_) | (with_reducible refine Below.alloc ?_ ?_ _) | (with_reducible refine Below.setCell ?_ ?_ _) | (with_reducible refine below_row ?_ ?_ _) | (with_reducible exact Nat.le_refl _) | omega | (simp only [World.size_alloc, World.size_setCell, World.size_drew, World.size_drewN]; omega) | (simp; done) | (simp; omega)))) (b2.mono (by simp; omega))
  have HB2 := Lib.hid B2
  clear b2 B2
  go_wp2
  go_ret
  exact ⟨rfl, HB2.out⟩
end
end Go.Proofs.YtlbbmfmkhmmikaaGreat
