/- SameRec and Same of the reference, equal of the law, where both sides are the same. -/
import Derived.Test.YtelfihgkbbaifaaDecQ
namespace Go.Proofs.Ytelfihgkbbaifaa
open Go.RowKit
section
variable {W w : World} {F : List SA}
set_option maxRecDepth 100000 in
set_option maxHeartbeats 4000000 in
theorem samerec_any (x : Rec) (Ak Ad Bk Bd : Option Addr) (ck cd dk dd : Nat) (w : World) (h1 : CardAt w Ak x.key ck) (h2 : CardAt w Ad x.data cd) (h3 : CardAt w Bk x.key dk) (h4 : CardAt w Bd x.data dd) :
    Calls Try.prog 65 #[.agg #[.int .i64 x.r, .slice Ak x.key.length ck, .slice Ad x.data.length cd, .bool x.bad], .agg #[.int .i64 x.r, .slice Bk x.key.length dk, .slice Bd x.data.length dd, .bool x.bad]] w fun e w' => e = .returned (.bool true) ∧ Below w.heap.size w w' := by
  have BW := Lib.hid (show Below w.heap.size w ((w.alloc (.cells #[.int .i64 x.r, .slice Ak x.key.length ck, .slice Ad x.data.length cd, .bool x.bad] 25)).alloc (.cells #[.int .i64 x.r, .slice Bk x.key.length dk, .slice Bd x.data.length dd, .bool x.bad] 25)) by (repeat' (first | (with_reducible exact Below.refl _ _) | (with_reducible assumption) | (with_reducible refine below_drewN ?_ _) | (with_reducible refine Below.drew ?_) | (with_reducible refine Below.alloc ?_ ?_ _) | (with_reducible refine Below.setCell ?_ ?_ _) | (with_reducible refine below_row ?_ ?_ _) | (with_reducible exact Nat.le_refl _) | omega | (simp only [World.size_alloc, World.size_setCell, World.size_drew, World.size_drewN]; omega) | (simp; done) | (simp; omega))))
  have HC := Lib.hid (fun (l : List UInt8) (A : Option Addr) (c : Nat) (h : CardAt w A l c) => run_string_of_at (P := Try.prog) (w := ((w.alloc (.cells #[.int .i64 x.r, .slice Ak x.key.length ck, .slice Ad x.data.length cd, .bool x.bad] 25)).alloc (.cells #[.int .i64 x.r, .slice Bk x.key.length dk, .slice Bd x.data.length dd, .bool x.bad] 25))) 23 9 5 Try.underlying23 Try.underlying5 Try.underlying9 l c (h.grow BW.out).1)
  have s1 := HC.out _ _ _ h1
  have s2 := HC.out _ _ _ h2
  have s3 := HC.out _ _ _ h3
  have s4 := HC.out _ _ _ h4
  clear h1 h2 h3 h4
  obtain ⟨r, k, d, b⟩ := x
  dsimp only at *
  have hbb : (b == b) = true := by simp
  generalize (⟨k.toArray⟩ : ByteArray) = sk at *
  generalize (⟨d.toArray⟩ : ByteArray) = sd at *
  have hk : (sk.toList == sk.toList) = true := by simp
  have hd : (sd.toList == sd.toList) = true := by simp
  go_enter Try.func65, Try.ntmps65
  go_wp2
  go_ret
  exact ⟨rfl, BW.out⟩
set_option maxRecDepth 100000 in
set_option maxHeartbeats 4000000 in
theorem equal2_any (x : Rec) (Ak Ad Bk Bd : Option Addr) (ck cd dk dd : Nat) (w : World) (h1 : CardAt w Ak x.key ck) (h2 : CardAt w Ad x.data cd) (h3 : CardAt w Bk x.key dk) (h4 : CardAt w Bd x.data dd) :
    Calls Try.prog 25 #[.agg #[.int .i64 x.r, .slice Ak x.key.length ck, .slice Ad x.data.length cd, .bool x.bad], .agg #[.int .i64 x.r, .slice Bk x.key.length dk, .slice Bd x.data.length dd, .bool x.bad]] w fun e w' => e = .returned (.bool true) ∧ Below w.heap.size w w' := by
  have BW := Lib.hid (show Below w.heap.size w ((w.alloc (.cells #[.int .i64 x.r, .slice Ak x.key.length ck, .slice Ad x.data.length cd, .bool x.bad] 25)).alloc (.cells #[.int .i64 x.r, .slice Bk x.key.length dk, .slice Bd x.data.length dd, .bool x.bad] 25)) by (repeat' (first | (with_reducible exact Below.refl _ _) | (with_reducible assumption) | (with_reducible refine below_drewN ?_ _) | (with_reducible refine Below.drew ?_) | (with_reducible refine Below.alloc ?_ ?_ _) | (with_reducible refine Below.setCell ?_ ?_ _) | (with_reducible refine below_row ?_ ?_ _) | (with_reducible exact Nat.le_refl _) | omega | (simp only [World.size_alloc, World.size_setCell, World.size_drew, World.size_drewN]; omega) | (simp; done) | (simp; omega))))
  have HC := Lib.hid (fun (l : List UInt8) (A : Option Addr) (c : Nat) (h : CardAt w A l c) => run_string_of_at (P := Try.prog) (w := ((w.alloc (.cells #[.int .i64 x.r, .slice Ak x.key.length ck, .slice Ad x.data.length cd, .bool x.bad] 25)).alloc (.cells #[.int .i64 x.r, .slice Bk x.key.length dk, .slice Bd x.data.length dd, .bool x.bad] 25))) 23 9 5 Try.underlying23 Try.underlying5 Try.underlying9 l c (h.grow BW.out).1)
  have s1 := HC.out _ _ _ h1
  have s2 := HC.out _ _ _ h2
  have s3 := HC.out _ _ _ h3
  have s4 := HC.out _ _ _ h4
  clear h1 h2 h3 h4
  obtain ⟨r, k, d, b⟩ := x
  dsimp only at *
  have hbb : (b == b) = true := by simp
  generalize (⟨k.toArray⟩ : ByteArray) = sk at *
  generalize (⟨d.toArray⟩ : ByteArray) = sd at *
  have hk : (sk.toList == sk.toList) = true := by simp
  have hd : (sd.toList == sd.toList) = true := by simp
  go_enter Try.func25, Try.ntmps25
  go_wp2
  go_ret
  exact ⟨rfl, BW.out⟩
set_option maxRecDepth 100000 in
set_option maxHeartbeats 4000000 in
theorem same_any (A B : Option Addr) (t : List Rec) (c d : Nat) (w : World) (ha : RecsAt w A t) (hb : RecsAt w B t) (hl : t.length ≤ 1048576) :
    Calls Try.prog 46 #[.slice A t.length c, .slice B t.length d] w fun e w' => e = .returned (.bool true) ∧ Below w.heap.size w w' := by
  have HA := Lib.hid ha
  have HB := Lib.hid hb
  clear ha hb
  go_enter Try.func46, Try.ntmps46
  go_wp2
  go_loopw [5] (fun i wr => ∃ k : Nat, k ≤ t.length ∧ i = .int .i64 k ∧ Below w.heap.size w wr) (fun i _ => t.length - (intOf i).toNat)
  case atStart => exact ⟨0, Nat.zero_le _, rfl, Below.refl _ _⟩
  case round =>
    obtain ⟨k, hk, rfl, b1⟩ := hrel
    have B1 := Lib.hid b1
    clear b1
    by_cases hlt : k < t.length
    · have hx : t[k]? = some t[k] := by simp [hlt]
      generalize t[k] = x at hx
      obtain ⟨g, off, Ak, ck, Ad, cd, hA, k0, k1, k2, k3, a1, a2⟩ := HA.out k x hx
      obtain ⟨g2, off2, Bk, dk, Bd, dd, hB, m0, m1, m2, m3, a3, a4⟩ := HB.out k x hx
      subst hA; subst hB
      have z0 := World.block_lt_of_cell? w _ k0
      have y0 := World.block_lt_of_cell? w _ m0
      have HL := Lib.hid (fun (wx : World) (hx : Below w.heap.size w wx) => (⟨(hx.cell (p := ⟨g, off + k * 4, none⟩) z0).trans k0, (hx.cell (p := ⟨g, off + k * 4 + 1, none⟩) z0).trans k1, (hx.cell (p := ⟨g, off + k * 4 + 2, none⟩) z0).trans k2, (hx.cell (p := ⟨g, off + k * 4 + 3, none⟩) z0).trans k3⟩ :
        wx.cell? ⟨g, off + k * 4, none⟩ = some (.int .i64 x.r) ∧ wx.cell? ⟨g, off + k * 4 + 1, none⟩ = some (.slice Ak x.key.length ck) ∧ wx.cell? ⟨g, off + k * 4 + 2, none⟩ = some (.slice Ad x.data.length cd) ∧ wx.cell? ⟨g, off + k * 4 + 3, none⟩ = some (.bool x.bad)))
      have HM := Lib.hid (fun (wx : World) (hx : Below w.heap.size w wx) => (⟨(hx.cell (p := ⟨g2, off2 + k * 4, none⟩) y0).trans m0, (hx.cell (p := ⟨g2, off2 + k * 4 + 1, none⟩) y0).trans m1, (hx.cell (p := ⟨g2, off2 + k * 4 + 2, none⟩) y0).trans m2, (hx.cell (p := ⟨g2, off2 + k * 4 + 3, none⟩) y0).trans m3⟩ :
        wx.cell? ⟨g2, off2 + k * 4, none⟩ = some (.int .i64 x.r) ∧ wx.cell? ⟨g2, off2 + k * 4 + 1, none⟩ = some (.slice Bk x.key.length dk) ∧ wx.cell? ⟨g2, off2 + k * 4 + 2, none⟩ = some (.slice Bd x.data.length dd) ∧ wx.cell? ⟨g2, off2 + k * 4 + 3, none⟩ = some (.bool x.bad)))
      have HS := Lib.hid (fun (wx : World) (hx : Below w.heap.size w wx) => samerec_any x Ak Ad Bk Bd ck cd dk dd wx (a1.grow hx) (a2.grow hx) (a3.grow hx) (a4.grow hx))
      clear k0 k1 k2 k3 m0 m1 m2 m3 a1 a2 a3 a4 hx z0 y0
      go_upto_region 6 with fail
      refine wp_region_quiet (C := Below w.heap.size w) (by kernel_rfl) (by kernel_rfl) B1.out.drew ?_
      (repeat (with_reducible refine wpQuiet_step ?_; intro K hK; go_simp; first | (with_reducible refine hK _ ?_; clear hK K) | (rw [if_neg (by decide)]; with_reducible refine hK _ ?_; clear hK K) | (refine ⟨_, fun wx hx => (by obtain ⟨f0, f1, f2, f3⟩ := HL.out wx hx; obtain ⟨g0, g1, g2, g3⟩ := HM.out wx hx; go_simp; with_reducible rfl), hK _ ?_⟩; clear hK K) | (refine ⟨_, fun wx hx => (by with_reducible refine (HS.out wx hx).mono ?_; rintro e w' ⟨rfl, h2⟩; exact ⟨rfl, hx.trans (h2.mono hx.size)⟩), hK _ ?_⟩; clear hK K) | (refine ⟨_, fun _ _ => rfl, hK _ ?_⟩; clear hK K))); with_reducible refine wpQuiet_nil ?_
      intro w3 hw3
      have B3 := Lib.hid hw3
      clear hw3
      go_wp2
      go_roundw
      case rel => exact ⟨k + 1, by omega, by go_num, B3.out⟩
      case measure => simp [intOf]; omega
    · obtain rfl : k = t.length := by omega
      go_wp2
      go_ret
      exact ⟨rfl, B1.out⟩
end
end Go.Proofs.Ytelfihgkbbaifaa
