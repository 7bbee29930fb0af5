/- Law, Wk, View. -/
import Derived.Test.YtfhpaehfihnjaaaGreatDev
import Derived.BigRegion
import Derived.Test.YtfhpaehfihnjaaaGreatSetLP
import Derived.Test.YtfhpaehfihnjaaaGreatSetD
import Derived.Test.YtfhpaehfihnjaaaGreatSetUQ
import Derived.Test.YtfhpaehfihnjaaaGreatURa
set_option maxRecDepth 100000
namespace Go.Proofs.YtfhpaehfihnjaaaGreat
open Go.RowKit
section
variable {W w : World} {F : List SA}
set_option maxHeartbeats 4000000 in
theorem same_any (A B : Option Addr) (l : List UInt8) (c d : Nat) (w : World) (ha : At w w.heap.size A (Lib.byteCells l)) (hb : At w w.heap.size B (Lib.byteCells l)) (hl : l.length ≤ maxLen) :
    Calls Tryz.prog 22 #[.slice A l.length c, .slice B l.length d] w fun e w' => e = .returned (.bool true) ∧ Still w w' := by
  have HA := Lib.hid ha
  have HB := Lib.hid hb
  have hl2 : l.length ≤ 9223372036854775807 := by unfold maxLen at hl; omega
  clear ha hb hl
  go_enter Tryz.func22, Tryz.ntmps22
  go_wp2
  go_loopw [5] (fun i wr => ∃ k : Nat, k ≤ l.length ∧ i = .int .i64 k ∧ Still w wr) (fun i _ => l.length - (intOf i).toNat)
  case atStart => exact ⟨0, Nat.zero_le _, rfl, still_refl _⟩
  case round =>
    obtain ⟨k, hk, rfl, hst⟩ := hrel
    have HST := Lib.hid hst
    clear hst
    by_cases hlt : k < l.length
    · obtain ⟨b1, o1, rfl, _, k1⟩ := HA.out.cell (byteCells_get l k hlt)
      obtain ⟨b2, o2, rfl, _, k2⟩ := HB.out.cell (byteCells_get l k hlt)
      have q1 : wr.cell? ⟨b1, o1 + k, none⟩ = some (.int .u8 (l[k].toNat : Int)) := ((HST.out.below w.heap.size).cell (p := ⟨b1, o1 + k, none⟩) (World.block_lt_of_cell? w _ k1)).trans k1
      have q2 : wr.cell? ⟨b2, o2 + k, none⟩ = some (.int .u8 (l[k].toNat : Int)) := ((HST.out.below w.heap.size).cell (p := ⟨b2, o2 + k, none⟩) (World.block_lt_of_cell? w _ k2)).trans k2
      generalize (l[k].toNat : Int) = z at *
      clear k1 k2
      go_wp2
      go_big_region
      go_wp2
      go_roundw
      case rel => exact ⟨k + 1, by omega, by go_num, HST.out.trans (still_1 wr 1)⟩
      case measure => simp [intOf]; omega
    · obtain rfl : k = l.length := by omega
      go_wp2
      go_ret
      exact ⟨rfl, HST.out⟩
set_option maxHeartbeats 4000000 in
theorem fine_any (v : Value) (st sn : Int) (w : World) : Calls Tryz.prog 21 #[.agg #[v, .int .i64 st, .int .i64 sn]] w fun e w' => e = .returned (.bool (decide (st = 12) && decide (sn = 0))) ∧ Below w.heap.size w w' := by
  by_cases h1 : st = 12
  · subst h1
    by_cases h2 : sn = 0
    · subst h2
      go_enter Tryz.func21, Tryz.ntmps21
      go_wp2
      go_ret
      exact ⟨rfl, by (repeat' (first | (with_reducible exact Below.refl _ _) | (with_reducible assumption) | (with_reducible refine below_drewN ?_ _) | (with_reducible refine Below.drew ?_) | (with_reducible refine Below.alloc ?_ ?_ _) | (with_reducible refine Below.setCell ?_ ?_ _) | (with_reducible refine below_row ?_ ?_ _) | (with_reducible exact Nat.le_refl _) | omega | (simp only [World.size_alloc, World.size_setCell, World.size_drew, World.size_drewN]; omega) | (simp; done) | (simp; omega)))⟩
    · have t2 : (sn == 0) = false := by simpa using h2
      rw [decide_eq_false h2]
      go_enter Tryz.func21, Tryz.ntmps21
      go_wp2
      go_ret
      exact ⟨rfl, by (repeat' (first | (with_reducible exact Below.refl _ _) | (with_reducible assumption) | (with_reducible refine below_drewN ?_ _) | (with_reducible refine Below.drew ?_) | (with_reducible refine Below.alloc ?_ ?_ _) | (with_reducible refine Below.setCell ?_ ?_ _) | (with_reducible refine below_row ?_ ?_ _) | (with_reducible exact Nat.le_refl _) | omega | (simp only [World.size_alloc, World.size_setCell, World.size_drew, World.size_drewN]; omega) | (simp; done) | (simp; omega)))⟩
  · have t1 : (st == 12) = false := by simpa using h1
    rw [decide_eq_false h1]
    go_enter Tryz.func21, Tryz.ntmps21
    go_wp2
    go_ret
    exact ⟨rfl, by (repeat' (first | (with_reducible exact Below.refl _ _) | (with_reducible assumption) | (with_reducible refine below_drewN ?_ _) | (with_reducible refine Below.drew ?_) | (with_reducible refine Below.alloc ?_ ?_ _) | (with_reducible refine Below.setCell ?_ ?_ _) | (with_reducible refine below_row ?_ ?_ _) | (with_reducible exact Nat.le_refl _) | omega | (simp only [World.size_alloc, World.size_setCell, World.size_drew, World.size_drewN]; omega) | (simp; done) | (simp; omega)))⟩
theorem same_below (A B : Option Addr) (l : List UInt8) (c d : Nat) (w : World) (ha : At w w.heap.size A (Lib.byteCells l)) (hb : At w w.heap.size B (Lib.byteCells l)) (hl : l.length ≤ maxLen) :
    Calls Tryz.prog 22 #[.slice A l.length c, .slice B l.length d] w fun e w' => e = .returned (.bool true) ∧ Below w.heap.size w w' :=
  (same_any A B l c d w ha hb hl).mono fun _ _ h => ⟨h.1, h.2.below _⟩
set_option maxHeartbeats 8000000 in
theorem blocks_any (A B : Option Addr) (t : List T.Blk) (c d : Nat) (w : World) (ha : T.BlksAt w A t) (hb : T.BlksAt w B t) (hl : t.length ≤ 1048576) :
    Calls Tryz.prog 43 #[.slice A t.length c, .slice B t.length d] w fun e w' => e = .returned (.bool true) ∧ Below w.heap.size w w' := by
  have HA := Lib.hid ha
  have HB := Lib.hid hb
  clear ha hb
  go_enter Tryz.func43, Tryz.ntmps43
  go_wp2
  go_loopw [5] (fun i wr => ∃ k : Nat, k ≤ t.length ∧ i = .int .i64 k ∧ Below w.heap.size w wr) (fun i _ => t.length - (intOf i).toNat)
  case atStart => exact ⟨0, Nat.zero_le _, rfl, Below.refl _ _⟩
  case round =>
    obtain ⟨k, hk, rfl, b1⟩ := hrel
    have B1 := Lib.hid b1
    clear b1
    by_cases hlt : k < t.length
    · have hx : t[k]? = some t[k] := by simp [hlt]
      generalize t[k] = x at hx
      obtain ⟨g, off, Ad, cd, hA, k0, k1, k2, a1, a2, a3⟩ := HA.out k x hx
      obtain ⟨g2, off2, Bd, dd, hB, m0, m1, m2, a4, a5, a6⟩ := HB.out k x hx
      subst hA; subst hB
      have z0 := World.block_lt_of_cell? w _ k0
      have y0 := World.block_lt_of_cell? w _ m0
      have HL := Lib.hid (fun (wx : World) (hx : Below w.heap.size w wx) => (⟨(hx.cell (p := ⟨g, off + k * 3, none⟩) z0).trans k0, (hx.cell (p := ⟨g, off + k * 3 + 1, none⟩) z0).trans k1, (hx.cell (p := ⟨g, off + k * 3 + 2, none⟩) z0).trans k2⟩ :
        wx.cell? ⟨g, off + k * 3, none⟩ = some (.bool x.mark) ∧ wx.cell? ⟨g, off + k * 3 + 1, none⟩ = some (.slice Ad x.data.length cd) ∧ wx.cell? ⟨g, off + k * 3 + 2, none⟩ = some (.bool x.bad)))
      have HM := Lib.hid (fun (wx : World) (hx : Below w.heap.size w wx) => (⟨(hx.cell (p := ⟨g2, off2 + k * 3, none⟩) y0).trans m0, (hx.cell (p := ⟨g2, off2 + k * 3 + 1, none⟩) y0).trans m1, (hx.cell (p := ⟨g2, off2 + k * 3 + 2, none⟩) y0).trans m2⟩ :
        wx.cell? ⟨g2, off2 + k * 3, none⟩ = some (.bool x.mark) ∧ wx.cell? ⟨g2, off2 + k * 3 + 1, none⟩ = some (.slice Bd x.data.length dd) ∧ wx.cell? ⟨g2, off2 + k * 3 + 2, none⟩ = some (.bool x.bad)))
      have HS := Lib.hid (fun (wx : World) (hx : Below w.heap.size w wx) => same_below Ad Bd x.data cd dd wx ((a1.below hx).mono hx.size) ((a4.below hx).mono hx.size) (by omega))
      clear k0 k1 k2 m0 m1 m2 a1 a2 a3 a4 a5 a6 hx z0 y0
      go_upto_region 6 with fail
      refine wp_region_quiet (C := Below w.heap.size w) (by kernel_rfl) (by kernel_rfl) B1.out.drew ?_
      (repeat (with_reducible refine wpQuiet_step ?_; intro K hK; go_simp; first | (with_reducible refine hK _ ?_; clear hK K) | (rw [if_neg (by decide)]; with_reducible refine hK _ ?_; clear hK K) | (refine ⟨_, fun wx hx => (by obtain ⟨f0, f1, f2⟩ := HL.out wx hx; obtain ⟨g0, g1, g2⟩ := HM.out wx hx; go_simp; with_reducible rfl), hK _ ?_⟩; clear hK K) | (refine ⟨_, fun wx hx => (by with_reducible refine (HS.out wx hx).mono ?_; rintro e w' ⟨rfl, h2⟩; exact ⟨rfl, hx.trans (h2.mono hx.size)⟩), hK _ ?_⟩; clear hK K) | (refine ⟨_, fun _ _ => rfl, hK _ ?_⟩; clear hK K))); with_reducible refine wpQuiet_nil ?_
      intro w3 hw3
      have B3 := Lib.hid hw3
      clear hw3
      go_wp2
      go_roundw
      case rel => exact ⟨k + 1, by omega, by go_num, B3.out⟩
      case measure => simp [intOf]; omega
    · obtain rfl : k = t.length := by omega
      go_wp2
      go_ret
      exact ⟨rfl, B1.out⟩
set_option maxHeartbeats 8000000 in
theorem recs_any (A B : Option Addr) (t : List D.Rec) (c d : Nat) (w : World) (ha : D.RecsAt w A t) (hb : D.RecsAt w B t) (hl : t.length ≤ 1048576) (hz : ∀ x ∈ t, x.key.length ≤ maxLen ∧ x.data.length ≤ maxLen) :
    Calls Tryz.prog 69 #[.slice A t.length c, .slice B t.length d] w fun e w' => e = .returned (.bool true) ∧ Below w.heap.size w w' := by
  have HA := Lib.hid ha
  have HB := Lib.hid hb
  have HZ := Lib.hid hz
  clear ha hb hz
  go_enter Tryz.func69, Tryz.ntmps69
  go_wp2
  go_loopw [5] (fun i wr => ∃ k : Nat, k ≤ t.length ∧ i = .int .i64 k ∧ Below w.heap.size w wr) (fun i _ => t.length - (intOf i).toNat)
  case atStart => exact ⟨0, Nat.zero_le _, rfl, Below.refl _ _⟩
  case round =>
    obtain ⟨k, hk, rfl, b1⟩ := hrel
    have B1 := Lib.hid b1
    clear b1
    by_cases hlt : k < t.length
    · have hx : t[k]? = some t[k] := by simp [hlt]
      have hxz := HZ.out t[k] (List.getElem_mem hlt)
      generalize t[k] = x at hx hxz
      obtain ⟨g, off, Ak, ck, Ad, cd, hA, k0, k1, k2, k3, a1, a2⟩ := HA.out k x hx
      obtain ⟨g2, off2, Bk, dk, Bd, dd, hB, m0, m1, m2, m3, a3, a4⟩ := HB.out k x hx
      subst hA; subst hB
      have z0 := World.block_lt_of_cell? w _ k0
      have y0 := World.block_lt_of_cell? w _ m0
      have HL := Lib.hid (fun (wx : World) (hx : Below w.heap.size w wx) => (⟨(hx.cell (p := ⟨g, off + k * 4, none⟩) z0).trans k0, (hx.cell (p := ⟨g, off + k * 4 + 1, none⟩) z0).trans k1, (hx.cell (p := ⟨g, off + k * 4 + 2, none⟩) z0).trans k2, (hx.cell (p := ⟨g, off + k * 4 + 3, none⟩) z0).trans k3⟩ :
        wx.cell? ⟨g, off + k * 4, none⟩ = some (.int .i64 x.r) ∧ wx.cell? ⟨g, off + k * 4 + 1, none⟩ = some (.slice Ak x.key.length ck) ∧ wx.cell? ⟨g, off + k * 4 + 2, none⟩ = some (.slice Ad x.data.length cd) ∧ wx.cell? ⟨g, off + k * 4 + 3, none⟩ = some (.bool x.bad)))
      have HM := Lib.hid (fun (wx : World) (hx : Below w.heap.size w wx) => (⟨(hx.cell (p := ⟨g2, off2 + k * 4, none⟩) y0).trans m0, (hx.cell (p := ⟨g2, off2 + k * 4 + 1, none⟩) y0).trans m1, (hx.cell (p := ⟨g2, off2 + k * 4 + 2, none⟩) y0).trans m2, (hx.cell (p := ⟨g2, off2 + k * 4 + 3, none⟩) y0).trans m3⟩ :
        wx.cell? ⟨g2, off2 + k * 4, none⟩ = some (.int .i64 x.r) ∧ wx.cell? ⟨g2, off2 + k * 4 + 1, none⟩ = some (.slice Bk x.key.length dk) ∧ wx.cell? ⟨g2, off2 + k * 4 + 2, none⟩ = some (.slice Bd x.data.length dd) ∧ wx.cell? ⟨g2, off2 + k * 4 + 3, none⟩ = some (.bool x.bad)))
      have HS := Lib.hid (fun (wx : World) (hx : Below w.heap.size w wx) => same_below Ak Bk x.key ck dk wx ((a1.1.below hx).mono hx.size) ((a3.1.below hx).mono hx.size) hxz.1)
      have HT := Lib.hid (fun (wx : World) (hx : Below w.heap.size w wx) => same_below Ad Bd x.data cd dd wx ((a2.1.below hx).mono hx.size) ((a4.1.below hx).mono hx.size) hxz.2)
      clear k0 k1 k2 k3 m0 m1 m2 m3 a1 a2 a3 a4 hx z0 y0
      go_upto_region 6 with fail
      refine wp_region_quiet (C := Below w.heap.size w) (by kernel_rfl) (by kernel_rfl) B1.out.drew ?_
      (repeat (with_reducible refine wpQuiet_step ?_; intro K hK; go_simp; first | (with_reducible refine hK _ ?_; clear hK K) | (rw [if_neg (by decide)]; with_reducible refine hK _ ?_; clear hK K) | (refine ⟨_, fun wx hx => (by obtain ⟨f0, f1, f2, f3⟩ := HL.out wx hx; obtain ⟨g0, g1, g2, g3⟩ := HM.out wx hx; go_simp; with_reducible rfl), hK _ ?_⟩; clear hK K) | (first | (refine ⟨_, fun wx hx => (by with_reducible refine (HS.out wx hx).mono ?_; rintro e w' ⟨rfl, h2⟩; exact ⟨rfl, hx.trans (h2.mono hx.size)⟩), hK _ ?_⟩; clear hK K) | (refine ⟨_, fun wx hx => (by with_reducible refine (HT.out wx hx).mono ?_; rintro e w' ⟨rfl, h2⟩; exact ⟨rfl, hx.trans (h2.mono hx.size)⟩), hK _ ?_⟩; clear hK K)) | (refine ⟨_, fun _ _ => rfl, hK _ ?_⟩; clear hK K))); with_reducible refine wpQuiet_nil ?_
      intro w3 hw3
      have B3 := Lib.hid hw3
      clear hw3
      go_wp2
      go_roundw
      case rel => exact ⟨k + 1, by omega, by go_num, B3.out⟩
      case measure => simp [intOf]; omega
    · obtain rfl : k = t.length := by omega
      go_wp2
      go_ret
      exact ⟨rfl, B1.out⟩
set_option maxHeartbeats 4000000 in
theorem reply_any (A B : Option Addr) (l : List UInt8) (c d : Nat) (st sn : Int) (w : World) (ha : At w w.heap.size A (Lib.byteCells l)) (hb : At w w.heap.size B (Lib.byteCells l)) (hl : l.length ≤ maxLen) :
    Calls Tryz.prog 52 #[.agg #[.slice A l.length c, .int .i64 st, .int .i64 sn], .agg #[.slice B l.length d, .int .i64 st, .int .i64 sn]] w fun e w' => e = .returned (.bool true) ∧ Below w.heap.size w w' := by
  have HS := Lib.hid (fun (wx : World) (hx : Below w.heap.size w wx) => same_below A B l c d wx ((ha.below hx).mono hx.size) ((hb.below hx).mono hx.size) hl)
  clear ha hb hl
  go_enter Tryz.func52, Tryz.ntmps52
  go_wp2_with fail
  refine (HS.out _ (by (repeat' (first | (with_reducible exact Below.refl _ _) | (with_reducible assumption) | (with_reducible refine below_drewN ?_ _) | (with_reducible refine Below.drew ?_) | (with_reducible refine Below.alloc ?_ ?_ _) | (with_reducible refine Below.setCell ?_ ?_ _) | (with_reducible refine below_row ?_ ?_ _) | (with_reducible exact Nat.le_refl _) | omega | (simp only [World.size_alloc, World.size_setCell, World.size_drew, World.size_drewN]; omega) | (simp; done) | (simp; omega))))).mono ?_
  rintro e w2 ⟨rfl, b2⟩
  have B2 : Below w.heap.size w w2 := Below.trans (by (repeat' (first | (with_reducible exact Below.refl _ _) | (with_reducible assumption) | (with_reducible refine below_drewN ?_ _) | (with_reducible refine Below.drew ?_) | (with_reducible refine Below.alloc ?_ ?_ _) | (with_reducible refine Below.setCell ?_ ?_ _) | (with_reducible refine below_row ?_ ?_ _) | (with_reducible exact Nat.le_refl _) | omega | (simp only [World.size_alloc, World.size_setCell, World.size_drew, World.size_drewN]; omega) | (simp; done) | (simp; omega)))) (b2.mono (by simp; omega))
  have HB2 := Lib.hid B2
  clear b2 B2
  go_wp2
  go_ret
  exact ⟨rfl, HB2.out⟩
end
end Go.Proofs.YtfhpaehfihnjaaaGreat
namespace Go.Proofs.YtfhpaehfihnjaaaGreat
open Go.RowKit
section
variable {W w : World} {F : List SA} {x : Nat} {v : Value} {bs : List (Nat × Nat)} {s : ST}
theorem dev_open {i b db : Nat} {u : UN} (hp : bs[i]? = some (b, db)) (hu : s.us[i]? = some u) (S : SL W (setO x v bs s :: F) w) :
    bs.length = s.us.length ∧ SL W (devS db u.dev :: cel b (oneCells db u) 80 :: star ((List.zipWith oneS bs s.us).eraseIdx i) :: cel x #[v, lastV bs s.last, .bool s.off] 72 :: rowS 70 1 v s.us.length (ptrs bs) :: F) w := by
  obtain ⟨hb, S1⟩ := set_open S
  exact ⟨hb, (one_open hp hu S1.s2).s1⟩
theorem devT_kind {d d' : Dev} (h : d.kind = d'.kind) : devT d = devT d' := by cases d <;> cases d' <;> first | rfl | (simp [Dev.kind] at h)
theorem dev_close {i b db : Nat} {u : UN} {d : Dev} (hb : bs.length = s.us.length) (hp : bs[i]? = some (b, db)) (hu : s.us[i]? = some u) (hk : d.kind = u.dev.kind)
    (S : SL W (devS db d :: cel b (oneCells db u) 80 :: star ((List.zipWith oneS bs s.us).eraseIdx i) :: cel x #[v, lastV bs s.last, .bool s.off] 72 :: rowS 70 1 v s.us.length (ptrs bs) :: F) w) :
    SL W (setO x v bs { s with us := s.us.set i { u with dev := d } } :: F) w := by
  have hc : oneCells db { u with dev := d } = oneCells db u := by unfold oneCells devV; dsimp only; rw [devT_kind hk]
  have h1 := S.s1
  rw [← hc] at h1
  have h2 := (one_close (u := { u with dev := d }) hp (List.getElem?_eq_some_iff.1 hu).1 h1).b2
  exact set_close (s := { s with us := s.us.set i { u with dev := d } }) (by simpa using hb) (by simpa using h2)
theorem dev_same {i b db : Nat} {u : UN} (hb : bs.length = s.us.length) (hp : bs[i]? = some (b, db)) (hu : s.us[i]? = some u)
    (S : SL W (devS db u.dev :: cel b (oneCells db u) 80 :: star ((List.zipWith oneS bs s.us).eraseIdx i) :: cel x #[v, lastV bs s.last, .bool s.off] 72 :: rowS 70 1 v s.us.length (ptrs bs) :: F) w) :
    SL W (setO x v bs s :: F) w := by
  have h := dev_close hb hp hu rfl S
  have e : s.us.set i { u with dev := u.dev } = s.us := set_same hu
  rw [e] at h
  exact h
theorem act_at {addr op : Int} {l : List UInt8} {s2 : ST} {r : Rep} (e : s.act addr op l = (s2, r)) (A : Option Addr) (c : Nat) {k : Nat} (hd : D.CardB W F A l c) (hz : l.length ≤ 1073741824) (ok : s.ok k) (hk : k ≤ 10000000) (S : SL W (setO x v bs s :: F) w) :
    Calls Tryz.prog 16 #[.pointer (some ⟨x, 0, none⟩), .int .i64 addr, .int .i64 op, .slice A l.length c] w (RetE W (setO x v bs s2 :: F) r) := by
  have h := act_any addr op A l c hd hz ok hk S
  rw [e] at h
  exact h
theorem cut_at {how : Int} {s2 : ST} {r : Int} (e : s.cut how = (s2, r)) {k : Nat} (ok : s.ok k) (S : SL W (setO x v bs s :: F) w) : Calls Tryz.prog 17 #[.pointer (some ⟨x, 0, none⟩), .int .i64 how] w fun e w' => e = .returned (.int .i64 r) ∧ SL W (setO x v bs s2 :: F) w' := by
  have h := cut_any how ok S
  rw [e] at h
  exact h
theorem up_at {s2 : ST} {r : Int} (e : s.up = (s2, r)) {k : Nat} (ok : s.ok k) (S : SL W (setO x v bs s :: F) w) : Calls Tryz.prog 18 #[.pointer (some ⟨x, 0, none⟩)] w fun e w' => e = .returned (.int .i64 r) ∧ SL W (setO x v bs s2 :: F) w' := by
  have h := up_any ok S
  rw [e] at h
  exact h
theorem fail_at {addr after times : Int} {s2 : ST} {r : Int} (e : s.fail addr after times = (s2, r)) (hz : s.us.length ≤ 16) (S : SL W (setO x v bs s :: F) w) : Calls Tryz.prog 45 #[.pointer (some ⟨x, 0, none⟩), .int .i64 addr, .int .i64 after, .int .i64 times] w fun e w' => e = .returned (.int .i64 r) ∧ SL W (setO x v bs s2 :: F) w' := by
  have h := fail_any addr after times hz S
  rw [e] at h
  exact h
end
theorem fine_yes (v : Value) (w : World) : Calls Tryz.prog 21 #[.agg #[v, .int .i64 12, .int .i64 0]] w fun e w' => e = .returned (.bool true) ∧ Below w.heap.size w w' := fine_any v 12 0 w
def wk1 : ST := (plantST.act 384 1 [5]).1
def wk2 : ST := (wk1.act 384 1 [6]).1
def wk3 : ST := (wk2.cut 1).1
def wk4 : ST := wk3.up.1
theorem wk1_e : plantST.act 384 1 [5] = (wk1, [], 12, 0) := by kernel_rfl
theorem wk2_e : wk1.act 384 1 [6] = (wk2, [], 12, 0) := by kernel_rfl
theorem wk3_e : wk2.cut 1 = (wk3, 0) := by kernel_rfl
theorem wk3_b : wk3.act 384 2 [] = (wk3, [], 14, 64) := by kernel_rfl
theorem wk4_e : wk3.up = (wk4, 0) := by kernel_rfl
theorem wk1_ok : wk1.ok 1 := plant_ok.act _ _ _
theorem wk2_ok : wk2.ok 2 := wk1_ok.act _ _ _
theorem wk3_ok : wk3.ok 2 := wk2_ok.cut _
theorem wk4_ok : wk4.ok 2 := wk3_ok.up
theorem wk4_f : wk4.find 384 = some 3 := by kernel_rfl
theorem wk4_t : wk4.us[3]? = some (mkU cTape (.tape nmA ⟨[⟨[5], false, false⟩], 0, true, 0, none⟩)) := by kernel_rfl
section
variable {W w : World} {F : List SA}
set_option maxHeartbeats 16000000 in
theorem works_any (S : SL W F w) : Calls Tryz.prog 5 #[] w fun e w' => e = .returned (.bool true) ∧ SL W F w' := by
  have HP := Lib.hid (plant_any S)
  clear S
  go_enter Tryz.func5, Tryz.ntmps5
  go_wp2_with fail
  refine HP.out.mono ?_
  rintro e w1 ⟨x, v, bs, rfl, S1⟩
  have H1 := Lib.hid (S1.lit #[.int .u8 5] 5 1 1 rfl (by decide)).s1
  unfold ptrV
  clear S1 HP
  go_wp2_with fail
  refine (act_at wk1_e _ _ (l := [5]) (cardB_head rfl) (by decide) plant_ok (by decide) H1.out).mono ?_
  rintro e w2 ⟨A2, c2, rfl, S2⟩
  have H2 := Lib.hid S2
  clear S2
  go_wp2_with fail
  have S3 := (H2.out.allocC #[.slice A2 0 c2, .int .i64 12, .int .i64 0] 55).lit #[.int .u8 6] 5 1 1 rfl (by decide)
  rw [World.size_alloc] at S3
  -- set, data, reply
  have H3 := Lib.hid S3.s3
  clear S3 H2
  refine (act_at wk2_e _ _ (l := [6]) (cardB_head rfl) (by decide) wk1_ok (by decide) H3.out).mono ?_
  rintro e w4 ⟨A4, c4, rfl, S4⟩
  have H4 := Lib.hid S4.drop
  clear S4 H3
  go_wp2_with fail
  refine (cut_at wk3_e wk2_ok H4.out).mono ?_
  rintro e w5 ⟨rfl, S5⟩
  have H5 := Lib.hid S5
  clear S5 H4
  go_wp2_with fail
  refine (act_at wk3_b none 0 (l := []) cardB_nil (by decide) wk3_ok (by decide) H5.out).mono ?_
  rintro e w6 ⟨A6, c6, rfl, S6⟩
  have H6 := Lib.hid (S6.drop.allocC #[.slice A6 0 c6, .int .i64 14, .int .i64 64] 55).s1
  clear S6 H5
  go_wp2_with fail
  refine (up_at wk4_e wk3_ok H6.out).mono ?_
  rintro e w7 ⟨rfl, S7⟩
  have hb := (set_open S7).1
  obtain ⟨b, db, hp⟩ := bs_get hb wk4_t
  have hg : getP 4 bs wk4 384 = ptrV db := by rw [getP_some wk4_f hp wk4_t]; rfl
  have HG := getTape_any 384 (wk4_ok.len) S7
  rw [hg] at HG
  have HT := Lib.hid HG
  have HB := Lib.hid (And.intro hb hp)
  have H7 := Lib.hid S7
  clear S7 H6 hb hp hg HG
  go_wp2_with fail
  refine HT.out.mono ?_
  rintro e w8 ⟨rfl, rfl⟩
  have H8 := Lib.hid (dev_open HB.out.2 wk4_t H7.out).2
  unfold ptrV
  go_wp2_with fail
  refine (T.blocks_any (s := ⟨[⟨[5], false, false⟩], 0, true, 0, none⟩) H8.out (wk4_ok.us _ (List.mem_of_getElem? wk4_t)).dev.2.1.fit).mono ?_
  rintro e w9 ⟨v9, rfl, S9⟩
  have H9 := Lib.hid S9
  clear S9 H8
  obtain ⟨A9, c9, rfl, hc1, hc2⟩ := T.blksS_slice H9.out
  obtain ⟨L2, _, _⟩ := (H9.out.drop.drop.drop.drop.drop.drop.drop.drop).look
  clear hc1 hc2
  go_wp2_with fail
  refine (fine_yes _ _).mono ?_
  rintro e wa ⟨rfl, ba⟩
  have HA := Lib.hid (H9.out.grow ba)
  clear ba H9 L2
  obtain ⟨L6, _, _⟩ := (HA.out.drop.drop.drop.drop.drop.drop).look
  obtain ⟨g, off, Ad, cd, rfl, _, k1, _, a1, a2, a3⟩ := T.blksS_at HA.out 0 _ rfl
  have HD := Lib.hid a1
  clear a1
  go_wp2_with fail
  have SB := HA.out.lit #[.int .u8 5] 5 1 1 rfl (by decide)
  have h1 : At (wa.alloc (.cells #[.int .u8 5] 5)) (wa.alloc (.cells #[.int .u8 5] 5)).heap.size Ad (Lib.byteCells [5]) := (HD.out.below ((Below.refl _ _).alloc (Nat.le_refl _) _)).mono (by simp)
  refine (same_below Ad _ [5] cd 1 _ h1 SB.at_ (by decide)).mono ?_
  rintro e wb ⟨rfl, bb⟩
  have HB2 := Lib.hid (SB.grow bb)
  clear SB h1 bb HA L6 k1
  go_wp2
  go_ret
  exact ⟨rfl, HB2.out.drop.drop.drop.drop.drop.drop.drop.drop.drop.drop.drop.drop⟩
end
end Go.Proofs.YtfhpaehfihnjaaaGreat
namespace Go.Proofs.YtfhpaehfihnjaaaGreat
open Go.RowKit
section
variable {x : Nat} {v : Value} {bs : List (Nat × Nat)} {s : ST} {k : Nat}
theorem reader_view {addr : Int} {i : Nat} {u : UN} {se tk st : Nat} {cs : List (List UInt8)} (hz : s.us.length ≤ 16) (hf : s.find addr = some i) (hu : s.us[i]? = some u) (hd : u.dev = .reader se tk st cs) (hb : bs.length = s.us.length) :
    ∃ db, ∀ (W : World) (F : List SA) (w : World), SL W (setO x v bs s :: F) w →
      Calls Tryz.prog 29 #[.pointer (some ⟨x, 0, none⟩), .int .i64 addr] w (fun e w' => e = .returned (.pointer (some ⟨db, 0, none⟩)) ∧ w' = w) ∧
      Calls Tryz.prog 34 #[.pointer (some ⟨db, 0, none⟩)] w (fun e w' => e = .returned (.int .i64 (tk : Int)) ∧ w' = w) ∧
      Calls Tryz.prog 33 #[.pointer (some ⟨db, 0, none⟩)] w (fun e w' => e = .returned (.int .i64 (cs.length : Int)) ∧ w' = w) := by
  obtain ⟨b, db, hp⟩ := bs_get hb hu
  refine ⟨db, fun W F w S => ?_⟩
  have h := getReader_any addr hz S
  rw [getP_some hf hp hu, hd, if_pos (by rfl)] at h
  have S1 := (dev_open hp hu S).2
  rw [hd] at S1
  exact ⟨h, (U.rtaken_any db se tk st cs S1).mono fun _ _ h => ⟨h.1, h.2.symm⟩, (U.rcards_any db se tk st cs S1).mono fun _ _ h => ⟨h.1, h.2.symm⟩⟩
theorem punch_view {addr : Int} {i : Nat} {u : UN} {se : Nat} {cs : List (List UInt8)} (ok : s.ok k) (hf : s.find addr = some i) (hu : s.us[i]? = some u) (hd : u.dev = .punch se cs) (hb : bs.length = s.us.length) :
    ∃ db, ∀ (W : World) (F : List SA) (w : World), SL W (setO x v bs s :: F) w →
      Calls Tryz.prog 30 #[.pointer (some ⟨x, 0, none⟩), .int .i64 addr] w (fun e w' => e = .returned (.pointer (some ⟨db, 0, none⟩)) ∧ w' = w) ∧
      Calls Tryz.prog 36 #[.pointer (some ⟨db, 0, none⟩)] w (fun e w' => ∃ A c, e = .returned (.slice A cs.length c) ∧ SL W (U.deckS (.slice A cs.length c) cs :: setO x v bs s :: F) w') := by
  obtain ⟨b, db, hp⟩ := bs_get hb hu
  refine ⟨db, fun W F w S => ?_⟩
  have h := getPunch_any addr ok.len S
  rw [getP_some hf hp hu, hd, if_pos (by rfl)] at h
  have S1 := (dev_open hp hu S).2
  rw [hd] at S1
  have o := (ok.us u (List.mem_of_getElem? hu)).dev
  rw [hd] at o
  refine ⟨h, (U.pundeck_any db se cs S1 o.2.1 (fun c hc => by rw [o.2.2 c hc]; decide)).mono fun _ _ ⟨A, c, h, S2⟩ => ⟨A, c, h, ?_⟩⟩
  have S3 := SL.b5 S2
  exact (dev_same hb hp hu (F := U.deckS (.slice A cs.length c) cs :: F) (by rw [hd]; exact S3)).s1
theorem printer_view {addr : Int} {i : Nat} {u : UN} {p : U.PS} (ok : s.ok k) (hk : 60 * k ≤ 1000000000) (hf : s.find addr = some i) (hu : s.us[i]? = some u) (hd : u.dev = .printer p) (hb : bs.length = s.us.length) :
    ∃ db, ∀ (W : World) (F : List SA) (w : World), SL W (setO x v bs s :: F) w →
      Calls Tryz.prog 31 #[.pointer (some ⟨x, 0, none⟩), .int .i64 addr] w (fun e w' => e = .returned (.pointer (some ⟨db, 0, none⟩)) ∧ w' = w) ∧
      Calls Tryz.prog 37 #[.pointer (some ⟨db, 0, none⟩)] w (fun e w' => ∃ A c, e = .returned (.slice A p.lines.length c) ∧ SL W (U.linesS (.slice A p.lines.length c) p.lines :: setO x v bs s :: F) w') := by
  obtain ⟨b, db, hp⟩ := bs_get hb hu
  refine ⟨db, fun W F w S => ?_⟩
  have h := getPrinter_any addr ok.len S
  rw [getP_some hf hp hu, hd, if_pos (by rfl)] at h
  have S1 := (dev_open hp hu S).2
  rw [hd] at S1
  have o := (ok.us u (List.mem_of_getElem? hu)).dev
  rw [hd] at o
  refine ⟨h, (U.prpaper_any ⟨o.1, o.2.1, Nat.le_trans o.2.2 hk⟩ S1).mono fun _ _ ⟨A, c, h, S2⟩ => ⟨A, c, h, ?_⟩⟩
  have S3 := SL.b5 S2
  exact (dev_same hb hp hu (F := U.linesS (.slice A p.lines.length c) p.lines :: F) (by rw [hd]; exact S3)).s1
theorem tape_view {addr : Int} {i : Nat} {u : UN} {n : ByteArray} {p : T.TP} (ok : s.ok k) (hf : s.find addr = some i) (hu : s.us[i]? = some u) (hd : u.dev = .tape n p) (hb : bs.length = s.us.length) :
    ∃ db, ∀ (W : World) (F : List SA) (w : World), SL W (setO x v bs s :: F) w →
      Calls Tryz.prog 19 #[.pointer (some ⟨x, 0, none⟩), .int .i64 addr] w (fun e w' => e = .returned (.pointer (some ⟨db, 0, none⟩)) ∧ w' = w) ∧
      Calls Tryz.prog 41 #[.pointer (some ⟨db, 0, none⟩)] w (fun e w' => e = .returned (.int .i64 (p.pos : Int)) ∧ SL W (setO x v bs s :: F) w') ∧
      Calls Tryz.prog 20 #[.pointer (some ⟨db, 0, none⟩)] w (fun e w' => ∃ A c, e = .returned (.slice A p.bs.length c) ∧ SL W (T.blksS (.slice A p.bs.length c) p.bs :: setO x v bs s :: F) w') := by
  obtain ⟨b, db, hp⟩ := bs_get hb hu
  refine ⟨db, fun W F w S => ?_⟩
  have h := getTape_any addr ok.len S
  rw [getP_some hf hp hu, hd, if_pos (by rfl)] at h
  have S1 := (dev_open hp hu S).2
  rw [hd] at S1
  have o := (ok.us u (List.mem_of_getElem? hu)).dev
  rw [hd] at o
  refine ⟨h, (T.at_any (s := p) S1).mono fun _ _ ⟨h, S2⟩ => ⟨h, dev_same hb hp hu (by rw [hd]; exact S2)⟩, (T.blocks_any (s := p) S1 o.2.1.fit).mono fun _ _ ⟨v1, h, S2⟩ => ?_⟩
  obtain ⟨A, c, rfl, _, _⟩ := T.blksS_slice S2
  have S3 := SL.b5 S2
  exact ⟨A, c, h, (dev_same hb hp hu (F := T.blksS (.slice A p.bs.length c) p.bs :: F) (by rw [hd]; exact S3)).s1⟩
theorem disk_view {addr : Int} {i : Nat} {u : UN} {d : D.DK} (ok : s.ok k) (hf : s.find addr = some i) (hu : s.us[i]? = some u) (hd : u.dev = .disk d) (hb : bs.length = s.us.length) :
    ∃ db, ∀ (W : World) (F : List SA) (w : World), SL W (setO x v bs s :: F) w →
      Calls Tryz.prog 32 #[.pointer (some ⟨x, 0, none⟩), .int .i64 addr] w (fun e w' => e = .returned (.pointer (some ⟨db, 0, none⟩)) ∧ w' = w) ∧
      ∀ n : Int, Calls Tryz.prog 68 #[.pointer (some ⟨db, 0, none⟩), .int .i64 n] w (fun e w' => ∃ A c, e = .returned (.tuple #[.slice A (D.trkOf d n).length c, .bool (D.trkIs d n)]) ∧ SL W (D.recsS (.slice A (D.trkOf d n).length c) (D.trkOf d n) :: setO x v bs s :: F) w') := by
  obtain ⟨b, db, hp⟩ := bs_get hb hu
  refine ⟨db, fun W F w S => ?_⟩
  have h := getDisk_any addr ok.len S
  rw [getP_some hf hp hu, hd, if_pos (by rfl)] at h
  have S1 := (dev_open hp hu S).2
  rw [hd] at S1
  have o := (ok.us u (List.mem_of_getElem? hu)).dev
  rw [hd] at o
  refine ⟨h, fun n => (D.track_any n o S1).mono fun _ _ ⟨A, c, h, S2⟩ => ⟨A, c, h, ?_⟩⟩
  have S3 := SL.b5 S2
  exact (dev_same hb hp hu (F := D.recsS (.slice A (D.trkOf d n).length c) (D.trkOf d n) :: F) (by rw [hd]; exact S3)).s1
end
end Go.Proofs.YtfhpaehfihnjaaaGreat
