/- DMeth2, DMeth4, DMeth5, DF, DRead. -/
import Derived.Test.YtfhpaehfihnjaaaGreatDD
import Derived.Deep.CutBlock
import Derived.Deep.CutRange
set_option maxRecDepth 100000
namespace Go.Proofs.YtfhpaehfihnjaaaGreat.D
open Go.RowKit
theorem two_drop (b : List UInt8) (k : Nat) : two (b.drop k) 0 = two b k := by unfold two; rw [List.getElem?_drop, List.getElem?_drop]; rfl
section
variable {W w : World} {F : List SA} {x tb : Nat} {s : DK} {lp : Option Addr} {was : Bool}
theorem last_none {lp : Option Addr} (S : SL W (lastS lp none :: F) w) : lp = none ∧ SL W F w := ⟨S.pure (φ := lp = none) fun _ h => h.1, S.drop⟩
theorem last_null (S : SL W F w) : SL W (lastS none none :: F) w := SL.pack (L := []) S fun _ p => ⟨rfl, p⟩
theorem last_close {lb t : Nat} {v : Value} {b : List Rec} {n : Int} (S : SL W (cel lb #[.int .i64 (t : Int), v, .int .i64 n] 259 :: recsS v b :: F) w) : SL W (lastS (some ⟨lb, 0, none⟩) (some (t, b, n)) :: F) w :=
  SL.pack (L := [cel lb #[.int .i64 (t : Int), v, .int .i64 n] 259, recsS v b]) S fun _ p => ⟨lb, v, rfl, p⟩
theorem last_open {lp : Option Addr} {t : Nat} {b : List Rec} {n : Int} (S : SL W (lastS lp (some (t, b, n)) :: F) w) : ∃ lb v, lp = some ⟨lb, 0, none⟩ ∧ SL W (cel lb #[.int .i64 (t : Int), v, .int .i64 n] 259 :: recsS v b :: F) w := by
  obtain ⟨⟨lb, v⟩, h, S1⟩ := SL.unpack (α := Nat × Value) (φ := fun p => lp = some ⟨p.1, 0, none⟩) (K := fun p => [cel p.1 #[.int .i64 (t : Int), p.2, .int .i64 n] 259, recsS p.2 b]) S (by
    rintro h ⟨lb, v, e, p⟩
    exact ⟨(lb, v), e, p⟩)
  exact ⟨lb, v, h, S1⟩
theorem hit_any (i : Nat) (S : SL W (cel x (dkCells s tb lp was) 173 :: F) w) : Calls Tryz.prog 251 #[.pointer (some ⟨x, 0, none⟩), .int .i64 (i : Int)] w fun e w' => e = .returned (.agg #[.slice none 0 0, .int .i64 76, .int .i64 0]) ∧ SL W (cel x (dkCells { s with next := i, found := true } tb lp was) 173 :: F) w' := by
  have HS := Lib.hid S
  obtain ⟨L, K, z⟩ := S.look
  clear S
  go_enter Tryz.func251, Tryz.ntmps251
  go_wp2
  refine bodyPost_ret (v := .agg #[.slice none 0 0, .int .i64 76, .int .i64 0]) (by simp [results, Tryz.results251, go_sem]) rfl ⟨rfl, ?_⟩
  exact (((HS.out.set (off := 6) (v := .int .i64 (i : Int)) (cs' := dkCells { s with next := i } tb lp was) rfl).set (off := 7) (v := .bool true) (cs' := dkCells { s with next := i, found := true } tb lp was) rfl).allocC _ _).drop
theorem recal_any (A : Option Addr) (n c : Nat) (S : SL W (diskW x s was :: F) w) : Calls Tryz.prog 221 #[.pointer (some ⟨x, 0, none⟩), .slice A n c] w (RetM W F x (dkDone { s with cyl := 0, head := 0, next := 0 } [])) := by
  obtain ⟨tb, lp, S1⟩ := diskW_open S
  have HS := Lib.hid S1
  obtain ⟨L, K, z⟩ := S1.look
  clear S S1
  go_enter Tryz.func221, Tryz.ntmps221
  go_wp2_with fail
  refine name_world (P := fun W => Calls _ _ _ W _) ?_; intro wd hwd
  have h1 := (SL.cast hwd ((((HS.out.set (off := 4) (v := .int .i64 0) (cs' := dkCells { s with cyl := 0 } tb lp was) rfl).set (off := 5) (v := .int .i64 0) (cs' := dkCells { s with cyl := 0, head := 0 } tb lp was) rfl).set (off := 6) (v := .int .i64 0) (cs' := dkCells { s with cyl := 0, head := 0, next := 0 } tb lp was) rfl).allocC #[.slice none 0 0, .int .i64 0, .int .i64 0] 55))
  simp only [World.size_setCell] at h1
  have H1 := Lib.hid h1
  clear h1 hwd HS L K z
  refine (done_any _ _ _ _).mono ?_
  rintro e w1 ⟨rfl, b1⟩
  have H2 := Lib.hid (H1.out.grow b1)
  clear b1 H1
  (obtain ⟨L, K, z⟩ := H2.out.look; go_wp2; refine bodyPost_ret (v := .agg #[.slice none 0 0, .int .i64 12, .int .i64 0]) (by simp [results, Tryz.results221, go_sem, L]) rfl ?_)
  exact RetM.of (diskW_close H2.out.set3.drop)
set_option maxHeartbeats 8000000 in
theorem seek_any (A : Option Addr) (b : List UInt8) (c : Nat) (hd : CardB W F A b c) (h : s.ok) (S : SL W (diskW x s was :: F) w) : Calls Tryz.prog 220 #[.pointer (some ⟨x, 0, none⟩), .slice A b.length c] w (RetM W F x (dkSeek s b)) := by
  obtain ⟨tb, lp, S1⟩ := diskW_open S
  have HS := Lib.hid S1
  have HD := Lib.hid (hd w S.drop)
  have hc1 := h.c1
  have hh1 := h.h1
  clear S S1
  have HDS := Lib.hid (show dkSeek s b = if b.length ≠ 6 ∨ two b 0 ≠ 0 ∨ s.cyls ≤ two b 2 ∨ s.heads ≤ two b 4 then dkCheck s 128 else dkDone { s with cyl := two b 2, head := two b 4, next := 0 } [] from rfl)
  have hbl : b.length ≤ 9223372036854775807 := by have := HD.out.2; unfold maxLen at this; omega
  by_cases h6 : b.length = 6
  · have HDB := Lib.hid hd
    have hc6 : 6 ≤ c := by have := HD.out.2.1; omega
    have hcm : c ≤ 9223372036854775807 := by have := HD.out.2.2; unfold maxLen at this; omega
    obtain ⟨g, off, rfl, _, _⟩ := HD.out.1 (by intro e; have := congrArg List.length e; simp [Lib.byteCells] at this; subst this; simp at h6)
    have H6 := Lib.hid h6
    rw [h6]
    clear h6 hbl HD hd
    (go_enter Tryz.func220, Tryz.ntmps220; go_upto_region 1 with fail; refine name_world (P := Code.wp _ _ _ _) ?_; intro wA hwA; have H1 := Lib.hid (SL.cast hwA (HS.out.allocC #[.slice none 0 0, .int .i64 0, .int .i64 0] 55)); clear hwA HS; generalize w.heap.size = rb at *)
    have hdA := HDB.out wA H1.out.drop.drop.drop.drop
    have HT0 := Lib.hid (fun (wx : World) (hx : Below wA.heap.size wA wx) => (two_any _ b 6 c wx (hdA.grow hx) H6.out.symm (by omega)).mono fun e w' k => (⟨k.1, k.2.below _⟩ : e = .returned (.int .i64 (two b 0 : Nat)) ∧ Below wx.heap.size wx w'))
    have HT2 := Lib.hid (fun (wx : World) (hx : Below wA.heap.size wA wx) => (two_any (some ⟨g, off + 2, none⟩) (b.drop 2) 4 (c - 2) wx ((hdA.drop 2 (by rw [H6.out]; omega) _ (fun _ => rfl)).grow hx) (by rw [List.length_drop, H6.out]) (by omega)).mono fun e w' k => (⟨by rw [k.1, two_drop], k.2.below _⟩ : e = .returned (.int .i64 (two b 2 : Nat)) ∧ Below wx.heap.size wx w'))
    have HT4 := Lib.hid (fun (wx : World) (hx : Below wA.heap.size wA wx) => (two_any (some ⟨g, off + 4, none⟩) (b.drop 4) 2 (c - 4) wx ((hdA.drop 4 (by rw [H6.out]; omega) _ (fun _ => rfl)).grow hx) (by rw [List.length_drop, H6.out]) (by omega)).mono fun e w' k => (⟨by rw [k.1, two_drop], k.2.below _⟩ : e = .returned (.int .i64 (two b 4 : Nat)) ∧ Below wx.heap.size wx w'))
    generalize two b 0 = t0 at *
    generalize two b 2 = t2 at *
    generalize two b 4 = t4 at *
    obtain ⟨L, K, z⟩ := H1.out.s1.look
    have HX := Lib.hid (fun (wx : World) (hx : Below wA.heap.size wA wx) => (⟨(hx.cell (p := ⟨x, 1, none⟩) z).trans (L 1), (hx.cell (p := ⟨x, 2, none⟩) z).trans (L 2), (hx.cell (p := ⟨x, 3, none⟩) z).trans (L 3)⟩ : wx.cell? ⟨x, 1, none⟩ = some (.int .i64 (s.cyls : Int)) ∧ wx.cell? ⟨x, 2, none⟩ = some (.int .i64 (s.heads : Int)) ∧ wx.cell? ⟨x, 3, none⟩ = some (.slice (some ⟨tb, 0, none⟩) s.tracks.length s.tracks.length)))
    have e2 : (c = 2) = False := eq_false (by omega)
    have e4 : (c = 4) = False := eq_false (by omega)
    clear hdA L K z h
    by_cases h0 : t0 = 0
    · by_cases h2 : s.cyls ≤ t2
      · have HR := Lib.hid (show dkSeek s b = dkCheck s 128 by rw [HDS.out, if_pos (by simp [h2])])
        have u1 : ((s.cyls : Int) ≤ (t2 : Int)) = True := eq_true (by omega)
        subst h0
        clear h2
        refine wp_region_quiet (C := Below wA.heap.size wA) (by kernel_rfl) (by kernel_rfl) (Below.refl _ _).drew ?_
        (repeat (with_reducible refine wpQuiet_step ?_; intro K hK; go_simp; first | (with_reducible refine hK _ ?_; clear hK K) | (rw [if_neg (by decide)]; with_reducible refine hK _ ?_; clear hK K) | (refine ⟨_, fun wx hx => (by obtain ⟨f0, f1, f2⟩ := HX.out wx hx; go_simp; with_reducible rfl), hK _ ?_⟩; clear hK K) | (first | (refine ⟨_, fun wx hx => (by with_reducible refine (HT0.out wx hx).mono ?_; rintro e w' ⟨rfl, h2⟩; exact ⟨rfl, hx.trans (h2.mono hx.size)⟩), hK _ ?_⟩; clear hK K) | (refine ⟨_, fun wx hx => (by with_reducible refine (HT2.out wx hx).mono ?_; rintro e w' ⟨rfl, h2⟩; exact ⟨rfl, hx.trans (h2.mono hx.size)⟩), hK _ ?_⟩; clear hK K) | (refine ⟨_, fun wx hx => (by with_reducible refine (HT4.out wx hx).mono ?_; rintro e w' ⟨rfl, h2⟩; exact ⟨rfl, hx.trans (h2.mono hx.size)⟩), hK _ ?_⟩; clear hK K)) | (refine ⟨_, fun _ _ => rfl, hK _ ?_⟩; clear hK K))); with_reducible refine wpQuiet_nil ?_
        intro w1 b1
        have H2 := Lib.hid (H1.out.grow b1)
        clear b1 H1
        go_wp2_with fail
        (refine (check_any 128 H2.out.s1).mono ?_; rintro e w9 ⟨rfl, S9⟩; have H9 := Lib.hid S9.s1; clear S9; (obtain ⟨L, K, z⟩ := H9.out.look; go_wp2; refine bodyPost_ret (v := .agg #[.slice none 0 0, .int .i64 14, .int .i64 128]) (by simp [results, Tryz.results220, go_sem, L]) rfl ?_); rw [HR.out]; exact RetM.of (diskW_close H9.out.set3.drop))
      · by_cases h4 : s.heads ≤ t4
        · have HR := Lib.hid (show dkSeek s b = dkCheck s 128 by rw [HDS.out, if_pos (by simp [h4])])
          have u1 : ((s.cyls : Int) ≤ (t2 : Int)) = False := eq_false (by omega)
          have u2 : ((s.heads : Int) ≤ (t4 : Int)) = True := eq_true (by omega)
          subst h0
          clear h2 h4
          refine wp_region_quiet (C := Below wA.heap.size wA) (by kernel_rfl) (by kernel_rfl) (Below.refl _ _).drew ?_
          (repeat (with_reducible refine wpQuiet_step ?_; intro K hK; go_simp; first | (with_reducible refine hK _ ?_; clear hK K) | (rw [if_neg (by decide)]; with_reducible refine hK _ ?_; clear hK K) | (refine ⟨_, fun wx hx => (by obtain ⟨f0, f1, f2⟩ := HX.out wx hx; go_simp; with_reducible rfl), hK _ ?_⟩; clear hK K) | (first | (refine ⟨_, fun wx hx => (by with_reducible refine (HT0.out wx hx).mono ?_; rintro e w' ⟨rfl, h2⟩; exact ⟨rfl, hx.trans (h2.mono hx.size)⟩), hK _ ?_⟩; clear hK K) | (refine ⟨_, fun wx hx => (by with_reducible refine (HT2.out wx hx).mono ?_; rintro e w' ⟨rfl, h2⟩; exact ⟨rfl, hx.trans (h2.mono hx.size)⟩), hK _ ?_⟩; clear hK K) | (refine ⟨_, fun wx hx => (by with_reducible refine (HT4.out wx hx).mono ?_; rintro e w' ⟨rfl, h2⟩; exact ⟨rfl, hx.trans (h2.mono hx.size)⟩), hK _ ?_⟩; clear hK K)) | (refine ⟨_, fun _ _ => rfl, hK _ ?_⟩; clear hK K))); with_reducible refine wpQuiet_nil ?_
          intro w1 b1
          have H2 := Lib.hid (H1.out.grow b1)
          clear b1 H1
          go_wp2_with fail
          (refine (check_any 128 H2.out.s1).mono ?_; rintro e w9 ⟨rfl, S9⟩; have H9 := Lib.hid S9.s1; clear S9; (obtain ⟨L, K, z⟩ := H9.out.look; go_wp2; refine bodyPost_ret (v := .agg #[.slice none 0 0, .int .i64 14, .int .i64 128]) (by simp [results, Tryz.results220, go_sem, L]) rfl ?_); rw [HR.out]; exact RetM.of (diskW_close H9.out.set3.drop))
        · have HR := Lib.hid (show dkSeek s b = dkDone { s with cyl := t2, head := t4, next := 0 } [] by rw [HDS.out, if_neg (by simp [h0, h2, h4, H6.out])])
          have u1 : ((s.cyls : Int) ≤ (t2 : Int)) = False := eq_false (by omega)
          have u2 : ((s.heads : Int) ≤ (t4 : Int)) = False := eq_false (by omega)
          subst h0
          clear h2 h4
          refine wp_region_quiet (C := Below wA.heap.size wA) (by kernel_rfl) (by kernel_rfl) (Below.refl _ _).drew ?_
          (repeat (with_reducible refine wpQuiet_step ?_; intro K hK; go_simp; first | (with_reducible refine hK _ ?_; clear hK K) | (rw [if_neg (by decide)]; with_reducible refine hK _ ?_; clear hK K) | (refine ⟨_, fun wx hx => (by obtain ⟨f0, f1, f2⟩ := HX.out wx hx; go_simp; with_reducible rfl), hK _ ?_⟩; clear hK K) | (first | (refine ⟨_, fun wx hx => (by with_reducible refine (HT0.out wx hx).mono ?_; rintro e w' ⟨rfl, h2⟩; exact ⟨rfl, hx.trans (h2.mono hx.size)⟩), hK _ ?_⟩; clear hK K) | (refine ⟨_, fun wx hx => (by with_reducible refine (HT2.out wx hx).mono ?_; rintro e w' ⟨rfl, h2⟩; exact ⟨rfl, hx.trans (h2.mono hx.size)⟩), hK _ ?_⟩; clear hK K) | (refine ⟨_, fun wx hx => (by with_reducible refine (HT4.out wx hx).mono ?_; rintro e w' ⟨rfl, h2⟩; exact ⟨rfl, hx.trans (h2.mono hx.size)⟩), hK _ ?_⟩; clear hK K)) | (refine ⟨_, fun _ _ => rfl, hK _ ?_⟩; clear hK K))); with_reducible refine wpQuiet_nil ?_
          intro w1 b1
          have B1 := Lib.hid b1
          clear b1
          go_upto_region 3 with fail
          refine wp_region_order (fun wx => Below wA.heap.size wA wx) [1, 2] [] [0, 3, 4, 5, 6, 7, 8] [] [9, 10, 11, 12, 13, 14, 15, 16, 17] (by kernel_rfl) (by kernel_rfl) B1.out.drew (by intro c a d v w h; cases d <;> exact h) ?_
          simp only [pick, List.filterMap_cons, List.filterMap_nil, List.getElem?_cons_zero, List.getElem?_cons_succ]
          (repeat (with_reducible refine wpPure_step ?_; intro K hK; go_simp; with_reducible refine hK _ ?_; clear hK K))
          refine wpPure_nil ?_
          refine wpLoads_nil ?_
          (repeat (with_reducible refine wpQuiet_step ?_; intro K hK; go_simp; first | (with_reducible refine hK _ ?_; clear hK K) | (rw [if_neg (by decide)]; with_reducible refine hK _ ?_; clear hK K) | (refine ⟨_, fun wx hx => (by obtain ⟨f0, f1, f2⟩ := HX.out wx hx; go_simp; with_reducible rfl), hK _ ?_⟩; clear hK K) | (first | (refine ⟨_, fun wx hx => (by with_reducible refine (HT0.out wx hx).mono ?_; rintro e w' ⟨rfl, h2⟩; exact ⟨rfl, hx.trans (h2.mono hx.size)⟩), hK _ ?_⟩; clear hK K) | (refine ⟨_, fun wx hx => (by with_reducible refine (HT2.out wx hx).mono ?_; rintro e w' ⟨rfl, h2⟩; exact ⟨rfl, hx.trans (h2.mono hx.size)⟩), hK _ ?_⟩; clear hK K) | (refine ⟨_, fun wx hx => (by with_reducible refine (HT4.out wx hx).mono ?_; rintro e w' ⟨rfl, h2⟩; exact ⟨rfl, hx.trans (h2.mono hx.size)⟩), hK _ ?_⟩; clear hK K)) | (refine ⟨_, fun _ _ => rfl, hK _ ?_⟩; clear hK K))); with_reducible refine wpQuiet_nil ?_
          intro w2 b2
          have H2 := Lib.hid (H1.out.grow b2)
          clear b2 B1 H1
          refine wpKeep_nil ?_
          obtain ⟨L, K, z⟩ := H2.out.s1.look
          go_wp2_with fail
          refine name_world (P := fun W => Calls _ _ _ W _) ?_; intro wd hwd
          have H3 := Lib.hid (SL.cast hwd (((H2.out.s1.set (off := 4) (v := .int .i64 (t2 : Int)) (cs' := dkCells { s with cyl := t2 } tb lp was) rfl).set (off := 5) (v := .int .i64 (t4 : Int)) (cs' := dkCells { s with cyl := t2, head := t4 } tb lp was) rfl).set (off := 6) (v := .int .i64 0) (cs' := dkCells { s with cyl := t2, head := t4, next := 0 } tb lp was) rfl).s1)
          clear hwd H2 L K z
          (refine (done_any _ _ _ _).mono ?_; rintro e w9 ⟨rfl, b9⟩; have H9 := Lib.hid (H3.out.grow b9); clear b9; (obtain ⟨L, K, z⟩ := H9.out.look; go_wp2; refine bodyPost_ret (v := .agg #[.slice none 0 0, .int .i64 12, .int .i64 0]) (by simp [results, Tryz.results220, go_sem, L]) rfl ?_); rw [HR.out]; exact RetM.of (diskW_close H9.out.set3.drop))
    · have HR := Lib.hid (show dkSeek s b = dkCheck s 128 by rw [HDS.out, if_pos (by simp [h0])])
      have u0 : ((t0 : Int) != 0) = true := by simp; omega
      clear h0
      refine wp_region_quiet (C := Below wA.heap.size wA) (by kernel_rfl) (by kernel_rfl) (Below.refl _ _).drew ?_
      (repeat (with_reducible refine wpQuiet_step ?_; intro K hK; go_simp; first | (with_reducible refine hK _ ?_; clear hK K) | (rw [if_neg (by decide)]; with_reducible refine hK _ ?_; clear hK K) | (refine ⟨_, fun wx hx => (by obtain ⟨f0, f1, f2⟩ := HX.out wx hx; go_simp; with_reducible rfl), hK _ ?_⟩; clear hK K) | (first | (refine ⟨_, fun wx hx => (by with_reducible refine (HT0.out wx hx).mono ?_; rintro e w' ⟨rfl, h2⟩; exact ⟨rfl, hx.trans (h2.mono hx.size)⟩), hK _ ?_⟩; clear hK K) | (refine ⟨_, fun wx hx => (by with_reducible refine (HT2.out wx hx).mono ?_; rintro e w' ⟨rfl, h2⟩; exact ⟨rfl, hx.trans (h2.mono hx.size)⟩), hK _ ?_⟩; clear hK K) | (refine ⟨_, fun wx hx => (by with_reducible refine (HT4.out wx hx).mono ?_; rintro e w' ⟨rfl, h2⟩; exact ⟨rfl, hx.trans (h2.mono hx.size)⟩), hK _ ?_⟩; clear hK K)) | (refine ⟨_, fun _ _ => rfl, hK _ ?_⟩; clear hK K))); with_reducible refine wpQuiet_nil ?_
      intro w1 b1
      have H2 := Lib.hid (H1.out.grow b1)
      clear b1 H1
      go_wp2_with fail
      (refine (check_any 128 H2.out.s1).mono ?_; rintro e w9 ⟨rfl, S9⟩; have H9 := Lib.hid S9.s1; clear S9; (obtain ⟨L, K, z⟩ := H9.out.look; go_wp2; refine bodyPost_ret (v := .agg #[.slice none 0 0, .int .i64 14, .int .i64 128]) (by simp [results, Tryz.results220, go_sem, L]) rfl ?_); rw [HR.out]; exact RetM.of (diskW_close H9.out.set3.drop))
  · have HR := Lib.hid (show dkSeek s b = dkCheck s 128 by rw [HDS.out, if_pos (Or.inl h6)])
    have t1 : ((b.length : Int) != 6) = true := by simp; omega
    clear h6 hd
    (go_enter Tryz.func220, Tryz.ntmps220; go_upto_region 1 with fail; refine name_world (P := Code.wp _ _ _ _) ?_; intro wA hwA; have H1 := Lib.hid (SL.cast hwA (HS.out.allocC #[.slice none 0 0, .int .i64 0, .int .i64 0] 55)); clear hwA HS; generalize w.heap.size = rb at *)
    obtain ⟨L, K, z⟩ := H1.out.s1.look
    refine wp_region_quiet (C := Below wA.heap.size wA) (by kernel_rfl) (by kernel_rfl) (Below.refl _ _).drew ?_
    (repeat (with_reducible refine wpQuiet_step ?_; intro K hK; go_simp; first | (with_reducible refine hK _ ?_; clear hK K) | (rw [if_neg (by decide)]; with_reducible refine hK _ ?_; clear hK K) | (refine ⟨_, fun wx hx => (by skip; go_simp; with_reducible rfl), hK _ ?_⟩; clear hK K) | fail | (refine ⟨_, fun _ _ => rfl, hK _ ?_⟩; clear hK K))); with_reducible refine wpQuiet_nil ?_
    intro w1 b1
    have H2 := Lib.hid (H1.out.grow b1)
    clear b1 H1 L K z
    go_wp2_with fail
    (refine (check_any 128 H2.out.s1).mono ?_; rintro e w9 ⟨rfl, S9⟩; have H9 := Lib.hid S9.s1; clear S9; (obtain ⟨L, K, z⟩ := H9.out.look; go_wp2; refine bodyPost_ret (v := .agg #[.slice none 0 0, .int .i64 14, .int .i64 128]) (by simp [results, Tryz.results220, go_sem, L]) rfl ?_); rw [HR.out]; exact RetM.of (diskW_close H9.out.set3.drop))
end
end Go.Proofs.YtfhpaehfihnjaaaGreat.D
namespace Go.Proofs.YtfhpaehfihnjaaaGreat.D
open Go.RowKit
section
variable {W w : World} {F : List SA} {x tb : Nat} {s : DK} {lp : Option Addr} {was : Bool}
set_option maxHeartbeats 8000000 in
theorem change_any (v' : Value) (t' : List Rec) (n : Int) (h : s.ok) (hl : s.last = none) (S : SL W (diskW x s was :: recsS v' t' :: F) w) : Calls Tryz.prog 238 #[.pointer (some ⟨x, 0, none⟩), v', .int .i64 n] w fun e w' => e = .returned (.tuple #[]) ∧ SL W (diskW x (dkChange s t' n) was :: F) w' := by
  obtain ⟨tb, lp, S0⟩ := diskW_open S
  obtain ⟨vs, hvs, S1⟩ := tracks_open S0.s1
  obtain ⟨v, hv1, hv2⟩ := zip_get hvs h.at_
  obtain ⟨A0, c0, rfl, hlc, hcm⟩ := recsS_len (S1.s1.take hv2)
  obtain ⟨A', c', rfl, _, _⟩ := recsS_len S0.s3
  have HS := Lib.hid S1.s2
  have HH := Lib.hid h
  have HL := Lib.hid hl
  have HV := Lib.hid (And.intro hvs (And.intro hv1 h.at_))
  have hb := h.here_lt
  have hnt := h.nt
  have hva : vs.toArray[s.here]? = some (.slice A0 s.recs.length c0) := by simpa using hv1
  have HVA := Lib.hid hva
  clear S S0 S1 h hl hvs hv1 hv2 hva
  obtain ⟨L, K, z⟩ := HS.out.look
  go_enter Tryz.func238, Tryz.ntmps238
  go_wp2_with fail
  refine (here_b HH.out HS.out).mono ?_
  rintro e w1 ⟨rfl, b1⟩
  have H1 := Lib.hid (HS.out.grow b1)
  clear b1 HS L K z
  go_wp2_with fail
  refine (records_any HH.out ((H1.out.s1.look.1 s.here).trans HVA.out) H1.out).mono ?_
  rintro e w2 ⟨rfl, b2⟩
  have H2 := Lib.hid (H1.out.grow b2)
  clear b2 H1
  obtain ⟨L, K, z⟩ := H2.out.look
  go_upto_region 1 with fail
  refine name_world (P := Code.wp _ _ _ _) ?_
  intro wB hwB
  have h3 := SL.cast hwB ((H2.out.set (off := 10) (v := .pointer (some ⟨w2.heap.size, 0, none⟩)) (cs' := dkCells s tb (some ⟨w2.heap.size, 0, none⟩) was) rfl).allocC #[.int .i64 (s.here : Int), .slice A0 s.recs.length c0, .int .i64 n] 259)
  simp only [World.size_setCell] at h3
  have H3 := Lib.hid h3
  clear h3 hwB L K z
  obtain ⟨L, K, z⟩ := H3.out.s1.look
  have HX := Lib.hid (fun (wx : World) (hx : Below wB.heap.size wB wx) => (hx.cell (p := ⟨x, 3, none⟩) z).trans (L 3))
  have HC := Lib.hid (fun (wx : World) (hx : Below wB.heap.size wB wx) => here_b HH.out (H3.out.s1.grow hx))
  clear L K z
  generalize w2.heap.size = lb at *
  refine wp_region_order (fun wx => Below wB.heap.size wB wx) [] [] [0, 1, 2, 3, 4, 5, 6, 7, 8] [] [9] (by kernel_rfl) (by kernel_rfl) (Below.refl _ _).drew (by intro c a d v w h; cases d <;> exact h) ?_
  simp only [pick, List.filterMap_cons, List.filterMap_nil, List.getElem?_cons_zero, List.getElem?_cons_succ]
  refine wpPure_nil ?_
  refine wpLoads_nil ?_
  (repeat (with_reducible refine wpQuiet_step ?_; intro K hK; go_simp; first | (with_reducible refine hK _ ?_; clear hK K) | (rw [if_neg (by decide)]; with_reducible refine hK _ ?_; clear hK K) | (refine ⟨_, fun wx hx => (by have f0 := HX.out wx hx; go_simp; with_reducible rfl), hK _ ?_⟩; clear hK K) | (refine ⟨_, fun wx hx => (by with_reducible refine (HC.out wx hx).mono ?_; rintro e w' ⟨rfl, h2⟩; exact ⟨rfl, hx.trans (h2.mono hx.size)⟩), hK _ ?_⟩; clear hK K) | (refine ⟨_, fun _ _ => rfl, hK _ ?_⟩; clear hK K))); with_reducible refine wpQuiet_nil ?_
  intro w3 b3
  have H4 := Lib.hid (H3.out.grow b3)
  clear b3 HX HC H3
  refine wpKeep_nil ?_
  obtain ⟨L, K, z⟩ := H4.out.s2.look
  have hq := (L s.here).trans HVA.out
  clear L
  go_wp2
  go_end0
  refine ⟨rfl, ?_⟩
  obtain ⟨hvs, hv1, hat⟩ := HV.out
  -- H4: change, disk, tracks' slices, tracks, last, new
  have S5 := tracks_swap2 (v' := .slice A' t'.length c') (t' := t') hvs hat hv1 (F := cel lb #[.int .i64 (s.here : Int), .slice A0 s.recs.length c0, .int .i64 n] 259 :: cel x (dkCells s tb (some ⟨lb, 0, none⟩) was) 173 :: lastS lp s.last :: F) (H4.out.s5.s4.s4)
  -- old track, tracks, change, disk, last
  have S6 := last_close S5.s2
  have S7 := S6.s3.drop
  have hd : dkCells (dkChange s t' n) tb (some ⟨lb, 0, none⟩) was = dkCells s tb (some ⟨lb, 0, none⟩) was := by simp [dkCells, dkChange, List.length_set]
  exact diskW_close (s := dkChange s t' n) (tb := tb) (lp := some ⟨lb, 0, none⟩) (by rw [hd]; exact S7.s2.s2.s1)
end
end Go.Proofs.YtfhpaehfihnjaaaGreat.D
namespace Go.Proofs.YtfhpaehfihnjaaaGreat.D
open Go.RowKit
section
variable {W w : World} {F : List SA} {x tb : Nat} {s : DK} {lp : Option Addr} {was : Bool}
theorem sel_open (h : s.ok) (S : SL W (diskW x s was :: F) w) : ∃ (tb : Nat) (lp : Option Addr) (vs : List Value) (A0 : Option Addr) (c0 : Nat), vs.length = s.tracks.length ∧ vs.toArray[s.here]? = some (.slice A0 s.recs.length c0) ∧ (List.zipWith recsS vs s.tracks)[s.here]? = some (recsS (.slice A0 s.recs.length c0) s.recs) ∧ s.recs.length ≤ c0 ∧ c0 ≤ maxLen ∧
    SL W (cel x (dkCells s tb lp was) 173 :: cel tb vs.toArray 155 :: star (List.zipWith recsS vs s.tracks) :: lastS lp s.last :: F) w := by
  obtain ⟨tb, lp, S0⟩ := diskW_open S
  obtain ⟨vs, hvs, S1⟩ := tracks_open S0.s1
  obtain ⟨v, hv1, hv2⟩ := zip_get hvs h.at_
  obtain ⟨A0, c0, rfl, hlc, hcm⟩ := recsS_len (S1.s1.take hv2)
  exact ⟨tb, lp, vs, A0, c0, hvs, by simpa using hv1, hv2, hlc, hcm, S1.s2⟩
theorem sel_close {vs : List Value} (hv : vs.length = s.tracks.length) (S : SL W (cel x (dkCells s tb lp was) 173 :: cel tb vs.toArray 155 :: star (List.zipWith recsS vs s.tracks) :: lastS lp s.last :: F) w) : SL W (diskW x s was :: F) w :=
  diskW_close (tracks_close hv S.b2).s1
theorem erase_any (A : Option Addr) (n c : Nat) (h : s.ok) (hl : s.last = none) (S : SL W (diskW x s was :: F) w) : Calls Tryz.prog 222 #[.pointer (some ⟨x, 0, none⟩), .slice A n c] w (RetM W F x (dkErase s)) := by
  have HS := Lib.hid S
  have HH := Lib.hid (And.intro h hl)
  clear S h hl
  (go_enter Tryz.func222, Tryz.ntmps222; go_upto_region 1 with fail; refine name_world (P := Code.wp _ _ _ _) ?_; intro wA hwA; have H1 := Lib.hid (SL.cast hwA (HS.out.allocC #[.slice none 0 0, .int .i64 0, .int .i64 0] 55)); clear hwA HS; generalize w.heap.size = rb at *)
  go_wp2_with fail
  refine (change_any (.slice none 0 0) [] 0 HH.out.1 HH.out.2 (recsS_close (ps := []) (H1.out.empty.nil _ _)).s2).mono ?_
  rintro e w2 ⟨rfl, S2⟩
  obtain ⟨tb, lp, S3⟩ := diskW_open S2
  have H3 := Lib.hid S3
  clear S2 S3 H1
  obtain ⟨L, K, z⟩ := H3.out.look
  go_wp2_with fail
  refine name_world (P := fun W => Calls _ _ _ W _) ?_; intro wd hwd
  have H4 := Lib.hid (SL.cast hwd (H3.out.set (off := 6) (v := .int .i64 0) (cs' := dkCells { dkChange s [] 0 with next := 0 } tb lp was) rfl).s3)
  clear hwd H3 L K z
  refine (done_any _ _ _ _).mono ?_
  rintro e w9 ⟨rfl, b9⟩
  have H9 := Lib.hid (H4.out.grow b9)
  clear b9 H4
  (obtain ⟨L, K, z⟩ := H9.out.look; go_wp2; refine bodyPost_ret (v := .agg #[.slice none 0 0, .int .i64 12, .int .i64 0]) (by simp [results, Tryz.results222, go_sem, L]) rfl ?_)
  exact RetM.of (diskW_close (s := { dkChange s [] 0 with next := 0 }) H9.out.set3.drop)
set_option maxHeartbeats 8000000 in
theorem byKey_any (A : Option Addr) (b : List UInt8) (c : Nat) (hi : Bool) (hd : CardB W F A b c) (h : s.ok) (S : SL W (diskW x s was :: F) w) : Calls Tryz.prog 240 #[.pointer (some ⟨x, 0, none⟩), .slice A b.length c, .bool hi] w (RetM W F x (dkKey s b hi)) := by
  obtain ⟨tb, lp, vs, A0, c0, hv0, hva, hvz, hlc, hcm, S1⟩ := sel_open h S
  have HS := Lib.hid S1
  have HV := Lib.hid hv0
  have HVZ := Lib.hid (And.intro hva hvz)
  have HH := Lib.hid h
  have HD := Lib.hid hd
  have hbl : b.length ≤ 9223372036854775807 := by have := (hd w S.drop).2; unfold maxLen at this; omega
  have HDK := Lib.hid (show dkKey s b hi = if b.length < 1 ∨ 255 < b.length then dkCheck s 128 else match searchN s.recs 0 b hi with
    | some i => dkHit s i
    | none => dkCheck s 2 from rfl)
  clear S S1 hd h hv0 hva hvz
  by_cases h0 : b.length < 1 ∨ 255 < b.length
  · have HR := Lib.hid (show dkKey s b hi = dkCheck s 128 by rw [HDK.out, if_pos h0])
    (go_enter Tryz.func240, Tryz.ntmps240; go_upto_region 1 with fail; refine name_world (P := Code.wp _ _ _ _) ?_; intro wA hwA; have H1 := Lib.hid (SL.cast hwA (HS.out.allocC #[.slice none 0 0, .int .i64 0, .int .i64 0] 55)); clear hwA HS; generalize w.heap.size = rb at *)
    by_cases h1 : b.length < 1
    · have t1 : ((b.length : Int) < 1) := by omega
      clear h0 h1
      go_wp2_with fail
      (refine (check_any 128 H1.out.s1).mono ?_; rintro e w9 ⟨rfl, S9⟩; have H9 := Lib.hid S9.s1; clear S9; (obtain ⟨L, K, z⟩ := H9.out.look; go_wp2; refine bodyPost_ret (v := .agg #[.slice none 0 0, .int .i64 14, .int .i64 128]) (by simp [results, Tryz.results240, go_sem, L]) rfl ?_); rw [HR.out]; exact RetM.of (sel_close HV.out H9.out.set3.drop))
    · have t1 : ¬ ((b.length : Int) < 1) := by omega
      have t2 : ((255 : Int) < (b.length : Int)) := by omega
      clear h0 h1
      go_wp2_with fail
      (refine (check_any 128 H1.out.s1).mono ?_; rintro e w9 ⟨rfl, S9⟩; have H9 := Lib.hid S9.s1; clear S9; (obtain ⟨L, K, z⟩ := H9.out.look; go_wp2; refine bodyPost_ret (v := .agg #[.slice none 0 0, .int .i64 14, .int .i64 128]) (by simp [results, Tryz.results240, go_sem, L]) rfl ?_); rw [HR.out]; exact RetM.of (sel_close HV.out H9.out.set3.drop))
  · have HDE := Lib.hid (show dkKey s b hi = match searchN s.recs 0 b hi with
      | some i => dkHit s i
      | none => dkCheck s 2 by rw [HDK.out, if_neg h0])
    have t1 : ¬ ((b.length : Int) < 1) := by omega
    have t2 : ¬ ((255 : Int) < (b.length : Int)) := by omega
    clear h0 HDK
    (go_enter Tryz.func240, Tryz.ntmps240; go_upto_region 1 with fail; refine name_world (P := Code.wp _ _ _ _) ?_; intro wA hwA; have H1 := Lib.hid (SL.cast hwA (HS.out.allocC #[.slice none 0 0, .int .i64 0, .int .i64 0] 55)); clear hwA HS; generalize w.heap.size = rb at *)
    go_wp2_with fail
    refine (records_any HH.out ((H1.out.s2.look.1 s.here).trans HVZ.out.1) H1.out.s1).mono ?_
    rintro e w2 ⟨rfl, b2⟩
    have H2 := Lib.hid (H1.out.grow b2)
    clear b2 H1
    have HCS := Lib.hid (search_any A0 s.recs c0 0 A b c hi w2 (recsS_at (H2.out.s3.take HVZ.out.2)) hlc hcm (HD.out w2 H2.out.drop.drop.drop.drop.drop))
    generalize searchN s.recs 0 b hi = q at *
    go_wp2_with fail
    refine HCS.out.mono ?_
    rintro e w3 ⟨rfl, b3⟩
    have H3 := Lib.hid (H2.out.grow b3)
    clear b3 H2 HCS
    cases q with
    | none =>
      have HR := Lib.hid (show dkKey s b hi = dkCheck s 2 from HDE.out)
      simp only [Option.getD_none, Option.isSome_none]
      go_wp2_with fail
      (refine (check_any 2 H3.out.s1).mono ?_; rintro e w9 ⟨rfl, S9⟩; have H9 := Lib.hid S9.s1; clear S9; (obtain ⟨L, K, z⟩ := H9.out.look; go_wp2; refine bodyPost_ret (v := .agg #[.slice none 0 0, .int .i64 14, .int .i64 2]) (by simp [results, Tryz.results240, go_sem, L]) rfl ?_); rw [HR.out]; exact RetM.of (sel_close HV.out H9.out.set3.drop))
    | some i =>
      have HR := Lib.hid (show dkKey s b hi = dkHit s i from HDE.out)
      simp only [Option.getD_some, Option.isSome_some]
      go_wp2_with fail
      (refine (hit_any i H3.out.s1).mono ?_; rintro e w9 ⟨rfl, S9⟩; have H9 := Lib.hid S9.s1; clear S9; (obtain ⟨L, K, z⟩ := H9.out.look; go_wp2; refine bodyPost_ret (v := .agg #[.slice none 0 0, .int .i64 76, .int .i64 0]) (by simp [results, Tryz.results240, go_sem, L]) rfl ?_); rw [HR.out]; exact RetM.of (sel_close HV.out H9.out.set3.drop))
theorem searchKey_any (A : Option Addr) (b : List UInt8) (c : Nat) (hd : CardB W F A b c) (h : s.ok) (S : SL W (diskW x s was :: F) w) : Calls Tryz.prog 225 #[.pointer (some ⟨x, 0, none⟩), .slice A b.length c] w (RetM W F x (dkKey s b false)) := by
  have HS := Lib.hid S
  have HD := Lib.hid hd
  clear S hd
  ((go_enter Tryz.func225, Tryz.ntmps225; go_upto_region 1 with fail; refine name_world (P := Code.wp _ _ _ _) ?_; intro wA hwA; have H1 := Lib.hid (SL.cast hwA (HS.out.allocC #[.slice none 0 0, .int .i64 0, .int .i64 0] 55)); clear hwA HS; generalize w.heap.size = rb at *); have hdA : CardB W (cel rb #[.slice none 0 0, .int .i64 0, .int .i64 0] 55 :: F) A b c := fun w S => HD.out w S.drop; go_wp2_with fail; refine (byKey_any A b c false hdA h H1.out.s1).mono ?_; rintro e w9 ⟨A9, c9, rfl, S9⟩; have H9 := Lib.hid S9.s2; clear S9; obtain ⟨L, K, z⟩ := H9.out.look; go_wp2; refine bodyPost_ret (by simp [results, Tryz.results225, go_sem, L]; rfl) rfl ?_; exact ⟨A9, c9, rfl, H9.out.set3.drop⟩)
theorem searchKeyHigh_any (A : Option Addr) (b : List UInt8) (c : Nat) (hd : CardB W F A b c) (h : s.ok) (S : SL W (diskW x s was :: F) w) : Calls Tryz.prog 226 #[.pointer (some ⟨x, 0, none⟩), .slice A b.length c] w (RetM W F x (dkKey s b true)) := by
  have HS := Lib.hid S
  have HD := Lib.hid hd
  clear S hd
  ((go_enter Tryz.func226, Tryz.ntmps226; go_upto_region 1 with fail; refine name_world (P := Code.wp _ _ _ _) ?_; intro wA hwA; have H1 := Lib.hid (SL.cast hwA (HS.out.allocC #[.slice none 0 0, .int .i64 0, .int .i64 0] 55)); clear hwA HS; generalize w.heap.size = rb at *); have hdA : CardB W (cel rb #[.slice none 0 0, .int .i64 0, .int .i64 0] 55 :: F) A b c := fun w S => HD.out w S.drop; go_wp2_with fail; refine (byKey_any A b c true hdA h H1.out.s1).mono ?_; rintro e w9 ⟨A9, c9, rfl, S9⟩; have H9 := Lib.hid S9.s2; clear S9; obtain ⟨L, K, z⟩ := H9.out.look; go_wp2; refine bodyPost_ret (by simp [results, Tryz.results226, go_sem, L]; rfl) rfl ?_; exact ⟨A9, c9, rfl, H9.out.set3.drop⟩)
end
end Go.Proofs.YtfhpaehfihnjaaaGreat.D
namespace Go.Proofs.YtfhpaehfihnjaaaGreat.D
open Go.RowKit
theorem find_first {α : Type} {p : α → Bool} {l : List α} {k : Nat} {y : α} (h : ∀ j z, j < k → l[j]? = some z → p z = false) (hy : l[k]? = some y) (hp : p y = true) : l.findIdx? p = some k := by
  obtain ⟨hk, rfl⟩ := List.getElem?_eq_some_iff.1 hy
  exact List.findIdx?_eq_some_iff_getElem.2 ⟨hk, hp, fun j hj => by
    rw [h j l[j] hj (List.getElem?_eq_getElem (by omega))]; simp⟩
theorem find_none {α : Type} {p : α → Bool} {l : List α} (h : ∀ j z, j < l.length → l[j]? = some z → p z = false) : l.findIdx? p = none := by
  rw [List.findIdx?_eq_none_iff]
  intro z hz
  obtain ⟨j, hj, rfl⟩ := List.getElem_of_mem hz
  exact h j _ hj (List.getElem?_eq_getElem hj)
section
variable {W w : World} {F : List SA} {x : Nat} {s : DK} {was : Bool}
set_option maxHeartbeats 16000000 in
theorem byID_any (A : Option Addr) (b : List UInt8) (c : Nat) (more : Int) (hm0 : 0 ≤ more) (hm1 : more ≤ 255) (hd : CardB W F A b c) (h : s.ok) (S : SL W (diskW x s was :: F) w) : Calls Tryz.prog 239 #[.pointer (some ⟨x, 0, none⟩), .slice A b.length c, .int .i64 more] w (RetM W F x (dkID s b more)) := by
  obtain ⟨tb, lp, vs, A0, c0, hv0, hva, hvz, hlc, hcm, S1⟩ := sel_open h S
  have HS := Lib.hid S1
  have HV := Lib.hid hv0
  have HVZ := Lib.hid (And.intro hva hvz)
  have HH := Lib.hid h
  have HDB := Lib.hid hd
  have hd0 := (hd w S.drop)
  have hbl : b.length ≤ 9223372036854775807 := by have := hd0.2; unfold maxLen at this; omega
  have hrl := h.rl
  have HDK := Lib.hid (show dkID s b more = if b.length ≠ 5 then dkCheck s 128 else
    if two b 0 = s.cyl ∧ two b 2 = s.head then
      match s.recs.findIdx? (fun r => decide (0 ≤ r.r - ((b[4]?.getD 0).toNat : Int)) && decide (r.r - ((b[4]?.getD 0).toNat : Int) ≤ more)) with
      | some i => dkHit s i
      | none => dkCheck s 2
    else dkCheck s 2 from rfl)
  clear S S1 hd h hv0 hva hvz
  by_cases h5 : b.length = 5
  · have H5 := Lib.hid h5
    have hc5 : 5 ≤ c := by have := hd0.2.1; omega
    have hcm2 : c ≤ 9223372036854775807 := by have := hd0.2.2; unfold maxLen at this; omega
    have hne : Lib.byteCells b ≠ [] := by intro e; have := congrArg List.length e; simp [Lib.byteCells] at this; subst this; simp at h5
    obtain ⟨g, off, rfl, _, _⟩ := hd0.1 hne
    have h4 : (b[4]?.getD 0) = b[4] := by rw [List.getElem?_eq_getElem (by omega)]; rfl
    have hb4 := byteCells_get b 4 (by omega)
    rw [h4] at HDK
    rw [h5]
    generalize b[4] = d4 at *
    have hd4 := d4.toNat_lt
    clear h5 hbl h4 hd0
    (go_enter Tryz.func239, Tryz.ntmps239; go_upto_region 1 with fail; refine name_world (P := Code.wp _ _ _ _) ?_; intro wA hwA; have H1 := Lib.hid (SL.cast hwA (HS.out.allocC #[.slice none 0 0, .int .i64 0, .int .i64 0] 55)); clear hwA HS; generalize w.heap.size = rb at *)
    have hdA := HDB.out wA H1.out.drop.drop.drop.drop.drop
    obtain ⟨g', off', e, _, hcell⟩ := hdA.1 hne
    injection e with e; injection e with e e'; subst e; subst e'
    have hk4 := hcell 4 _ hb4
    have hz0 := World.block_lt_of_cell? wA _ hk4
    have HK4 := Lib.hid (show ∀ wx, Below wA.heap.size wA wx → wx.cell? ⟨g, off + 4, none⟩ = some (.int .u8 (d4.toNat : Int)) from fun wx hx => (hx.cell (p := ⟨g, off + 4, none⟩) hz0).trans hk4)
    have HT0 := Lib.hid (fun (wx : World) (hx : Below wA.heap.size wA wx) => (two_any _ b 5 c wx (hdA.grow hx) H5.out.symm (by omega)).mono fun e w' k => (⟨k.1, k.2.below _⟩ : e = .returned (.int .i64 (two b 0 : Nat)) ∧ Below wx.heap.size wx w'))
    have HT2 := Lib.hid (fun (wx : World) (hx : Below wA.heap.size wA wx) => (two_any (some ⟨g, off + 2, none⟩) (b.drop 2) 3 (c - 2) wx ((hdA.drop 2 (by rw [H5.out]; omega) _ (fun _ => rfl)).grow hx) (by rw [List.length_drop, H5.out]) (by omega)).mono fun e w' k => (⟨by rw [k.1, two_drop], k.2.below _⟩ : e = .returned (.int .i64 (two b 2 : Nat)) ∧ Below wx.heap.size wx w'))
    generalize two b 0 = t0 at *
    generalize two b 2 = t2 at *
    obtain ⟨L, K, z⟩ := H1.out.s1.look
    have HX := Lib.hid (fun (wx : World) (hx : Below wA.heap.size wA wx) => (⟨(hx.cell (p := ⟨x, 4, none⟩) z).trans (L 4), (hx.cell (p := ⟨x, 5, none⟩) z).trans (L 5)⟩ : wx.cell? ⟨x, 4, none⟩ = some (.int .i64 (s.cyl : Int)) ∧ wx.cell? ⟨x, 5, none⟩ = some (.int .i64 (s.head : Int))))
    have e2 : (c = 2) = False := eq_false (by omega)
    have HDK5 := Lib.hid (show dkID s b more = if t0 = s.cyl ∧ t2 = s.head then
      match s.recs.findIdx? (fun r => decide (0 ≤ r.r - (d4.toNat : Int)) && decide (r.r - (d4.toNat : Int) ≤ more)) with
      | some i => dkHit s i
      | none => dkCheck s 2
      else dkCheck s 2 by rw [HDK.out, if_neg (by rw [H5.out]; omega)])
    clear hdA hcell hk4 hz0 L K z hne hb4 HDK
    by_cases h0 : t0 = s.cyl
    · by_cases h2 : t2 = s.head
      · have HDE := Lib.hid (show dkID s b more = match s.recs.findIdx? (fun r => decide (0 ≤ r.r - (d4.toNat : Int)) && decide (r.r - (d4.toNat : Int) ≤ more)) with
          | some i => dkHit s i
          | none => dkCheck s 2 by rw [HDK5.out, if_pos ⟨h0, h2⟩])
        have u0 : ((t0 : Int) == (s.cyl : Int)) = true := by rw [h0]; simp
        have u1 : ((t2 : Int) == (s.head : Int)) = true := by rw [h2]; simp
        clear h0 h2 HDK5
        go_upto_region 3 with fail
        refine wp_region_quiet (C := Below wA.heap.size wA) (by kernel_rfl) (by kernel_rfl) (Below.refl _ _).drew ?_
        (repeat (with_reducible refine wpQuiet_step ?_; intro K hK; go_simp; first | (with_reducible refine hK _ ?_; clear hK K) | (rw [if_neg (by decide)]; with_reducible refine hK _ ?_; clear hK K) | (refine ⟨_, fun wx hx => (by obtain ⟨f1, f2⟩ := HX.out wx hx; go_simp; with_reducible rfl), hK _ ?_⟩; clear hK K) | (first | (refine ⟨_, fun wx hx => (by with_reducible refine (HT0.out wx hx).mono ?_; rintro e w' ⟨rfl, h2⟩; exact ⟨rfl, hx.trans (h2.mono hx.size)⟩), hK _ ?_⟩; clear hK K) | (refine ⟨_, fun wx hx => (by with_reducible refine (HT2.out wx hx).mono ?_; rintro e w' ⟨rfl, h2⟩; exact ⟨rfl, hx.trans (h2.mono hx.size)⟩), hK _ ?_⟩; clear hK K)) | (refine ⟨_, fun _ _ => rfl, hK _ ?_⟩; clear hK K))); with_reducible refine wpQuiet_nil ?_
        intro w1 b1
        have H2 := Lib.hid (H1.out.grow b1)
        have B2 := Lib.hid b1
        clear b1 H1
        go_wp2_with fail
        refine (records_any HH.out ((H2.out.s2.look.1 s.here).trans HVZ.out.1) H2.out.s1).mono ?_
        rintro e w2 ⟨rfl, b2⟩
        have H3 := Lib.hid (H2.out.grow b2)
        have B3 := Lib.hid (B2.out.trans (b2.mono B2.out.size))
        clear b2 H2 B2
        have HRA := Lib.hid (recsS_at (H3.out.s3.take HVZ.out.2))
        go_wp2
        go_loopw [35] (fun i wr => ∃ k : Nat, k ≤ s.recs.length ∧ i = .int .i64 k ∧ (∀ j z, j < k → s.recs[j]? = some z → (decide (0 ≤ z.r - (d4.toNat : Int)) && decide (z.r - (d4.toNat : Int) ≤ more)) = false) ∧ Below w2.heap.size w2 wr) (fun i _ => s.recs.length - (intOf i).toNat)
        case atStart => exact ⟨0, Nat.zero_le _, rfl, (by intro j z hj; omega), Below.refl _ _⟩
        case round =>
          obtain ⟨k, hk, rfl, hall, b3⟩ := hrel
          have HA := Lib.hid hall
          have B4 := Lib.hid b3
          clear hall b3
          by_cases hlt : k < s.recs.length
          · have HLT := Lib.hid hlt
            have hy : s.recs[k]? = some s.recs[k] := List.getElem?_eq_getElem hlt
            have hyr := valid_rec HH.out.rv hy
            generalize s.recs[k] = y at hy hyr
            obtain ⟨g1, o1, Bk, dk, Bd, dd, hA, k0, k1, k2, k3, _, _⟩ := (HRA.out.grow B4.out) k y hy
            subst hA
            have HY := Lib.hid hy
            have k4 := HK4.out wr (B3.out.trans (B4.out.mono B3.out.size))
            obtain ⟨hr1, hr2, _, _⟩ := hyr
            clear hy
            go_upto_region 7 with fail
            refine name_world (P := Code.wp _ _ _ _) ?_
            intro wd hwd
            have H5b := Lib.hid (SL.cast hwd ((SL.start wr).allocC #[.int .i64 y.r, .slice Bk y.key.length dk, .slice Bd y.data.length dd, .bool y.bad] 188))
            have k5 := HK4.out wd (B3.out.trans ((B4.out.trans (H5b.out.below.mono B4.out.size)).mono B3.out.size))
            obtain ⟨L, K, z⟩ := H5b.out.look
            have e1 : IntKind.i64.wrap (y.r - (d4.toNat : Int)) = y.r - (d4.toNat : Int) := IntWalk.i64_in _ (by omega)
            clear hwd k0 k1 k2 k3 k4
            refine wp_region_quiet (C := fun wx => wx = wd.drew) (by kernel_rfl) (by kernel_rfl) rfl ?_
            (repeat (with_reducible refine wpQuiet_step ?_; intro K hK; go_simp; first | (with_reducible refine hK _ ?_; clear hK K) | (rw [if_neg (by decide)]; with_reducible refine hK _ ?_; clear hK K) | (refine ⟨_, fun wx hx => (by subst hx; go_simp; with_reducible rfl), hK _ ?_⟩; clear hK K) | fail | (refine ⟨_, fun _ _ => rfl, hK _ ?_⟩; clear hK K))); with_reducible refine wpQuiet_nil ?_
            intro w6 hw6
            have B6 := Lib.hid (show Below w2.heap.size w2 w6 by rw [hw6]; exact (B4.out.trans (H5b.out.below.mono B4.out.size)).drew)
            clear hw6 L K z k5 H5b B4
            by_cases g0 : 0 ≤ y.r - (d4.toNat : Int)
            · by_cases g1 : y.r - (d4.toNat : Int) ≤ more
              · have HR := Lib.hid (show dkID s b more = dkHit s k by rw [HDE.out, find_first HA.out HY.out (by simp [g1]; omega)])
                have H7 := Lib.hid (H3.out.grow B6.out)
                clear HA
                go_wp2_with fail
                (refine (hit_any k H7.out.s1).mono ?_; rintro e w9 ⟨rfl, S9⟩; have H9 := Lib.hid S9.s1; clear S9; (obtain ⟨L, K, z⟩ := H9.out.look; go_wp2; refine bodyPost_ret (v := .agg #[.slice none 0 0, .int .i64 76, .int .i64 0]) (by simp [results, Tryz.results239, go_sem, L]) rfl ?_); rw [HR.out]; exact RetM.of (sel_close HV.out H9.out.set3.drop))
              · skip
                have HA2 := Lib.hid (show ∀ j z, j < k + 1 → s.recs[j]? = some z → (decide (0 ≤ z.r - (d4.toNat : Int)) && decide (z.r - (d4.toNat : Int) ≤ more)) = false from fun j z hj hz => by
                  by_cases e : j < k
                  · exact HA.out j z e hz
                  · obtain rfl : j = k := by omega
                    rw [HY.out] at hz; injection hz with hz; subst hz
                    simp; omega)
                clear HA
                go_wp2
                go_roundw
                case rel => exact ⟨k + 1, HLT.out, by go_num, HA2.out, B6.out⟩
                case measure => have := HLT.out; simp [intOf]; omega
            · skip
              have HA2 := Lib.hid (show ∀ j z, j < k + 1 → s.recs[j]? = some z → (decide (0 ≤ z.r - (d4.toNat : Int)) && decide (z.r - (d4.toNat : Int) ≤ more)) = false from fun j z hj hz => by
                by_cases e : j < k
                · exact HA.out j z e hz
                · obtain rfl : j = k := by omega
                  rw [HY.out] at hz; injection hz with hz; subst hz
                  simp; omega)
              clear HA
              go_wp2
              go_roundw
              case rel => exact ⟨k + 1, HLT.out, by go_num, HA2.out, B6.out⟩
              case measure => have := HLT.out; simp [intOf]; omega
          · obtain rfl : k = s.recs.length := by omega
            have HR := Lib.hid (show dkID s b more = dkCheck s 2 by rw [HDE.out, find_none HA.out])
            have H4 := Lib.hid (H3.out.grow B4.out)
            clear HA
            go_wp2_with fail
            (refine (check_any 2 H4.out.s1).mono ?_; rintro e w9 ⟨rfl, S9⟩; have H9 := Lib.hid S9.s1; clear S9; (obtain ⟨L, K, z⟩ := H9.out.look; go_wp2; refine bodyPost_ret (v := .agg #[.slice none 0 0, .int .i64 14, .int .i64 2]) (by simp [results, Tryz.results239, go_sem, L]) rfl ?_); rw [HR.out]; exact RetM.of (sel_close HV.out H9.out.set3.drop))
      · have HR := Lib.hid (show dkID s b more = dkCheck s 2 by rw [HDK5.out, if_neg (fun e => h2 e.2)])
        have u0 : ((t0 : Int) == (s.cyl : Int)) = true := by rw [h0]; simp
        have u1 : ((t2 : Int) == (s.head : Int)) = false := by simp; omega
        clear h0 h2 HDK5
        go_upto_region 3 with fail
        refine wp_region_quiet (C := Below wA.heap.size wA) (by kernel_rfl) (by kernel_rfl) (Below.refl _ _).drew ?_
        (repeat (with_reducible refine wpQuiet_step ?_; intro K hK; go_simp; first | (with_reducible refine hK _ ?_; clear hK K) | (rw [if_neg (by decide)]; with_reducible refine hK _ ?_; clear hK K) | (refine ⟨_, fun wx hx => (by obtain ⟨f1, f2⟩ := HX.out wx hx; go_simp; with_reducible rfl), hK _ ?_⟩; clear hK K) | (first | (refine ⟨_, fun wx hx => (by with_reducible refine (HT0.out wx hx).mono ?_; rintro e w' ⟨rfl, h2⟩; exact ⟨rfl, hx.trans (h2.mono hx.size)⟩), hK _ ?_⟩; clear hK K) | (refine ⟨_, fun wx hx => (by with_reducible refine (HT2.out wx hx).mono ?_; rintro e w' ⟨rfl, h2⟩; exact ⟨rfl, hx.trans (h2.mono hx.size)⟩), hK _ ?_⟩; clear hK K)) | (refine ⟨_, fun _ _ => rfl, hK _ ?_⟩; clear hK K))); with_reducible refine wpQuiet_nil ?_
        intro w1 b1
        have H2 := Lib.hid (H1.out.grow b1)
        have B2 := Lib.hid b1
        clear b1 H1
        go_wp2_with fail
        (refine (check_any 2 H2.out.s1).mono ?_; rintro e w9 ⟨rfl, S9⟩; have H9 := Lib.hid S9.s1; clear S9; (obtain ⟨L, K, z⟩ := H9.out.look; go_wp2; refine bodyPost_ret (v := .agg #[.slice none 0 0, .int .i64 14, .int .i64 2]) (by simp [results, Tryz.results239, go_sem, L]) rfl ?_); rw [HR.out]; exact RetM.of (sel_close HV.out H9.out.set3.drop))
    · have HR := Lib.hid (show dkID s b more = dkCheck s 2 by rw [HDK5.out, if_neg (fun e => h0 e.1)])
      have u0 : ((t0 : Int) == (s.cyl : Int)) = false := by simp; omega
      clear h0 HDK5
      go_upto_region 3 with fail
      refine wp_region_quiet (C := Below wA.heap.size wA) (by kernel_rfl) (by kernel_rfl) (Below.refl _ _).drew ?_
      (repeat (with_reducible refine wpQuiet_step ?_; intro K hK; go_simp; first | (with_reducible refine hK _ ?_; clear hK K) | (rw [if_neg (by decide)]; with_reducible refine hK _ ?_; clear hK K) | (refine ⟨_, fun wx hx => (by obtain ⟨f1, f2⟩ := HX.out wx hx; go_simp; with_reducible rfl), hK _ ?_⟩; clear hK K) | (first | (refine ⟨_, fun wx hx => (by with_reducible refine (HT0.out wx hx).mono ?_; rintro e w' ⟨rfl, h2⟩; exact ⟨rfl, hx.trans (h2.mono hx.size)⟩), hK _ ?_⟩; clear hK K) | (refine ⟨_, fun wx hx => (by with_reducible refine (HT2.out wx hx).mono ?_; rintro e w' ⟨rfl, h2⟩; exact ⟨rfl, hx.trans (h2.mono hx.size)⟩), hK _ ?_⟩; clear hK K)) | (refine ⟨_, fun _ _ => rfl, hK _ ?_⟩; clear hK K))); with_reducible refine wpQuiet_nil ?_
      intro w1 b1
      have H2 := Lib.hid (H1.out.grow b1)
      have B2 := Lib.hid b1
      clear b1 H1
      go_wp2_with fail
      (refine (check_any 2 H2.out.s1).mono ?_; rintro e w9 ⟨rfl, S9⟩; have H9 := Lib.hid S9.s1; clear S9; (obtain ⟨L, K, z⟩ := H9.out.look; go_wp2; refine bodyPost_ret (v := .agg #[.slice none 0 0, .int .i64 14, .int .i64 2]) (by simp [results, Tryz.results239, go_sem, L]) rfl ?_); rw [HR.out]; exact RetM.of (sel_close HV.out H9.out.set3.drop))
  · have HR := Lib.hid (show dkID s b more = dkCheck s 128 by rw [HDK.out, if_pos h5])
    have t1 : ((b.length : Int) != 5) = true := by simp; omega
    clear h5
    (go_enter Tryz.func239, Tryz.ntmps239; go_upto_region 1 with fail; refine name_world (P := Code.wp _ _ _ _) ?_; intro wA hwA; have H1 := Lib.hid (SL.cast hwA (HS.out.allocC #[.slice none 0 0, .int .i64 0, .int .i64 0] 55)); clear hwA HS; generalize w.heap.size = rb at *)
    go_wp2_with fail
    (refine (check_any 128 H1.out.s1).mono ?_; rintro e w9 ⟨rfl, S9⟩; have H9 := Lib.hid S9.s1; clear S9; (obtain ⟨L, K, z⟩ := H9.out.look; go_wp2; refine bodyPost_ret (v := .agg #[.slice none 0 0, .int .i64 14, .int .i64 128]) (by simp [results, Tryz.results239, go_sem, L]) rfl ?_); rw [HR.out]; exact RetM.of (sel_close HV.out H9.out.set3.drop))
theorem searchID_any (A : Option Addr) (b : List UInt8) (c : Nat) (hd : CardB W F A b c) (h : s.ok) (S : SL W (diskW x s was :: F) w) : Calls Tryz.prog 223 #[.pointer (some ⟨x, 0, none⟩), .slice A b.length c] w (RetM W F x (dkID s b 0)) := by
  have HS := Lib.hid S
  have HD := Lib.hid hd
  clear S hd
  ((go_enter Tryz.func223, Tryz.ntmps223; go_upto_region 1 with fail; refine name_world (P := Code.wp _ _ _ _) ?_; intro wA hwA; have H1 := Lib.hid (SL.cast hwA (HS.out.allocC #[.slice none 0 0, .int .i64 0, .int .i64 0] 55)); clear hwA HS; generalize w.heap.size = rb at *); have hdA : CardB W (cel rb #[.slice none 0 0, .int .i64 0, .int .i64 0] 55 :: F) A b c := fun w S => HD.out w S.drop; go_wp2_with fail; refine (byID_any A b c 0 (by omega) (by omega) hdA h H1.out.s1).mono ?_; rintro e w9 ⟨A9, c9, rfl, S9⟩; have H9 := Lib.hid S9.s2; clear S9; obtain ⟨L, K, z⟩ := H9.out.look; go_wp2; refine bodyPost_ret (by simp [results, Tryz.results223, go_sem, L]; rfl) rfl ?_; exact ⟨A9, c9, rfl, H9.out.set3.drop⟩)
theorem searchIDHigh_any (A : Option Addr) (b : List UInt8) (c : Nat) (hd : CardB W F A b c) (h : s.ok) (S : SL W (diskW x s was :: F) w) : Calls Tryz.prog 224 #[.pointer (some ⟨x, 0, none⟩), .slice A b.length c] w (RetM W F x (dkID s b 255)) := by
  have HS := Lib.hid S
  have HD := Lib.hid hd
  clear S hd
  ((go_enter Tryz.func224, Tryz.ntmps224; go_upto_region 1 with fail; refine name_world (P := Code.wp _ _ _ _) ?_; intro wA hwA; have H1 := Lib.hid (SL.cast hwA (HS.out.allocC #[.slice none 0 0, .int .i64 0, .int .i64 0] 55)); clear hwA HS; generalize w.heap.size = rb at *); have hdA : CardB W (cel rb #[.slice none 0 0, .int .i64 0, .int .i64 0] 55 :: F) A b c := fun w S => HD.out w S.drop; go_wp2_with fail; refine (byID_any A b c 255 (by omega) (by omega) hdA h H1.out.s1).mono ?_; rintro e w9 ⟨A9, c9, rfl, S9⟩; have H9 := Lib.hid S9.s2; clear S9; obtain ⟨L, K, z⟩ := H9.out.look; go_wp2; refine bodyPost_ret (by simp [results, Tryz.results224, go_sem, L]; rfl) rfl ?_; exact ⟨A9, c9, rfl, H9.out.set3.drop⟩)
end
end Go.Proofs.YtfhpaehfihnjaaaGreat.D
namespace Go.Proofs.YtfhpaehfihnjaaaGreat.D
open Go.RowKit
theorem pad_cells (b : List UInt8) (n : Nat) : splice (Lib.byteCells (List.replicate n 0)) 0 ((Lib.byteCells b).take n) = Lib.byteCells (padL b n) := by
  unfold splice padL
  simp only [List.take_zero, List.nil_append, Nat.zero_add, Lib.byteCells, List.map_append, List.map_take, List.map_replicate, List.length_take, List.length_map, List.drop_replicate]
  congr 2
  omega
theorem cnt_cells {c h : Nat} {y : Rec} (hc : c ≤ 255) (hh : h ≤ 255) (h1 : 1 ≤ y.r) (h2 : y.r ≤ 255) (h3 : y.key.length ≤ 255) (h4 : y.data.length ≤ 2016) : Lib.byteCells (cntL c h y) = [.int .u8 ((c : Int) / 256), .int .u8 (c : Int), .int .u8 ((h : Int) / 256), .int .u8 (h : Int), .int .u8 y.r, .int .u8 (y.key.length : Int), .int .u8 ((y.data.length : Int) / 256), .int .u8 ((y.data.length : Int) % 256)] := by
  have a1 := half_cells c (by omega)
  have a2 := half_cells h (by omega)
  have a3 := half_cells y.data.length (by omega)
  have e1 : (c : Int) % 256 = c := by omega
  have e2 : (h : Int) % 256 = h := by omega
  have e3 : ((UInt8.ofNat y.r.toNat).toNat : Int) = y.r := by rw [UInt8.toNat_ofNat']; omega
  have e4 : ((UInt8.ofNat y.key.length).toNat : Int) = y.key.length := by rw [UInt8.toNat_ofNat']; omega
  rw [e1] at a1
  rw [e2] at a2
  unfold cntL
  simp only [Lib.byteCells, List.map_append] at a1 a2 a3 ⊢
  rw [a1, a2, a3]
  simp only [List.map_cons, List.map_nil, e3, e4, List.cons_append, List.nil_append]
theorem cntL_len (c h : Nat) (y : Rec) : (cntL c h y).length = 8 := by simp [cntL, halfL]
theorem padL_len (b : List UInt8) (n : Nat) : (padL b n).length = n := by unfold padL; simp; omega
section
variable {W w : World} {F : List SA}
theorem padded_any (A : Option Addr) (b : List UInt8) (m c n : Nat) (hm : b.length = m) (hd : CardAt w A b c) (hn : n ≤ 1000000) (S : SL W F w) : Calls Tryz.prog 110 #[.slice A m c, .int .i64 (n : Int)] w fun e w' => ∃ g, e = .returned (.slice (some ⟨g, 0, none⟩) n n) ∧ SL W (rowS 5 1 (.slice (some ⟨g, 0, none⟩) n n) n (Lib.byteCells (padL b n)) :: F) w' ∧ Below w.heap.size w w' := by
  subst hm
  have HS := Lib.hid S
  have HD := Lib.hid hd
  have HW := Lib.hid (SL.start w)
  clear S hd
  go_enter Tryz.func110, Tryz.ntmps110
  go_wp2_with (first
    | (at_make; refine wpList_makeS rfl _ _ _ rfl bElem .i64 .i64 _ _ n rfl rfl rfl rfl (by omega) (by unfold maxLen; omega) HW.out ?_
       intro g w1 S1
       rw [← zeros_made] at S1
       have H1 := Lib.hid S1
       clear S1)
    | (refine wpList_copyS rfl _ _ _ _ rfl bElem g n n _ H1.out _ n n 0 rfl w1.heap.size A b.length c (Lib.byteCells b) rfl ((HD.out.grow H1.out.below).1) (byteCells_len b) (fun _ => rfl) (by omega) (byteCells_one b) ?_
       intro w2 S2
       rw [pad_cells] at S2
       have H2 := Lib.hid S2
       clear S2))
  go_ret
  exact ⟨g, rfl, HS.out.join H2.out, H2.out.below⟩
variable {x tb : Nat} {s : DK} {lp : Option Addr} {was : Bool}
set_option maxHeartbeats 8000000 in
theorem count_any (y : Rec) (Ak Ad : Option Addr) (ck cd : Nat) (hcy : s.cyl ≤ 64) (hhd : s.head ≤ 8) (hy : 1 ≤ y.r ∧ y.r ≤ 255 ∧ y.key.length ≤ 255 ∧ y.data.length ≤ 2016) (S : SL W (cel x (dkCells s tb lp was) 173 :: F) w) :
    Calls Tryz.prog 242 #[.pointer (some ⟨x, 0, none⟩), .agg #[.int .i64 y.r, .slice Ak y.key.length ck, .slice Ad y.data.length cd, .bool y.bad]] w fun e w' => ∃ g, e = .returned (.slice (some ⟨g, 0, none⟩) 8 8) ∧ SL W (rowS 5 1 (.slice (some ⟨g, 0, none⟩) 8 8) 8 (Lib.byteCells (cntL s.cyl s.head y)) :: cel x (dkCells s tb lp was) 173 :: F) w' ∧ Below w.heap.size w w' := by
  have HS := Lib.hid S
  clear S
  obtain ⟨hy1, hy2, hy3, hy4⟩ := hy
  go_enter Tryz.func242, Tryz.ntmps242
  go_upto_region 2 with fail
  refine name_world (P := Code.wp _ _ _ _) ?_
  intro wd hwd
  have H1 := Lib.hid (SL.cast hwd (HS.out.allocC #[.int .i64 y.r, .slice Ak y.key.length ck, .slice Ad y.data.length cd, .bool y.bad] 188))
  have hbd : Below w.heap.size w wd ∧ w.heap.size ≤ wd.heap.size := by rw [hwd]; exact ⟨(((Below.refl _ _).alloc (Nat.le_refl _) _)), by simp⟩
  have HBd := Lib.hid hbd
  clear hwd HS hbd
  generalize hbx : w.heap.size = bx at *
  have HBX := Lib.hid hbx
  clear hbx
  obtain ⟨L, K, z⟩ := H1.out.look
  obtain ⟨L2, K2, z2⟩ := H1.out.s1.look
  refine wp_region_order (fun wx => wx = wd.drew) [] [] [0, 1, 2, 3, 4, 5, 6, 7, 8, 9, 10, 11, 12, 13, 14, 15, 16, 17, 18, 19, 20, 21, 22, 23, 24, 25, 26, 27, 28, 29, 30, 31, 32, 33] [] [34, 35] (by kernel_rfl) (by kernel_rfl) rfl (by intro c a d v w h; cases d <;> exact h) ?_
  simp only [pick, List.filterMap_cons, List.filterMap_nil, List.getElem?_cons_zero, List.getElem?_cons_succ]
  refine wpPure_nil ?_
  refine wpLoads_nil ?_
  (repeat (with_reducible refine wpQuiet_step ?_; intro K hK; go_simp; first | (with_reducible refine hK _ ?_; clear hK K) | (rw [if_neg (by decide)]; with_reducible refine hK _ ?_; clear hK K) | (refine ⟨_, fun wx hx => (by subst hx; go_simp; with_reducible rfl), hK _ ?_⟩; clear hK K) | fail | (refine ⟨_, fun _ _ => rfl, hK _ ?_⟩; clear hK K))); with_reducible refine wpQuiet_nil ?_
  intro w2 hw2
  have H2 := Lib.hid (hw2 ▸ H1.out.drew : SL W _ w2)
  have HB2 := Lib.hid (show Below bx w w2 ∧ bx ≤ w2.heap.size by rw [hw2]; exact ⟨HBd.out.1.drew, HBd.out.2⟩)
  clear hw2 H1 L K z L2 K2 z2 HBd
  refine wpKeep_nil ?_
  go_wp2
  go_ret
  refine ⟨_, rfl, ?_, by rw [HBX.out]; exact HB2.out.1.alloc HB2.out.2 _⟩
  rw [cnt_cells (by omega) (by omega) hy1 hy2 hy3 hy4]
  exact H2.out.drop.lit #[.int .u8 ((s.cyl : Int) / 256), .int .u8 (s.cyl : Int), .int .u8 ((s.head : Int) / 256), .int .u8 (s.head : Int), .int .u8 y.r, .int .u8 (y.key.length : Int), .int .u8 ((y.data.length : Int) / 256), .int .u8 ((y.data.length : Int) % 256)] 5 1 8 rfl (by decide)
end
end Go.Proofs.YtfhpaehfihnjaaaGreat.D
namespace Go.Proofs.YtfhpaehfihnjaaaGreat.D
open Go.RowKit
section
variable {W w : World}
theorem rec_sel {L : List SA} {R : List SA} {i k n c0 : Nat} {A0 : Option Addr} {recs : List Rec} {y : Rec} (hz : L[i]? = some (recsS (.slice A0 n c0) recs)) (hy : recs[k]? = some y) (S : SL W (star L :: R) w) :
    ∃ (P : SA) (g ck cd : Nat) (Ak Ad : Option Addr), A0 = some ⟨g, 0, none⟩ ∧ SL W (P :: R) w ∧ (∀ R' w', SL W (P :: R') w' → SL W (star L :: R') w') ∧ (∀ R' w', SL W (P :: R') w' →
      w'.cell? ⟨g, k * 4, none⟩ = some (.int .i64 y.r) ∧ w'.cell? ⟨g, k * 4 + 1, none⟩ = some (.slice Ak y.key.length ck) ∧ w'.cell? ⟨g, k * 4 + 2, none⟩ = some (.slice Ad y.data.length cd) ∧ w'.cell? ⟨g, k * 4 + 3, none⟩ = some (.bool y.bad) ∧
      CardAt w' Ak y.key ck ∧ CardAt w' Ad y.data cd) := by
  have S1 := S.take hz
  have hl := (List.getElem?_eq_some_iff.1 hz).1
  obtain ⟨ps, hps, S2⟩ := recsS_open S1
  subst hps
  rw [List.getElem?_map] at hy
  obtain ⟨p, hp, rfl⟩ := Option.map_eq_some_iff.1 hy
  have hc := fun j (hj : j < 4) => recCells_get ps k j p hp hj
  have hmem : p ∈ ps := List.mem_iff_getElem?.2 ⟨k, hp⟩
  have hn : n = ps.length := by
    obtain ⟨A', c', e, _, _⟩ := recsS_len S1
    injection e with _ e _
    rw [e, List.length_map]
  subst hn
  obtain ⟨Ak, ck, Ad, cd, e1, _, _⟩ := recO_v S2.s1 p hmem
  obtain ⟨g, hA, _, _⟩ := S2.cellAt (j := k * 4 + 0) (u := .int .i64 p.2.r) (by rw [hc 0 (by omega)]; rfl)
  subst hA
  refine ⟨star [rowS 188 4 (.slice (some ⟨g, 0, none⟩) ps.length c0) ps.length (ps.flatMap recCells), star (ps.map recO), star (L.eraseIdx i)], g, ck, cd, Ak, Ad, rfl, S2.app (L := [_, _, _]), fun R' w' S' => ?_, fun R' w' S' => ?_⟩
  · have S3 := SL.put (recsS_close S'.spill) hl
    have he : L.set i (recsS (.slice (some ⟨g, 0, none⟩) ps.length c0) (ps.map Prod.snd)) = L := by
      apply List.ext_getElem?
      intro j
      rw [List.getElem?_set]
      split
      · rename_i e; subst e; first | exact hz.symm | rw [if_pos hl, hz]
      · rfl
    rw [he] at S3
    exact S3
  · have S3 := S'.spill
    obtain ⟨g0, e0, _, c0'⟩ := S3.cellAt (j := k * 4 + 0) (u := .int .i64 p.2.r) (by rw [hc 0 (by omega)]; rfl)
    obtain ⟨g1, e1', _, c1⟩ := S3.cellAt (j := k * 4 + 1) (u := p.1.1) (by rw [hc 1 (by omega)]; rfl)
    obtain ⟨g2, e2, _, c2⟩ := S3.cellAt (j := k * 4 + 2) (u := p.1.2) (by rw [hc 2 (by omega)]; rfl)
    obtain ⟨g3, e3, _, c3⟩ := S3.cellAt (j := k * 4 + 3) (u := .bool p.2.bad) (by rw [hc 3 (by omega)]; rfl)
    injection e0 with e0; injection e0 with e0; subst e0
    injection e1' with e1'; injection e1' with e1'; subst e1'
    injection e2 with e2; injection e2 with e2; subst e2
    injection e3 with e3; injection e3 with e3; subst e3
    have hv := recO_v S3.s1 p hmem
    obtain ⟨q1, q2⟩ := p
    simp only at e1
    subst e1
    obtain ⟨h1, h2⟩ := RecV.get (x := q2) hv
    exact ⟨c0', c1, c2, c3, h1, h2⟩
end
end Go.Proofs.YtfhpaehfihnjaaaGreat.D
namespace Go.Proofs.YtfhpaehfihnjaaaGreat.D
open Go.RowKit
def PartsR (w : World) (out : List UInt8) (e : Ending) (w' : World) : Prop :=
  ∃ (q : Nat) (ls : List (Value × List UInt8)), e = .returned (.slice (some ⟨q, 0, none⟩) ls.length ls.length) ∧ ls.length ≤ 3 ∧ (ls.flatMap Prod.snd) = out ∧ Below w.heap.size w w' ∧
    ∀ i v l, ls[i]? = some (v, l) → w'.cell? ⟨q, i, none⟩ = some v ∧ l.length ≤ 10000 ∧ ∃ A c, v = .slice A l.length c ∧ CardAt w' A l c
theorem flat_take {ls : List (Value × List UInt8)} {j : Nat} {v : Value} {l : List UInt8} (h : ls[j]? = some (v, l)) : (ls.take (j + 1)).flatMap Prod.snd = (ls.take j).flatMap Prod.snd ++ l := by
  rw [List.take_add_one, h]; simp
theorem fmap_len : ∀ {ls : List (Value × List UInt8)}, (∀ (i : Nat) (v : Value) (l : List UInt8), ls[i]? = some (v, l) → l.length ≤ 10000) → (ls.flatMap Prod.snd).length ≤ 10000 * ls.length
  | [], _ => by simp
  | a :: ls, h => by
    have h1 := fmap_len (ls := ls) fun i v l hi => h (i + 1) v l hi
    have h2 := h 0 a.1 a.2 rfl
    simp only [List.flatMap_cons, List.length_append, List.length_cons]; omega
end Go.Proofs.YtfhpaehfihnjaaaGreat.D
namespace Go.Proofs.YtfhpaehfihnjaaaGreat.D
open Go.RowKit
section
variable {W w : World} {F : List SA} {x : Nat} {s : DK} {was : Bool}
set_option maxHeartbeats 16000000 in
theorem readD_any (dbx : Nat) (cnt key : Bool) (h : s.ok) (S : SL W (diskW x s was :: F) w)
    (hp : ∀ (y : Rec) (Ak Ad : Option Addr) (ck cd : Nat) (s' : DK) (tb : Nat) (lp : Option Addr) (G : List SA) (wx : World), s'.cyl = s.cyl → s'.head = s.head → (1 ≤ y.r ∧ y.r ≤ 255 ∧ y.key.length ≤ 255 ∧ y.data.length ≤ 2016) → CardAt wx Ak y.key ck → CardAt wx Ad y.data cd → SL W (cel x (dkCells s' tb lp was) 173 :: (G ++ F)) wx →
      Calls Tryz.prog 244 #[.agg #[.int .i64 y.r, .slice Ak y.key.length ck, .slice Ad y.data.length cd, .bool y.bad]] wx (PartsR wx ((if cnt then cntL s.cyl s.head y else []) ++ (if key then y.key else []) ++ y.data))) :
    Calls Tryz.prog 243 #[.pointer (some ⟨x, 0, none⟩), .func (.func 244) #[] #[]] w (RetM W F x (dkRead s cnt key)) := by
  obtain ⟨tb, lp, vs, A0, c0, hv0, hva, hvz, hlc, hcm, S1⟩ := sel_open h S
  have HS := Lib.hid S1
  have HV := Lib.hid hv0
  have HVZ := Lib.hid (And.intro hva hvz)
  have HH := Lib.hid h
  have HP := Lib.hid hp
  have hrl := h.rl
  have hnx := h.nx
  have HDK := Lib.hid (show dkRead s cnt key = match s.recs[s.next]? with
    | none => dkCheck s 2
    | some x => if x.bad then dkCheck { s with next := s.next + 1 } 8
      else dkDone { s with next := s.next + 1 } ((if cnt then cntL s.cyl s.head x else []) ++ (if key then x.key else []) ++ x.data) from rfl)
  clear S S1 h hv0 hva hvz hp
  (go_enter Tryz.func243, Tryz.ntmps243; go_upto_region 1 with fail; refine name_world (P := Code.wp _ _ _ _) ?_; intro wA hwA; have H1 := Lib.hid (SL.cast hwA (HS.out.allocC #[.slice none 0 0, .int .i64 0, .int .i64 0] 55)); clear hwA HS; generalize w.heap.size = rb at *)
  go_wp2_with fail
  refine (records_any HH.out ((H1.out.s2.look.1 s.here).trans HVZ.out.1) H1.out.s1).mono ?_
  rintro e w2 ⟨rfl, b2⟩
  have H2 := Lib.hid (H1.out.grow b2)
  clear b2 H1
  obtain ⟨L, K, z⟩ := H2.out.s1.look
  by_cases hlt : s.next < s.recs.length
  · have hy : s.recs[s.next]? = some s.recs[s.next] := List.getElem?_eq_getElem hlt
    have hyr := valid_rec HH.out.rv hy
    generalize s.recs[s.next] = y at hy hyr
    have HY := Lib.hid (And.intro hy hyr)
    obtain ⟨PT, g1, ck, cd, Ak, Ad, hA, SP, hback, hrec⟩ := rec_sel HVZ.out.2 hy H2.out.s3
    subst hA
    obtain ⟨k0, k1, k2, k3, _, _⟩ := hrec _ _ SP
    -- PT, reply, disk, slices, last
    have H2b := Lib.hid SP
    have HB := Lib.hid (And.intro hback hrec)
    rw [hy] at HDK
    clear hy hyr SP hback hrec H2
    go_upto_region 5 with fail
    refine name_world (P := Code.wp _ _ _ _) ?_
    intro w3 hw3
    have H3 := Lib.hid (SL.cast hw3 (H2b.out.allocC #[.int .i64 y.r, .slice Ak y.key.length ck, .slice Ad y.data.length cd, .bool y.bad] 188))
    clear hw3 H2b k0 k1 k2 k3 L K z
    generalize w2.heap.size = bx at *
    obtain ⟨L, K, z⟩ := H3.out.s3.look
    go_upto_region 6 with fail
    refine name_world (P := Code.wp _ _ _ _) ?_
    intro w4 hw4
    -- disk, box, PT, reply, slices, last
    have H4 := Lib.hid (SL.cast hw4 (H3.out.s3.set (off := 6) (v := .int .i64 ((s.next : Int) + 1)) (cs' := dkCells { s with next := s.next + 1 } tb lp was) (by simp [dkCells])))
    clear hw4 H3 L K z
    obtain ⟨L, K, z⟩ := H4.out.s1.look
    obtain ⟨yr, ykey, ydata, ybad⟩ := y
    dsimp only at *
    cases ybad with
    | true =>
      have HR := Lib.hid (show dkRead s cnt key = dkCheck { s with next := s.next + 1 } 8 from HDK.out)
      go_wp2_with fail
      refine (check_any 8 H4.out).mono ?_
      rintro e w9 ⟨rfl, S9⟩
      have H9 := Lib.hid (S9.s1.drop.s2)
      clear S9 L K z
      (obtain ⟨L, K, z⟩ := H9.out.look; go_wp2; refine bodyPost_ret (v := .agg #[.slice none 0 0, .int .i64 14, .int .i64 8]) (by simp [results, Tryz.results243, go_sem, L]) rfl ?_)
      rw [HR.out]
      -- reply, disk, PT, slices, last
      exact RetM.of (sel_close HV.out (HB.out.1 _ _ H9.out.set3.drop.s1).b2)
    | false =>
      have HR := Lib.hid (show dkRead s cnt key = dkDone { s with next := s.next + 1 } ((if cnt then cntL s.cyl s.head ⟨yr, ykey, ydata, false⟩ else []) ++ (if key then ykey else []) ++ ydata) from HDK.out)
      have hcl := HP.out ⟨yr, ykey, ydata, false⟩ Ak Ad ck cd { s with next := s.next + 1 } tb lp [_, _, _, _, _] w4 rfl rfl HY.out.2 (HB.out.2 _ _ H4.out.s2).2.2.2.2.1 (HB.out.2 _ _ H4.out.s2).2.2.2.2.2 H4.out
      have HC := Lib.hid hcl
      clear hcl
      go_wp2_with fail
      refine HC.out.mono ?_
      rintro e w5 ⟨q, ls, rfl, hl3, hout, b5, hparts⟩
      have H5 := Lib.hid (H4.out.grow b5)
      have HPA := Lib.hid hparts
      have HO := Lib.hid hout
      have HT := Lib.hid (fmap_len fun i v l hi => (hparts i v l hi).2.1)
      clear b5 hparts hout H4 HC L K z
      go_wp2
      go_loopw [7, 43] (fun o i wr => ∃ (j : Nat) (Ao : Option Addr) (co n : Nat), j ≤ ls.length ∧ i = .int .i64 j ∧ o = .slice Ao n co ∧ n = ((ls.take j).flatMap Prod.snd).length ∧ SL w5 (rowS 5 1 (.slice Ao n co) n (Lib.byteCells ((ls.take j).flatMap Prod.snd)) :: []) wr) (fun _ i _ => ls.length - (intOf i).toNat)
      case atStart => exact ⟨0, none, 0, 0, Nat.zero_le _, rfl, rfl, rfl, (SL.start w5).nil _ _⟩
      case round =>
        obtain ⟨j, Ao, co, n, hj, rfl, rfl, hn, S6⟩ := hrel
        have H6 := Lib.hid S6
        have HN := Lib.hid hn
        clear S6 hn
        by_cases hlj : j < ls.length
        · have HLJ := Lib.hid hlj
          have hls : ls[j]? = some ls[j] := List.getElem?_eq_getElem hlj
          generalize ls[j] = vl at hls
          obtain ⟨v, l⟩ := vl
          obtain ⟨hc0, hl1, Ap, cp, rfl, hcard⟩ := HPA.out j v l hls
          have k6 := (H6.out.below.cell (p := ⟨q, j, none⟩) (World.block_lt_of_cell? w5 _ hc0)).trans hc0
          have HCD := Lib.hid (hcard.grow H6.out.below)
          have HF := Lib.hid (flat_take hls)
          have htot : n + l.length ≤ 40000 := by
            have h1 := HT.out
            have h2 : ((ls.take j).flatMap Prod.snd).length ≤ (ls.flatMap Prod.snd).length := by
              have e := congrArg List.length (congrArg (List.flatMap Prod.snd) (List.take_append_drop j ls))
              rw [List.flatMap_append, List.length_append] at e; omega
            rw [HN.out]; omega
          have HLL := Lib.hid hl1
          clear hls hc0 hcard hl1
          go_wp2_with (at_builtin; refine wpList_appS rfl _ _ _ rfl bElem _ n _ rfl H6.out _ Ap l.length cp (Lib.byteCells l) rfl HCD.out.1 (by rw [byteCells_len, Nat.mul_one]) (byteCells_one l) (by unfold maxLen; omega) (by omega) ?_
                       intro A7 c7 w7 S7
                       have H7 := Lib.hid S7
                       clear S7 H6)
          go_roundw
          case rel => exact ⟨j + 1, A7, c7, n + l.length, HLJ.out, by go_num, rfl, by rw [HF.out, List.length_append, HN.out], by rw [HF.out]; have h := H7.out; simp only [Lib.byteCells, List.map_append] at h ⊢; exact h⟩
          case measure => have := HLJ.out; simp [intOf]; omega
        · obtain rfl : j = ls.length := by omega
          have hts : ls.take ls.length = ls := List.take_of_length_le (Nat.le_refl _)
          rw [hts] at H6 HN
          obtain ⟨out, hout⟩ : ∃ out, out = ls.flatMap Prod.snd := ⟨_, rfl⟩
          have hn := HN.out
          rw [← hout] at H6 HO hn
          subst hn
          clear hout
          have H7 := Lib.hid (H5.out.join H6.out)
          clear H5 H6 hts
          go_wp2_with fail
          refine (done_any _ _ _ _).mono ?_
          rintro e w9 ⟨rfl, b9⟩
          -- out, disk, box, PT, reply, slices, last
          have H9 := Lib.hid ((H7.out.grow b9).s4)
          clear b9 H7
          (obtain ⟨L, K, z⟩ := H9.out.look; go_wp2; refine bodyPost_ret (v := .agg #[.slice Ao out.length co, .int .i64 12, .int .i64 0]) (by simp [results, Tryz.results243, go_sem, L]) rfl ?_)
          rw [HR.out, ← HO.out]
          exact ⟨Ao, co, rfl, (disk_close (sel_close (s := { s with next := s.next + 1 }) HV.out (HB.out.1 _ _ H9.out.set3.drop.s2.drop.s2).s3.s3.s4.b3)).s1⟩
  · have hn : s.recs[s.next]? = none := List.getElem?_eq_none (by omega)
    have HR := Lib.hid (show dkRead s cnt key = dkCheck s 2 by rw [HDK.out, hn])
    clear hn
    go_wp2_with fail
    (refine (check_any 2 H2.out.s1).mono ?_; rintro e w9 ⟨rfl, S9⟩; have H9 := Lib.hid S9.s1; clear S9; (obtain ⟨L, K, z⟩ := H9.out.look; go_wp2; refine bodyPost_ret (v := .agg #[.slice none 0 0, .int .i64 14, .int .i64 2]) (by simp [results, Tryz.results243, go_sem, L]) rfl ?_); rw [HR.out]; exact RetM.of (sel_close HV.out H9.out.set3.drop))
end
end Go.Proofs.YtfhpaehfihnjaaaGreat.D
namespace Go.Proofs.YtfhpaehfihnjaaaGreat.D
open Go.RowKit
section
variable {W w : World} {F : List SA} {x : Nat} {s : DK} {was : Bool}
set_option maxHeartbeats 16000000 in
theorem readK_any (dbx : Nat) (cnt key : Bool) (h : s.ok) (S : SL W (diskW x s was :: F) w)
    (hp : ∀ (y : Rec) (Ak Ad : Option Addr) (ck cd : Nat) (s' : DK) (tb : Nat) (lp : Option Addr) (G : List SA) (wx : World), s'.cyl = s.cyl → s'.head = s.head → (1 ≤ y.r ∧ y.r ≤ 255 ∧ y.key.length ≤ 255 ∧ y.data.length ≤ 2016) → CardAt wx Ak y.key ck → CardAt wx Ad y.data cd → SL W (cel x (dkCells s' tb lp was) 173 :: (G ++ F)) wx →
      Calls Tryz.prog 245 #[.agg #[.int .i64 y.r, .slice Ak y.key.length ck, .slice Ad y.data.length cd, .bool y.bad]] wx (PartsR wx ((if cnt then cntL s.cyl s.head y else []) ++ (if key then y.key else []) ++ y.data))) :
    Calls Tryz.prog 243 #[.pointer (some ⟨x, 0, none⟩), .func (.func 245) #[] #[]] w (RetM W F x (dkRead s cnt key)) := by
  obtain ⟨tb, lp, vs, A0, c0, hv0, hva, hvz, hlc, hcm, S1⟩ := sel_open h S
  have HS := Lib.hid S1
  have HV := Lib.hid hv0
  have HVZ := Lib.hid (And.intro hva hvz)
  have HH := Lib.hid h
  have HP := Lib.hid hp
  have hrl := h.rl
  have hnx := h.nx
  have HDK := Lib.hid (show dkRead s cnt key = match s.recs[s.next]? with
    | none => dkCheck s 2
    | some x => if x.bad then dkCheck { s with next := s.next + 1 } 8
      else dkDone { s with next := s.next + 1 } ((if cnt then cntL s.cyl s.head x else []) ++ (if key then x.key else []) ++ x.data) from rfl)
  clear S S1 h hv0 hva hvz hp
  (go_enter Tryz.func243, Tryz.ntmps243; go_upto_region 1 with fail; refine name_world (P := Code.wp _ _ _ _) ?_; intro wA hwA; have H1 := Lib.hid (SL.cast hwA (HS.out.allocC #[.slice none 0 0, .int .i64 0, .int .i64 0] 55)); clear hwA HS; generalize w.heap.size = rb at *)
  go_wp2_with fail
  refine (records_any HH.out ((H1.out.s2.look.1 s.here).trans HVZ.out.1) H1.out.s1).mono ?_
  rintro e w2 ⟨rfl, b2⟩
  have H2 := Lib.hid (H1.out.grow b2)
  clear b2 H1
  obtain ⟨L, K, z⟩ := H2.out.s1.look
  by_cases hlt : s.next < s.recs.length
  · have hy : s.recs[s.next]? = some s.recs[s.next] := List.getElem?_eq_getElem hlt
    have hyr := valid_rec HH.out.rv hy
    generalize s.recs[s.next] = y at hy hyr
    have HY := Lib.hid (And.intro hy hyr)
    obtain ⟨PT, g1, ck, cd, Ak, Ad, hA, SP, hback, hrec⟩ := rec_sel HVZ.out.2 hy H2.out.s3
    subst hA
    obtain ⟨k0, k1, k2, k3, _, _⟩ := hrec _ _ SP
    -- PT, reply, disk, slices, last
    have H2b := Lib.hid SP
    have HB := Lib.hid (And.intro hback hrec)
    rw [hy] at HDK
    clear hy hyr SP hback hrec H2
    go_upto_region 5 with fail
    refine name_world (P := Code.wp _ _ _ _) ?_
    intro w3 hw3
    have H3 := Lib.hid (SL.cast hw3 (H2b.out.allocC #[.int .i64 y.r, .slice Ak y.key.length ck, .slice Ad y.data.length cd, .bool y.bad] 188))
    clear hw3 H2b k0 k1 k2 k3 L K z
    generalize w2.heap.size = bx at *
    obtain ⟨L, K, z⟩ := H3.out.s3.look
    go_upto_region 6 with fail
    refine name_world (P := Code.wp _ _ _ _) ?_
    intro w4 hw4
    -- disk, box, PT, reply, slices, last
    have H4 := Lib.hid (SL.cast hw4 (H3.out.s3.set (off := 6) (v := .int .i64 ((s.next : Int) + 1)) (cs' := dkCells { s with next := s.next + 1 } tb lp was) (by simp [dkCells])))
    clear hw4 H3 L K z
    obtain ⟨L, K, z⟩ := H4.out.s1.look
    obtain ⟨yr, ykey, ydata, ybad⟩ := y
    dsimp only at *
    cases ybad with
    | true =>
      have HR := Lib.hid (show dkRead s cnt key = dkCheck { s with next := s.next + 1 } 8 from HDK.out)
      go_wp2_with fail
      refine (check_any 8 H4.out).mono ?_
      rintro e w9 ⟨rfl, S9⟩
      have H9 := Lib.hid (S9.s1.drop.s2)
      clear S9 L K z
      (obtain ⟨L, K, z⟩ := H9.out.look; go_wp2; refine bodyPost_ret (v := .agg #[.slice none 0 0, .int .i64 14, .int .i64 8]) (by simp [results, Tryz.results243, go_sem, L]) rfl ?_)
      rw [HR.out]
      -- reply, disk, PT, slices, last
      exact RetM.of (sel_close HV.out (HB.out.1 _ _ H9.out.set3.drop.s1).b2)
    | false =>
      have HR := Lib.hid (show dkRead s cnt key = dkDone { s with next := s.next + 1 } ((if cnt then cntL s.cyl s.head ⟨yr, ykey, ydata, false⟩ else []) ++ (if key then ykey else []) ++ ydata) from HDK.out)
      have hcl := HP.out ⟨yr, ykey, ydata, false⟩ Ak Ad ck cd { s with next := s.next + 1 } tb lp [_, _, _, _, _] w4 rfl rfl HY.out.2 (HB.out.2 _ _ H4.out.s2).2.2.2.2.1 (HB.out.2 _ _ H4.out.s2).2.2.2.2.2 H4.out
      have HC := Lib.hid hcl
      clear hcl
      go_wp2_with fail
      refine HC.out.mono ?_
      rintro e w5 ⟨q, ls, rfl, hl3, hout, b5, hparts⟩
      have H5 := Lib.hid (H4.out.grow b5)
      have HPA := Lib.hid hparts
      have HO := Lib.hid hout
      have HT := Lib.hid (fmap_len fun i v l hi => (hparts i v l hi).2.1)
      clear b5 hparts hout H4 HC L K z
      go_wp2
      go_loopw [7, 43] (fun o i wr => ∃ (j : Nat) (Ao : Option Addr) (co n : Nat), j ≤ ls.length ∧ i = .int .i64 j ∧ o = .slice Ao n co ∧ n = ((ls.take j).flatMap Prod.snd).length ∧ SL w5 (rowS 5 1 (.slice Ao n co) n (Lib.byteCells ((ls.take j).flatMap Prod.snd)) :: []) wr) (fun _ i _ => ls.length - (intOf i).toNat)
      case atStart => exact ⟨0, none, 0, 0, Nat.zero_le _, rfl, rfl, rfl, (SL.start w5).nil _ _⟩
      case round =>
        obtain ⟨j, Ao, co, n, hj, rfl, rfl, hn, S6⟩ := hrel
        have H6 := Lib.hid S6
        have HN := Lib.hid hn
        clear S6 hn
        by_cases hlj : j < ls.length
        · have HLJ := Lib.hid hlj
          have hls : ls[j]? = some ls[j] := List.getElem?_eq_getElem hlj
          generalize ls[j] = vl at hls
          obtain ⟨v, l⟩ := vl
          obtain ⟨hc0, hl1, Ap, cp, rfl, hcard⟩ := HPA.out j v l hls
          have k6 := (H6.out.below.cell (p := ⟨q, j, none⟩) (World.block_lt_of_cell? w5 _ hc0)).trans hc0
          have HCD := Lib.hid (hcard.grow H6.out.below)
          have HF := Lib.hid (flat_take hls)
          have htot : n + l.length ≤ 40000 := by
            have h1 := HT.out
            have h2 : ((ls.take j).flatMap Prod.snd).length ≤ (ls.flatMap Prod.snd).length := by
              have e := congrArg List.length (congrArg (List.flatMap Prod.snd) (List.take_append_drop j ls))
              rw [List.flatMap_append, List.length_append] at e; omega
            rw [HN.out]; omega
          have HLL := Lib.hid hl1
          clear hls hc0 hcard hl1
          go_wp2_with (at_builtin; refine wpList_appS rfl _ _ _ rfl bElem _ n _ rfl H6.out _ Ap l.length cp (Lib.byteCells l) rfl HCD.out.1 (by rw [byteCells_len, Nat.mul_one]) (byteCells_one l) (by unfold maxLen; omega) (by omega) ?_
                       intro A7 c7 w7 S7
                       have H7 := Lib.hid S7
                       clear S7 H6)
          go_roundw
          case rel => exact ⟨j + 1, A7, c7, n + l.length, HLJ.out, by go_num, rfl, by rw [HF.out, List.length_append, HN.out], by rw [HF.out]; have h := H7.out; simp only [Lib.byteCells, List.map_append] at h ⊢; exact h⟩
          case measure => have := HLJ.out; simp [intOf]; omega
        · obtain rfl : j = ls.length := by omega
          have hts : ls.take ls.length = ls := List.take_of_length_le (Nat.le_refl _)
          rw [hts] at H6 HN
          obtain ⟨out, hout⟩ : ∃ out, out = ls.flatMap Prod.snd := ⟨_, rfl⟩
          have hn := HN.out
          rw [← hout] at H6 HO hn
          subst hn
          clear hout
          have H7 := Lib.hid (H5.out.join H6.out)
          clear H5 H6 hts
          go_wp2_with fail
          refine (done_any _ _ _ _).mono ?_
          rintro e w9 ⟨rfl, b9⟩
          -- out, disk, box, PT, reply, slices, last
          have H9 := Lib.hid ((H7.out.grow b9).s4)
          clear b9 H7
          (obtain ⟨L, K, z⟩ := H9.out.look; go_wp2; refine bodyPost_ret (v := .agg #[.slice Ao out.length co, .int .i64 12, .int .i64 0]) (by simp [results, Tryz.results243, go_sem, L]) rfl ?_)
          rw [HR.out, ← HO.out]
          exact ⟨Ao, co, rfl, (disk_close (sel_close (s := { s with next := s.next + 1 }) HV.out (HB.out.1 _ _ H9.out.set3.drop.s2.drop.s2).s3.s3.s4.b3)).s1⟩
  · have hn : s.recs[s.next]? = none := List.getElem?_eq_none (by omega)
    have HR := Lib.hid (show dkRead s cnt key = dkCheck s 2 by rw [HDK.out, hn])
    clear hn
    go_wp2_with fail
    (refine (check_any 2 H2.out.s1).mono ?_; rintro e w9 ⟨rfl, S9⟩; have H9 := Lib.hid S9.s1; clear S9; (obtain ⟨L, K, z⟩ := H9.out.look; go_wp2; refine bodyPost_ret (v := .agg #[.slice none 0 0, .int .i64 14, .int .i64 2]) (by simp [results, Tryz.results243, go_sem, L]) rfl ?_); rw [HR.out]; exact RetM.of (sel_close HV.out H9.out.set3.drop))
end
end Go.Proofs.YtfhpaehfihnjaaaGreat.D
namespace Go.Proofs.YtfhpaehfihnjaaaGreat.D
open Go.RowKit
section
variable {W w : World} {F : List SA} {x : Nat} {s : DK} {was : Bool}
set_option maxHeartbeats 16000000 in
theorem readR_any (dbx : Nat) (cnt key : Bool) (h : s.ok) (S : SL W (diskW x s was :: F) w)
    (hp : ∀ (y : Rec) (Ak Ad : Option Addr) (ck cd : Nat) (s' : DK) (tb : Nat) (lp : Option Addr) (G : List SA) (wx : World), s'.cyl = s.cyl → s'.head = s.head → (1 ≤ y.r ∧ y.r ≤ 255 ∧ y.key.length ≤ 255 ∧ y.data.length ≤ 2016) → CardAt wx Ak y.key ck → CardAt wx Ad y.data cd → SL W (cel x (dkCells s' tb lp was) 173 :: (G ++ F)) wx →
      Calls Tryz.prog 246 #[.agg #[.int .i64 y.r, .slice Ak y.key.length ck, .slice Ad y.data.length cd, .bool y.bad], .pointer (some ⟨dbx, 0, none⟩)] wx (PartsR wx ((if cnt then cntL s.cyl s.head y else []) ++ (if key then y.key else []) ++ y.data))) :
    Calls Tryz.prog 243 #[.pointer (some ⟨x, 0, none⟩), .func (.func 246) #[] #[.pointer (some ⟨dbx, 0, none⟩)]] w (RetM W F x (dkRead s cnt key)) := by
  obtain ⟨tb, lp, vs, A0, c0, hv0, hva, hvz, hlc, hcm, S1⟩ := sel_open h S
  have HS := Lib.hid S1
  have HV := Lib.hid hv0
  have HVZ := Lib.hid (And.intro hva hvz)
  have HH := Lib.hid h
  have HP := Lib.hid hp
  have hrl := h.rl
  have hnx := h.nx
  have HDK := Lib.hid (show dkRead s cnt key = match s.recs[s.next]? with
    | none => dkCheck s 2
    | some x => if x.bad then dkCheck { s with next := s.next + 1 } 8
      else dkDone { s with next := s.next + 1 } ((if cnt then cntL s.cyl s.head x else []) ++ (if key then x.key else []) ++ x.data) from rfl)
  clear S S1 h hv0 hva hvz hp
  (go_enter Tryz.func243, Tryz.ntmps243; go_upto_region 1 with fail; refine name_world (P := Code.wp _ _ _ _) ?_; intro wA hwA; have H1 := Lib.hid (SL.cast hwA (HS.out.allocC #[.slice none 0 0, .int .i64 0, .int .i64 0] 55)); clear hwA HS; generalize w.heap.size = rb at *)
  go_wp2_with fail
  refine (records_any HH.out ((H1.out.s2.look.1 s.here).trans HVZ.out.1) H1.out.s1).mono ?_
  rintro e w2 ⟨rfl, b2⟩
  have H2 := Lib.hid (H1.out.grow b2)
  clear b2 H1
  obtain ⟨L, K, z⟩ := H2.out.s1.look
  by_cases hlt : s.next < s.recs.length
  · have hy : s.recs[s.next]? = some s.recs[s.next] := List.getElem?_eq_getElem hlt
    have hyr := valid_rec HH.out.rv hy
    generalize s.recs[s.next] = y at hy hyr
    have HY := Lib.hid (And.intro hy hyr)
    obtain ⟨PT, g1, ck, cd, Ak, Ad, hA, SP, hback, hrec⟩ := rec_sel HVZ.out.2 hy H2.out.s3
    subst hA
    obtain ⟨k0, k1, k2, k3, _, _⟩ := hrec _ _ SP
    -- PT, reply, disk, slices, last
    have H2b := Lib.hid SP
    have HB := Lib.hid (And.intro hback hrec)
    rw [hy] at HDK
    clear hy hyr SP hback hrec H2
    go_upto_region 5 with fail
    refine name_world (P := Code.wp _ _ _ _) ?_
    intro w3 hw3
    have H3 := Lib.hid (SL.cast hw3 (H2b.out.allocC #[.int .i64 y.r, .slice Ak y.key.length ck, .slice Ad y.data.length cd, .bool y.bad] 188))
    clear hw3 H2b k0 k1 k2 k3 L K z
    generalize w2.heap.size = bx at *
    obtain ⟨L, K, z⟩ := H3.out.s3.look
    go_upto_region 6 with fail
    refine name_world (P := Code.wp _ _ _ _) ?_
    intro w4 hw4
    -- disk, box, PT, reply, slices, last
    have H4 := Lib.hid (SL.cast hw4 (H3.out.s3.set (off := 6) (v := .int .i64 ((s.next : Int) + 1)) (cs' := dkCells { s with next := s.next + 1 } tb lp was) (by simp [dkCells])))
    clear hw4 H3 L K z
    obtain ⟨L, K, z⟩ := H4.out.s1.look
    obtain ⟨yr, ykey, ydata, ybad⟩ := y
    dsimp only at *
    cases ybad with
    | true =>
      have HR := Lib.hid (show dkRead s cnt key = dkCheck { s with next := s.next + 1 } 8 from HDK.out)
      go_wp2_with fail
      refine (check_any 8 H4.out).mono ?_
      rintro e w9 ⟨rfl, S9⟩
      have H9 := Lib.hid (S9.s1.drop.s2)
      clear S9 L K z
      (obtain ⟨L, K, z⟩ := H9.out.look; go_wp2; refine bodyPost_ret (v := .agg #[.slice none 0 0, .int .i64 14, .int .i64 8]) (by simp [results, Tryz.results243, go_sem, L]) rfl ?_)
      rw [HR.out]
      -- reply, disk, PT, slices, last
      exact RetM.of (sel_close HV.out (HB.out.1 _ _ H9.out.set3.drop.s1).b2)
    | false =>
      have HR := Lib.hid (show dkRead s cnt key = dkDone { s with next := s.next + 1 } ((if cnt then cntL s.cyl s.head ⟨yr, ykey, ydata, false⟩ else []) ++ (if key then ykey else []) ++ ydata) from HDK.out)
      have hcl := HP.out ⟨yr, ykey, ydata, false⟩ Ak Ad ck cd { s with next := s.next + 1 } tb lp [_, _, _, _, _] w4 rfl rfl HY.out.2 (HB.out.2 _ _ H4.out.s2).2.2.2.2.1 (HB.out.2 _ _ H4.out.s2).2.2.2.2.2 H4.out
      have HC := Lib.hid hcl
      clear hcl
      go_wp2_with fail
      refine HC.out.mono ?_
      rintro e w5 ⟨q, ls, rfl, hl3, hout, b5, hparts⟩
      have H5 := Lib.hid (H4.out.grow b5)
      have HPA := Lib.hid hparts
      have HO := Lib.hid hout
      have HT := Lib.hid (fmap_len fun i v l hi => (hparts i v l hi).2.1)
      clear b5 hparts hout H4 HC L K z
      go_wp2
      go_loopw [7, 43] (fun o i wr => ∃ (j : Nat) (Ao : Option Addr) (co n : Nat), j ≤ ls.length ∧ i = .int .i64 j ∧ o = .slice Ao n co ∧ n = ((ls.take j).flatMap Prod.snd).length ∧ SL w5 (rowS 5 1 (.slice Ao n co) n (Lib.byteCells ((ls.take j).flatMap Prod.snd)) :: []) wr) (fun _ i _ => ls.length - (intOf i).toNat)
      case atStart => exact ⟨0, none, 0, 0, Nat.zero_le _, rfl, rfl, rfl, (SL.start w5).nil _ _⟩
      case round =>
        obtain ⟨j, Ao, co, n, hj, rfl, rfl, hn, S6⟩ := hrel
        have H6 := Lib.hid S6
        have HN := Lib.hid hn
        clear S6 hn
        by_cases hlj : j < ls.length
        · have HLJ := Lib.hid hlj
          have hls : ls[j]? = some ls[j] := List.getElem?_eq_getElem hlj
          generalize ls[j] = vl at hls
          obtain ⟨v, l⟩ := vl
          obtain ⟨hc0, hl1, Ap, cp, rfl, hcard⟩ := HPA.out j v l hls
          have k6 := (H6.out.below.cell (p := ⟨q, j, none⟩) (World.block_lt_of_cell? w5 _ hc0)).trans hc0
          have HCD := Lib.hid (hcard.grow H6.out.below)
          have HF := Lib.hid (flat_take hls)
          have htot : n + l.length ≤ 40000 := by
            have h1 := HT.out
            have h2 : ((ls.take j).flatMap Prod.snd).length ≤ (ls.flatMap Prod.snd).length := by
              have e := congrArg List.length (congrArg (List.flatMap Prod.snd) (List.take_append_drop j ls))
              rw [List.flatMap_append, List.length_append] at e; omega
            rw [HN.out]; omega
          have HLL := Lib.hid hl1
          clear hls hc0 hcard hl1
          go_wp2_with (at_builtin; refine wpList_appS rfl _ _ _ rfl bElem _ n _ rfl H6.out _ Ap l.length cp (Lib.byteCells l) rfl HCD.out.1 (by rw [byteCells_len, Nat.mul_one]) (byteCells_one l) (by unfold maxLen; omega) (by omega) ?_
                       intro A7 c7 w7 S7
                       have H7 := Lib.hid S7
                       clear S7 H6)
          go_roundw
          case rel => exact ⟨j + 1, A7, c7, n + l.length, HLJ.out, by go_num, rfl, by rw [HF.out, List.length_append, HN.out], by rw [HF.out]; have h := H7.out; simp only [Lib.byteCells, List.map_append] at h ⊢; exact h⟩
          case measure => have := HLJ.out; simp [intOf]; omega
        · obtain rfl : j = ls.length := by omega
          have hts : ls.take ls.length = ls := List.take_of_length_le (Nat.le_refl _)
          rw [hts] at H6 HN
          obtain ⟨out, hout⟩ : ∃ out, out = ls.flatMap Prod.snd := ⟨_, rfl⟩
          have hn := HN.out
          rw [← hout] at H6 HO hn
          subst hn
          clear hout
          have H7 := Lib.hid (H5.out.join H6.out)
          clear H5 H6 hts
          go_wp2_with fail
          refine (done_any _ _ _ _).mono ?_
          rintro e w9 ⟨rfl, b9⟩
          -- out, disk, box, PT, reply, slices, last
          have H9 := Lib.hid ((H7.out.grow b9).s4)
          clear b9 H7
          (obtain ⟨L, K, z⟩ := H9.out.look; go_wp2; refine bodyPost_ret (v := .agg #[.slice Ao out.length co, .int .i64 12, .int .i64 0]) (by simp [results, Tryz.results243, go_sem, L]) rfl ?_)
          rw [HR.out, ← HO.out]
          exact ⟨Ao, co, rfl, (disk_close (sel_close (s := { s with next := s.next + 1 }) HV.out (HB.out.1 _ _ H9.out.set3.drop.s2.drop.s2).s3.s3.s4.b3)).s1⟩
  · have hn : s.recs[s.next]? = none := List.getElem?_eq_none (by omega)
    have HR := Lib.hid (show dkRead s cnt key = dkCheck s 2 by rw [HDK.out, hn])
    clear hn
    go_wp2_with fail
    (refine (check_any 2 H2.out.s1).mono ?_; rintro e w9 ⟨rfl, S9⟩; have H9 := Lib.hid S9.s1; clear S9; (obtain ⟨L, K, z⟩ := H9.out.look; go_wp2; refine bodyPost_ret (v := .agg #[.slice none 0 0, .int .i64 14, .int .i64 2]) (by simp [results, Tryz.results243, go_sem, L]) rfl ?_); rw [HR.out]; exact RetM.of (sel_close HV.out H9.out.set3.drop))
end
end Go.Proofs.YtfhpaehfihnjaaaGreat.D
namespace Go.Proofs.YtfhpaehfihnjaaaGreat.D
open Go.RowKit
theorem parts_one {w w' : World} {q : Nat} {A : Option Addr} {c : Nat} {l : List UInt8} (hb : Below w.heap.size w w') (h : CardAt w' A l c) (hl : l.length ≤ 10000) (h0 : w'.cell? ⟨q, 0, none⟩ = some (.slice A l.length c)) : PartsR w l (.returned (.slice (some ⟨q, 0, none⟩) 1 1)) w' :=
  ⟨q, [(.slice A l.length c, l)], rfl, by simp, by simp, hb, fun i v m hi => by
    match i, hi with
    | 0, hi => cases hi; exact ⟨h0, hl, A, c, rfl, h⟩
    | i + 1, hi => simp at hi⟩
theorem parts_two {w w' : World} {q : Nat} {A A2 : Option Addr} {c c2 : Nat} {l l2 : List UInt8} (hb : Below w.heap.size w w') (h : CardAt w' A l c) (hl : l.length ≤ 10000) (h0 : w'.cell? ⟨q, 0, none⟩ = some (.slice A l.length c)) (h2 : CardAt w' A2 l2 c2) (hl2 : l2.length ≤ 10000) (h1 : w'.cell? ⟨q, 1, none⟩ = some (.slice A2 l2.length c2)) : PartsR w (l ++ l2) (.returned (.slice (some ⟨q, 0, none⟩) 2 2)) w' :=
  ⟨q, [(.slice A l.length c, l), (.slice A2 l2.length c2, l2)], rfl, by simp, by simp, hb, fun i v m hi => by
    match i, hi with
    | 0, hi => cases hi; exact ⟨h0, hl, A, c, rfl, h⟩
    | 1, hi => cases hi; exact ⟨h1, hl2, A2, c2, rfl, h2⟩
    | i + 2, hi => simp at hi⟩
theorem parts_three {w w' : World} {q : Nat} {A A2 A3 : Option Addr} {c c2 c3 : Nat} {l l2 l3 : List UInt8} (hb : Below w.heap.size w w') (h : CardAt w' A l c) (hl : l.length ≤ 10000) (h0 : w'.cell? ⟨q, 0, none⟩ = some (.slice A l.length c)) (h2 : CardAt w' A2 l2 c2) (hl2 : l2.length ≤ 10000) (h1 : w'.cell? ⟨q, 1, none⟩ = some (.slice A2 l2.length c2))
    (h3 : CardAt w' A3 l3 c3) (hl3 : l3.length ≤ 10000) (h4 : w'.cell? ⟨q, 2, none⟩ = some (.slice A3 l3.length c3)) : PartsR w (l ++ l2 ++ l3) (.returned (.slice (some ⟨q, 0, none⟩) 3 3)) w' :=
  ⟨q, [(.slice A l.length c, l), (.slice A2 l2.length c2, l2), (.slice A3 l3.length c3, l3)], rfl, by simp, by simp, hb, fun i v m hi => by
    match i, hi with
    | 0, hi => cases hi; exact ⟨h0, hl, A, c, rfl, h⟩
    | 1, hi => cases hi; exact ⟨h1, hl2, A2, c2, rfl, h2⟩
    | 2, hi => cases hi; exact ⟨h4, hl3, A3, c3, rfl, h3⟩
    | i + 3, hi => simp at hi⟩
section
variable {W w : World} {F : List SA} {x tb : Nat} {s : DK} {lp : Option Addr} {was : Bool}
theorem partsD_any (y : Rec) (Ak Ad : Option Addr) (ck cd : Nat) (wx : World) (hy : 1 ≤ y.r ∧ y.r ≤ 255 ∧ y.key.length ≤ 255 ∧ y.data.length ≤ 2016) (h1 : CardAt wx Ak y.key ck) (h2 : CardAt wx Ad y.data cd) :
    Calls Tryz.prog 244 #[.agg #[.int .i64 y.r, .slice Ak y.key.length ck, .slice Ad y.data.length cd, .bool y.bad]] wx (PartsR wx y.data) := by
  have HY := Lib.hid hy
  have H2 := Lib.hid h2
  clear hy h1 h2
  go_enter Tryz.func244, Tryz.ntmps244
  go_wp2
  go_ret
  have hb : Below wx.heap.size wx ((wx.alloc (.cells #[.int .i64 y.r, .slice Ak y.key.length ck, .slice Ad y.data.length cd, .bool y.bad] 188)).alloc (.cells #[.slice Ad y.data.length cd] 50)) := by (repeat' (first | (with_reducible exact Below.refl _ _) | (with_reducible assumption) | (with_reducible refine below_drewN ?_ _) | (with_reducible refine Below.drew ?_) | (with_reducible refine Below.alloc ?_ ?_ _) | (with_reducible refine Below.setCell ?_ ?_ _) | (with_reducible refine below_row ?_ ?_ _) | (with_reducible exact Nat.le_refl _) | omega | (simp only [World.size_alloc, World.size_setCell, World.size_drew, World.size_drewN]; omega) | (simp; done) | (simp; omega)))
  refine parts_one hb (H2.out.grow hb) (by have := HY.out; omega) ?_
  have hl := (row_look (hl_new (w := wx.alloc (.cells #[.int .i64 y.r, .slice Ak y.key.length ck, .slice Ad y.data.length cd, .bool y.bad] 188)) (o := .cells #[.slice Ad y.data.length cd] 50) rfl)).1
  simp only [World.size_alloc] at hl
  exact hl 0
theorem partsK_any (y : Rec) (Ak Ad : Option Addr) (ck cd : Nat) (wx : World) (hy : 1 ≤ y.r ∧ y.r ≤ 255 ∧ y.key.length ≤ 255 ∧ y.data.length ≤ 2016) (h1 : CardAt wx Ak y.key ck) (h2 : CardAt wx Ad y.data cd) :
    Calls Tryz.prog 245 #[.agg #[.int .i64 y.r, .slice Ak y.key.length ck, .slice Ad y.data.length cd, .bool y.bad]] wx (PartsR wx (y.key ++ y.data)) := by
  have HY := Lib.hid hy
  have H2 := Lib.hid (And.intro h1 h2)
  clear hy h1 h2
  go_enter Tryz.func245, Tryz.ntmps245
  go_wp2
  go_ret
  have hb : Below wx.heap.size wx ((wx.alloc (.cells #[.int .i64 y.r, .slice Ak y.key.length ck, .slice Ad y.data.length cd, .bool y.bad] 188)).alloc (.cells #[.slice Ak y.key.length ck, .slice Ad y.data.length cd] 50)) := by (repeat' (first | (with_reducible exact Below.refl _ _) | (with_reducible assumption) | (with_reducible refine below_drewN ?_ _) | (with_reducible refine Below.drew ?_) | (with_reducible refine Below.alloc ?_ ?_ _) | (with_reducible refine Below.setCell ?_ ?_ _) | (with_reducible refine below_row ?_ ?_ _) | (with_reducible exact Nat.le_refl _) | omega | (simp only [World.size_alloc, World.size_setCell, World.size_drew, World.size_drewN]; omega) | (simp; done) | (simp; omega)))
  have hl := (row_look (hl_new (w := wx.alloc (.cells #[.int .i64 y.r, .slice Ak y.key.length ck, .slice Ad y.data.length cd, .bool y.bad] 188)) (o := .cells #[.slice Ak y.key.length ck, .slice Ad y.data.length cd] 50) rfl)).1
  simp only [World.size_alloc] at hl
  exact parts_two hb (H2.out.1.grow hb) (by have := HY.out; omega) (hl 0) (H2.out.2.grow hb) (by have := HY.out; omega) (hl 1)
theorem partsR_any (dbx : Nat) (y : Rec) (Ak Ad : Option Addr) (ck cd : Nat) (wx : World) (hcy : s.cyl ≤ 64) (hhd : s.head ≤ 8) (hy : 1 ≤ y.r ∧ y.r ≤ 255 ∧ y.key.length ≤ 255 ∧ y.data.length ≤ 2016) (h1 : CardAt wx Ak y.key ck) (h2 : CardAt wx Ad y.data cd)
    (S : SL W (cel x (dkCells s tb lp was) 173 :: cel dbx #[.pointer (some ⟨x, 0, none⟩)] 92 :: F) wx) :
    Calls Tryz.prog 246 #[.agg #[.int .i64 y.r, .slice Ak y.key.length ck, .slice Ad y.data.length cd, .bool y.bad], .pointer (some ⟨dbx, 0, none⟩)] wx (PartsR wx (cntL s.cyl s.head y ++ y.key ++ y.data)) := by
  have HY := Lib.hid hy
  have H2 := Lib.hid (And.intro h1 h2)
  have HS := Lib.hid S
  clear hy h1 h2 S
  go_enter Tryz.func246, Tryz.ntmps246
  go_upto_region 1 with fail
  refine name_world (P := Code.wp _ _ _ _) ?_
  intro wd hwd
  have hb : Below wx.heap.size wx wd := by rw [hwd]; exact (((Below.refl _ _).alloc (Nat.le_refl _) _))
  have H3 := Lib.hid (SL.cast hwd ((SL.start wx).allocC #[.int .i64 y.r, .slice Ak y.key.length ck, .slice Ad y.data.length cd, .bool y.bad] 188))
  have HS3 := Lib.hid (HS.out.grow hb)
  have HB := Lib.hid hb
  clear hwd HS hb
  obtain ⟨L, K, z⟩ := H3.out.look
  obtain ⟨L2, K2, z2⟩ := HS3.out.s1.look
  have HL := Lib.hid (fun (wy : World) (hx : Below wd.heap.size wd wy) => (⟨(hx.cell (p := ⟨dbx, 0, none⟩) z2).trans (L2 0), (hx.cell (p := ⟨wx.heap.size, 0, none⟩) z).trans (L 0), (hx.cell (p := ⟨wx.heap.size, 1, none⟩) z).trans (L 1), (hx.cell (p := ⟨wx.heap.size, 2, none⟩) z).trans (L 2), (hx.cell (p := ⟨wx.heap.size, 3, none⟩) z).trans (L 3)⟩ :
    wy.cell? ⟨dbx, 0, none⟩ = some (.pointer (some ⟨x, 0, none⟩)) ∧ wy.cell? ⟨wx.heap.size, 0, none⟩ = some (.int .i64 y.r) ∧ wy.cell? ⟨wx.heap.size, 1, none⟩ = some (.slice Ak y.key.length ck) ∧ wy.cell? ⟨wx.heap.size, 2, none⟩ = some (.slice Ad y.data.length cd) ∧ wy.cell? ⟨wx.heap.size, 3, none⟩ = some (.bool y.bad)))
  clear L K z L2 K2 z2
  refine wp_region_order (fun wy => Below wd.heap.size wd wy) [] [0, 1, 3, 4, 5, 6] [] [2] [7, 8] (by kernel_rfl) (by kernel_rfl) (Below.refl _ _).drew (by intro c a d v w h; cases d <;> exact h) ?_
  simp only [pick, List.filterMap_cons, List.filterMap_nil, List.getElem?_cons_zero, List.getElem?_cons_succ]
  refine wpPure_nil ?_
  (repeat (with_reducible refine wpLoads_step ?_; intro K hK; go_simp; first | (with_reducible refine hK _ ?_; clear hK K) | (rw [if_neg (by decide)]; with_reducible refine hK _ ?_; clear hK K) | (refine ⟨_, fun wx hx => (by obtain ⟨f0, f1, f2, f3, f4⟩ := HL.out wx hx; go_simp; with_reducible rfl), hK _ ?_⟩; clear hK K) | (refine ⟨_, fun _ _ => rfl, hK _ ?_⟩; clear hK K))); with_reducible refine wpLoads_nil ?_
  refine wpQuiet_nil ?_
  intro wq hwq
  have BQ := Lib.hid hwq
  clear hwq
  (with_reducible refine wpKeep_step ?_; intro K hK; go_simp)
  refine (count_any y Ak Ad ck cd hcy hhd HY.out (HS3.out.grow BQ.out)).mono ?_
  rintro e w5 ⟨g, rfl, S5, b5⟩
  refine hK _ _ (BQ.out.trans (b5.mono BQ.out.size)) ?_
  clear hK K
  refine wpKeep_nil ?_
  have HC := Lib.hid (rowS_card (l := cntL s.cyl s.head y) (c := 8) (by rw [cntL_len]; exact S5))
  have HBB := Lib.hid (HB.out.trans ((BQ.out.trans (b5.mono BQ.out.size)).mono HB.out.size))
  clear S5 b5 BQ HL H3 HS3
  go_wp2
  go_ret
  have hb : Below wx.heap.size wx (w5.alloc (.cells #[.slice (some ⟨g, 0, none⟩) 8 8, .slice Ak y.key.length ck, .slice Ad y.data.length cd] 50)) := HBB.out.alloc HBB.out.size _
  have hl := (row_look (hl_new (w := w5) (o := .cells #[.slice (some ⟨g, 0, none⟩) 8 8, .slice Ak y.key.length ck, .slice Ad y.data.length cd] 50) rfl)).1
  have h8 := HC.out.grow (w' := w5.alloc (.cells #[.slice (some ⟨g, 0, none⟩) 8 8, .slice Ak y.key.length ck, .slice Ad y.data.length cd] 50)) ((Below.refl _ _).alloc (Nat.le_refl _) _)
  exact parts_three hb h8 (by rw [cntL_len]; omega) (by rw [cntL_len]; exact hl 0) (H2.out.1.grow hb) (by have := HY.out; omega) (hl 1) (H2.out.2.grow hb) (by have := HY.out; omega) (hl 2)
theorem readData_any (A : Option Addr) (n c : Nat) (h : s.ok) (S : SL W (diskW x s was :: F) w) : Calls Tryz.prog 228 #[.pointer (some ⟨x, 0, none⟩), .slice A n c] w (RetM W F x (dkRead s false false)) := by
  have HS := Lib.hid S
  clear S
  (go_enter Tryz.func228, Tryz.ntmps228; go_upto_region 1 with fail; refine name_world (P := Code.wp _ _ _ _) ?_; intro wA hwA; have H1 := Lib.hid (SL.cast hwA (HS.out.allocC #[.slice none 0 0, .int .i64 0, .int .i64 0] 55)); clear hwA HS; generalize w.heap.size = rb at *)
  go_wp2_with fail
  refine (readD_any 0 false false h H1.out.s1 (fun y Ak Ad ck cd s' tb lp G wx _ _ hy h1 h2 _ => partsD_any y Ak Ad ck cd wx hy h1 h2)).mono ?_
  rintro e w9 ⟨A9, c9, rfl, S9⟩
  have H9 := Lib.hid S9.s2
  clear S9
  obtain ⟨L, K, z⟩ := H9.out.look
  go_wp2
  refine bodyPost_ret (by simp [results, Tryz.results228, go_sem, L]; rfl) rfl ?_
  exact ⟨A9, c9, rfl, H9.out.set3.drop⟩
theorem readKeyData_any (A : Option Addr) (n c : Nat) (h : s.ok) (S : SL W (diskW x s was :: F) w) : Calls Tryz.prog 229 #[.pointer (some ⟨x, 0, none⟩), .slice A n c] w (RetM W F x (dkRead s false true)) := by
  have HS := Lib.hid S
  clear S
  (go_enter Tryz.func229, Tryz.ntmps229; go_upto_region 1 with fail; refine name_world (P := Code.wp _ _ _ _) ?_; intro wA hwA; have H1 := Lib.hid (SL.cast hwA (HS.out.allocC #[.slice none 0 0, .int .i64 0, .int .i64 0] 55)); clear hwA HS; generalize w.heap.size = rb at *)
  go_wp2_with fail
  refine (readK_any 0 false true h H1.out.s1 (fun y Ak Ad ck cd s' tb lp G wx _ _ hy h1 h2 _ => partsK_any y Ak Ad ck cd wx hy h1 h2)).mono ?_
  rintro e w9 ⟨A9, c9, rfl, S9⟩
  have H9 := Lib.hid S9.s2
  clear S9
  obtain ⟨L, K, z⟩ := H9.out.look
  go_wp2
  refine bodyPost_ret (by simp [results, Tryz.results229, go_sem, L]; rfl) rfl ?_
  exact ⟨A9, c9, rfl, H9.out.set3.drop⟩
theorem readRecord_any (A : Option Addr) (n c : Nat) (h : s.ok) (S : SL W (diskW x s was :: F) w) : Calls Tryz.prog 230 #[.pointer (some ⟨x, 0, none⟩), .slice A n c] w (RetM W F x (dkRead s true true)) := by
  have HS := Lib.hid S
  have hcy : s.cyl ≤ 64 := by have := h.cy; have := h.c1; omega
  have hhd : s.head ≤ 8 := by have := h.hd; have := h.h1; omega
  clear S
  have hmf : ∀ (fn : Fn) (first cap : Array Value) (w : World), (Instr.makeFunc fn first cap).run Tryz.prog w = .ok (.func fn first cap) w := fun _ _ _ _ => rfl
  go_enter Tryz.func230, Tryz.ntmps230
  go_upto_region 1 with fail
  refine name_world (P := Code.wp _ _ _ _) ?_
  intro wA hwA
  have h1 := SL.cast hwA ((HS.out.allocC #[.pointer (some ⟨x, 0, none⟩)] 92).allocC #[.slice none 0 0, .int .i64 0, .int .i64 0] 55)
  simp only [World.size_alloc] at h1
  have H1 := Lib.hid h1
  clear hwA HS h1
  generalize w.heap.size + 1 = rb at *
  generalize w.heap.size = bx at *
  obtain ⟨L, K, z⟩ := H1.out.s1.look
  go_wp2_with fail
  -- reply, box, disk
  refine (readR_any bx true true h H1.out.s2 (fun y Ak Ad ck cd s' tb lp G wx e1 e2 hy h1 h2 S => ?_)).mono ?_
  · have hp := partsR_any (s := s') bx y Ak Ad ck cd wx (by rw [e1]; exact hcy) (by rw [e2]; exact hhd) hy h1 h2 (W := W) (x := x) (tb := tb) (lp := lp) (was := was) (SL.dropMid S).s2.s1
    rw [e1, e2] at hp
    exact hp
  rintro e w9 ⟨A9, c9, rfl, S9⟩
  have H9 := Lib.hid S9.s2
  clear S9 L K z
  obtain ⟨L, K, z⟩ := H9.out.look
  go_wp2
  refine bodyPost_ret (by simp [results, Tryz.results230, go_sem, L]; rfl) rfl ?_
  exact ⟨A9, c9, rfl, H9.out.set3.drop.s2.drop⟩
end
end Go.Proofs.YtfhpaehfihnjaaaGreat.D
