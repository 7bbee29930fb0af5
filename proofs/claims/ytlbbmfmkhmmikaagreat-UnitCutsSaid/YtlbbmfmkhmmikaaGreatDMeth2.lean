/- The disk's methods: change, hit, recalibrate, seek, erase. -/
import Derived.Test.YtlbbmfmkhmmikaaGreatDD
namespace Go.Proofs.YtlbbmfmkhmmikaaGreat.D
open Go.RowKit
theorem two_drop (b : List UInt8) (k : Nat) : two (b.drop k) 0 = two b k := by unfold two; rw [List.getElem?_drop, List.getElem?_drop]; rfl
section
variable {W w : World} {F : List SA} {x tb : Nat} {s : DK} {lp : Option Addr} {was : Bool}
theorem last_none {lp : Option Addr} (S : SL W (lastS lp none :: F) w) : lp = none ∧ SL W F w := ⟨S.pure (φ := lp = none) fun _ h => h.1, S.drop⟩
theorem last_null (S : SL W F w) : SL W (lastS none none :: F) w := SL.pack (L := []) S fun _ p => ⟨rfl, p⟩
theorem last_close {lb t : Nat} {v : Value} {b : List Rec} {n : Int} (S : SL W (cel lb #[.int .i64 (t : Int), v, .int .i64 n] 265 :: recsS v b :: F) w) : SL W (lastS (some ⟨lb, 0, none⟩) (some (t, b, n)) :: F) w :=
  SL.pack (L := [cel lb #[.int .i64 (t : Int), v, .int .i64 n] 265, recsS v b]) S fun _ p => ⟨lb, v, rfl, p⟩
theorem last_open {lp : Option Addr} {t : Nat} {b : List Rec} {n : Int} (S : SL W (lastS lp (some (t, b, n)) :: F) w) : ∃ lb v, lp = some ⟨lb, 0, none⟩ ∧ SL W (cel lb #[.int .i64 (t : Int), v, .int .i64 n] 265 :: recsS v b :: F) w := by
  obtain ⟨⟨lb, v⟩, h, S1⟩ := SL.unpack (α := Nat × Value) (φ := fun p => lp = some ⟨p.1, 0, none⟩) (K := fun p => [cel p.1 #[.int .i64 (t : Int), p.2, .int .i64 n] 265, recsS p.2 b]) S (by
    rintro h ⟨lb, v, e, p⟩
    exact ⟨(lb, v), e, p⟩)
  exact ⟨lb, v, h, S1⟩
set_option maxRecDepth 100000 in
theorem hit_any (i : Nat) (S : SL W (cel x (dkCells s tb lp was) 136 :: F) w) : Calls Tryz.prog 256 #[.pointer (some ⟨x, 0, none⟩), .int .i64 (i : Int)] w fun e w' => e = .returned (.agg #[.slice none 0 0, .int .i64 76, .int .i64 0]) ∧ SL W (cel x (dkCells { s with next := i, found := true } tb lp was) 136 :: F) w' := by
  have HS := Lib.hid S
  obtain ⟨L, K, z⟩ := S.look
  clear S
  go_enter Tryz.func256, Tryz.ntmps256
  go_wp2
  refine bodyPost_ret (v := .agg #[.slice none 0 0, .int .i64 76, .int .i64 0]) (by simp [results, Tryz.results256, go_sem]) rfl ⟨rfl, ?_⟩
  exact (((HS.out.set (off := 6) (v := .int .i64 (i : Int)) (cs' := dkCells { s with next := i } tb lp was) rfl).set (off := 7) (v := .bool true) (cs' := dkCells { s with next := i, found := true } tb lp was) rfl).allocC _ _).drop
set_option maxRecDepth 100000 in
theorem recal_any (A : Option Addr) (n c : Nat) (S : SL W (diskW x s was :: F) w) : Calls Tryz.prog 226 #[.pointer (some ⟨x, 0, none⟩), .slice A n c] w (RetM W F x (dkDone { s with cyl := 0, head := 0, next := 0 } [])) := by
  obtain ⟨tb, lp, S1⟩ := diskW_open S
  have HS := Lib.hid S1
  obtain ⟨L, K, z⟩ := S1.look
  clear S S1
  go_enter Tryz.func226, Tryz.ntmps226
  go_wp2_with fail
  refine name_world (P := fun W => Calls _ _ _ W _) ?_; intro wd hwd
  have h1 := (SL.cast hwd ((((HS.out.set (off := 4) (v := .int .i64 0) (cs' := dkCells { s with cyl := 0 } tb lp was) rfl).set (off := 5) (v := .int .i64 0) (cs' := dkCells { s with cyl := 0, head := 0 } tb lp was) rfl).set (off := 6) (v := .int .i64 0) (cs' := dkCells { s with cyl := 0, head := 0, next := 0 } tb lp was) rfl).allocC #[.slice none 0 0, .int .i64 0, .int .i64 0] 30))
  simp only [World.size_setCell] at h1
  have H1 := Lib.hid h1
  clear h1 hwd HS L K z
  refine (done_any _ _ _ _).mono ?_
  rintro e w1 ⟨rfl, b1⟩
  have H2 := Lib.hid (H1.out.grow b1)
  clear b1 H1
  (obtain ⟨L, K, z⟩ := H2.out.look; go_wp2; refine bodyPost_ret (v := .agg #[.slice none 0 0, .int .i64 12, .int .i64 0]) (by simp [results, Tryz.results226, go_sem, L]) rfl ?_)
  exact RetM.of (diskW_close H2.out.set3.drop)
set_option maxRecDepth 100000 in
set_option maxHeartbeats 8000000 in
theorem seek_any (A : Option Addr) (b : List UInt8) (c : Nat) (hd : CardB W F A b c) (h : s.ok) (S : SL W (diskW x s was :: F) w) : Calls Tryz.prog 225 #[.pointer (some ⟨x, 0, none⟩), .slice A b.length c] w (RetM W F x (dkSeek s b)) := by
  obtain ⟨tb, lp, S1⟩ := diskW_open S
  have HS := Lib.hid S1
  have HD := Lib.hid (hd w S.drop)
  have hc1 := h.c1
  have hh1 := h.h1
  clear S S1
  have HDS := Lib.hid (show dkSeek s b = if b.length ≠ 6 ∨ two b 0 ≠ 0 ∨ s.cyls ≤ two b 2 ∨ s.heads ≤ two b 4 then dkCheck s 128 else dkDone { s with cyl := two b 2, head := two b 4, next := 0 } [] from rfl)
  have hbl : b.length ≤ 9223372036854775807 := by have := HD.out.2; unfold maxLen at this; omega
  by_cases h6 : b.length = 6
  · have HDB := Lib.hid hd
    have hc6 : 6 ≤ c := by have := HD.out.2.1; omega
    have hcm : c ≤ 9223372036854775807 := by have := HD.out.2.2; unfold maxLen at this; omega
    obtain ⟨g, off, rfl, _, _⟩ := HD.out.1 (by intro e; have := congrArg List.length e; simp [Lib.byteCells] at this; subst this; simp at h6)
    have H6 := Lib.hid h6
    rw [h6]
    clear h6 hbl HD hd
    (go_enter Tryz.func225, Tryz.ntmps225; go_upto_region 1 with fail; refine name_world (P := Code.wp _ _ _ _) ?_; intro wA hwA; have H1 := Lib.hid (SL.cast hwA (HS.out.allocC #[.slice none 0 0, .int .i64 0, .int .i64 0] 30)); clear hwA HS; generalize w.heap.size = rb at *)
    have hdA := HDB.out wA H1.out.drop.drop.drop.drop
    have HT0 := Lib.hid (fun (wx : World) (hx : Below wA.heap.size wA wx) => (two_any _ b 6 c wx (hdA.grow hx) H6.out.symm (by omega)).mono fun e w' k => (⟨k.1, k.2.below _⟩ : e = .returned (.int .i64 (two b 0 : Nat)) ∧ Below wx.heap.size wx w'))
    have HT2 := Lib.hid (fun (wx : World) (hx : Below wA.heap.size wA wx) => (two_any (some ⟨g, off + 2, none⟩) (b.drop 2) 4 (c - 2) wx ((hdA.drop 2 (by rw [H6.out]; omega) _ (fun _ => rfl)).grow hx) (by rw [List.length_drop, H6.out]) (by omega)).mono fun e w' k => (⟨by rw [k.1, two_drop], k.2.below _⟩ : e = .returned (.int .i64 (two b 2 : Nat)) ∧ Below wx.heap.size wx w'))
    have HT4 := Lib.hid (fun (wx : World) (hx : Below wA.heap.size wA wx) => (two_any (some ⟨g, off + 4, none⟩) (b.drop 4) 2 (c - 4) wx ((hdA.drop 4 (by rw [H6.out]; omega) _ (fun _ => rfl)).grow hx) (by rw [List.length_drop, H6.out]) (by omega)).mono fun e w' k => (⟨by rw [k.1, two_drop], k.2.below _⟩ : e = .returned (.int .i64 (two b 4 : Nat)) ∧ Below wx.heap.size wx w'))
    generalize two b 0 = t0 at *
    generalize two b 2 = t2 at *
    generalize two b 4 = t4 at *
    obtain ⟨L, K, z⟩ := H1.out.s1.look
    have HX := Lib.hid (fun (wx : World) (hx : Below wA.heap.size wA wx) => (⟨(hx.cell (p := ⟨x, 1, none⟩) z).trans (L 1), (hx.cell (p := ⟨x, 2, none⟩) z).trans (L 2), (hx.cell (p := ⟨x, 3, none⟩) z).trans (L 3)⟩ : wx.cell? ⟨x, 1, none⟩ = some (.int .i64 (s.cyls : Int)) ∧ wx.cell? ⟨x, 2, none⟩ = some (.int .i64 (s.heads : Int)) ∧ wx.cell? ⟨x, 3, none⟩ = some (.slice (some ⟨tb, 0, none⟩) s.tracks.length s.tracks.length)))
    have e2 : (c = 2) = False := eq_false (by omega)
    have e4 : (c = 4) = False := eq_false (by omega)
    clear hdA L K z h
    by_cases h0 : t0 = 0
    · by_cases h2 : s.cyls ≤ t2
      · have HR := Lib.hid (show dkSeek s b = dkCheck s 128 by rw [HDS.out, if_pos (by simp [h2])])
        have u1 : ((s.cyls : Int) ≤ (t2 : Int)) = True := eq_true (by omega)
        subst h0
        clear h2
        refine wp_region_quiet (C := Below wA.heap.size wA) (by kernel_rfl) (by kernel_rfl) (Below.refl _ _).drew ?_
        (repeat (with_reducible refine wpQuiet_step ?_; intro K hK; go_simp; first | (with_reducible refine hK _ ?_; clear hK K) | (rw [if_neg (by decide)]; with_reducible refine hK _ ?_; clear hK K) | (refine ⟨_, fun wx hx => (by obtain ⟨f0, f1, f2⟩ := HX.out wx hx; go_simp; with_reducible rfl), hK _ ?_⟩; clear hK K) | (first | (refine ⟨_, fun wx hx => (by with_reducible refine (HT0.out wx hx).mono ?_; rintro e w' ⟨rfl, h2⟩; exact ⟨rfl, hx.trans (h2.mono hx.size)⟩), hK _ ?_⟩; clear hK K) | (refine ⟨_, fun wx hx => (by with_reducible refine (HT2.out wx hx).mono ?_; rintro e w' ⟨rfl, h2⟩; exact ⟨rfl, hx.trans (h2.mono hx.size)⟩), hK _ ?_⟩; clear hK K) | (refine ⟨_, fun wx hx => (by with_reducible refine (HT4.out wx hx).mono ?_; rintro e w' ⟨rfl, h2⟩; exact ⟨rfl, hx.trans (h2.mono hx.size)⟩), hK _ ?_⟩; clear hK K)) | (refine ⟨_, fun _ _ => rfl, hK _ ?_⟩; clear hK K))); with_reducible refine wpQuiet_nil ?_
        intro w1 b1
        have H2 := Lib.hid (H1.out.grow b1)
        clear b1 H1
        go_wp2_with fail
        (refine (check_any 128 H2.out.s1).mono ?_; rintro e w9 ⟨rfl, S9⟩; have H9 := Lib.hid S9.s1; clear S9; (obtain ⟨L, K, z⟩ := H9.out.look; go_wp2; refine bodyPost_ret (v := .agg #[.slice none 0 0, .int .i64 14, .int .i64 128]) (by simp [results, Tryz.results225, go_sem, L]) rfl ?_); rw [HR.out]; exact RetM.of (diskW_close H9.out.set3.drop))
      · by_cases h4 : s.heads ≤ t4
        · have HR := Lib.hid (show dkSeek s b = dkCheck s 128 by rw [HDS.out, if_pos (by simp [h4])])
          have u1 : ((s.cyls : Int) ≤ (t2 : Int)) = False := eq_false (by omega)
          have u2 : ((s.heads : Int) ≤ (t4 : Int)) = True := eq_true (by omega)
          subst h0
          clear h2 h4
          refine wp_region_quiet (C := Below wA.heap.size wA) (by kernel_rfl) (by kernel_rfl) (Below.refl _ _).drew ?_
          (repeat (with_reducible refine wpQuiet_step ?_; intro K hK; go_simp; first | (with_reducible refine hK _ ?_; clear hK K) | (rw [if_neg (by decide)]; with_reducible refine hK _ ?_; clear hK K) | (refine ⟨_, fun wx hx => (by obtain ⟨f0, f1, f2⟩ := HX.out wx hx; go_simp; with_reducible rfl), hK _ ?_⟩; clear hK K) | (first | (refine ⟨_, fun wx hx => (by with_reducible refine (HT0.out wx hx).mono ?_; rintro e w' ⟨rfl, h2⟩; exact ⟨rfl, hx.trans (h2.mono hx.size)⟩), hK _ ?_⟩; clear hK K) | (refine ⟨_, fun wx hx => (by with_reducible refine (HT2.out wx hx).mono ?_; rintro e w' ⟨rfl, h2⟩; exact ⟨rfl, hx.trans (h2.mono hx.size)⟩), hK _ ?_⟩; clear hK K) | (refine ⟨_, fun wx hx => (by with_reducible refine (HT4.out wx hx).mono ?_; rintro e w' ⟨rfl, h2⟩; exact ⟨rfl, hx.trans (h2.mono hx.size)⟩), hK _ ?_⟩; clear hK K)) | (refine ⟨_, fun _ _ => rfl, hK _ ?_⟩; clear hK K))); with_reducible refine wpQuiet_nil ?_
          intro w1 b1
          have H2 := Lib.hid (H1.out.grow b1)
          clear b1 H1
          go_wp2_with fail
          (refine (check_any 128 H2.out.s1).mono ?_; rintro e w9 ⟨rfl, S9⟩; have H9 := Lib.hid S9.s1; clear S9; (obtain ⟨L, K, z⟩ := H9.out.look; go_wp2; refine bodyPost_ret (v := .agg #[.slice none 0 0, .int .i64 14, .int .i64 128]) (by simp [results, Tryz.results225, go_sem, L]) rfl ?_); rw [HR.out]; exact RetM.of (diskW_close H9.out.set3.drop))
        · have HR := Lib.hid (show dkSeek s b = dkDone { s with cyl := t2, head := t4, next := 0 } [] by rw [HDS.out, if_neg (by simp [h0, h2, h4, H6.out])])
          have u1 : ((s.cyls : Int) ≤ (t2 : Int)) = False := eq_false (by omega)
          have u2 : ((s.heads : Int) ≤ (t4 : Int)) = False := eq_false (by omega)
          subst h0
          clear h2 h4
          refine wp_region_quiet (C := Below wA.heap.size wA) (by kernel_rfl) (by kernel_rfl) (Below.refl _ _).drew ?_
          (repeat (with_reducible refine wpQuiet_step ?_; intro K hK; go_simp; first | (with_reducible refine hK _ ?_; clear hK K) | (rw [if_neg (by decide)]; with_reducible refine hK _ ?_; clear hK K) | (refine ⟨_, fun wx hx => (by obtain ⟨f0, f1, f2⟩ := HX.out wx hx; go_simp; with_reducible rfl), hK _ ?_⟩; clear hK K) | (first | (refine ⟨_, fun wx hx => (by with_reducible refine (HT0.out wx hx).mono ?_; rintro e w' ⟨rfl, h2⟩; exact ⟨rfl, hx.trans (h2.mono hx.size)⟩), hK _ ?_⟩; clear hK K) | (refine ⟨_, fun wx hx => (by with_reducible refine (HT2.out wx hx).mono ?_; rintro e w' ⟨rfl, h2⟩; exact ⟨rfl, hx.trans (h2.mono hx.size)⟩), hK _ ?_⟩; clear hK K) | (refine ⟨_, fun wx hx => (by with_reducible refine (HT4.out wx hx).mono ?_; rintro e w' ⟨rfl, h2⟩; exact ⟨rfl, hx.trans (h2.mono hx.size)⟩), hK _ ?_⟩; clear hK K)) | (refine ⟨_, fun _ _ => rfl, hK _ ?_⟩; clear hK K))); with_reducible refine wpQuiet_nil ?_
          intro w1 b1
          have B1 := Lib.hid b1
          clear b1
          go_upto_region 3 with fail
          refine wp_region_order (fun wx => Below wA.heap.size wA wx) [1, 2] [] [0, 3, 4, 5, 6, 7, 8] [] [9, 10, 11, 12, 13, 14, 15, 16, 17] (by kernel_rfl) (by kernel_rfl) B1.out.drew (by intro c a d v w h; cases d <;> exact h) ?_
          simp only [pick, List.filterMap_cons, List.filterMap_nil, List.getElem?_cons_zero, List.getElem?_cons_succ]
          (repeat (with_reducible refine wpPure_step ?_; intro K hK; go_simp; with_reducible refine hK _ ?_; clear hK K))
          refine wpPure_nil ?_
          refine wpLoads_nil ?_
          (repeat (with_reducible refine wpQuiet_step ?_; intro K hK; go_simp; first | (with_reducible refine hK _ ?_; clear hK K) | (rw [if_neg (by decide)]; with_reducible refine hK _ ?_; clear hK K) | (refine ⟨_, fun wx hx => (by obtain ⟨f0, f1, f2⟩ := HX.out wx hx; go_simp; with_reducible rfl), hK _ ?_⟩; clear hK K) | (first | (refine ⟨_, fun wx hx => (by with_reducible refine (HT0.out wx hx).mono ?_; rintro e w' ⟨rfl, h2⟩; exact ⟨rfl, hx.trans (h2.mono hx.size)⟩), hK _ ?_⟩; clear hK K) | (refine ⟨_, fun wx hx => (by with_reducible refine (HT2.out wx hx).mono ?_; rintro e w' ⟨rfl, h2⟩; exact ⟨rfl, hx.trans (h2.mono hx.size)⟩), hK _ ?_⟩; clear hK K) | (refine ⟨_, fun wx hx => (by with_reducible refine (HT4.out wx hx).mono ?_; rintro e w' ⟨rfl, h2⟩; exact ⟨rfl, hx.trans (h2.mono hx.size)⟩), hK _ ?_⟩; clear hK K)) | (refine ⟨_, fun _ _ => rfl, hK _ ?_⟩; clear hK K))); with_reducible refine wpQuiet_nil ?_
          intro w2 b2
          have H2 := Lib.hid (H1.out.grow b2)
          clear b2 B1 H1
          refine wpKeep_nil ?_
          obtain ⟨L, K, z⟩ := H2.out.s1.look
          go_wp2_with fail
          refine name_world (P := fun W => Calls _ _ _ W _) ?_; intro wd hwd
          have H3 := Lib.hid (SL.cast hwd (((H2.out.s1.set (off := 4) (v := .int .i64 (t2 : Int)) (cs' := dkCells { s with cyl := t2 } tb lp was) rfl).set (off := 5) (v := .int .i64 (t4 : Int)) (cs' := dkCells { s with cyl := t2, head := t4 } tb lp was) rfl).set (off := 6) (v := .int .i64 0) (cs' := dkCells { s with cyl := t2, head := t4, next := 0 } tb lp was) rfl).s1)
          clear hwd H2 L K z
          (refine (done_any _ _ _ _).mono ?_; rintro e w9 ⟨rfl, b9⟩; have H9 := Lib.hid (H3.out.grow b9); clear b9; (obtain ⟨L, K, z⟩ := H9.out.look; go_wp2; refine bodyPost_ret (v := .agg #[.slice none 0 0, .int .i64 12, .int .i64 0]) (by simp [results, Tryz.results225, go_sem, L]) rfl ?_); rw [HR.out]; exact RetM.of (diskW_close H9.out.set3.drop))
    · have HR := Lib.hid (show dkSeek s b = dkCheck s 128 by rw [HDS.out, if_pos (by simp [h0])])
      have u0 : ((t0 : Int) != 0) = true := by simp; omega
      clear h0
      refine wp_region_quiet (C := Below wA.heap.size wA) (by kernel_rfl) (by kernel_rfl) (Below.refl _ _).drew ?_
      (repeat (with_reducible refine wpQuiet_step ?_; intro K hK; go_simp; first | (with_reducible refine hK _ ?_; clear hK K) | (rw [if_neg (by decide)]; with_reducible refine hK _ ?_; clear hK K) | (refine ⟨_, fun wx hx => (by obtain ⟨f0, f1, f2⟩ := HX.out wx hx; go_simp; with_reducible rfl), hK _ ?_⟩; clear hK K) | (first | (refine ⟨_, fun wx hx => (by with_reducible refine (HT0.out wx hx).mono ?_; rintro e w' ⟨rfl, h2⟩; exact ⟨rfl, hx.trans (h2.mono hx.size)⟩), hK _ ?_⟩; clear hK K) | (refine ⟨_, fun wx hx => (by with_reducible refine (HT2.out wx hx).mono ?_; rintro e w' ⟨rfl, h2⟩; exact ⟨rfl, hx.trans (h2.mono hx.size)⟩), hK _ ?_⟩; clear hK K) | (refine ⟨_, fun wx hx => (by with_reducible refine (HT4.out wx hx).mono ?_; rintro e w' ⟨rfl, h2⟩; exact ⟨rfl, hx.trans (h2.mono hx.size)⟩), hK _ ?_⟩; clear hK K)) | (refine ⟨_, fun _ _ => rfl, hK _ ?_⟩; clear hK K))); with_reducible refine wpQuiet_nil ?_
      intro w1 b1
      have H2 := Lib.hid (H1.out.grow b1)
      clear b1 H1
      go_wp2_with fail
      (refine (check_any 128 H2.out.s1).mono ?_; rintro e w9 ⟨rfl, S9⟩; have H9 := Lib.hid S9.s1; clear S9; (obtain ⟨L, K, z⟩ := H9.out.look; go_wp2; refine bodyPost_ret (v := .agg #[.slice none 0 0, .int .i64 14, .int .i64 128]) (by simp [results, Tryz.results225, go_sem, L]) rfl ?_); rw [HR.out]; exact RetM.of (diskW_close H9.out.set3.drop))
  · have HR := Lib.hid (show dkSeek s b = dkCheck s 128 by rw [HDS.out, if_pos (Or.inl h6)])
    have t1 : ((b.length : Int) != 6) = true := by simp; omega
    clear h6 hd
    (go_enter Tryz.func225, Tryz.ntmps225; go_upto_region 1 with fail; refine name_world (P := Code.wp _ _ _ _) ?_; intro wA hwA; have H1 := Lib.hid (SL.cast hwA (HS.out.allocC #[.slice none 0 0, .int .i64 0, .int .i64 0] 30)); clear hwA HS; generalize w.heap.size = rb at *)
    obtain ⟨L, K, z⟩ := H1.out.s1.look
    refine wp_region_quiet (C := Below wA.heap.size wA) (by kernel_rfl) (by kernel_rfl) (Below.refl _ _).drew ?_
    (repeat (with_reducible refine wpQuiet_step ?_; intro K hK; go_simp; first | (with_reducible refine hK _ ?_; clear hK K) | (rw [if_neg (by decide)]; with_reducible refine hK _ ?_; clear hK K) | (refine ⟨_, fun wx hx => (by skip; go_simp; with_reducible rfl), hK _ ?_⟩; clear hK K) | fail | (refine ⟨_, fun _ _ => rfl, hK _ ?_⟩; clear hK K))); with_reducible refine wpQuiet_nil ?_
    intro w1 b1
    have H2 := Lib.hid (H1.out.grow b1)
    clear b1 H1 L K z
    go_wp2_with fail
    (refine (check_any 128 H2.out.s1).mono ?_; rintro e w9 ⟨rfl, S9⟩; have H9 := Lib.hid S9.s1; clear S9; (obtain ⟨L, K, z⟩ := H9.out.look; go_wp2; refine bodyPost_ret (v := .agg #[.slice none 0 0, .int .i64 14, .int .i64 128]) (by simp [results, Tryz.results225, go_sem, L]) rfl ?_); rw [HR.out]; exact RetM.of (diskW_close H9.out.set3.drop))
end
end Go.Proofs.YtlbbmfmkhmmikaaGreat.D
