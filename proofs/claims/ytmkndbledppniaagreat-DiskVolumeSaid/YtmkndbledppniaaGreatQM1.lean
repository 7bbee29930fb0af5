/- The document's unit: seek, searches. -/
import Derived.Test.YtmkndbledppniaaGreatQ
import Derived.Test.YtmkndbledppniaaGreatQTrk
namespace Go.Proofs.YtmkndbledppniaaGreat
open Go.RowKit
section
variable {W w : World} {F : List SA} {x : Nat} {s : DK}
set_option maxRecDepth 100000 in
set_option maxHeartbeats 8000000 in
theorem qseek_any (A : Option Addr) (b : List UInt8) (c : Nat) (hd : CardB W F A b c) (h : s.ok) (S : SL W (qdiskS x s :: F) w) : Calls Tryz.prog 33 #[.pointer (some ⟨x, 0, none⟩), .slice A b.length c] w (RetQ W F x (dkSeek s b)) := by
  have HD := Lib.hid (hd w S.drop)
  have HDB := Lib.hid hd
  have hc1 := h.c1
  have hh1 := h.h1
  obtain ⟨tb, old, a, n, vs, A0, c0, hv0, hva, hvz, hlc, hcm, S1⟩ := selQ_open h S; have HS := Lib.hid S1; have HV := Lib.hid hv0; have HVZ := Lib.hid (And.intro hva hvz); have HH := Lib.hid h; have hrl := h.rl; clear S S1 h hv0 hva hvz
  have HDS := Lib.hid (show dkSeek s b = if b.length ≠ 6 ∨ two b 0 ≠ 0 ∨ s.cyls ≤ two b 2 ∨ s.heads ≤ two b 4 then dkCheck s 128 else dkDone { s with cyl := two b 2, head := two b 4, next := 0 } [] from rfl)
  have hbl : b.length ≤ 9223372036854775807 := by have := HD.out.2; unfold maxLen at this; omega
  clear hd
  by_cases h6 : b.length = 6
  · have H6 := Lib.hid h6
    rw [h6]
    clear h6 hbl HD
    (go_enter Tryz.func33, Tryz.ntmps33; go_upto_region 1 with fail; refine name_world (P := Code.wp _ _ _ _) ?_; intro wA hwA; have H1 := Lib.hid (SL.cast hwA (HS.out.allocC #[.slice none 0 0, .int .i64 0, .int .i64 0] 53)); clear hwA HS; generalize w.heap.size = rb at *)
    have hdA := HDB.out wA H1.out.drop.drop.drop.drop.drop
    have HT0 := Lib.hid (fun (wx : World) (hx : Below wA.heap.size wA wx) => number_at A b 6 c 0 0 rfl wx (hdA.grow hx) H6.out.symm (by omega))
    have HT2 := Lib.hid (fun (wx : World) (hx : Below wA.heap.size wA wx) => number_at A b 6 c 2 2 rfl wx (hdA.grow hx) H6.out.symm (by omega))
    have HT4 := Lib.hid (fun (wx : World) (hx : Below wA.heap.size wA wx) => number_at A b 6 c 4 4 rfl wx (hdA.grow hx) H6.out.symm (by omega))
    generalize two b 0 = t0 at *
    generalize two b 2 = t2 at *
    generalize two b 4 = t4 at *
    obtain ⟨L, K, z⟩ := H1.out.s1.look
    have HX := Lib.hid (fun (wx : World) (hx : Below wA.heap.size wA wx) => (⟨(hx.cell (p := ⟨x, 1, none⟩) z).trans (L 1), (hx.cell (p := ⟨x, 2, none⟩) z).trans (L 2)⟩ : wx.cell? ⟨x, 1, none⟩ = some (.int .i64 (s.cyls : Int)) ∧ wx.cell? ⟨x, 2, none⟩ = some (.int .i64 (s.heads : Int))))
    clear hdA L K z HDB
    by_cases h0 : t0 = 0
    · by_cases h2 : s.cyls ≤ t2
      · have HR := Lib.hid (show dkSeek s b = dkCheck s 128 by rw [HDS.out, if_pos (by simp [h2])])
        have u1 : ((s.cyls : Int) ≤ (t2 : Int)) = True := eq_true (by omega)
        subst h0
        clear h2
        refine wp_region_quiet (C := Below wA.heap.size wA) (by kernel_rfl) (by kernel_rfl) (Below.refl _ _).drew ?_
        (repeat (with_reducible refine wpQuiet_step ?_; intro K hK; go_simp; first | (with_reducible refine hK _ ?_; clear hK K) | (rw [if_neg (by decide)]; with_reducible refine hK _ ?_; clear hK K) | (refine ⟨_, fun wx hx => (by obtain ⟨f0, f1⟩ := HX.out wx hx; go_simp; with_reducible rfl), hK _ ?_⟩; clear hK K) | (first | (refine ⟨_, fun wx hx => (by with_reducible refine (HT0.out wx hx).mono ?_; rintro e w' ⟨rfl, h2⟩; exact ⟨rfl, hx.trans (h2.mono hx.size)⟩), hK _ ?_⟩; clear hK K) | (refine ⟨_, fun wx hx => (by with_reducible refine (HT2.out wx hx).mono ?_; rintro e w' ⟨rfl, h2⟩; exact ⟨rfl, hx.trans (h2.mono hx.size)⟩), hK _ ?_⟩; clear hK K) | (refine ⟨_, fun wx hx => (by with_reducible refine (HT4.out wx hx).mono ?_; rintro e w' ⟨rfl, h2⟩; exact ⟨rfl, hx.trans (h2.mono hx.size)⟩), hK _ ?_⟩; clear hK K)) | (refine ⟨_, fun _ _ => rfl, hK _ ?_⟩; clear hK K))); with_reducible refine wpQuiet_nil ?_
        intro w1 b1
        have H2 := Lib.hid (H1.out.grow b1)
        clear b1 H1
        go_wp2_with fail
        (refine (fail_any 128 H2.out.s1).mono ?_; rintro e w9 ⟨rfl, S9⟩; have H9 := Lib.hid S9.s1; clear S9; (obtain ⟨L, K, z⟩ := H9.out.look; go_wp2; refine bodyPost_ret (v := .agg #[.slice none 0 0, .int .i64 14, .int .i64 128]) (by simp [results, Tryz.results33, go_sem, L]) rfl ?_); rw [HR.out]; exact RetQ.of (selQ_close rfl HV.out H9.out.set3.drop))
      · by_cases h4 : s.heads ≤ t4
        · have HR := Lib.hid (show dkSeek s b = dkCheck s 128 by rw [HDS.out, if_pos (by simp [h4])])
          have u1 : ((s.cyls : Int) ≤ (t2 : Int)) = False := eq_false (by omega)
          have u2 : ((s.heads : Int) ≤ (t4 : Int)) = True := eq_true (by omega)
          subst h0
          clear h2 h4
          refine wp_region_quiet (C := Below wA.heap.size wA) (by kernel_rfl) (by kernel_rfl) (Below.refl _ _).drew ?_
          (repeat (with_reducible refine wpQuiet_step ?_; intro K hK; go_simp; first | (with_reducible refine hK _ ?_; clear hK K) | (rw [if_neg (by decide)]; with_reducible refine hK _ ?_; clear hK K) | (refine ⟨_, fun wx hx => (by obtain ⟨f0, f1⟩ := HX.out wx hx; go_simp; with_reducible rfl), hK _ ?_⟩; clear hK K) | (first | (refine ⟨_, fun wx hx => (by with_reducible refine (HT0.out wx hx).mono ?_; rintro e w' ⟨rfl, h2⟩; exact ⟨rfl, hx.trans (h2.mono hx.size)⟩), hK _ ?_⟩; clear hK K) | (refine ⟨_, fun wx hx => (by with_reducible refine (HT2.out wx hx).mono ?_; rintro e w' ⟨rfl, h2⟩; exact ⟨rfl, hx.trans (h2.mono hx.size)⟩), hK _ ?_⟩; clear hK K) | (refine ⟨_, fun wx hx => (by with_reducible refine (HT4.out wx hx).mono ?_; rintro e w' ⟨rfl, h2⟩; exact ⟨rfl, hx.trans (h2.mono hx.size)⟩), hK _ ?_⟩; clear hK K)) | (refine ⟨_, fun _ _ => rfl, hK _ ?_⟩; clear hK K))); with_reducible refine wpQuiet_nil ?_
          intro w1 b1
          have H2 := Lib.hid (H1.out.grow b1)
          clear b1 H1
          go_wp2_with fail
          (refine (fail_any 128 H2.out.s1).mono ?_; rintro e w9 ⟨rfl, S9⟩; have H9 := Lib.hid S9.s1; clear S9; (obtain ⟨L, K, z⟩ := H9.out.look; go_wp2; refine bodyPost_ret (v := .agg #[.slice none 0 0, .int .i64 14, .int .i64 128]) (by simp [results, Tryz.results33, go_sem, L]) rfl ?_); rw [HR.out]; exact RetQ.of (selQ_close rfl HV.out H9.out.set3.drop))
        · have HR := Lib.hid (show dkSeek s b = dkDone { s with cyl := t2, head := t4, next := 0 } [] by rw [HDS.out, if_neg (by simp [h0, h2, h4, H6.out])])
          have u1 : ((s.cyls : Int) ≤ (t2 : Int)) = False := eq_false (by omega)
          have u2 : ((s.heads : Int) ≤ (t4 : Int)) = False := eq_false (by omega)
          subst h0
          clear h2 h4
          refine wp_region_quiet (C := Below wA.heap.size wA) (by kernel_rfl) (by kernel_rfl) (Below.refl _ _).drew ?_
          (repeat (with_reducible refine wpQuiet_step ?_; intro K hK; go_simp; first | (with_reducible refine hK _ ?_; clear hK K) | (rw [if_neg (by decide)]; with_reducible refine hK _ ?_; clear hK K) | (refine ⟨_, fun wx hx => (by obtain ⟨f0, f1⟩ := HX.out wx hx; go_simp; with_reducible rfl), hK _ ?_⟩; clear hK K) | (first | (refine ⟨_, fun wx hx => (by with_reducible refine (HT0.out wx hx).mono ?_; rintro e w' ⟨rfl, h2⟩; exact ⟨rfl, hx.trans (h2.mono hx.size)⟩), hK _ ?_⟩; clear hK K) | (refine ⟨_, fun wx hx => (by with_reducible refine (HT2.out wx hx).mono ?_; rintro e w' ⟨rfl, h2⟩; exact ⟨rfl, hx.trans (h2.mono hx.size)⟩), hK _ ?_⟩; clear hK K) | (refine ⟨_, fun wx hx => (by with_reducible refine (HT4.out wx hx).mono ?_; rintro e w' ⟨rfl, h2⟩; exact ⟨rfl, hx.trans (h2.mono hx.size)⟩), hK _ ?_⟩; clear hK K)) | (refine ⟨_, fun _ _ => rfl, hK _ ?_⟩; clear hK K))); with_reducible refine wpQuiet_nil ?_
          intro w1 b1
          have B1 := Lib.hid b1
          clear b1
          go_wp2_with fail
          refine (HT2.out _ B1.out).mono ?_
          rintro e w2 ⟨rfl, b2⟩
          have B2 := Lib.hid (B1.out.trans (b2.mono B1.out.size))
          clear b2 B1
          go_wp2_with fail
          refine (HT4.out _ B2.out).mono ?_
          rintro e w3 ⟨rfl, b3⟩
          have H2 := Lib.hid (H1.out.grow (B2.out.trans (b3.mono B2.out.size)))
          clear b3 B2 H1 HT0 HT2 HT4 HX
          obtain ⟨L, K, z⟩ := H2.out.s1.look
          go_wp2_with fail
          refine name_world (P := fun W => Calls _ _ _ W _) ?_; intro wd hwd
          have H3 := Lib.hid (SL.cast hwd (((H2.out.s1.set (off := 4) (v := .int .i64 (t2 : Int)) (cs' := qCells { s with cyl := t2 } tb s.last.isSome old a n) rfl).set (off := 5) (v := .int .i64 (t4 : Int)) (cs' := qCells { s with cyl := t2, head := t4 } tb s.last.isSome old a n) rfl).set (off := 6) (v := .int .i64 0) (cs' := qCells { s with cyl := t2, head := t4, next := 0 } tb s.last.isSome old a n) rfl).s1)
          clear hwd H2 L K z
          (refine (good_any _ _ _ _).mono ?_; rintro e w9 ⟨rfl, b9⟩; have H9 := Lib.hid (H3.out.grow b9); clear b9; (obtain ⟨L, K, z⟩ := H9.out.look; go_wp2; refine bodyPost_ret (v := .agg #[.slice none 0 0, .int .i64 12, .int .i64 0]) (by simp [results, Tryz.results33, go_sem, L]) rfl ?_); rw [HR.out]; exact RetQ.of (selQ_close rfl HV.out H9.out.set3.drop))
    · have HR := Lib.hid (show dkSeek s b = dkCheck s 128 by rw [HDS.out, if_pos (by simp [h0])])
      have u0 : ((t0 : Int) != 0) = true := by simp; omega
      clear h0
      refine wp_region_quiet (C := Below wA.heap.size wA) (by kernel_rfl) (by kernel_rfl) (Below.refl _ _).drew ?_
      (repeat (with_reducible refine wpQuiet_step ?_; intro K hK; go_simp; first | (with_reducible refine hK _ ?_; clear hK K) | (rw [if_neg (by decide)]; with_reducible refine hK _ ?_; clear hK K) | (refine ⟨_, fun wx hx => (by obtain ⟨f0, f1⟩ := HX.out wx hx; go_simp; with_reducible rfl), hK _ ?_⟩; clear hK K) | (first | (refine ⟨_, fun wx hx => (by with_reducible refine (HT0.out wx hx).mono ?_; rintro e w' ⟨rfl, h2⟩; exact ⟨rfl, hx.trans (h2.mono hx.size)⟩), hK _ ?_⟩; clear hK K) | (refine ⟨_, fun wx hx => (by with_reducible refine (HT2.out wx hx).mono ?_; rintro e w' ⟨rfl, h2⟩; exact ⟨rfl, hx.trans (h2.mono hx.size)⟩), hK _ ?_⟩; clear hK K) | (refine ⟨_, fun wx hx => (by with_reducible refine (HT4.out wx hx).mono ?_; rintro e w' ⟨rfl, h2⟩; exact ⟨rfl, hx.trans (h2.mono hx.size)⟩), hK _ ?_⟩; clear hK K)) | (refine ⟨_, fun _ _ => rfl, hK _ ?_⟩; clear hK K))); with_reducible refine wpQuiet_nil ?_
      intro w1 b1
      have H2 := Lib.hid (H1.out.grow b1)
      clear b1 H1
      go_wp2_with fail
      (refine (fail_any 128 H2.out.s1).mono ?_; rintro e w9 ⟨rfl, S9⟩; have H9 := Lib.hid S9.s1; clear S9; (obtain ⟨L, K, z⟩ := H9.out.look; go_wp2; refine bodyPost_ret (v := .agg #[.slice none 0 0, .int .i64 14, .int .i64 128]) (by simp [results, Tryz.results33, go_sem, L]) rfl ?_); rw [HR.out]; exact RetQ.of (selQ_close rfl HV.out H9.out.set3.drop))
  · have HR := Lib.hid (show dkSeek s b = dkCheck s 128 by rw [HDS.out, if_pos (Or.inl h6)])
    have t1 : ((b.length : Int) != 6) = true := by simp; omega
    clear h6
    (go_enter Tryz.func33, Tryz.ntmps33; go_upto_region 1 with fail; refine name_world (P := Code.wp _ _ _ _) ?_; intro wA hwA; have H1 := Lib.hid (SL.cast hwA (HS.out.allocC #[.slice none 0 0, .int .i64 0, .int .i64 0] 53)); clear hwA HS; generalize w.heap.size = rb at *)
    refine wp_region_quiet (C := Below wA.heap.size wA) (by kernel_rfl) (by kernel_rfl) (Below.refl _ _).drew ?_
    (repeat (with_reducible refine wpQuiet_step ?_; intro K hK; go_simp; first | (with_reducible refine hK _ ?_; clear hK K) | (rw [if_neg (by decide)]; with_reducible refine hK _ ?_; clear hK K) | (refine ⟨_, fun wx hx => (by skip; go_simp; with_reducible rfl), hK _ ?_⟩; clear hK K) | fail | (refine ⟨_, fun _ _ => rfl, hK _ ?_⟩; clear hK K))); with_reducible refine wpQuiet_nil ?_
    intro w1 b1
    have H2 := Lib.hid (H1.out.grow b1)
    clear b1 H1
    go_wp2_with fail
    (refine (fail_any 128 H2.out.s1).mono ?_; rintro e w9 ⟨rfl, S9⟩; have H9 := Lib.hid S9.s1; clear S9; (obtain ⟨L, K, z⟩ := H9.out.look; go_wp2; refine bodyPost_ret (v := .agg #[.slice none 0 0, .int .i64 14, .int .i64 128]) (by simp [results, Tryz.results33, go_sem, L]) rfl ?_); rw [HR.out]; exact RetQ.of (selQ_close rfl HV.out H9.out.set3.drop))
set_option maxRecDepth 100000 in
set_option maxHeartbeats 8000000 in
theorem qkey_any (A : Option Addr) (b : List UInt8) (c : Nat) (high : Bool) (hd : CardB W F A b c) (h : s.ok) (S : SL W (qdiskS x s :: F) w) : Calls Tryz.prog 35 #[.pointer (some ⟨x, 0, none⟩), .slice A b.length c, .bool high] w (RetQ W F x (dkKey s b high)) := by
  have HDB := Lib.hid hd
  have hbl : b.length ≤ 9223372036854775807 := by have := (hd w S.drop).2; unfold maxLen at this; omega
  have HDK := Lib.hid (show dkKey s b high = if b.length < 1 ∨ 255 < b.length then dkCheck s 128 else match searchN s.recs 0 b high with
    | some i => dkHit s i
    | none => dkCheck s 2 from rfl)
  have hhl := h.here_lt
  obtain ⟨tb, old, a, n, vs, A0, c0, hv0, hva, hvz, hlc, hcm, S1⟩ := selQ_open h S; have HS := Lib.hid S1; have HV := Lib.hid hv0; have HVZ := Lib.hid (And.intro hva hvz); have HH := Lib.hid h; have hrl := h.rl; clear S S1 h hv0 hva hvz
  clear hd
  (go_enter Tryz.func35, Tryz.ntmps35; go_upto_region 1 with fail; refine name_world (P := Code.wp _ _ _ _) ?_; intro wA hwA; have H1 := Lib.hid (SL.cast hwA (HS.out.allocC #[.slice none 0 0, .int .i64 0, .int .i64 0] 53)); clear hwA HS; generalize w.heap.size = rb at *)
  by_cases h1 : b.length < 1
  · have HR := Lib.hid (show dkKey s b high = dkCheck s 128 by rw [HDK.out, if_pos (.inl h1)])
    have t1 : ((b.length : Int) < 1) = True := eq_true (by omega)
    clear h1
    go_wp2_with fail
    (refine (fail_any 128 H1.out.s1).mono ?_; rintro e w9 ⟨rfl, S9⟩; have H9 := Lib.hid S9.s1; clear S9; (obtain ⟨L, K, z⟩ := H9.out.look; go_wp2; refine bodyPost_ret (v := .agg #[.slice none 0 0, .int .i64 14, .int .i64 128]) (by simp [results, Tryz.results35, go_sem, L]) rfl ?_); rw [HR.out]; exact RetQ.of (selQ_close rfl HV.out H9.out.set3.drop))
  · have t1 : ((b.length : Int) < 1) = False := eq_false (by omega)
    by_cases h2 : 255 < b.length
    · have HR := Lib.hid (show dkKey s b high = dkCheck s 128 by rw [HDK.out, if_pos (.inr h2)])
      have t2 : (255 < (b.length : Int)) = True := eq_true (by omega)
      clear h1 h2
      go_wp2_with fail
      (refine (fail_any 128 H1.out.s1).mono ?_; rintro e w9 ⟨rfl, S9⟩; have H9 := Lib.hid S9.s1; clear S9; (obtain ⟨L, K, z⟩ := H9.out.look; go_wp2; refine bodyPost_ret (v := .agg #[.slice none 0 0, .int .i64 14, .int .i64 128]) (by simp [results, Tryz.results35, go_sem, L]) rfl ?_); rw [HR.out]; exact RetQ.of (selQ_close rfl HV.out H9.out.set3.drop))
    · have t2 : (255 < (b.length : Int)) = False := eq_false (by omega)
      have HRK := Lib.hid (show dkKey s b high = match searchN s.recs 0 b high with
        | some i => dkHit s i
        | none => dkCheck s 2 by rw [HDK.out, if_neg (by omega)])
      clear h1 h2 HDK
      go_upto_region 3 with fail
      obtain ⟨L, K, z⟩ := H1.out.s1.look
      obtain ⟨L2, K2, z2⟩ := H1.out.s2.look
      have hq := (L2 s.here).trans HVZ.out.1
      have hhi : (s.here : Int) < (s.tracks.length : Int) := by omega
      have HX := Lib.hid (fun (wx : World) (hx : Below wA.heap.size wA wx) => (⟨(hx.cell (p := ⟨x, 3, none⟩) z).trans (L 3), (hx.cell (p := ⟨tb, s.here, none⟩) z2).trans hq⟩ : wx.cell? ⟨x, 3, none⟩ = some (.slice (some ⟨tb, 0, none⟩) s.tracks.length s.tracks.length) ∧ wx.cell? ⟨tb, s.here, none⟩ = some (.slice A0 s.recs.length c0)))
      have HC := Lib.hid (fun (wx : World) (hx : Below wA.heap.size wA wx) => qhere_b HH.out (H1.out.s1.grow hx))
      have HSR := Lib.hid (fun (wx : World) (hx : Below wA.heap.size wA wx) => rsearch_any A0 s.recs c0 0 A b c high wx (trackQ_at ((H1.out.grow hx).s3.take HVZ.out.2)) (Nat.le_trans hlc hcm) (HDB.out wx (H1.out.grow hx).drop.drop.drop.drop.drop))
      clear L K z L2 K2 z2 hq
      refine wp_region_quiet (C := Below wA.heap.size wA) (by kernel_rfl) (by kernel_rfl) (Below.refl _ _).drew ?_
      (repeat (with_reducible refine wpQuiet_step ?_; intro K hK; go_simp; first | (with_reducible refine hK _ ?_; clear hK K) | (rw [if_neg (by decide)]; with_reducible refine hK _ ?_; clear hK K) | (refine ⟨_, fun wx hx => (by obtain ⟨f0, f1⟩ := HX.out wx hx; go_simp; with_reducible rfl), hK _ ?_⟩; clear hK K) | (first | (refine ⟨_, fun wx hx => (by with_reducible refine (HC.out wx hx).mono ?_; rintro e w' ⟨rfl, h2⟩; exact ⟨rfl, hx.trans (h2.mono hx.size)⟩), hK _ ?_⟩; clear hK K) | (refine ⟨_, fun wx hx => (by with_reducible refine (HSR.out wx hx).mono ?_; rintro e w' ⟨rfl, h2⟩; exact ⟨rfl, hx.trans (h2.mono hx.size)⟩), hK _ ?_⟩; clear hK K)) | (refine ⟨_, fun _ _ => rfl, hK _ ?_⟩; clear hK K))); with_reducible refine wpQuiet_nil ?_
      intro w1 b1
      have H2 := Lib.hid (H1.out.grow b1)
      clear b1 H1 HX HC HSR HDB
      cases hf : searchN s.recs 0 b high with
      | none =>
        rw [hf] at HRK
        have HR := Lib.hid (show dkKey s b high = dkCheck s 2 from HRK.out)
        clear HRK hf
        simp only [idxV]
        go_wp2_with fail
        (refine (fail_any 2 H2.out.s1).mono ?_; rintro e w9 ⟨rfl, S9⟩; have H9 := Lib.hid S9.s1; clear S9; (obtain ⟨L, K, z⟩ := H9.out.look; go_wp2; refine bodyPost_ret (v := .agg #[.slice none 0 0, .int .i64 14, .int .i64 2]) (by simp [results, Tryz.results35, go_sem, L]) rfl ?_); rw [HR.out]; exact RetQ.of (selQ_close rfl HV.out H9.out.set3.drop))
      | some i =>
        rw [hf] at HRK
        have HR := Lib.hid (show dkKey s b high = dkHit s i from HRK.out)
        clear HRK hf
        simp only [idxV]
        have t3 : ((i : Int) < 0) = False := eq_false (by omega)
        go_wp2_with fail
        (refine (qhit_any i H2.out.s1).mono ?_; rintro e w9 ⟨rfl, S9⟩; have H9 := Lib.hid S9.s1; clear S9; (obtain ⟨L, K, z⟩ := H9.out.look; go_wp2; refine bodyPost_ret (v := .agg #[.slice none 0 0, .int .i64 76, .int .i64 0]) (by simp [results, Tryz.results35, go_sem, L]) rfl ?_); rw [HR.out]; exact RetQ.of (selQ_close rfl HV.out H9.out.set3.drop))
end
end Go.Proofs.YtmkndbledppniaaGreat
