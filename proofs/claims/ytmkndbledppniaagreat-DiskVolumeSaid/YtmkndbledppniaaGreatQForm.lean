/- The document's unit: WriteCount (format). -/
import Derived.Test.YtmkndbledppniaaGreatQRw
import Derived.Test.YtmkndbledppniaaGreatForm
import Derived.Test.YtmkndbledppniaaGreatFloat
import Derived.Deep.CutBlock
import Derived.Deep.CutRange
namespace Go.Proofs.YtmkndbledppniaaGreat
open Go.RowKit
theorem padL_exact {b : List UInt8} {n : Nat} (h : n ≤ b.length) : padL b n = b.take n := by
  unfold padL
  rw [show n - b.length = 0 by omega]; simp
theorem box3 {W w : World} {R : List SA} {bx : Nat} {v0 v1 v2 v3 u0 u1 u2 u3 : Value} {t : TypeId} (S : SL W (cel bx #[v0, v1, v2, v3] t :: R) w) : SL W (cel bx #[u0, u1, u2, u3] t :: R) ((((w.setCell ⟨bx, 0, none⟩ u0).setCell ⟨bx, 1, none⟩ u1).setCell ⟨bx, 2, none⟩ u2).setCell ⟨bx, 3, none⟩ u3) := S.set4
section
variable {W w : World} {F : List SA} {x : Nat} {s : DK}
set_option maxRecDepth 100000 in
set_option maxHeartbeats 32000000 in
theorem qformat_any (A : Option Addr) (b : List UInt8) (c : Nat) (hd : CardB W F A b c) (h : s.ok) (S : SL W (qdiskS x s :: F) w) :
    Calls Tryz.prog 40 #[.pointer (some ⟨x, 0, none⟩), .slice A b.length c] w (RetQ W F x (dkFormat s b)) := by
  have hd0 := hd w S.drop
  have HD0 := Lib.hid hd0
  have HDB := Lib.hid hd
  have hhl := h.here_lt
  have hbl : b.length ≤ c := hd0.2.1
  have hcm2 : c ≤ 9223372036854775807 := by have := hd0.2.2; unfold maxLen at this; omega
  have HDF := Lib.hid (show dkFormat s b = if b.length < 8 ∨ two b 0 ≠ s.cyl ∨ two b 2 ≠ s.head ∨ (b[4]?.getD 0) = 0 then dkCheck s 128 else
    if b.length ≠ 8 + (b[5]?.getD 0).toNat + two b 6 then dkCheck s 128 else
    if putE s.recs ⟨((b[4]?.getD 0).toNat : Int), (b.drop 8).take (b[5]?.getD 0).toNat, b.drop (8 + (b[5]?.getD 0).toNat), false⟩ ≠ 0 then dkCheck s 4 else
      dkDone { dkChange s (putR s.recs ⟨((b[4]?.getD 0).toNat : Int), (b.drop 8).take (b[5]?.getD 0).toNat, b.drop (8 + (b[5]?.getD 0).toNat), false⟩) ((b[4]?.getD 0).toNat : Int) with next := (putR s.recs ⟨((b[4]?.getD 0).toNat : Int), (b.drop 8).take (b[5]?.getD 0).toNat, b.drop (8 + (b[5]?.getD 0).toNat), false⟩).length } [] from rfl)
  obtain ⟨tb, old, a, n, vs, A0, c0, hv0, hva, hvz, hlc, hcm, S1⟩ := selQ_open h S; have HS := Lib.hid S1; have HV := Lib.hid hv0; have HVZ := Lib.hid (And.intro hva hvz); have HH := Lib.hid h; have hrl := h.rl; clear S S1 h hv0 hva hvz
  clear hd hd0
  by_cases h8 : b.length < 8
  · have HR := Lib.hid (show dkFormat s b = dkCheck s 128 by rw [HDF.out, if_pos (Or.inl h8)])
    have t1 : ((b.length : Int) < 8) = True := eq_true (by omega)
    clear h8
    (go_enter Tryz.func40, Tryz.ntmps40; go_upto_region 1 with fail; refine name_world (P := Code.wp _ _ _ _) ?_; intro wA hwA; have H1 := Lib.hid (SL.cast hwA (HS.out.allocC #[.slice none 0 0, .int .i64 0, .int .i64 0] 53)); clear hwA HS; generalize w.heap.size = rb at *)
    refine wp_region_quiet (C := Below wA.heap.size wA) (by kernel_rfl) (by kernel_rfl) (Below.refl _ _).drew ?_
    (repeat (with_reducible refine wpQuiet_step ?_; intro K hK; go_simp; first | (with_reducible refine hK _ ?_; clear hK K) | (rw [if_neg (by decide)]; with_reducible refine hK _ ?_; clear hK K) | (refine ⟨_, fun wx hx => (by skip; go_simp; with_reducible rfl), hK _ ?_⟩; clear hK K) | fail | (refine ⟨_, fun _ _ => rfl, hK _ ?_⟩; clear hK K))); with_reducible refine wpQuiet_nil ?_
    intro w1 b1
    have H2 := Lib.hid (H1.out.grow b1)
    clear b1 H1
    go_wp2_with fail
    (refine (fail_any 128 H2.out.s1).mono ?_; rintro e w9 ⟨rfl, S9⟩; have H9 := Lib.hid S9.s1; clear S9; (obtain ⟨L, K, z⟩ := H9.out.look; go_wp2; refine bodyPost_ret (v := .agg #[.slice none 0 0, .int .i64 14, .int .i64 128]) (by simp [results, Tryz.results40, go_sem, L]) rfl ?_); rw [HR.out]; exact RetQ.of (selQ_close rfl HV.out H9.out.set3.drop))
  have h8' : 8 ≤ b.length := by omega
  have hne : Lib.byteCells b ≠ [] := by intro e; have := congrArg List.length e; simp [Lib.byteCells] at this; subst this; simp at h8'
  obtain ⟨g, off, rfl, _, _⟩ := HD0.out.1 hne
  have hb4 := byteCells_get b 4 (by omega)
  have hb5 := byteCells_get b 5 (by omega)
  have i4 : (b[4]?.getD 0) = b[4] := by rw [List.getElem?_eq_getElem (by omega)]; rfl
  have i5 : (b[5]?.getD 0) = b[5] := by rw [List.getElem?_eq_getElem (by omega)]; rfl
  rw [i4, i5] at HDF
  generalize b[4] = d4 at *
  generalize b[5] = d5 at *
  have hd4 := d4.toNat_lt
  have hd5 := d5.toNat_lt
  have HB8 := Lib.hid h8'
  clear i4 i5 HD0 h8
  (go_enter Tryz.func40, Tryz.ntmps40; go_upto_region 1 with fail; refine name_world (P := Code.wp _ _ _ _) ?_; intro wA hwA; have H1 := Lib.hid (SL.cast hwA (HS.out.allocC #[.slice none 0 0, .int .i64 0, .int .i64 0] 53)); clear hwA HS; generalize w.heap.size = rb at *)
  have hdA := HDB.out wA H1.out.drop.drop.drop.drop.drop
  obtain ⟨g', off', e, _, hcell⟩ := hdA.1 hne
  injection e with e; injection e with e e'; subst e; subst e'
  have hk4 := hcell 4 _ hb4
  have hk5 := hcell 5 _ hb5
  have hz4 := World.block_lt_of_cell? wA _ hk4
  obtain ⟨nb, hnb⟩ : ∃ n, b.length = n := ⟨_, rfl⟩
  have HNB := Lib.hid hnb
  rw [hnb] at h8' hbl HDF ⊢
  have HT0 := Lib.hid (fun (wx : World) (hx : Below wA.heap.size wA wx) => number_at (some ⟨g, off, none⟩) b nb c 0 0 rfl wx (hdA.grow hx) hnb.symm (by omega))
  have HT2 := Lib.hid (fun (wx : World) (hx : Below wA.heap.size wA wx) => number_at (some ⟨g, off, none⟩) b nb c 2 2 rfl wx (hdA.grow hx) hnb.symm (by omega))
  have HT6 := Lib.hid (fun (wx : World) (hx : Below wA.heap.size wA wx) => number_at (some ⟨g, off, none⟩) b nb c 6 6 rfl wx (hdA.grow hx) hnb.symm (by omega))
  have h6b : two b 6 ≤ 65535 := by unfold two; have := (b[6]?.getD 0).toNat_lt; have := (b[6 + 1]?.getD 0).toNat_lt; omega
  generalize two b 0 = t0 at *
  generalize two b 2 = t2 at *
  generalize two b 6 = t6 at *
  obtain ⟨L, K, z⟩ := H1.out.s1.look
  have HX := Lib.hid (fun (wx : World) (hx : Below wA.heap.size wA wx) => (⟨(hx.cell (p := ⟨x, 4, none⟩) z).trans (L 4), (hx.cell (p := ⟨x, 5, none⟩) z).trans (L 5), (hx.cell (p := ⟨g, off + 4, none⟩) hz4).trans hk4, (hx.cell (p := ⟨g, off + 5, none⟩) hz4).trans hk5⟩ : wx.cell? ⟨x, 4, none⟩ = some (.int .i64 (s.cyl : Int)) ∧ wx.cell? ⟨x, 5, none⟩ = some (.int .i64 (s.head : Int)) ∧
    wx.cell? ⟨g, off + 4, none⟩ = some (.int .u8 (d4.toNat : Int)) ∧ wx.cell? ⟨g, off + 5, none⟩ = some (.int .u8 (d5.toNat : Int))))
  have HDA := Lib.hid hdA
  have e2 : (c = 2) = False := eq_false (by omega)
  have e6 : (c = 6) = False := eq_false (by omega)
  have s2 : ((2 : Int) ≤ (nb : Int)) = True := eq_true (by omega)
  have s6 : ((6 : Int) ≤ (nb : Int)) = True := eq_true (by omega)
  have sc : ((nb : Int) ≤ (c : Int)) = True := eq_true (by omega)
  have s4 : ((4 : Int) < (nb : Int)) = True := eq_true (by omega)
  have s5 : ((5 : Int) < (nb : Int)) = True := eq_true (by omega)
  have t8 : ((nb : Int) < 8) = False := eq_false (by omega)
  clear hdA hcell hk4 hk5 hz4 L K z hb4 hb5 hne hnb
  by_cases h0 : t0 = s.cyl
  · have u0 : ((t0 : Int) != (s.cyl : Int)) = false := by rw [h0]; simp
    by_cases h2 : t2 = s.head
    · have u1 : ((t2 : Int) != (s.head : Int)) = false := by rw [h2]; simp
      by_cases h4 : d4 = 0
      · have HR := Lib.hid (show dkFormat s b = dkCheck s 128 by rw [HDF.out, if_pos (Or.inr (Or.inr (Or.inr h4)))])
        have u2 : ((d4.toNat : Int) == 0) = true := by rw [h4]; rfl
        clear h0 h2 h4
        refine wp_region_quiet (C := Below wA.heap.size wA) (by kernel_rfl) (by kernel_rfl) (Below.refl _ _).drew ?_
        (repeat (with_reducible refine wpQuiet_step ?_; intro K hK; go_simp; first | (with_reducible refine hK _ ?_; clear hK K) | (rw [if_neg (by decide)]; with_reducible refine hK _ ?_; clear hK K) | (refine ⟨_, fun wx hx => (by obtain ⟨f0, f1, f2, f3⟩ := HX.out wx hx; go_simp; with_reducible rfl), hK _ ?_⟩; clear hK K) | (first | (refine ⟨_, fun wx hx => (by with_reducible refine (HT0.out wx hx).mono ?_; rintro e w' ⟨rfl, h2⟩; exact ⟨rfl, hx.trans (h2.mono hx.size)⟩), hK _ ?_⟩; clear hK K) | (refine ⟨_, fun wx hx => (by with_reducible refine (HT2.out wx hx).mono ?_; rintro e w' ⟨rfl, h2⟩; exact ⟨rfl, hx.trans (h2.mono hx.size)⟩), hK _ ?_⟩; clear hK K) | (refine ⟨_, fun wx hx => (by with_reducible refine (HT6.out wx hx).mono ?_; rintro e w' ⟨rfl, h2⟩; exact ⟨rfl, hx.trans (h2.mono hx.size)⟩), hK _ ?_⟩; clear hK K)) | (refine ⟨_, fun _ _ => rfl, hK _ ?_⟩; clear hK K))); with_reducible refine wpQuiet_nil ?_
        intro w1 b1
        have B1 := Lib.hid b1
        clear b1
        have H2 := Lib.hid (H1.out.grow B1.out)
        clear H1 B1
        go_wp2_with fail
        (refine (fail_any 128 H2.out.s1).mono ?_; rintro e w9 ⟨rfl, S9⟩; have H9 := Lib.hid S9.s1; clear S9; (obtain ⟨L, K, z⟩ := H9.out.look; go_wp2; refine bodyPost_ret (v := .agg #[.slice none 0 0, .int .i64 14, .int .i64 128]) (by simp [results, Tryz.results40, go_sem, L]) rfl ?_); rw [HR.out]; exact RetQ.of (selQ_close rfl HV.out H9.out.set3.drop))
      · have u2 : ((d4.toNat : Int) == 0) = false := by
          rw [beq_eq_false_iff_ne]
          intro e
          exact h4 (UInt8.toNat_inj.1 (by simpa using e))
        have h4n : 1 ≤ d4.toNat := by
          rcases Nat.eq_zero_or_pos d4.toNat with e | e
          · exact absurd (UInt8.toNat_inj.1 (by simpa using e)) h4
          · exact e
        have HD2 := Lib.hid (show dkFormat s b = if nb ≠ 8 + d5.toNat + t6 then dkCheck s 128 else
            if putE s.recs ⟨(d4.toNat : Int), (b.drop 8).take d5.toNat, b.drop (8 + d5.toNat), false⟩ ≠ 0 then dkCheck s 4 else
            dkDone { dkChange s (putR s.recs ⟨(d4.toNat : Int), (b.drop 8).take d5.toNat, b.drop (8 + d5.toNat), false⟩) (d4.toNat : Int) with next := (putR s.recs ⟨(d4.toNat : Int), (b.drop 8).take d5.toNat, b.drop (8 + d5.toNat), false⟩).length } [] by
          rw [HDF.out, if_neg (by rintro (e | e | e | e); exact absurd e (by omega); exact e h0; exact e h2; exact h4 e)])
        clear h0 h2 h4 HDF
        generalize d5.toNat = kn at *
        generalize d4.toNat = rn at *
        obtain ⟨ke, hke⟩ : ∃ ke, ke = 8 + kn := ⟨_, rfl⟩
        have w0 : IntKind.i64.wrap (kn : Int) = (kn : Int) := IntWalk.i64_in _ (by omega)
        have w1 : IntKind.i64.wrap (rn : Int) = (rn : Int) := IntWalk.i64_in _ (by omega)
        have w8 : IntKind.i64.wrap (8 + (kn : Int)) = (ke : Int) := by rw [IntWalk.i64_in _ (by omega)]; omega
        have w9 : IntKind.i64.wrap ((ke : Int) + (t6 : Int)) = (ke : Int) + (t6 : Int) := IntWalk.i64_in _ (by omega)
        by_cases hlen : nb = 8 + kn + t6
        · have u3 : ((nb : Int) != (ke : Int) + (t6 : Int)) = false := by simp; omega
          have HKE := Lib.hid hke
          have HLE := Lib.hid hlen
          clear hke hlen
          refine wp_region_quiet (C := Below wA.heap.size wA) (by kernel_rfl) (by kernel_rfl) (Below.refl _ _).drew ?_
          (repeat (with_reducible refine wpQuiet_step ?_; intro K hK; go_simp; first | (with_reducible refine hK _ ?_; clear hK K) | (rw [if_neg (by decide)]; with_reducible refine hK _ ?_; clear hK K) | (refine ⟨_, fun wx hx => (by obtain ⟨f0, f1, f2, f3⟩ := HX.out wx hx; go_simp; with_reducible rfl), hK _ ?_⟩; clear hK K) | (first | (refine ⟨_, fun wx hx => (by with_reducible refine (HT0.out wx hx).mono ?_; rintro e w' ⟨rfl, h2⟩; exact ⟨rfl, hx.trans (h2.mono hx.size)⟩), hK _ ?_⟩; clear hK K) | (refine ⟨_, fun wx hx => (by with_reducible refine (HT2.out wx hx).mono ?_; rintro e w' ⟨rfl, h2⟩; exact ⟨rfl, hx.trans (h2.mono hx.size)⟩), hK _ ?_⟩; clear hK K) | (refine ⟨_, fun wx hx => (by with_reducible refine (HT6.out wx hx).mono ?_; rintro e w' ⟨rfl, h2⟩; exact ⟨rfl, hx.trans (h2.mono hx.size)⟩), hK _ ?_⟩; clear hK K)) | (refine ⟨_, fun _ _ => rfl, hK _ ?_⟩; clear hK K))); with_reducible refine wpQuiet_nil ?_
          intro w2 b2
          have B2 := Lib.hid b2
          clear b2
          have hke := HKE.out
          have hlen := HLE.out
          have g0 : ((8 : Int) ≤ (ke : Int)) = True := eq_true (by omega)
          have g1 : ((ke : Int) ≤ (c : Int)) = True := eq_true (by omega)
          have g2 : ((ke : Int) ≤ (nb : Int)) = True := eq_true (by omega)
          have g3 : ((8 : Int) ≤ (nb : Int)) = True := eq_true (by omega)
          have ek : ke - 8 = kn := by omega
          have ed : nb - ke = t6 := by omega
          have wk : IntKind.i64.wrap ((ke : Int) - 8) = (kn : Int) := by rw [IntWalk.i64_in _ (by omega)]; omega
          have wt : IntKind.i64.wrap ((nb : Int) - (ke : Int)) = (t6 : Int) := by rw [IntWalk.i64_in _ (by omega)]; omega
          obtain ⟨Ak, hAk⟩ : ∃ A, (if c = 8 then (some ⟨g, off, none⟩ : Option Addr) else some ⟨g, off + 8, none⟩) = A := ⟨_, rfl⟩
          obtain ⟨Ad, hAd⟩ : ∃ A, (if c = ke then (some ⟨g, off, none⟩ : Option Addr) else some ⟨g, off + ke, none⟩) = A := ⟨_, rfl⟩
          have HCK := Lib.hid (HDA.out.drop 8 (by rw [HNB.out]; omega) Ak (fun h => by rw [HNB.out] at h; rw [← hAk, if_neg (by omega)]))
          have HCD := Lib.hid (HDA.out.drop ke (by rw [HNB.out]; omega) Ad (fun h => by rw [HNB.out] at h; rw [← hAd, if_neg (by omega)]))
          have HD3 := Lib.hid (show dkFormat s b = if putE s.recs ⟨(rn : Int), (b.drop 8).take kn, b.drop ke, false⟩ ≠ 0 then dkCheck s 4 else
            dkDone { dkChange s (putR s.recs ⟨(rn : Int), (b.drop 8).take kn, b.drop ke, false⟩) (rn : Int) with next := (putR s.recs ⟨(rn : Int), (b.drop 8).take kn, b.drop ke, false⟩).length } [] by rw [HD2.out, if_neg (by omega), hke])
          obtain ⟨kk, hkk, hkkl⟩ : ∃ kk, kk = (b.drop 8).take kn ∧ kk.length = kn := ⟨_, rfl, by rw [List.length_take, List.length_drop, HNB.out]; omega⟩
          obtain ⟨dd, hdd, hddl⟩ : ∃ dd, dd = b.drop ke ∧ dd.length = t6 := ⟨_, rfl, by rw [List.length_drop, HNB.out]; omega⟩
          have HF1 := Lib.hid (fun (wx : World) (hx : Below wA.heap.size wA wx) => (fill_any (F := []) Ak (b.drop 8) (nb - 8) (c - 8) kn (by rw [List.length_drop, HNB.out]) (HCK.out.grow hx) (by omega) (SL.start wx)).mono fun e w' h => (by
            obtain ⟨g9, e1, e2, e3⟩ := h
            rw [padL_exact (by rw [List.length_drop, HNB.out]; omega), ← hkk] at e2
            exact ⟨g9, e1, e2, hx.trans (e3.mono hx.size)⟩ : ∃ g9, e = .returned (.slice (some ⟨g9, 0, none⟩) kn kn) ∧ SL wx (rowS 5 1 (.slice (some ⟨g9, 0, none⟩) kn kn) kn (Lib.byteCells kk) :: []) w' ∧ Below wA.heap.size wA w'))
          have HF2 := Lib.hid (fun (wx : World) (hx : Below wA.heap.size wA wx) => (fill_any (F := []) Ad (b.drop ke) t6 (c - ke) t6 (by rw [List.length_drop, HNB.out]; omega) (HCD.out.grow hx) (by omega) (SL.start wx)).mono fun e w' h => (by
            obtain ⟨g9, e1, e2, e3⟩ := h
            rw [padL_exact (by rw [List.length_drop, HNB.out]; omega), List.take_of_length_le (by rw [List.length_drop, HNB.out]; omega), ← hdd] at e2
            exact ⟨g9, e1, e2, hx.trans (e3.mono hx.size)⟩ : ∃ g9, e = .returned (.slice (some ⟨g9, 0, none⟩) t6 t6) ∧ SL wx (rowS 5 1 (.slice (some ⟨g9, 0, none⟩) t6 t6) t6 (Lib.byteCells dd) :: []) w' ∧ Below wA.heap.size wA w'))
          rw [← hkk, ← hdd] at HD3
          have HKK := Lib.hid (And.intro hkkl hddl)
          have hkn : kn ≤ 255 := by omega
          have HPV := Lib.hid (put_valid (rs := s.recs) (x := ⟨(rn : Int), kk, dd, false⟩))
          clear hlen hkk hkkl hdd hddl HD2 hke w9 HT0 HT2 HT6 HCK HCD u0 u1 u2 u3
          go_upto_region 3 with fail
          obtain ⟨f0, f1, f2, f3⟩ := HX.out _ B2.out
          go_upto_region 4 with fail
          clear f0 f1 f2 f3
          go_cut [6] (fun v wx => ∃ bx, v = .pointer (some ⟨bx, 0, none⟩) ∧ ∃ g2 g3, SL W (cel bx #[.int .i64 (rn : Int), .slice (some ⟨g2, 0, none⟩) kn kn, .slice (some ⟨g3, 0, none⟩) t6 t6, .bool false] 62 :: rowS 5 1 (.slice (some ⟨g2, 0, none⟩) kn kn) kn (Lib.byteCells kk) :: rowS 5 1 (.slice (some ⟨g3, 0, none⟩) t6 t6) t6 (Lib.byteCells dd) :: cel rb #[.slice none 0 0, .int .i64 0, .int .i64 0] 53 :: cel x (qCells s tb s.last.isSome old a n) 40 :: cel tb vs.toArray 35 :: star (List.zipWith trackQ vs s.tracks) :: lastQ old a n s.last :: F) wx)
          case first =>
            refine wp_region_float (fun wx => Below wA.heap.size wA wx) [0, 1, 4, 5, 6, 7, 9, 10, 11, 12, 13, 14, 15] [2, 3] [8, 16, 17] 18 [19] (by kernel_rfl) (by kernel_rfl) B2.out.drew (by intro c a d v w h; cases d <;> exact h) ?_
            simp only [pick, List.filterMap_cons, List.filterMap_nil, List.getElem?_cons_zero, List.getElem?_cons_succ]
            (repeat (with_reducible refine wpPure_step ?_; intro K hK; go_simp; with_reducible refine hK _ ?_; clear hK K))
            refine wpPure_nil ?_
            (repeat (with_reducible refine wpLoads_step ?_; intro K hK; go_simp; first | (with_reducible refine hK _ ?_; clear hK K) | (rw [if_neg (by decide)]; with_reducible refine hK _ ?_; clear hK K) | (refine ⟨_, fun wx hx => (by obtain ⟨f0, f1, f2, f3⟩ := HX.out wx hx; go_simp; with_reducible rfl), hK _ ?_⟩; clear hK K) | (refine ⟨_, fun _ _ => rfl, hK _ ?_⟩; clear hK K))); with_reducible refine wpLoads_nil ?_
            have H2 := Lib.hid ((H1.out.grow B2.out).drew)
            have b2 := B2.out.drew
            have b2r := B2.out
            have z2r := B2.out.size
            clear H1
            refine floatP_cons ?_ ?_
            · simp only [pick, List.filterMap_cons, List.filterMap_nil, List.getElem?_cons_zero, List.getElem?_cons_succ]
              (with_reducible refine wpKeep_step ?_; intro K hK; go_simp; with_reducible refine hK _ _ ?_ ?_; (focus (first | assumption | ((repeat' (first | (with_reducible exact Below.refl _ _) | (with_reducible assumption) | (with_reducible refine below_drewN ?_ _) | (with_reducible refine Below.drew ?_) | (with_reducible refine Below.alloc ?_ ?_ _) | (with_reducible refine Below.setCell ?_ ?_ _) | (with_reducible refine below_row ?_ ?_ _) | (with_reducible exact Nat.le_refl _) | omega | (simp only [World.size_alloc, World.size_setCell, World.size_drew, World.size_drewN]; omega) | (simp; done) | (simp; omega)))))); clear hK K)
              have hA := H2.out.allocC #[.int .i64 0, .slice none 0 0, .slice none 0 0, .bool false] 62
              rw [show w2.drew.heap.size = w2.heap.size from rfl] at hA
              have H3 := Lib.hid hA
              (with_reducible refine wpKeep_step ?_; intro K hK; go_simp)
              refine (HF1.out _ (by first | assumption | ((repeat' (first | (with_reducible exact Below.refl _ _) | (with_reducible assumption) | (with_reducible refine below_drewN ?_ _) | (with_reducible refine Below.drew ?_) | (with_reducible refine Below.alloc ?_ ?_ _) | (with_reducible refine Below.setCell ?_ ?_ _) | (with_reducible refine below_row ?_ ?_ _) | (with_reducible exact Nat.le_refl _) | omega | (simp only [World.size_alloc, World.size_setCell, World.size_drew, World.size_drewN]; omega) | (simp; done) | (simp; omega)))))).mono ?_
              rintro e w4 ⟨g2, rfl, S, b⟩
              have Bw4 := Lib.hid b
              have bw4 := b
              have zw4 := b.size
              have H4 := Lib.hid (H3.out.join S)
              refine hK _ _ b ?_
              clear hK K S b
              (with_reducible refine wpKeep_step ?_; intro K hK; go_simp)
              refine (HF2.out _ (by first | assumption | ((repeat' (first | (with_reducible exact Below.refl _ _) | (with_reducible assumption) | (with_reducible refine below_drewN ?_ _) | (with_reducible refine Below.drew ?_) | (with_reducible refine Below.alloc ?_ ?_ _) | (with_reducible refine Below.setCell ?_ ?_ _) | (with_reducible refine below_row ?_ ?_ _) | (with_reducible exact Nat.le_refl _) | omega | (simp only [World.size_alloc, World.size_setCell, World.size_drew, World.size_drewN]; omega) | (simp; done) | (simp; omega)))))).mono ?_
              rintro e w5 ⟨g3, rfl, S, b⟩
              have Bw5 := Lib.hid b
              have bw5 := b
              have zw5 := b.size
              have H5 := Lib.hid (H4.out.join S)
              refine hK _ _ b ?_
              clear hK K S b
              (with_reducible refine wpKeep_step ?_; intro K hK; go_simp; with_reducible refine hK _ _ ?_ ?_; (focus (first | assumption | ((repeat' (first | (with_reducible exact Below.refl _ _) | (with_reducible assumption) | (with_reducible refine below_drewN ?_ _) | (with_reducible refine Below.drew ?_) | (with_reducible refine Below.alloc ?_ ?_ _) | (with_reducible refine Below.setCell ?_ ?_ _) | (with_reducible refine below_row ?_ ?_ _) | (with_reducible exact Nat.le_refl _) | omega | (simp only [World.size_alloc, World.size_setCell, World.size_drew, World.size_drewN]; omega) | (simp; done) | (simp; omega)))))); clear hK K)
              refine wpKeep_nil ?_
              have HBX := Lib.hid (H5.out.s1.s2)
              obtain ⟨L, K, z⟩ := HBX.out.look
              go_wp2
              go_meet
              refine ⟨_, rfl, g2, g3, ?_⟩
              exact box3 HBX.out
            · simp only [pick, List.filterMap_cons, List.filterMap_nil, List.getElem?_cons_zero, List.getElem?_cons_succ]
              (with_reducible refine wpKeep_step ?_; intro K hK; go_simp)
              refine (HF1.out _ (by first | assumption | ((repeat' (first | (with_reducible exact Below.refl _ _) | (with_reducible assumption) | (with_reducible refine below_drewN ?_ _) | (with_reducible refine Below.drew ?_) | (with_reducible refine Below.alloc ?_ ?_ _) | (with_reducible refine Below.setCell ?_ ?_ _) | (with_reducible refine below_row ?_ ?_ _) | (with_reducible exact Nat.le_refl _) | omega | (simp only [World.size_alloc, World.size_setCell, World.size_drew, World.size_drewN]; omega) | (simp; done) | (simp; omega)))))).mono ?_
              rintro e w3 ⟨g2, rfl, S, b⟩
              have Bw3 := Lib.hid b
              have bw3 := b
              have zw3 := b.size
              have H3 := Lib.hid (H2.out.join S)
              refine hK _ _ b ?_
              clear hK K S b
              refine wpKeep_nil ?_
              refine floatP_cons ?_ ?_
              · simp only [pick, List.filterMap_cons, List.filterMap_nil, List.getElem?_cons_zero, List.getElem?_cons_succ]
                (with_reducible refine wpKeep_step ?_; intro K hK; go_simp; with_reducible refine hK _ _ ?_ ?_; (focus (first | assumption | ((repeat' (first | (with_reducible exact Below.refl _ _) | (with_reducible assumption) | (with_reducible refine below_drewN ?_ _) | (with_reducible refine Below.drew ?_) | (with_reducible refine Below.alloc ?_ ?_ _) | (with_reducible refine Below.setCell ?_ ?_ _) | (with_reducible refine below_row ?_ ?_ _) | (with_reducible exact Nat.le_refl _) | omega | (simp only [World.size_alloc, World.size_setCell, World.size_drew, World.size_drewN]; omega) | (simp; done) | (simp; omega)))))); clear hK K)
                have H4 := Lib.hid (H3.out.allocC #[.int .i64 0, .slice none 0 0, .slice none 0 0, .bool false] 62)
                (with_reducible refine wpKeep_step ?_; intro K hK; go_simp)
                refine (HF2.out _ (by first | assumption | ((repeat' (first | (with_reducible exact Below.refl _ _) | (with_reducible assumption) | (with_reducible refine below_drewN ?_ _) | (with_reducible refine Below.drew ?_) | (with_reducible refine Below.alloc ?_ ?_ _) | (with_reducible refine Below.setCell ?_ ?_ _) | (with_reducible refine below_row ?_ ?_ _) | (with_reducible exact Nat.le_refl _) | omega | (simp only [World.size_alloc, World.size_setCell, World.size_drew, World.size_drewN]; omega) | (simp; done) | (simp; omega)))))).mono ?_
                rintro e w5 ⟨g3, rfl, S, b⟩
                have Bw5 := Lib.hid b
                have bw5 := b
                have zw5 := b.size
                have H5 := Lib.hid (H4.out.join S)
                refine hK _ _ b ?_
                clear hK K S b
                (with_reducible refine wpKeep_step ?_; intro K hK; go_simp; with_reducible refine hK _ _ ?_ ?_; (focus (first | assumption | ((repeat' (first | (with_reducible exact Below.refl _ _) | (with_reducible assumption) | (with_reducible refine below_drewN ?_ _) | (with_reducible refine Below.drew ?_) | (with_reducible refine Below.alloc ?_ ?_ _) | (with_reducible refine Below.setCell ?_ ?_ _) | (with_reducible refine below_row ?_ ?_ _) | (with_reducible exact Nat.le_refl _) | omega | (simp only [World.size_alloc, World.size_setCell, World.size_drew, World.size_drewN]; omega) | (simp; done) | (simp; omega)))))); clear hK K)
                refine wpKeep_nil ?_
                have HBX := Lib.hid (H5.out.s2.s2)
                obtain ⟨L, K, z⟩ := HBX.out.look
                go_wp2
                go_meet
                refine ⟨_, rfl, g2, g3, ?_⟩
                exact box3 HBX.out
              · simp only [pick, List.filterMap_cons, List.filterMap_nil, List.getElem?_cons_zero, List.getElem?_cons_succ]
                (with_reducible refine wpKeep_step ?_; intro K hK; go_simp)
                refine (HF2.out _ (by first | assumption | ((repeat' (first | (with_reducible exact Below.refl _ _) | (with_reducible assumption) | (with_reducible refine below_drewN ?_ _) | (with_reducible refine Below.drew ?_) | (with_reducible refine Below.alloc ?_ ?_ _) | (with_reducible refine Below.setCell ?_ ?_ _) | (with_reducible refine below_row ?_ ?_ _) | (with_reducible exact Nat.le_refl _) | omega | (simp only [World.size_alloc, World.size_setCell, World.size_drew, World.size_drewN]; omega) | (simp; done) | (simp; omega)))))).mono ?_
                rintro e w4 ⟨g3, rfl, S, b⟩
                have Bw4 := Lib.hid b
                have bw4 := b
                have zw4 := b.size
                have H4 := Lib.hid (H3.out.join S)
                refine hK _ _ b ?_
                clear hK K S b
                refine wpKeep_nil ?_
                refine floatP_cons ?_ ?_
                · simp only [pick, List.filterMap_cons, List.filterMap_nil, List.getElem?_cons_zero, List.getElem?_cons_succ]
                  (with_reducible refine wpKeep_step ?_; intro K hK; go_simp; with_reducible refine hK _ _ ?_ ?_; (focus (first | assumption | ((repeat' (first | (with_reducible exact Below.refl _ _) | (with_reducible assumption) | (with_reducible refine below_drewN ?_ _) | (with_reducible refine Below.drew ?_) | (with_reducible refine Below.alloc ?_ ?_ _) | (with_reducible refine Below.setCell ?_ ?_ _) | (with_reducible refine below_row ?_ ?_ _) | (with_reducible exact Nat.le_refl _) | omega | (simp only [World.size_alloc, World.size_setCell, World.size_drew, World.size_drewN]; omega) | (simp; done) | (simp; omega)))))); clear hK K)
                  have H5 := Lib.hid (H4.out.allocC #[.int .i64 0, .slice none 0 0, .slice none 0 0, .bool false] 62)
                  (with_reducible refine wpKeep_step ?_; intro K hK; go_simp; with_reducible refine hK _ _ ?_ ?_; (focus (first | assumption | ((repeat' (first | (with_reducible exact Below.refl _ _) | (with_reducible assumption) | (with_reducible refine below_drewN ?_ _) | (with_reducible refine Below.drew ?_) | (with_reducible refine Below.alloc ?_ ?_ _) | (with_reducible refine Below.setCell ?_ ?_ _) | (with_reducible refine below_row ?_ ?_ _) | (with_reducible exact Nat.le_refl _) | omega | (simp only [World.size_alloc, World.size_setCell, World.size_drew, World.size_drewN]; omega) | (simp; done) | (simp; omega)))))); clear hK K)
                  refine wpKeep_nil ?_
                  have HBX := Lib.hid (H5.out.b2.s1.s2)
                  obtain ⟨L, K, z⟩ := HBX.out.look
                  go_wp2
                  go_meet
                  refine ⟨_, rfl, g2, g3, ?_⟩
                  first
                    | exact box3 HBX.out
                    | exact (H4.out.allocC #[.int .i64 (rn : Int), .slice (some ⟨g2, 0, none⟩) kn kn, .slice (some ⟨g3, 0, none⟩) t6 t6, .bool false] 62).b2.s1.s2
                · simp only [pick, List.filterMap_cons, List.filterMap_nil, List.getElem?_cons_zero, List.getElem?_cons_succ]
                  (with_reducible refine wpKeep_step ?_; intro K hK; go_simp; with_reducible refine hK _ _ ?_ ?_; (focus (first | assumption | ((repeat' (first | (with_reducible exact Below.refl _ _) | (with_reducible assumption) | (with_reducible refine below_drewN ?_ _) | (with_reducible refine Below.drew ?_) | (with_reducible refine Below.alloc ?_ ?_ _) | (with_reducible refine Below.setCell ?_ ?_ _) | (with_reducible refine below_row ?_ ?_ _) | (with_reducible exact Nat.le_refl _) | omega | (simp only [World.size_alloc, World.size_setCell, World.size_drew, World.size_drewN]; omega) | (simp; done) | (simp; omega)))))); clear hK K)
                  refine wpKeep_nil ?_
                  refine floatP_nil ?_
                  simp only [pick, List.filterMap_cons, List.filterMap_nil, List.getElem?_cons_zero, List.getElem?_cons_succ]
                  (with_reducible refine wpKeep_step ?_; intro K hK; go_simp; with_reducible refine hK _ _ ?_ ?_; (focus (first | assumption | ((repeat' (first | (with_reducible exact Below.refl _ _) | (with_reducible assumption) | (with_reducible refine below_drewN ?_ _) | (with_reducible refine Below.drew ?_) | (with_reducible refine Below.alloc ?_ ?_ _) | (with_reducible refine Below.setCell ?_ ?_ _) | (with_reducible refine below_row ?_ ?_ _) | (with_reducible exact Nat.le_refl _) | omega | (simp only [World.size_alloc, World.size_setCell, World.size_drew, World.size_drewN]; omega) | (simp; done) | (simp; omega)))))); clear hK K)
                  have H5 := Lib.hid (H4.out.allocC #[.int .i64 0, .slice none 0 0, .slice none 0 0, .bool false] 62)
                  refine wpKeep_nil ?_
                  have HBX := Lib.hid (H5.out.b2.s1.s2)
                  obtain ⟨L, K, z⟩ := HBX.out.look
                  go_wp2
                  go_meet
                  refine ⟨_, rfl, g2, g3, ?_⟩
                  first
                    | exact box3 HBX.out
                    | exact (H4.out.allocC #[.int .i64 (rn : Int), .slice (some ⟨g2, 0, none⟩) kn kn, .slice (some ⟨g3, 0, none⟩) t6 t6, .bool false] 62).b2.s1.s2
          case rest =>
            obtain ⟨bx, rfl, g2, g3, S4⟩ := hcut
            obtain ⟨w4, hnm⟩ : ∃ x : World, x = wc := ⟨_, rfl⟩
            subst hnm
            have H4 := Lib.hid S4
            clear S4 H1 HX B2 HF1 HF2
            go_upto_region 5 with fail
            -- box, key, data, reply, disk, slices, tracks, last
            obtain ⟨L, K, z⟩ := H4.out.s4.look
            obtain ⟨L2, K2, z2⟩ := H4.out.s5.look
            obtain ⟨L3, K3, z3⟩ := H4.out.look
            have hqv := (L2 s.here).trans HVZ.out.1
            have hhi : (s.here : Int) < (s.tracks.length : Int) := by omega
            have HX := Lib.hid (fun (wx : World) (hx : Below w4.heap.size w4 wx) => (⟨(hx.cell (p := ⟨x, 3, none⟩) z).trans (L 3), (hx.cell (p := ⟨tb, s.here, none⟩) z2).trans hqv, (hx.cell (p := ⟨bx, 0, none⟩) z3).trans (L3 0), (hx.cell (p := ⟨bx, 1, none⟩) z3).trans (L3 1), (hx.cell (p := ⟨bx, 2, none⟩) z3).trans (L3 2), (hx.cell (p := ⟨bx, 3, none⟩) z3).trans (L3 3)⟩ :
              wx.cell? ⟨x, 3, none⟩ = some (.slice (some ⟨tb, 0, none⟩) s.tracks.length s.tracks.length) ∧ wx.cell? ⟨tb, s.here, none⟩ = some (.slice A0 s.recs.length c0) ∧ wx.cell? ⟨bx, 0, none⟩ = some (.int .i64 (rn : Int)) ∧ wx.cell? ⟨bx, 1, none⟩ = some (.slice (some ⟨g2, 0, none⟩) kn kn) ∧ wx.cell? ⟨bx, 2, none⟩ = some (.slice (some ⟨g3, 0, none⟩) t6 t6) ∧ wx.cell? ⟨bx, 3, none⟩ = some (.bool false)))
            clear L K z L2 K2 z2 L3 K3 z3 hqv
            refine wp_region_stages (fun wx => Below w4.heap.size w4 wx) [0, 1, 2, 4] [([3, 8], [5]), ([6, 7], [9, 10]), ([12], [11, 13])] [14] (by kernel_rfl) (by kernel_rfl) (Below.refl _ _).drew (by intro c a d v w h; cases d <;> exact h) ?_
            simp only [pick, List.filterMap_cons, List.filterMap_nil, List.getElem?_cons_zero, List.getElem?_cons_succ]
            (repeat (with_reducible refine wpPure_step ?_; intro K hK; go_simp; with_reducible refine hK _ ?_; clear hK K))
            refine wpPure_nil ?_
            (with_reducible refine wpStages_step ((Below.refl _ _).drew) ?_); simp only [pick, List.filterMap_cons, List.filterMap_nil, List.getElem?_cons_zero, List.getElem?_cons_succ]
            (repeat (with_reducible refine wpLoads_step ?_; intro K hK; go_simp; first | (with_reducible refine hK _ ?_; clear hK K) | (rw [if_neg (by decide)]; with_reducible refine hK _ ?_; clear hK K) | (refine ⟨_, fun wx hx => (by obtain ⟨f0, f1, f2, f3, f4, f5⟩ := HX.out wx hx; go_simp; with_reducible rfl), hK _ ?_⟩; clear hK K) | (refine ⟨_, fun _ _ => rfl, hK _ ?_⟩; clear hK K))); with_reducible refine wpLoads_nil ?_
            have H5 := Lib.hid H4.out.drew
            clear H4
            (with_reducible refine wpKeep_step ?_; intro K hK; go_simp)
            refine (qhere_b HH.out H5.out.s4).mono ?_
            rintro e w5 ⟨rfl, b5⟩
            have B5 := Lib.hid (show Below w4.heap.size w4 w5 from (Below.refl _ _).drew.trans (b5.mono (Nat.le_refl _)))
            have H6 := Lib.hid (H5.out.grow b5)
            refine hK _ _ B5.out ?_
            clear hK K b5 H5
            refine wpKeep_nil ?_
            (with_reducible refine wpStages_step (B5.out) ?_); simp only [pick, List.filterMap_cons, List.filterMap_nil, List.getElem?_cons_zero, List.getElem?_cons_succ]
            (repeat (with_reducible refine wpLoads_step ?_; intro K hK; go_simp; first | (with_reducible refine hK _ ?_; clear hK K) | (rw [if_neg (by decide)]; with_reducible refine hK _ ?_; clear hK K) | (refine ⟨_, fun wx hx => (by obtain ⟨f0, f1, f2, f3, f4, f5⟩ := HX.out wx hx; go_simp; with_reducible rfl), hK _ ?_⟩; clear hK K) | (refine ⟨_, fun _ _ => rfl, hK _ ?_⟩; clear hK K))); with_reducible refine wpLoads_nil ?_
            have hcP := rput_any A0 s.recs c0 ⟨(rn : Int), kk, dd, false⟩ (some ⟨g2, 0, none⟩) (some ⟨g3, 0, none⟩) kn t6 (SL.start w5) (trackQ_at (H6.out.s6.take HVZ.out.2)) (valid_fit2 HH.out.rv) (by omega)
              (rowS_card (l := kk) (c := kn) (by rw [HKK.out.1]; exact H6.out.s1)) (rowS_card (l := dd) (c := t6) (by rw [HKK.out.2]; exact H6.out.s2)) (by have := HKK.out; exact ⟨by show kk.length ≤ _; omega, by show dd.length ≤ _; omega⟩)
            dsimp only at hcP
            rw [HKK.out.1, HKK.out.2] at hcP
            generalize putR s.recs ⟨(rn : Int), kk, dd, false⟩ = nl at hcP HD3 HPV
            generalize putE s.recs ⟨(rn : Int), kk, dd, false⟩ = ne at hcP HD3 HPV
            have HCP := Lib.hid hcP
            clear hcP
            (with_reducible refine wpKeep_step ?_; intro K hK; go_simp)
            refine HCP.out.mono ?_
            rintro e w6 ⟨A4, c4, rfl, S6⟩
            have B6 := Lib.hid (show Below w4.heap.size w4 w6 from B5.out.trans (S6.below.mono B5.out.size))
            have H7 := Lib.hid (H6.out.join S6)
            refine hK _ _ B6.out ?_
            clear hK K S6 HCP H6
            (with_reducible refine wpKeep_step ?_; intro K hK; go_simp; first | (with_reducible refine hK _ _ (B6.out) ?_; clear hK K) | (rw [if_neg (by decide)]; with_reducible refine hK _ _ (B6.out) ?_; clear hK K))
            refine wpKeep_nil ?_
            (with_reducible refine wpStages_step (B6.out) ?_); simp only [pick, List.filterMap_cons, List.filterMap_nil, List.getElem?_cons_zero, List.getElem?_cons_succ]
            (repeat (with_reducible refine wpLoads_step ?_; intro K hK; go_simp; first | (with_reducible refine hK _ ?_; clear hK K) | (rw [if_neg (by decide)]; with_reducible refine hK _ ?_; clear hK K) | (refine ⟨_, fun wx hx => (by skip; go_simp; with_reducible rfl), hK _ ?_⟩; clear hK K) | (refine ⟨_, fun _ _ => rfl, hK _ ?_⟩; clear hK K))); with_reducible refine wpLoads_nil ?_
            (with_reducible refine wpKeep_step ?_; intro K hK; go_simp; first | (with_reducible refine hK _ _ (B6.out) ?_; clear hK K) | (rw [if_neg (by decide)]; with_reducible refine hK _ _ (B6.out) ?_; clear hK K))
            (with_reducible refine wpKeep_step ?_; intro K hK; go_simp; first | (with_reducible refine hK _ _ (B6.out) ?_; clear hK K) | (rw [if_neg (by decide)]; with_reducible refine hK _ _ (B6.out) ?_; clear hK K))
            refine wpKeep_nil ?_
            (with_reducible refine wpStages_nil ?_); simp only [pick, List.filterMap_cons, List.filterMap_nil, List.getElem?_cons_zero, List.getElem?_cons_succ]
            obtain ⟨_, _, f2, _, _, _⟩ := HX.out w6 B6.out
            -- new, box, key, data, reply, disk, slices, tracks, last
            by_cases he : ne = 0
            · subst he
              have HR := Lib.hid (show dkFormat s b = dkDone { dkChange s nl (rn : Int) with next := nl.length } [] by rw [HD3.out, if_neg (by simp)])
              have hnl : nl.length ≤ 2048 := valid_len (HPV.out rfl)
              have h8 := (trackQ_recs H7.out).s1.drop.s1.drop.s1.drop
              have H8 := Lib.hid (selQ_close (s := s) rfl HV.out (h8.s2.s3.s4.s5.b3.b2.s1))
              clear H7 h8 HX
              go_wp2_with fail
              refine (qchange_any (.slice A4 nl.length c4) nl (rn : Int) HH.out H8.out).mono ?_
              rintro e w8 ⟨rfl, S8⟩
              obtain ⟨tb8, old8, a8, n8, S9⟩ := qdisk_open S8
              have H9 := Lib.hid S9
              clear S8 S9 H8 f2
              obtain ⟨L, K, z⟩ := H9.out.look
              have L6 : w8.cell? ⟨x, 6, none⟩ = some (.int .i64 (s.next : Int)) := L 6
              clear L
              go_wp2_with fail
              refine name_world (P := fun W => Calls _ _ _ W _) ?_; intro wd hwd
              have H10 := Lib.hid (SL.cast hwd (H9.out.set (off := 6) (v := .int .i64 (nl.length : Int)) (cs' := qCells { dkChange s nl (rn : Int) with next := nl.length } tb8 _ old8 a8 n8) rfl).s3)
              clear hwd H9 K z L6
              refine (good_any _ _ _ _).mono ?_
              rintro e w9 ⟨rfl, b9⟩
              have H11 := Lib.hid (H10.out.grow b9)
              clear b9 H10
              (obtain ⟨L, K, z⟩ := H11.out.look; go_wp2; refine bodyPost_ret (v := .agg #[.slice none 0 0, .int .i64 12, .int .i64 0]) (by simp [results, Tryz.results40, go_sem, L]) rfl ?_)
              rw [HR.out]
              exact RetQ.of (qdisk_close (s := { dkChange s nl (rn : Int) with next := nl.length }) rfl H11.out.set3.drop)
            · have HR := Lib.hid (show dkFormat s b = dkCheck s 4 by rw [HD3.out, if_pos he])
              have t1 : (((ne : Nat) : Int) != (0 : Int)) = true := by simp; omega
              have H5 := Lib.hid H7.out.drop.drop.drop.drop
              clear he H7 HX
              go_wp2_with fail
              (refine (fail_any 4 H5.out.s1).mono ?_; rintro e w9 ⟨rfl, S9⟩; have H9 := Lib.hid S9.s1; clear S9; (obtain ⟨L, K, z⟩ := H9.out.look; go_wp2; refine bodyPost_ret (v := .agg #[.slice none 0 0, .int .i64 14, .int .i64 4]) (by simp [results, Tryz.results40, go_sem, L]) rfl ?_); rw [HR.out]; exact RetQ.of (selQ_close rfl HV.out H9.out.set3.drop))
        · have HR := Lib.hid (show dkFormat s b = dkCheck s 128 by rw [HD2.out, if_pos hlen])
          have u3 : ((nb : Int) != (ke : Int) + (t6 : Int)) = true := by simp; omega
          clear hlen hke
          refine wp_region_quiet (C := Below wA.heap.size wA) (by kernel_rfl) (by kernel_rfl) (Below.refl _ _).drew ?_
          (repeat (with_reducible refine wpQuiet_step ?_; intro K hK; go_simp; first | (with_reducible refine hK _ ?_; clear hK K) | (rw [if_neg (by decide)]; with_reducible refine hK _ ?_; clear hK K) | (refine ⟨_, fun wx hx => (by obtain ⟨f0, f1, f2, f3⟩ := HX.out wx hx; go_simp; with_reducible rfl), hK _ ?_⟩; clear hK K) | (first | (refine ⟨_, fun wx hx => (by with_reducible refine (HT0.out wx hx).mono ?_; rintro e w' ⟨rfl, h2⟩; exact ⟨rfl, hx.trans (h2.mono hx.size)⟩), hK _ ?_⟩; clear hK K) | (refine ⟨_, fun wx hx => (by with_reducible refine (HT2.out wx hx).mono ?_; rintro e w' ⟨rfl, h2⟩; exact ⟨rfl, hx.trans (h2.mono hx.size)⟩), hK _ ?_⟩; clear hK K) | (refine ⟨_, fun wx hx => (by with_reducible refine (HT6.out wx hx).mono ?_; rintro e w' ⟨rfl, h2⟩; exact ⟨rfl, hx.trans (h2.mono hx.size)⟩), hK _ ?_⟩; clear hK K)) | (refine ⟨_, fun _ _ => rfl, hK _ ?_⟩; clear hK K))); with_reducible refine wpQuiet_nil ?_
          intro w1 b1
          have H2 := Lib.hid (H1.out.grow b1)
          clear b1 H1
          go_wp2_with fail
          (refine (fail_any 128 H2.out.s1).mono ?_; rintro e w9 ⟨rfl, S9⟩; have H9 := Lib.hid S9.s1; clear S9; (obtain ⟨L, K, z⟩ := H9.out.look; go_wp2; refine bodyPost_ret (v := .agg #[.slice none 0 0, .int .i64 14, .int .i64 128]) (by simp [results, Tryz.results40, go_sem, L]) rfl ?_); rw [HR.out]; exact RetQ.of (selQ_close rfl HV.out H9.out.set3.drop))
    · have HR := Lib.hid (show dkFormat s b = dkCheck s 128 by rw [HDF.out, if_pos (Or.inr (Or.inr (Or.inl h2)))])
      have u1 : ((t2 : Int) != (s.head : Int)) = true := by simp; omega
      clear h0 h2
      refine wp_region_quiet (C := Below wA.heap.size wA) (by kernel_rfl) (by kernel_rfl) (Below.refl _ _).drew ?_
      (repeat (with_reducible refine wpQuiet_step ?_; intro K hK; go_simp; first | (with_reducible refine hK _ ?_; clear hK K) | (rw [if_neg (by decide)]; with_reducible refine hK _ ?_; clear hK K) | (refine ⟨_, fun wx hx => (by obtain ⟨f0, f1, f2, f3⟩ := HX.out wx hx; go_simp; with_reducible rfl), hK _ ?_⟩; clear hK K) | (first | (refine ⟨_, fun wx hx => (by with_reducible refine (HT0.out wx hx).mono ?_; rintro e w' ⟨rfl, h2⟩; exact ⟨rfl, hx.trans (h2.mono hx.size)⟩), hK _ ?_⟩; clear hK K) | (refine ⟨_, fun wx hx => (by with_reducible refine (HT2.out wx hx).mono ?_; rintro e w' ⟨rfl, h2⟩; exact ⟨rfl, hx.trans (h2.mono hx.size)⟩), hK _ ?_⟩; clear hK K) | (refine ⟨_, fun wx hx => (by with_reducible refine (HT6.out wx hx).mono ?_; rintro e w' ⟨rfl, h2⟩; exact ⟨rfl, hx.trans (h2.mono hx.size)⟩), hK _ ?_⟩; clear hK K)) | (refine ⟨_, fun _ _ => rfl, hK _ ?_⟩; clear hK K))); with_reducible refine wpQuiet_nil ?_
      intro w1 b1
      have H2 := Lib.hid (H1.out.grow b1)
      clear b1 H1
      go_wp2_with fail
      (refine (fail_any 128 H2.out.s1).mono ?_; rintro e w9 ⟨rfl, S9⟩; have H9 := Lib.hid S9.s1; clear S9; (obtain ⟨L, K, z⟩ := H9.out.look; go_wp2; refine bodyPost_ret (v := .agg #[.slice none 0 0, .int .i64 14, .int .i64 128]) (by simp [results, Tryz.results40, go_sem, L]) rfl ?_); rw [HR.out]; exact RetQ.of (selQ_close rfl HV.out H9.out.set3.drop))
  · have HR := Lib.hid (show dkFormat s b = dkCheck s 128 by rw [HDF.out, if_pos (Or.inr (Or.inl h0))])
    have u0 : ((t0 : Int) != (s.cyl : Int)) = true := by simp; omega
    clear h0
    refine wp_region_quiet (C := Below wA.heap.size wA) (by kernel_rfl) (by kernel_rfl) (Below.refl _ _).drew ?_
    (repeat (with_reducible refine wpQuiet_step ?_; intro K hK; go_simp; first | (with_reducible refine hK _ ?_; clear hK K) | (rw [if_neg (by decide)]; with_reducible refine hK _ ?_; clear hK K) | (refine ⟨_, fun wx hx => (by obtain ⟨f0, f1, f2, f3⟩ := HX.out wx hx; go_simp; with_reducible rfl), hK _ ?_⟩; clear hK K) | (first | (refine ⟨_, fun wx hx => (by with_reducible refine (HT0.out wx hx).mono ?_; rintro e w' ⟨rfl, h2⟩; exact ⟨rfl, hx.trans (h2.mono hx.size)⟩), hK _ ?_⟩; clear hK K) | (refine ⟨_, fun wx hx => (by with_reducible refine (HT2.out wx hx).mono ?_; rintro e w' ⟨rfl, h2⟩; exact ⟨rfl, hx.trans (h2.mono hx.size)⟩), hK _ ?_⟩; clear hK K) | (refine ⟨_, fun wx hx => (by with_reducible refine (HT6.out wx hx).mono ?_; rintro e w' ⟨rfl, h2⟩; exact ⟨rfl, hx.trans (h2.mono hx.size)⟩), hK _ ?_⟩; clear hK K)) | (refine ⟨_, fun _ _ => rfl, hK _ ?_⟩; clear hK K))); with_reducible refine wpQuiet_nil ?_
    intro w1 b1
    have H2 := Lib.hid (H1.out.grow b1)
    clear b1 H1
    go_wp2_with fail
    (refine (fail_any 128 H2.out.s1).mono ?_; rintro e w9 ⟨rfl, S9⟩; have H9 := Lib.hid S9.s1; clear S9; (obtain ⟨L, K, z⟩ := H9.out.look; go_wp2; refine bodyPost_ret (v := .agg #[.slice none 0 0, .int .i64 14, .int .i64 128]) (by simp [results, Tryz.results40, go_sem, L]) rfl ?_); rw [HR.out]; exact RetQ.of (selQ_close rfl HV.out H9.out.set3.drop))
end
end Go.Proofs.YtmkndbledppniaaGreat
