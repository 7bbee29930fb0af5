/- The disk's command WriteCount. -/
import Derived.Test.YtfhpaehfihnjaaaGreatDWr
namespace Go.Proofs.YtfhpaehfihnjaaaGreat.D
open Go.RowKit
theorem put_valid {rs : List Rec} {x : Rec} (he : putE rs x = 0) : validB (putR rs x) = true := by
  obtain ⟨e, hv, _⟩ := put_keeps he
  rw [e]; exact hv
section
variable {W w : World} {F : List SA} {x : Nat} {s : DK} {was : Bool}
set_option maxRecDepth 100000 in
set_option maxHeartbeats 32000000 in
theorem format_any (A : Option Addr) (b : List UInt8) (c : Nat) (hd : CardB W F A b c) (h : s.ok) (hl : s.last = none) (S : SL W (diskW x s was :: F) w) :
    Calls Tryz.prog 234 #[.pointer (some ⟨x, 0, none⟩), .slice A b.length c] w (RetM W F x (dkFormat s b)) := by
  obtain ⟨tb, lp, vs, A0, c0, hv0, hva, hvz, hlc, hcm, S1⟩ := sel_open h S
  have HS := Lib.hid S1
  have HV := Lib.hid hv0
  have HVZ := Lib.hid (And.intro hva hvz)
  have HH := Lib.hid (And.intro h hl)
  have HDB := Lib.hid hd
  have hrl := h.rl
  have hd0 := (hd w S.drop)
  have HD0 := Lib.hid hd0
  have hbl : b.length ≤ c := hd0.2.1
  have hcm2 : c ≤ 9223372036854775807 := by have := hd0.2.2; unfold maxLen at this; omega
  have HDF := Lib.hid (show dkFormat s b = if b.length < 8 ∨ two b 0 ≠ s.cyl ∨ two b 2 ≠ s.head ∨ (b[4]?.getD 0) = 0 then dkCheck s 128 else
    if b.length ≠ 8 + (b[5]?.getD 0).toNat + two b 6 then dkCheck s 128 else
    if putE s.recs ⟨((b[4]?.getD 0).toNat : Int), (b.drop 8).take (b[5]?.getD 0).toNat, b.drop (8 + (b[5]?.getD 0).toNat), false⟩ ≠ 0 then dkCheck s 4 else
      dkDone { dkChange s (putR s.recs ⟨((b[4]?.getD 0).toNat : Int), (b.drop 8).take (b[5]?.getD 0).toNat, b.drop (8 + (b[5]?.getD 0).toNat), false⟩) ((b[4]?.getD 0).toNat : Int) with next := (putR s.recs ⟨((b[4]?.getD 0).toNat : Int), (b.drop 8).take (b[5]?.getD 0).toNat, b.drop (8 + (b[5]?.getD 0).toNat), false⟩).length } [] from rfl)
  clear S S1 h hv0 hva hvz hl hd hd0
  by_cases h8 : b.length < 8
  · have HR := Lib.hid (show dkFormat s b = dkCheck s 128 by rw [HDF.out, if_pos (Or.inl h8)])
    have t1 : ((b.length : Int) < 8) = True := eq_true (by omega)
    clear h8
    (go_enter Tryz.func234, Tryz.ntmps234; go_upto_region 1 with fail; refine name_world (P := Code.wp _ _ _ _) ?_; intro wA hwA; have H1 := Lib.hid (SL.cast hwA (HS.out.allocC #[.slice none 0 0, .int .i64 0, .int .i64 0] 55)); clear hwA HS; generalize w.heap.size = rb at *)
    refine wp_region_quiet (C := Below wA.heap.size wA) (by kernel_rfl) (by kernel_rfl) (Below.refl _ _).drew ?_
    (repeat (with_reducible refine wpQuiet_step ?_; intro K hK; go_simp; first | (with_reducible refine hK _ ?_; clear hK K) | (rw [if_neg (by decide)]; with_reducible refine hK _ ?_; clear hK K) | (refine ⟨_, fun wx hx => (by skip; go_simp; with_reducible rfl), hK _ ?_⟩; clear hK K) | fail | (refine ⟨_, fun _ _ => rfl, hK _ ?_⟩; clear hK K))); with_reducible refine wpQuiet_nil ?_
    intro w1 b1
    have H2 := Lib.hid (H1.out.grow b1)
    clear b1 H1
    go_wp2_with fail
    (refine (check_any 128 H2.out.s1).mono ?_; rintro e w9 ⟨rfl, S9⟩; have H9 := Lib.hid S9.s1; clear S9; (obtain ⟨L, K, z⟩ := H9.out.look; go_wp2; refine bodyPost_ret (v := .agg #[.slice none 0 0, .int .i64 14, .int .i64 128]) (by simp [results, Tryz.results234, go_sem, L]) rfl ?_); rw [HR.out]; exact RetM.of (sel_close HV.out H9.out.set3.drop))
  have h8' : 8 ≤ b.length := by omega
  have hne : Lib.byteCells b ≠ [] := by intro e; have := congrArg List.length e; simp [Lib.byteCells] at this; subst this; simp at h8'
  obtain ⟨g, off, rfl, _, _⟩ := HD0.out.1 hne
  have hb4 := byteCells_get b 4 (by omega)
  have hb5 := byteCells_get b 5 (by omega)
  have i4 : (b[4]?.getD 0) = b[4] := by rw [List.getElem?_eq_getElem (by omega)]; rfl
  have i5 : (b[5]?.getD 0) = b[5] := by rw [List.getElem?_eq_getElem (by omega)]; rfl
  rw [i4, i5] at HDF
  generalize b[4] = d4 at *
  generalize b[5] = d5 at *
  have hd4 := d4.toNat_lt
  have hd5 := d5.toNat_lt
  have HB8 := Lib.hid h8'
  clear i4 i5 HD0 h8
  (go_enter Tryz.func234, Tryz.ntmps234; go_upto_region 1 with fail; refine name_world (P := Code.wp _ _ _ _) ?_; intro wA hwA; have H1 := Lib.hid (SL.cast hwA (HS.out.allocC #[.slice none 0 0, .int .i64 0, .int .i64 0] 55)); clear hwA HS; generalize w.heap.size = rb at *)
  have hdA := HDB.out wA H1.out.drop.drop.drop.drop.drop
  obtain ⟨g', off', e, _, hcell⟩ := hdA.1 hne
  injection e with e; injection e with e e'; subst e; subst e'
  have hk4 := hcell 4 _ hb4
  have hk5 := hcell 5 _ hb5
  have hz4 := World.block_lt_of_cell? wA _ hk4
  obtain ⟨nb, hnb⟩ : ∃ n, b.length = n := ⟨_, rfl⟩
  have HNB := Lib.hid hnb
  rw [hnb] at h8' hbl HDF ⊢
  have HT0 := Lib.hid (fun (wx : World) (hx : Below wA.heap.size wA wx) => (two_any _ b nb c wx (hdA.grow hx) hnb.symm (by omega)).mono fun e w' k => (⟨k.1, k.2.below _⟩ : e = .returned (.int .i64 (two b 0 : Nat)) ∧ Below wx.heap.size wx w'))
  have HT2 := Lib.hid (fun (wx : World) (hx : Below wA.heap.size wA wx) => (two_any (some ⟨g, off + 2, none⟩) (b.drop 2) (nb - 2) (c - 2) wx ((hdA.drop 2 (by omega) _ (fun _ => rfl)).grow hx) (by rw [List.length_drop, hnb]) (by omega)).mono fun e w' k => (⟨by rw [k.1, two_drop], k.2.below _⟩ : e = .returned (.int .i64 (two b 2 : Nat)) ∧ Below wx.heap.size wx w'))
  have HT6 := Lib.hid (fun (wx : World) (hx : Below wA.heap.size wA wx) => (two_any (some ⟨g, off + 6, none⟩) (b.drop 6) (nb - 6) (c - 6) wx ((hdA.drop 6 (by omega) _ (fun _ => rfl)).grow hx) (by rw [List.length_drop, hnb]) (by omega)).mono fun e w' k => (⟨by rw [k.1, two_drop], k.2.below _⟩ : e = .returned (.int .i64 (two b 6 : Nat)) ∧ Below wx.heap.size wx w'))
  have h6b : two b 6 ≤ 65535 := by unfold two; have := (b[6]?.getD 0).toNat_lt; have := (b[6 + 1]?.getD 0).toNat_lt; omega
  generalize two b 0 = t0 at *
  generalize two b 2 = t2 at *
  generalize two b 6 = t6 at *
  obtain ⟨L, K, z⟩ := H1.out.s1.look
  have HX := Lib.hid (fun (wx : World) (hx : Below wA.heap.size wA wx) => (⟨(hx.cell (p := ⟨x, 4, none⟩) z).trans (L 4), (hx.cell (p := ⟨x, 5, none⟩) z).trans (L 5), (hx.cell (p := ⟨g, off + 4, none⟩) hz4).trans hk4, (hx.cell (p := ⟨g, off + 5, none⟩) hz4).trans hk5⟩ : wx.cell? ⟨x, 4, none⟩ = some (.int .i64 (s.cyl : Int)) ∧ wx.cell? ⟨x, 5, none⟩ = some (.int .i64 (s.head : Int)) ∧
    wx.cell? ⟨g, off + 4, none⟩ = some (.int .u8 (d4.toNat : Int)) ∧ wx.cell? ⟨g, off + 5, none⟩ = some (.int .u8 (d5.toNat : Int))))
  have HDA := Lib.hid hdA
  have e2 : (c = 2) = False := eq_false (by omega)
  have e6 : (c = 6) = False := eq_false (by omega)
  have s2 : ((2 : Int) ≤ (nb : Int)) = True := eq_true (by omega)
  have s6 : ((6 : Int) ≤ (nb : Int)) = True := eq_true (by omega)
  have sc : ((nb : Int) ≤ (c : Int)) = True := eq_true (by omega)
  have s4 : ((4 : Int) < (nb : Int)) = True := eq_true (by omega)
  have s5 : ((5 : Int) < (nb : Int)) = True := eq_true (by omega)
  have t8 : ((nb : Int) < 8) = False := eq_false (by omega)
  clear hdA hcell hk4 hk5 hz4 L K z hb4 hb5 hne hnb
  by_cases h0 : t0 = s.cyl
  · have u0 : ((t0 : Int) != (s.cyl : Int)) = false := by rw [h0]; simp
    by_cases h2 : t2 = s.head
    · have u1 : ((t2 : Int) != (s.head : Int)) = false := by rw [h2]; simp
      by_cases h4 : d4 = 0
      · have HR := Lib.hid (show dkFormat s b = dkCheck s 128 by rw [HDF.out, if_pos (Or.inr (Or.inr (Or.inr h4)))])
        have u2 : ((d4.toNat : Int) == 0) = true := by rw [h4]; rfl
        clear h0 h2 h4
        refine wp_region_quiet (C := Below wA.heap.size wA) (by kernel_rfl) (by kernel_rfl) (Below.refl _ _).drew ?_
        (repeat (with_reducible refine wpQuiet_step ?_; intro K hK; go_simp; first | (with_reducible refine hK _ ?_; clear hK K) | (rw [if_neg (by decide)]; with_reducible refine hK _ ?_; clear hK K) | (refine ⟨_, fun wx hx => (by obtain ⟨f0, f1, f2, f3⟩ := HX.out wx hx; go_simp; with_reducible rfl), hK _ ?_⟩; clear hK K) | (first | (refine ⟨_, fun wx hx => (by with_reducible refine (HT0.out wx hx).mono ?_; rintro e w' ⟨rfl, h2⟩; exact ⟨rfl, hx.trans (h2.mono hx.size)⟩), hK _ ?_⟩; clear hK K) | (refine ⟨_, fun wx hx => (by with_reducible refine (HT2.out wx hx).mono ?_; rintro e w' ⟨rfl, h2⟩; exact ⟨rfl, hx.trans (h2.mono hx.size)⟩), hK _ ?_⟩; clear hK K) | (refine ⟨_, fun wx hx => (by with_reducible refine (HT6.out wx hx).mono ?_; rintro e w' ⟨rfl, h2⟩; exact ⟨rfl, hx.trans (h2.mono hx.size)⟩), hK _ ?_⟩; clear hK K)) | (refine ⟨_, fun _ _ => rfl, hK _ ?_⟩; clear hK K))); with_reducible refine wpQuiet_nil ?_
        intro w1 b1
        have B1 := Lib.hid b1
        clear b1
        have H2 := Lib.hid (H1.out.grow B1.out)
        clear H1 B1
        go_wp2_with fail
        (refine (check_any 128 H2.out.s1).mono ?_; rintro e w9 ⟨rfl, S9⟩; have H9 := Lib.hid S9.s1; clear S9; (obtain ⟨L, K, z⟩ := H9.out.look; go_wp2; refine bodyPost_ret (v := .agg #[.slice none 0 0, .int .i64 14, .int .i64 128]) (by simp [results, Tryz.results234, go_sem, L]) rfl ?_); rw [HR.out]; exact RetM.of (sel_close HV.out H9.out.set3.drop))
      · have u2 : ((d4.toNat : Int) == 0) = false := by
          rw [beq_eq_false_iff_ne]
          intro e
          exact h4 (UInt8.toNat_inj.1 (by simpa using e))
        have h4n : 1 ≤ d4.toNat := by
          rcases Nat.eq_zero_or_pos d4.toNat with e | e
          · exact absurd (UInt8.toNat_inj.1 (by simpa using e)) h4
          · exact e
        have HD2 := Lib.hid (show dkFormat s b = if nb ≠ 8 + d5.toNat + t6 then dkCheck s 128 else
            if putE s.recs ⟨(d4.toNat : Int), (b.drop 8).take d5.toNat, b.drop (8 + d5.toNat), false⟩ ≠ 0 then dkCheck s 4 else
            dkDone { dkChange s (putR s.recs ⟨(d4.toNat : Int), (b.drop 8).take d5.toNat, b.drop (8 + d5.toNat), false⟩) (d4.toNat : Int) with next := (putR s.recs ⟨(d4.toNat : Int), (b.drop 8).take d5.toNat, b.drop (8 + d5.toNat), false⟩).length } [] by
          rw [HDF.out, if_neg (by rintro (e | e | e | e); exact absurd e (by omega); exact e h0; exact e h2; exact h4 e)])
        clear h0 h2 h4 HDF
        refine wp_region_quiet (C := Below wA.heap.size wA) (by kernel_rfl) (by kernel_rfl) (Below.refl _ _).drew ?_
        (repeat (with_reducible refine wpQuiet_step ?_; intro K hK; go_simp; first | (with_reducible refine hK _ ?_; clear hK K) | (rw [if_neg (by decide)]; with_reducible refine hK _ ?_; clear hK K) | (refine ⟨_, fun wx hx => (by obtain ⟨f0, f1, f2, f3⟩ := HX.out wx hx; go_simp; with_reducible rfl), hK _ ?_⟩; clear hK K) | (first | (refine ⟨_, fun wx hx => (by with_reducible refine (HT0.out wx hx).mono ?_; rintro e w' ⟨rfl, h2⟩; exact ⟨rfl, hx.trans (h2.mono hx.size)⟩), hK _ ?_⟩; clear hK K) | (refine ⟨_, fun wx hx => (by with_reducible refine (HT2.out wx hx).mono ?_; rintro e w' ⟨rfl, h2⟩; exact ⟨rfl, hx.trans (h2.mono hx.size)⟩), hK _ ?_⟩; clear hK K) | (refine ⟨_, fun wx hx => (by with_reducible refine (HT6.out wx hx).mono ?_; rintro e w' ⟨rfl, h2⟩; exact ⟨rfl, hx.trans (h2.mono hx.size)⟩), hK _ ?_⟩; clear hK K)) | (refine ⟨_, fun _ _ => rfl, hK _ ?_⟩; clear hK K))); with_reducible refine wpQuiet_nil ?_
        intro w1 b1
        have B1 := Lib.hid b1
        clear b1
        go_upto_region 3 with fail
        refine wp_region_quiet (C := Below wA.heap.size wA) (by kernel_rfl) (by kernel_rfl) B1.out.drew ?_
        (repeat (with_reducible refine wpQuiet_step ?_; intro K hK; go_simp; first | (with_reducible refine hK _ ?_; clear hK K) | (rw [if_neg (by decide)]; with_reducible refine hK _ ?_; clear hK K) | (refine ⟨_, fun wx hx => (by obtain ⟨f0, f1, f2, f3⟩ := HX.out wx hx; go_simp; with_reducible rfl), hK _ ?_⟩; clear hK K) | (first | (refine ⟨_, fun wx hx => (by with_reducible refine (HT0.out wx hx).mono ?_; rintro e w' ⟨rfl, h2⟩; exact ⟨rfl, hx.trans (h2.mono hx.size)⟩), hK _ ?_⟩; clear hK K) | (refine ⟨_, fun wx hx => (by with_reducible refine (HT2.out wx hx).mono ?_; rintro e w' ⟨rfl, h2⟩; exact ⟨rfl, hx.trans (h2.mono hx.size)⟩), hK _ ?_⟩; clear hK K) | (refine ⟨_, fun wx hx => (by with_reducible refine (HT6.out wx hx).mono ?_; rintro e w' ⟨rfl, h2⟩; exact ⟨rfl, hx.trans (h2.mono hx.size)⟩), hK _ ?_⟩; clear hK K)) | (refine ⟨_, fun _ _ => rfl, hK _ ?_⟩; clear hK K))); with_reducible refine wpQuiet_nil ?_
        intro w2 b2
        have B2 := Lib.hid b2
        clear b2 B1
        generalize d5.toNat = kn at *
        generalize d4.toNat = rn at *
        by_cases hlen : nb = 8 + kn + t6
        · have u3 : ((nb : Int) != 8 + (kn : Int) + (t6 : Int)) = false := by simp; omega
          obtain ⟨ke, hke⟩ : ∃ ke, ke = 8 + kn := ⟨_, rfl⟩
          have w0 : IntKind.i64.wrap (kn : Int) = (kn : Int) := IntWalk.i64_in _ (by omega)
          have w1 : IntKind.i64.wrap (rn : Int) = (rn : Int) := IntWalk.i64_in _ (by omega)
          have w8 : IntKind.i64.wrap (8 + (kn : Int)) = (ke : Int) := by rw [IntWalk.i64_in _ (by omega)]; omega
          have g0 : ((8 : Int) ≤ (ke : Int)) = True := eq_true (by omega)
          have g1 : ((ke : Int) ≤ (c : Int)) = True := eq_true (by omega)
          have g2 : ((ke : Int) ≤ (nb : Int)) = True := eq_true (by omega)
          have ek : ke - 8 = kn := by omega
          have ed : nb - ke = t6 := by omega
          obtain ⟨Ak, hAk⟩ : ∃ A, (if c = 8 then (some ⟨g, off, none⟩ : Option Addr) else some ⟨g, off + 8, none⟩) = A := ⟨_, rfl⟩
          obtain ⟨Ad, hAd⟩ : ∃ A, (if c = ke then (some ⟨g, off, none⟩ : Option Addr) else some ⟨g, off + ke, none⟩) = A := ⟨_, rfl⟩
          have HCK := Lib.hid ((HDA.out.drop 8 (by rw [HNB.out]; omega) Ak (fun h => by rw [HNB.out] at h; rw [← hAk, if_neg (by omega)])).take kn)
          have HCD := Lib.hid (HDA.out.drop ke (by rw [HNB.out]; omega) Ad (fun h => by rw [HNB.out] at h; rw [← hAd, if_neg (by omega)]))
          have HD3 := Lib.hid (show dkFormat s b = if putE s.recs ⟨(rn : Int), (b.drop 8).take kn, b.drop ke, false⟩ ≠ 0 then dkCheck s 4 else
            dkDone { dkChange s (putR s.recs ⟨(rn : Int), (b.drop 8).take kn, b.drop ke, false⟩) (rn : Int) with next := (putR s.recs ⟨(rn : Int), (b.drop 8).take kn, b.drop ke, false⟩).length } [] by rw [HD2.out, if_neg (by omega), hke])
          obtain ⟨kk, hkk, hkkl⟩ : ∃ kk, kk = (b.drop 8).take kn ∧ kk.length = kn := ⟨_, rfl, by rw [List.length_take, List.length_drop, HNB.out]; omega⟩
          obtain ⟨dd, hdd, hddl⟩ : ∃ dd, dd = b.drop ke ∧ dd.length = t6 := ⟨_, rfl, by rw [List.length_drop, HNB.out]; omega⟩
          rw [← hkk] at HCK HD3
          rw [← hdd] at HCD HD3
          have HKK := Lib.hid (And.intro hkkl hddl)
          have hkn : kn ≤ 255 := by omega
          have HPV := Lib.hid (put_valid (rs := s.recs) (x := ⟨(rn : Int), kk, dd, false⟩))
          clear hlen hkk hkkl hdd hddl HD2 hke
          go_upto_region 6 with fail
          refine wp_region_stages (fun wx => Below wA.heap.size wA wx) [0, 2, 3, 6, 7, 8, 9, 10, 11, 12, 13] [([4, 5, 14], [1]), ([], [15, 16]), ([18], [17, 19])] [20] (by kernel_rfl) (by kernel_rfl) B2.out.drew (by intro c a d v w h; cases d <;> exact h) ?_
          simp only [pick, List.filterMap_cons, List.filterMap_nil, List.getElem?_cons_zero, List.getElem?_cons_succ]
          (repeat (with_reducible refine wpPure_step ?_; intro K hK; go_simp; with_reducible refine hK _ ?_; clear hK K))
          refine wpPure_nil ?_
          (with_reducible refine wpStages_step (B2.out.drew) ?_); simp only [pick, List.filterMap_cons, List.filterMap_nil, List.getElem?_cons_zero, List.getElem?_cons_succ]
          (repeat (with_reducible refine wpLoads_step ?_; intro K hK; go_simp; first | (with_reducible refine hK _ ?_; clear hK K) | (rw [if_neg (by decide)]; with_reducible refine hK _ ?_; clear hK K) | (refine ⟨_, fun wx hx => (by obtain ⟨f0, f1, f2, f3⟩ := HX.out wx hx; go_simp; with_reducible rfl), hK _ ?_⟩; clear hK K) | (refine ⟨_, fun _ _ => rfl, hK _ ?_⟩; clear hK K))); with_reducible refine wpLoads_nil ?_
          have H2 := Lib.hid ((H1.out.grow B2.out).drew)
          (with_reducible refine wpKeep_step ?_; intro K hK; go_simp)
          refine (records_any HH.out.1 ((H2.out.s2.look.1 s.here).trans HVZ.out.1) H2.out.s1).mono ?_
          rintro e w3 ⟨rfl, b3⟩
          have B3 := Lib.hid (show Below wA.heap.size wA w3 from B2.out.drew.trans (b3.mono B2.out.drew.size))
          have H3 := Lib.hid (H2.out.grow b3)
          refine hK _ _ B3.out ?_
          clear hK K b3 H2
          refine wpKeep_nil ?_
          (with_reducible refine wpStages_step (B3.out) ?_); simp only [pick, List.filterMap_cons, List.filterMap_nil, List.getElem?_cons_zero, List.getElem?_cons_succ]
          refine wpLoads_nil ?_
          have hcP := put_any A0 s.recs c0 ⟨(rn : Int), kk, dd, false⟩ Ak Ad (c - 8) (c - ke) (SL.start w3) (recsS_at (H3.out.s3.take HVZ.out.2)) (valid_fit2 HH.out.1.rv) (by omega) (HCK.out.grow B3.out) (HCD.out.grow B3.out) (by have := HKK.out; exact ⟨by show kk.length ≤ _; omega, by show dd.length ≤ _; omega⟩)
          dsimp only at hcP
          rw [HKK.out.1, HKK.out.2] at hcP
          generalize putR s.recs ⟨(rn : Int), kk, dd, false⟩ = nl at hcP HD3 HPV
          generalize putE s.recs ⟨(rn : Int), kk, dd, false⟩ = ne at hcP HD3 HPV
          have HCP := Lib.hid hcP
          clear hcP
          (with_reducible refine wpKeep_step ?_; intro K hK; go_simp)
          refine HCP.out.mono ?_
          rintro e w4 ⟨A4, c4, rfl, S4⟩
          have B4 := Lib.hid (show Below wA.heap.size wA w4 from B3.out.trans (S4.below.mono B3.out.size))
          have H4 := Lib.hid (H3.out.join S4)
          refine hK _ _ B4.out ?_
          clear hK K S4 HCP H3
          (with_reducible refine wpKeep_step ?_; intro K hK; go_simp; first | (with_reducible refine hK _ _ (B4.out) ?_; clear hK K) | (rw [if_neg (by decide)]; with_reducible refine hK _ _ (B4.out) ?_; clear hK K))
          refine wpKeep_nil ?_
          (with_reducible refine wpStages_step (B4.out) ?_); simp only [pick, List.filterMap_cons, List.filterMap_nil, List.getElem?_cons_zero, List.getElem?_cons_succ]
          (repeat (with_reducible refine wpLoads_step ?_; intro K hK; go_simp; first | (with_reducible refine hK _ ?_; clear hK K) | (rw [if_neg (by decide)]; with_reducible refine hK _ ?_; clear hK K) | (refine ⟨_, fun wx hx => (by skip; go_simp; with_reducible rfl), hK _ ?_⟩; clear hK K) | (refine ⟨_, fun _ _ => rfl, hK _ ?_⟩; clear hK K))); with_reducible refine wpLoads_nil ?_
          (with_reducible refine wpKeep_step ?_; intro K hK; go_simp; first | (with_reducible refine hK _ _ (B4.out) ?_; clear hK K) | (rw [if_neg (by decide)]; with_reducible refine hK _ _ (B4.out) ?_; clear hK K))
          (with_reducible refine wpKeep_step ?_; intro K hK; go_simp; first | (with_reducible refine hK _ _ (B4.out) ?_; clear hK K) | (rw [if_neg (by decide)]; with_reducible refine hK _ _ (B4.out) ?_; clear hK K))
          refine wpKeep_nil ?_
          (with_reducible refine wpStages_nil ?_); simp only [pick, List.filterMap_cons, List.filterMap_nil, List.getElem?_cons_zero, List.getElem?_cons_succ]
          obtain ⟨f0, f1, f2, f3⟩ := HX.out w4 B4.out
          -- new, reply, disk, slices, tracks, last
          by_cases he : ne = 0
          · subst he
            have HR := Lib.hid (show dkFormat s b = dkDone { dkChange s nl (rn : Int) with next := nl.length } [] by rw [HD3.out, if_neg (by simp)])
            have hnl : nl.length ≤ 2048 := valid_len (HPV.out rfl)
            have H5 := Lib.hid (sel_close HV.out H4.out.s5.s5.s5.s5)
            clear H4
            go_wp2_with fail
            refine (change_any (.slice A4 nl.length c4) nl (rn : Int) HH.out.1 HH.out.2 H5.out).mono ?_
            rintro e w5 ⟨rfl, S5⟩
            obtain ⟨tb5, lp5, S6⟩ := diskW_open S5
            have H6 := Lib.hid S6
            clear S5 S6 H5 f0 f1 f2 f3
            obtain ⟨L, K, z⟩ := H6.out.look
            have L6 : w5.cell? ⟨x, 6, none⟩ = some (.int .i64 (s.next : Int)) := L 6
            clear L
            go_wp2_with fail
            refine name_world (P := fun W => Calls _ _ _ W _) ?_; intro wd hwd
            have H7 := Lib.hid (SL.cast hwd (H6.out.set (off := 6) (v := .int .i64 (nl.length : Int)) (cs' := dkCells { dkChange s nl (rn : Int) with next := nl.length } tb5 lp5 was) (by simp [dkCells])).s3)
            clear hwd H6 K z L6
            refine (done_any _ _ _ _).mono ?_
            rintro e w9 ⟨rfl, b9⟩
            have H9 := Lib.hid (H7.out.grow b9)
            clear b9 H7
            (obtain ⟨L, K, z⟩ := H9.out.look; go_wp2; refine bodyPost_ret (v := .agg #[.slice none 0 0, .int .i64 12, .int .i64 0]) (by simp [results, Tryz.results234, go_sem, L]) rfl ?_)
            rw [HR.out]
            exact RetM.of (diskW_close (s := { dkChange s nl (rn : Int) with next := nl.length }) H9.out.set3.drop)
          · have HR := Lib.hid (show dkFormat s b = dkCheck s 4 by rw [HD3.out, if_pos he])
            have t1 : (((ne : Nat) : Int) != (0 : Int)) = true := by simp; omega
            have H5 := Lib.hid H4.out.drop
            clear he H4
            go_wp2_with fail
            (refine (check_any 4 H5.out.s1).mono ?_; rintro e w9 ⟨rfl, S9⟩; have H9 := Lib.hid S9.s1; clear S9; (obtain ⟨L, K, z⟩ := H9.out.look; go_wp2; refine bodyPost_ret (v := .agg #[.slice none 0 0, .int .i64 14, .int .i64 4]) (by simp [results, Tryz.results234, go_sem, L]) rfl ?_); rw [HR.out]; exact RetM.of (sel_close HV.out H9.out.set3.drop))
        · have HR := Lib.hid (show dkFormat s b = dkCheck s 128 by rw [HD2.out, if_pos hlen])
          have u3 : ((nb : Int) != 8 + (kn : Int) + (t6 : Int)) = true := by simp; omega
          have H2 := Lib.hid (H1.out.grow B2.out)
          clear hlen H1 B2
          go_wp2_with fail
          (refine (check_any 128 H2.out.s1).mono ?_; rintro e w9 ⟨rfl, S9⟩; have H9 := Lib.hid S9.s1; clear S9; (obtain ⟨L, K, z⟩ := H9.out.look; go_wp2; refine bodyPost_ret (v := .agg #[.slice none 0 0, .int .i64 14, .int .i64 128]) (by simp [results, Tryz.results234, go_sem, L]) rfl ?_); rw [HR.out]; exact RetM.of (sel_close HV.out H9.out.set3.drop))
    · have HR := Lib.hid (show dkFormat s b = dkCheck s 128 by rw [HDF.out, if_pos (Or.inr (Or.inr (Or.inl h2)))])
      have u1 : ((t2 : Int) != (s.head : Int)) = true := by simp; omega
      clear h0 h2
      refine wp_region_quiet (C := Below wA.heap.size wA) (by kernel_rfl) (by kernel_rfl) (Below.refl _ _).drew ?_
      (repeat (with_reducible refine wpQuiet_step ?_; intro K hK; go_simp; first | (with_reducible refine hK _ ?_; clear hK K) | (rw [if_neg (by decide)]; with_reducible refine hK _ ?_; clear hK K) | (refine ⟨_, fun wx hx => (by obtain ⟨f0, f1, f2, f3⟩ := HX.out wx hx; go_simp; with_reducible rfl), hK _ ?_⟩; clear hK K) | (first | (refine ⟨_, fun wx hx => (by with_reducible refine (HT0.out wx hx).mono ?_; rintro e w' ⟨rfl, h2⟩; exact ⟨rfl, hx.trans (h2.mono hx.size)⟩), hK _ ?_⟩; clear hK K) | (refine ⟨_, fun wx hx => (by with_reducible refine (HT2.out wx hx).mono ?_; rintro e w' ⟨rfl, h2⟩; exact ⟨rfl, hx.trans (h2.mono hx.size)⟩), hK _ ?_⟩; clear hK K) | (refine ⟨_, fun wx hx => (by with_reducible refine (HT6.out wx hx).mono ?_; rintro e w' ⟨rfl, h2⟩; exact ⟨rfl, hx.trans (h2.mono hx.size)⟩), hK _ ?_⟩; clear hK K)) | (refine ⟨_, fun _ _ => rfl, hK _ ?_⟩; clear hK K))); with_reducible refine wpQuiet_nil ?_
      intro w1 b1
      have B1 := Lib.hid b1
      clear b1
      have H2 := Lib.hid (H1.out.grow B1.out)
      clear H1 B1
      go_wp2_with fail
      (refine (check_any 128 H2.out.s1).mono ?_; rintro e w9 ⟨rfl, S9⟩; have H9 := Lib.hid S9.s1; clear S9; (obtain ⟨L, K, z⟩ := H9.out.look; go_wp2; refine bodyPost_ret (v := .agg #[.slice none 0 0, .int .i64 14, .int .i64 128]) (by simp [results, Tryz.results234, go_sem, L]) rfl ?_); rw [HR.out]; exact RetM.of (sel_close HV.out H9.out.set3.drop))
  · have HR := Lib.hid (show dkFormat s b = dkCheck s 128 by rw [HDF.out, if_pos (Or.inr (Or.inl h0))])
    have u0 : ((t0 : Int) != (s.cyl : Int)) = true := by simp; omega
    clear h0
    refine wp_region_quiet (C := Below wA.heap.size wA) (by kernel_rfl) (by kernel_rfl) (Below.refl _ _).drew ?_
    (repeat (with_reducible refine wpQuiet_step ?_; intro K hK; go_simp; first | (with_reducible refine hK _ ?_; clear hK K) | (rw [if_neg (by decide)]; with_reducible refine hK _ ?_; clear hK K) | (refine ⟨_, fun wx hx => (by obtain ⟨f0, f1, f2, f3⟩ := HX.out wx hx; go_simp; with_reducible rfl), hK _ ?_⟩; clear hK K) | (first | (refine ⟨_, fun wx hx => (by with_reducible refine (HT0.out wx hx).mono ?_; rintro e w' ⟨rfl, h2⟩; exact ⟨rfl, hx.trans (h2.mono hx.size)⟩), hK _ ?_⟩; clear hK K) | (refine ⟨_, fun wx hx => (by with_reducible refine (HT2.out wx hx).mono ?_; rintro e w' ⟨rfl, h2⟩; exact ⟨rfl, hx.trans (h2.mono hx.size)⟩), hK _ ?_⟩; clear hK K) | (refine ⟨_, fun wx hx => (by with_reducible refine (HT6.out wx hx).mono ?_; rintro e w' ⟨rfl, h2⟩; exact ⟨rfl, hx.trans (h2.mono hx.size)⟩), hK _ ?_⟩; clear hK K)) | (refine ⟨_, fun _ _ => rfl, hK _ ?_⟩; clear hK K))); with_reducible refine wpQuiet_nil ?_
    intro w1 b1
    have B1 := Lib.hid b1
    clear b1
    have H2 := Lib.hid (H1.out.grow B1.out)
    clear H1 B1
    go_wp2_with fail
    (refine (check_any 128 H2.out.s1).mono ?_; rintro e w9 ⟨rfl, S9⟩; have H9 := Lib.hid S9.s1; clear S9; (obtain ⟨L, K, z⟩ := H9.out.look; go_wp2; refine bodyPost_ret (v := .agg #[.slice none 0 0, .int .i64 14, .int .i64 128]) (by simp [results, Tryz.results234, go_sem, L]) rfl ?_); rw [HR.out]; exact RetM.of (sel_close HV.out H9.out.set3.drop))
end
end Go.Proofs.YtfhpaehfihnjaaaGreat.D
