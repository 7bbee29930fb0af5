/- The disk's methods: the searches by number. -/
import Derived.Test.YtlbbmfmkhmmikaaGreatDMeth4
namespace Go.Proofs.YtlbbmfmkhmmikaaGreat.D
open Go.RowKit
theorem find_first {α : Type} {p : α → Bool} {l : List α} {k : Nat} {y : α} (h : ∀ j z, j < k → l[j]? = some z → p z = false) (hy : l[k]? = some y) (hp : p y = true) : l.findIdx? p = some k := by
  obtain ⟨hk, rfl⟩ := List.getElem?_eq_some_iff.1 hy
  exact List.findIdx?_eq_some_iff_getElem.2 ⟨hk, hp, fun j hj => by
    rw [h j l[j] hj (List.getElem?_eq_getElem (by omega))]; simp⟩
theorem find_none {α : Type} {p : α → Bool} {l : List α} (h : ∀ j z, j < l.length → l[j]? = some z → p z = false) : l.findIdx? p = none := by
  rw [List.findIdx?_eq_none_iff]
  intro z hz
  obtain ⟨j, hj, rfl⟩ := List.getElem_of_mem hz
  exact h j _ hj (List.getElem?_eq_getElem hj)
section
variable {W w : World} {F : List SA} {x : Nat} {s : DK} {was : Bool}
set_option maxRecDepth 100000 in
set_option maxHeartbeats 16000000 in
theorem byID_any (A : Option Addr) (b : List UInt8) (c : Nat) (more : Int) (hm0 : 0 ≤ more) (hm1 : more ≤ 255) (hd : CardB W F A b c) (h : s.ok) (S : SL W (diskW x s was :: F) w) : Calls Tryz.prog 244 #[.pointer (some ⟨x, 0, none⟩), .slice A b.length c, .int .i64 more] w (RetM W F x (dkID s b more)) := by
  obtain ⟨tb, lp, vs, A0, c0, hv0, hva, hvz, hlc, hcm, S1⟩ := sel_open h S
  have HS := Lib.hid S1
  have HV := Lib.hid hv0
  have HVZ := Lib.hid (And.intro hva hvz)
  have HH := Lib.hid h
  have HDB := Lib.hid hd
  have hd0 := (hd w S.drop)
  have hbl : b.length ≤ 9223372036854775807 := by have := hd0.2; unfold maxLen at this; omega
  have hrl := h.rl
  have HDK := Lib.hid (show dkID s b more = if b.length ≠ 5 then dkCheck s 128 else
    if two b 0 = s.cyl ∧ two b 2 = s.head then
      match s.recs.findIdx? (fun r => decide (0 ≤ r.r - ((b[4]?.getD 0).toNat : Int)) && decide (r.r - ((b[4]?.getD 0).toNat : Int) ≤ more)) with
      | some i => dkHit s i
      | none => dkCheck s 2
    else dkCheck s 2 from rfl)
  clear S S1 hd h hv0 hva hvz
  by_cases h5 : b.length = 5
  · have H5 := Lib.hid h5
    have hc5 : 5 ≤ c := by have := hd0.2.1; omega
    have hcm2 : c ≤ 9223372036854775807 := by have := hd0.2.2; unfold maxLen at this; omega
    have hne : Lib.byteCells b ≠ [] := by intro e; have := congrArg List.length e; simp [Lib.byteCells] at this; subst this; simp at h5
    obtain ⟨g, off, rfl, _, _⟩ := hd0.1 hne
    have h4 : (b[4]?.getD 0) = b[4] := by rw [List.getElem?_eq_getElem (by omega)]; rfl
    have hb4 := byteCells_get b 4 (by omega)
    rw [h4] at HDK
    rw [h5]
    generalize b[4] = d4 at *
    have hd4 := d4.toNat_lt
    clear h5 hbl h4 hd0
    (go_enter Tryz.func244, Tryz.ntmps244; go_upto_region 1 with fail; refine name_world (P := Code.wp _ _ _ _) ?_; intro wA hwA; have H1 := Lib.hid (SL.cast hwA (HS.out.allocC #[.slice none 0 0, .int .i64 0, .int .i64 0] 30)); clear hwA HS; generalize w.heap.size = rb at *)
    have hdA := HDB.out wA H1.out.drop.drop.drop.drop.drop
    obtain ⟨g', off', e, _, hcell⟩ := hdA.1 hne
    injection e with e; injection e with e e'; subst e; subst e'
    have hk4 := hcell 4 _ hb4
    have hz0 := World.block_lt_of_cell? wA _ hk4
    have HK4 := Lib.hid (show ∀ wx, Below wA.heap.size wA wx → wx.cell? ⟨g, off + 4, none⟩ = some (.int .u8 (d4.toNat : Int)) from fun wx hx => (hx.cell (p := ⟨g, off + 4, none⟩) hz0).trans hk4)
    have HT0 := Lib.hid (fun (wx : World) (hx : Below wA.heap.size wA wx) => (two_any _ b 5 c wx (hdA.grow hx) H5.out.symm (by omega)).mono fun e w' k => (⟨k.1, k.2.below _⟩ : e = .returned (.int .i64 (two b 0 : Nat)) ∧ Below wx.heap.size wx w'))
    have HT2 := Lib.hid (fun (wx : World) (hx : Below wA.heap.size wA wx) => (two_any (some ⟨g, off + 2, none⟩) (b.drop 2) 3 (c - 2) wx ((hdA.drop 2 (by rw [H5.out]; omega) _ (fun _ => rfl)).grow hx) (by rw [List.length_drop, H5.out]) (by omega)).mono fun e w' k => (⟨by rw [k.1, two_drop], k.2.below _⟩ : e = .returned (.int .i64 (two b 2 : Nat)) ∧ Below wx.heap.size wx w'))
    generalize two b 0 = t0 at *
    generalize two b 2 = t2 at *
    obtain ⟨L, K, z⟩ := H1.out.s1.look
    have HX := Lib.hid (fun (wx : World) (hx : Below wA.heap.size wA wx) => (⟨(hx.cell (p := ⟨x, 4, none⟩) z).trans (L 4), (hx.cell (p := ⟨x, 5, none⟩) z).trans (L 5)⟩ : wx.cell? ⟨x, 4, none⟩ = some (.int .i64 (s.cyl : Int)) ∧ wx.cell? ⟨x, 5, none⟩ = some (.int .i64 (s.head : Int))))
    have e2 : (c = 2) = False := eq_false (by omega)
    have HDK5 := Lib.hid (show dkID s b more = if t0 = s.cyl ∧ t2 = s.head then
      match s.recs.findIdx? (fun r => decide (0 ≤ r.r - (d4.toNat : Int)) && decide (r.r - (d4.toNat : Int) ≤ more)) with
      | some i => dkHit s i
      | none => dkCheck s 2
      else dkCheck s 2 by rw [HDK.out, if_neg (by rw [H5.out]; omega)])
    clear hdA hcell hk4 hz0 L K z hne hb4 HDK
    by_cases h0 : t0 = s.cyl
    · by_cases h2 : t2 = s.head
      · have HDE := Lib.hid (show dkID s b more = match s.recs.findIdx? (fun r => decide (0 ≤ r.r - (d4.toNat : Int)) && decide (r.r - (d4.toNat : Int) ≤ more)) with
          | some i => dkHit s i
          | none => dkCheck s 2 by rw [HDK5.out, if_pos ⟨h0, h2⟩])
        have u0 : ((t0 : Int) == (s.cyl : Int)) = true := by rw [h0]; simp
        have u1 : ((t2 : Int) == (s.head : Int)) = true := by rw [h2]; simp
        clear h0 h2 HDK5
        go_upto_region 3 with fail
        refine wp_region_quiet (C := Below wA.heap.size wA) (by kernel_rfl) (by kernel_rfl) (Below.refl _ _).drew ?_
        (repeat (with_reducible refine wpQuiet_step ?_; intro K hK; go_simp; first | (with_reducible refine hK _ ?_; clear hK K) | (rw [if_neg (by decide)]; with_reducible refine hK _ ?_; clear hK K) | (refine ⟨_, fun wx hx => (by obtain ⟨f1, f2⟩ := HX.out wx hx; go_simp; with_reducible rfl), hK _ ?_⟩; clear hK K) | (first | (refine ⟨_, fun wx hx => (by with_reducible refine (HT0.out wx hx).mono ?_; rintro e w' ⟨rfl, h2⟩; exact ⟨rfl, hx.trans (h2.mono hx.size)⟩), hK _ ?_⟩; clear hK K) | (refine ⟨_, fun wx hx => (by with_reducible refine (HT2.out wx hx).mono ?_; rintro e w' ⟨rfl, h2⟩; exact ⟨rfl, hx.trans (h2.mono hx.size)⟩), hK _ ?_⟩; clear hK K)) | (refine ⟨_, fun _ _ => rfl, hK _ ?_⟩; clear hK K))); with_reducible refine wpQuiet_nil ?_
        intro w1 b1
        have H2 := Lib.hid (H1.out.grow b1)
        have B2 := Lib.hid b1
        clear b1 H1
        go_wp2_with fail
        refine (records_any HH.out ((H2.out.s2.look.1 s.here).trans HVZ.out.1) H2.out.s1).mono ?_
        rintro e w2 ⟨rfl, b2⟩
        have H3 := Lib.hid (H2.out.grow b2)
        have B3 := Lib.hid (B2.out.trans (b2.mono B2.out.size))
        clear b2 H2 B2
        have HRA := Lib.hid (recsS_at (H3.out.s3.take HVZ.out.2))
        go_wp2
        go_loopw [35] (fun i wr => ∃ k : Nat, k ≤ s.recs.length ∧ i = .int .i64 k ∧ (∀ j z, j < k → s.recs[j]? = some z → (decide (0 ≤ z.r - (d4.toNat : Int)) && decide (z.r - (d4.toNat : Int) ≤ more)) = false) ∧ Below w2.heap.size w2 wr) (fun i _ => s.recs.length - (intOf i).toNat)
        case atStart => exact ⟨0, Nat.zero_le _, rfl, (by intro j z hj; omega), Below.refl _ _⟩
        case round =>
          obtain ⟨k, hk, rfl, hall, b3⟩ := hrel
          have HA := Lib.hid hall
          have B4 := Lib.hid b3
          clear hall b3
          by_cases hlt : k < s.recs.length
          · have HLT := Lib.hid hlt
            have hy : s.recs[k]? = some s.recs[k] := List.getElem?_eq_getElem hlt
            have hyr := valid_rec HH.out.rv hy
            generalize s.recs[k] = y at hy hyr
            obtain ⟨g1, o1, Bk, dk, Bd, dd, hA, k0, k1, k2, k3, _, _⟩ := (HRA.out.grow B4.out) k y hy
            subst hA
            have HY := Lib.hid hy
            have k4 := HK4.out wr (B3.out.trans (B4.out.mono B3.out.size))
            obtain ⟨hr1, hr2, _, _⟩ := hyr
            clear hy
            go_upto_region 7 with fail
            refine name_world (P := Code.wp _ _ _ _) ?_
            intro wd hwd
            have H5b := Lib.hid (SL.cast hwd ((SL.start wr).allocC #[.int .i64 y.r, .slice Bk y.key.length dk, .slice Bd y.data.length dd, .bool y.bad] 78))
            have k5 := HK4.out wd (B3.out.trans ((B4.out.trans (H5b.out.below.mono B4.out.size)).mono B3.out.size))
            obtain ⟨L, K, z⟩ := H5b.out.look
            have e1 : IntKind.i64.wrap (y.r - (d4.toNat : Int)) = y.r - (d4.toNat : Int) := IntWalk.i64_in _ (by omega)
            clear hwd k0 k1 k2 k3 k4
            refine wp_region_quiet (C := fun wx => wx = wd.drew) (by kernel_rfl) (by kernel_rfl) rfl ?_
            (repeat (with_reducible refine wpQuiet_step ?_; intro K hK; go_simp; first | (with_reducible refine hK _ ?_; clear hK K) | (rw [if_neg (by decide)]; with_reducible refine hK _ ?_; clear hK K) | (refine ⟨_, fun wx hx => (by subst hx; go_simp; with_reducible rfl), hK _ ?_⟩; clear hK K) | fail | (refine ⟨_, fun _ _ => rfl, hK _ ?_⟩; clear hK K))); with_reducible refine wpQuiet_nil ?_
            intro w6 hw6
            have B6 := Lib.hid (show Below w2.heap.size w2 w6 by rw [hw6]; exact (B4.out.trans (H5b.out.below.mono B4.out.size)).drew)
            clear hw6 L K z k5 H5b B4
            by_cases g0 : 0 ≤ y.r - (d4.toNat : Int)
            · by_cases g1 : y.r - (d4.toNat : Int) ≤ more
              · have HR := Lib.hid (show dkID s b more = dkHit s k by rw [HDE.out, find_first HA.out HY.out (by simp [g1]; omega)])
                have H7 := Lib.hid (H3.out.grow B6.out)
                clear HA
                go_wp2_with fail
                (refine (hit_any k H7.out.s1).mono ?_; rintro e w9 ⟨rfl, S9⟩; have H9 := Lib.hid S9.s1; clear S9; (obtain ⟨L, K, z⟩ := H9.out.look; go_wp2; refine bodyPost_ret (v := .agg #[.slice none 0 0, .int .i64 76, .int .i64 0]) (by simp [results, Tryz.results244, go_sem, L]) rfl ?_); rw [HR.out]; exact RetM.of (sel_close HV.out H9.out.set3.drop))
              · skip
                have HA2 := Lib.hid (show ∀ j z, j < k + 1 → s.recs[j]? = some z → (decide (0 ≤ z.r - (d4.toNat : Int)) && decide (z.r - (d4.toNat : Int) ≤ more)) = false from fun j z hj hz => by
                  by_cases e : j < k
                  · exact HA.out j z e hz
                  · obtain rfl : j = k := by omega
                    rw [HY.out] at hz; injection hz with hz; subst hz
                    simp; omega)
                clear HA
                go_wp2
                go_roundw
                case rel => exact ⟨k + 1, HLT.out, by go_num, HA2.out, B6.out⟩
                case measure => have := HLT.out; simp [intOf]; omega
            · skip
              have HA2 := Lib.hid (show ∀ j z, j < k + 1 → s.recs[j]? = some z → (decide (0 ≤ z.r - (d4.toNat : Int)) && decide (z.r - (d4.toNat : Int) ≤ more)) = false from fun j z hj hz => by
                by_cases e : j < k
                · exact HA.out j z e hz
                · obtain rfl : j = k := by omega
                  rw [HY.out] at hz; injection hz with hz; subst hz
                  simp; omega)
              clear HA
              go_wp2
              go_roundw
              case rel => exact ⟨k + 1, HLT.out, by go_num, HA2.out, B6.out⟩
              case measure => have := HLT.out; simp [intOf]; omega
          · obtain rfl : k = s.recs.length := by omega
            have HR := Lib.hid (show dkID s b more = dkCheck s 2 by rw [HDE.out, find_none HA.out])
            have H4 := Lib.hid (H3.out.grow B4.out)
            clear HA
            go_wp2_with fail
            (refine (check_any 2 H4.out.s1).mono ?_; rintro e w9 ⟨rfl, S9⟩; have H9 := Lib.hid S9.s1; clear S9; (obtain ⟨L, K, z⟩ := H9.out.look; go_wp2; refine bodyPost_ret (v := .agg #[.slice none 0 0, .int .i64 14, .int .i64 2]) (by simp [results, Tryz.results244, go_sem, L]) rfl ?_); rw [HR.out]; exact RetM.of (sel_close HV.out H9.out.set3.drop))
      · have HR := Lib.hid (show dkID s b more = dkCheck s 2 by rw [HDK5.out, if_neg (fun e => h2 e.2)])
        have u0 : ((t0 : Int) == (s.cyl : Int)) = true := by rw [h0]; simp
        have u1 : ((t2 : Int) == (s.head : Int)) = false := by simp; omega
        clear h0 h2 HDK5
        go_upto_region 3 with fail
        refine wp_region_quiet (C := Below wA.heap.size wA) (by kernel_rfl) (by kernel_rfl) (Below.refl _ _).drew ?_
        (repeat (with_reducible refine wpQuiet_step ?_; intro K hK; go_simp; first | (with_reducible refine hK _ ?_; clear hK K) | (rw [if_neg (by decide)]; with_reducible refine hK _ ?_; clear hK K) | (refine ⟨_, fun wx hx => (by obtain ⟨f1, f2⟩ := HX.out wx hx; go_simp; with_reducible rfl), hK _ ?_⟩; clear hK K) | (first | (refine ⟨_, fun wx hx => (by with_reducible refine (HT0.out wx hx).mono ?_; rintro e w' ⟨rfl, h2⟩; exact ⟨rfl, hx.trans (h2.mono hx.size)⟩), hK _ ?_⟩; clear hK K) | (refine ⟨_, fun wx hx => (by with_reducible refine (HT2.out wx hx).mono ?_; rintro e w' ⟨rfl, h2⟩; exact ⟨rfl, hx.trans (h2.mono hx.size)⟩), hK _ ?_⟩; clear hK K)) | (refine ⟨_, fun _ _ => rfl, hK _ ?_⟩; clear hK K))); with_reducible refine wpQuiet_nil ?_
        intro w1 b1
        have H2 := Lib.hid (H1.out.grow b1)
        have B2 := Lib.hid b1
        clear b1 H1
        go_wp2_with fail
        (refine (check_any 2 H2.out.s1).mono ?_; rintro e w9 ⟨rfl, S9⟩; have H9 := Lib.hid S9.s1; clear S9; (obtain ⟨L, K, z⟩ := H9.out.look; go_wp2; refine bodyPost_ret (v := .agg #[.slice none 0 0, .int .i64 14, .int .i64 2]) (by simp [results, Tryz.results244, go_sem, L]) rfl ?_); rw [HR.out]; exact RetM.of (sel_close HV.out H9.out.set3.drop))
    · have HR := Lib.hid (show dkID s b more = dkCheck s 2 by rw [HDK5.out, if_neg (fun e => h0 e.1)])
      have u0 : ((t0 : Int) == (s.cyl : Int)) = false := by simp; omega
      clear h0 HDK5
      go_upto_region 3 with fail
      refine wp_region_quiet (C := Below wA.heap.size wA) (by kernel_rfl) (by kernel_rfl) (Below.refl _ _).drew ?_
      (repeat (with_reducible refine wpQuiet_step ?_; intro K hK; go_simp; first | (with_reducible refine hK _ ?_; clear hK K) | (rw [if_neg (by decide)]; with_reducible refine hK _ ?_; clear hK K) | (refine ⟨_, fun wx hx => (by obtain ⟨f1, f2⟩ := HX.out wx hx; go_simp; with_reducible rfl), hK _ ?_⟩; clear hK K) | (first | (refine ⟨_, fun wx hx => (by with_reducible refine (HT0.out wx hx).mono ?_; rintro e w' ⟨rfl, h2⟩; exact ⟨rfl, hx.trans (h2.mono hx.size)⟩), hK _ ?_⟩; clear hK K) | (refine ⟨_, fun wx hx => (by with_reducible refine (HT2.out wx hx).mono ?_; rintro e w' ⟨rfl, h2⟩; exact ⟨rfl, hx.trans (h2.mono hx.size)⟩), hK _ ?_⟩; clear hK K)) | (refine ⟨_, fun _ _ => rfl, hK _ ?_⟩; clear hK K))); with_reducible refine wpQuiet_nil ?_
      intro w1 b1
      have H2 := Lib.hid (H1.out.grow b1)
      have B2 := Lib.hid b1
      clear b1 H1
      go_wp2_with fail
      (refine (check_any 2 H2.out.s1).mono ?_; rintro e w9 ⟨rfl, S9⟩; have H9 := Lib.hid S9.s1; clear S9; (obtain ⟨L, K, z⟩ := H9.out.look; go_wp2; refine bodyPost_ret (v := .agg #[.slice none 0 0, .int .i64 14, .int .i64 2]) (by simp [results, Tryz.results244, go_sem, L]) rfl ?_); rw [HR.out]; exact RetM.of (sel_close HV.out H9.out.set3.drop))
  · have HR := Lib.hid (show dkID s b more = dkCheck s 128 by rw [HDK.out, if_pos h5])
    have t1 : ((b.length : Int) != 5) = true := by simp; omega
    clear h5
    (go_enter Tryz.func244, Tryz.ntmps244; go_upto_region 1 with fail; refine name_world (P := Code.wp _ _ _ _) ?_; intro wA hwA; have H1 := Lib.hid (SL.cast hwA (HS.out.allocC #[.slice none 0 0, .int .i64 0, .int .i64 0] 30)); clear hwA HS; generalize w.heap.size = rb at *)
    go_wp2_with fail
    (refine (check_any 128 H1.out.s1).mono ?_; rintro e w9 ⟨rfl, S9⟩; have H9 := Lib.hid S9.s1; clear S9; (obtain ⟨L, K, z⟩ := H9.out.look; go_wp2; refine bodyPost_ret (v := .agg #[.slice none 0 0, .int .i64 14, .int .i64 128]) (by simp [results, Tryz.results244, go_sem, L]) rfl ?_); rw [HR.out]; exact RetM.of (sel_close HV.out H9.out.set3.drop))
theorem searchID_any (A : Option Addr) (b : List UInt8) (c : Nat) (hd : CardB W F A b c) (h : s.ok) (S : SL W (diskW x s was :: F) w) : Calls Tryz.prog 228 #[.pointer (some ⟨x, 0, none⟩), .slice A b.length c] w (RetM W F x (dkID s b 0)) := by
  have HS := Lib.hid S
  have HD := Lib.hid hd
  clear S hd
  ((go_enter Tryz.func228, Tryz.ntmps228; go_upto_region 1 with fail; refine name_world (P := Code.wp _ _ _ _) ?_; intro wA hwA; have H1 := Lib.hid (SL.cast hwA (HS.out.allocC #[.slice none 0 0, .int .i64 0, .int .i64 0] 30)); clear hwA HS; generalize w.heap.size = rb at *); have hdA : CardB W (cel rb #[.slice none 0 0, .int .i64 0, .int .i64 0] 30 :: F) A b c := fun w S => HD.out w S.drop; go_wp2_with fail; refine (byID_any A b c 0 (by omega) (by omega) hdA h H1.out.s1).mono ?_; rintro e w9 ⟨A9, c9, rfl, S9⟩; have H9 := Lib.hid S9.s2; clear S9; obtain ⟨L, K, z⟩ := H9.out.look; go_wp2; refine bodyPost_ret (by simp [results, Tryz.results228, go_sem, L]; rfl) rfl ?_; exact ⟨A9, c9, rfl, H9.out.set3.drop⟩)
theorem searchIDHigh_any (A : Option Addr) (b : List UInt8) (c : Nat) (hd : CardB W F A b c) (h : s.ok) (S : SL W (diskW x s was :: F) w) : Calls Tryz.prog 229 #[.pointer (some ⟨x, 0, none⟩), .slice A b.length c] w (RetM W F x (dkID s b 255)) := by
  have HS := Lib.hid S
  have HD := Lib.hid hd
  clear S hd
  ((go_enter Tryz.func229, Tryz.ntmps229; go_upto_region 1 with fail; refine name_world (P := Code.wp _ _ _ _) ?_; intro wA hwA; have H1 := Lib.hid (SL.cast hwA (HS.out.allocC #[.slice none 0 0, .int .i64 0, .int .i64 0] 30)); clear hwA HS; generalize w.heap.size = rb at *); have hdA : CardB W (cel rb #[.slice none 0 0, .int .i64 0, .int .i64 0] 30 :: F) A b c := fun w S => HD.out w S.drop; go_wp2_with fail; refine (byID_any A b c 255 (by omega) (by omega) hdA h H1.out.s1).mono ?_; rintro e w9 ⟨A9, c9, rfl, S9⟩; have H9 := Lib.hid S9.s2; clear S9; obtain ⟨L, K, z⟩ := H9.out.look; go_wp2; refine bodyPost_ret (by simp [results, Tryz.results229, go_sem, L]; rfl) rfl ?_; exact ⟨A9, c9, rfl, H9.out.set3.drop⟩)
end
end Go.Proofs.YtlbbmfmkhmmikaaGreat.D
