/- tells of the law. -/
import Derived.Test.YtelfihgkbbaifaaTrack
namespace Go.Proofs.Ytelfihgkbbaifaa
open Go.RowKit
section
set_option maxRecDepth 100000 in
set_option maxHeartbeats 8000000 in
theorem tells_any (A : Option Addr) (t : List Rec) (c : Nat) (x : Rec) (Ak Ad : Option Addr) (ck cd : Nat) (w : World) (hr : RecsAt w A t) (hf : Fit (t ++ [x])) (hk : CardAt w Ak x.key ck) (hd : CardAt w Ad x.data cd) :
    Calls Try.prog 13 #[.slice A t.length c, .agg #[.int .i64 x.r, .slice Ak x.key.length ck, .slice Ad x.data.length cd, .bool x.bad]] w fun e w' => e = .returned (.bool true) ∧ Below w.heap.size w w' := by
  have HF := Lib.hid hf
  have HFL := Lib.hid (Fit.left hf)
  have hxl := hf.2 x (by simp)
  have HR := Lib.hid hr
  have HC := Lib.hid (And.intro hk hd)
  have hfl : t.length + 1 ≤ 1048576 := by have := hf.1; simpa using this
  have hml : t.length ≤ maxLen := by unfold maxLen; omega
  clear hf hr hk hd
  go_enter Try.func13, Try.ntmps13
  have HW0 := Lib.hid (show Below w.heap.size w (w.alloc (.cells #[.int .i64 x.r, .slice Ak x.key.length ck, .slice Ad x.data.length cd, .bool x.bad] 25)) by (repeat' (first | (with_reducible exact Below.refl _ _) | (with_reducible assumption) | (with_reducible refine below_drewN ?_ _) | (with_reducible refine Below.drew ?_) | (with_reducible refine Below.alloc ?_ ?_ _) | (with_reducible refine Below.setCell ?_ ?_ _) | (with_reducible refine below_row ?_ ?_ _) | (with_reducible exact Nat.le_refl _) | omega | (simp only [World.size_alloc, World.size_setCell, World.size_drew, World.size_drewN]; omega) | (simp; done) | (simp; omega))))
  have HB0 := Lib.hid (show (w.alloc (.cells #[.int .i64 x.r, .slice Ak x.key.length ck, .slice Ad x.data.length cd, .bool x.bad] 25)).heap[w.heap.size]? = some (.cells #[.int .i64 x.r, .slice Ak x.key.length ck, .slice Ad x.data.length cd, .bool x.bad] 25 (0, 0)) from hl_new rfl)
  go_wp2_with fail
  refine (find_any A t c x.r _ (HR.out.grow HW0.out) hml).mono ?_
  rintro e w2 ⟨rfl, b2⟩
  have HB2 := Lib.hid (hl_grow b2 HB0.out)
  have B2 := Lib.hid (HW0.out.trans (b2.mono HW0.out.size))
  clear b2 HB0 HW0
  generalize hxb : w.heap.size = xb at *
  have HXB := Lib.hid hxb
  have hz2 : xb ≤ w2.heap.size := by rw [← hxb]; exact B2.out.size
  obtain ⟨L, K, z⟩ := row_look HB2.out
  go_wp2_with fail
  refine (rfind_any A t c x.r _ (HR.out.grow (hxb ▸ B2.out)) hml).mono ?_
  rintro e w3 ⟨rfl, b3⟩
  have HB3 := Lib.hid (hl_grow b3 HB2.out)
  have B3 := Lib.hid (B2.out.trans (b3.mono hz2))
  have hz3 : xb ≤ w3.heap.size := by have := b3.size; omega
  clear b3 HB2 B2 L K z
  have HL := Lib.hid (fun (wx : World) (hx : Below w3.heap.size w3 wx) => row_look (hl_grow hx HB3.out))
  have HRX := Lib.hid (fun (wx : World) (hx : Below w3.heap.size w3 wx) => HR.out.grow (show Below w.heap.size w wx from by rw [hxb]; exact B3.out.trans (hx.mono hz3)))
  have HC1 := Lib.hid (fun (wx : World) (hx : Below w3.heap.size w3 wx) => HC.out.1.grow (show Below w.heap.size w wx from by rw [hxb]; exact B3.out.trans (hx.mono hz3)))
  have HC2 := Lib.hid (fun (wx : World) (hx : Below w3.heap.size w3 wx) => HC.out.2.grow (show Below w.heap.size w wx from by rw [hxb]; exact B3.out.trans (hx.mono hz3)))
  have HV1 := Lib.hid (fun wx => cost_any x.r Ak Ad x.key.length x.data.length ck cd x.bad wx (by omega) (by omega))
  have HV2 := Lib.hid (fun wx => rcost_any x.r Ak Ad x.key.length x.data.length ck cd x.bad wx (by omega) (by omega))
  have HV3 := Lib.hid (fun wx hx => used_any A t c wx (HRX.out wx hx) HFL.out)
  have HV4 := Lib.hid (fun wx hx => rused_any A t c wx (HRX.out wx hx) HFL.out)
  have HV5 := Lib.hid (fun wx hx => valid_any A t c wx (HRX.out wx hx) HFL.out)
  have HV6 := Lib.hid (fun wx hx => rvalid_any A t c wx (HRX.out wx hx) HFL.out)
  have HV7 := Lib.hid (fun wx hx => fits_any A t c x Ak Ad ck cd wx (HRX.out wx hx) HFL.out hxl)
  have HV8 := Lib.hid (fun wx hx => rfits_any A t c x Ak Ad ck cd wx (HRX.out wx hx) HF.out (HC1.out wx hx) (HC2.out wx hx))
  clear HR HC HRX HC1 HC2 hxb
  generalize validB (t ++ [x]) = v1 at *
  generalize validB t = v2 at *
  generalize usedN t = u at *
  generalize costN x.key.length x.data.length = q at *
  have hv1 : (v1 == v1) = true := by simp
  have hv2 : (v2 == v2) = true := by simp
  cases hfd : findN t x.r with
  | none =>
    simp only [idxV, Option.getD_none, Option.isSome_none]
    go_upto_region 5 with fail
    refine wp_region_quiet (C := Below w3.heap.size w3) (by kernel_rfl) (by kernel_rfl) (Below.refl _ _).drew ?_
    (repeat (with_reducible refine wpQuiet_step ?_; intro K hK; go_simp; first | (with_reducible refine hK _ ?_; clear hK K) | (rw [if_neg (by decide)]; with_reducible refine hK _ ?_; clear hK K) | (refine ⟨_, fun wx hx => (by obtain ⟨f0, f1, f2⟩ := HL.out wx hx; go_simp; with_reducible rfl), hK _ ?_⟩; clear hK K) | (first | (refine ⟨_, fun wx hx => (by with_reducible refine (HV1.out wx).mono ?_; rintro e w' ⟨rfl, h2⟩; exact ⟨rfl, hx.trans (h2.mono hx.size)⟩), hK _ ?_⟩; clear hK K) | (refine ⟨_, fun wx hx => (by with_reducible refine (HV2.out wx).mono ?_; rintro e w' ⟨rfl, h2⟩; exact ⟨rfl, hx.trans (h2.mono hx.size)⟩), hK _ ?_⟩; clear hK K) | (refine ⟨_, fun wx hx => (by with_reducible refine (HV3.out wx hx).mono ?_; rintro e w' ⟨rfl, h2⟩; exact ⟨rfl, hx.trans (h2.mono hx.size)⟩), hK _ ?_⟩; clear hK K) | (refine ⟨_, fun wx hx => (by with_reducible refine (HV4.out wx hx).mono ?_; rintro e w' ⟨rfl, h2⟩; exact ⟨rfl, hx.trans (h2.mono hx.size)⟩), hK _ ?_⟩; clear hK K) | (refine ⟨_, fun wx hx => (by with_reducible refine (HV5.out wx hx).mono ?_; rintro e w' ⟨rfl, h2⟩; exact ⟨rfl, hx.trans (h2.mono hx.size)⟩), hK _ ?_⟩; clear hK K) | (refine ⟨_, fun wx hx => (by with_reducible refine (HV6.out wx hx).mono ?_; rintro e w' ⟨rfl, h2⟩; exact ⟨rfl, hx.trans (h2.mono hx.size)⟩), hK _ ?_⟩; clear hK K) | (refine ⟨_, fun wx hx => (by with_reducible refine (HV7.out wx hx).mono ?_; rintro e w' ⟨rfl, h2⟩; exact ⟨rfl, hx.trans (h2.mono hx.size)⟩), hK _ ?_⟩; clear hK K) | (refine ⟨_, fun wx hx => (by with_reducible refine (HV8.out wx hx).mono ?_; rintro e w' ⟨rfl, h2⟩; exact ⟨rfl, hx.trans (h2.mono hx.size)⟩), hK _ ?_⟩; clear hK K)) | (refine ⟨_, fun _ _ => rfl, hK _ ?_⟩; clear hK K))); with_reducible refine wpQuiet_nil ?_
    intro w4 hw4
    have B4 := Lib.hid (B3.out.trans (Below.mono hw4 hz3))
    clear hw4
    go_wp2
    go_ret
    exact ⟨rfl, by rw [HXB.out]; exact B4.out⟩
  | some i =>
    simp only [idxV, Option.getD_some, Option.isSome_some]
    have h0 : (0 : Int) ≤ (i : Int) := by omega
    have h1 : ((i : Int) != (i : Int)) = false := by simp
    go_upto_region 5 with fail
    refine wp_region_quiet (C := Below w3.heap.size w3) (by kernel_rfl) (by kernel_rfl) (Below.refl _ _).drew ?_
    (repeat (with_reducible refine wpQuiet_step ?_; intro K hK; go_simp; first | (with_reducible refine hK _ ?_; clear hK K) | (rw [if_neg (by decide)]; with_reducible refine hK _ ?_; clear hK K) | (refine ⟨_, fun wx hx => (by obtain ⟨f0, f1, f2⟩ := HL.out wx hx; go_simp; with_reducible rfl), hK _ ?_⟩; clear hK K) | (first | (refine ⟨_, fun wx hx => (by with_reducible refine (HV1.out wx).mono ?_; rintro e w' ⟨rfl, h2⟩; exact ⟨rfl, hx.trans (h2.mono hx.size)⟩), hK _ ?_⟩; clear hK K) | (refine ⟨_, fun wx hx => (by with_reducible refine (HV2.out wx).mono ?_; rintro e w' ⟨rfl, h2⟩; exact ⟨rfl, hx.trans (h2.mono hx.size)⟩), hK _ ?_⟩; clear hK K) | (refine ⟨_, fun wx hx => (by with_reducible refine (HV3.out wx hx).mono ?_; rintro e w' ⟨rfl, h2⟩; exact ⟨rfl, hx.trans (h2.mono hx.size)⟩), hK _ ?_⟩; clear hK K) | (refine ⟨_, fun wx hx => (by with_reducible refine (HV4.out wx hx).mono ?_; rintro e w' ⟨rfl, h2⟩; exact ⟨rfl, hx.trans (h2.mono hx.size)⟩), hK _ ?_⟩; clear hK K) | (refine ⟨_, fun wx hx => (by with_reducible refine (HV5.out wx hx).mono ?_; rintro e w' ⟨rfl, h2⟩; exact ⟨rfl, hx.trans (h2.mono hx.size)⟩), hK _ ?_⟩; clear hK K) | (refine ⟨_, fun wx hx => (by with_reducible refine (HV6.out wx hx).mono ?_; rintro e w' ⟨rfl, h2⟩; exact ⟨rfl, hx.trans (h2.mono hx.size)⟩), hK _ ?_⟩; clear hK K) | (refine ⟨_, fun wx hx => (by with_reducible refine (HV7.out wx hx).mono ?_; rintro e w' ⟨rfl, h2⟩; exact ⟨rfl, hx.trans (h2.mono hx.size)⟩), hK _ ?_⟩; clear hK K) | (refine ⟨_, fun wx hx => (by with_reducible refine (HV8.out wx hx).mono ?_; rintro e w' ⟨rfl, h2⟩; exact ⟨rfl, hx.trans (h2.mono hx.size)⟩), hK _ ?_⟩; clear hK K)) | (refine ⟨_, fun _ _ => rfl, hK _ ?_⟩; clear hK K))); with_reducible refine wpQuiet_nil ?_
    intro w4 hw4
    have B4 := Lib.hid (B3.out.trans (Below.mono hw4 hz3))
    clear hw4
    go_wp2
    go_ret
    exact ⟨rfl, by rw [HXB.out]; exact B4.out⟩
end
end Go.Proofs.Ytelfihgkbbaifaa
