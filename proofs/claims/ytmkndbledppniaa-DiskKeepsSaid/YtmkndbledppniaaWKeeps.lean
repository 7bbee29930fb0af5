/- DiskKeeps: the walk. -/
import Derived.Test.YtmkndbledppniaaImage
import Derived.Test.YtmkndbledppniaaLaws
namespace Go.Proofs.Ytmkndbledppniaa
open Go.RowKit
theorem do_len (s : DK) (op : Int) (b : List UInt8) : (dkDo s op b).1.tracks.length = s.tracks.length := by
  rcases do_eff s op b with ⟨h, _⟩ | ⟨t, m, h, _⟩ <;> rw [h]
  simp
set_option maxRecDepth 100000 in
set_option maxHeartbeats 16000000 in
theorem walk_diskKeeps (W : World) (ser : ByteArray) (hz : ser.size ≤ 140737488355328) (cy hd : Int) (A : Option Addr) (l : List StepV) (c : Nat) (hl : l.length ≤ 140737488355328) (hat : At W W.heap.size A (l.flatMap stepCells)) (hg : ∀ b ∈ l, StepV.good W b)
    (op : Int) (da : Option Addr) (d : List UInt8) (dc : Nat) (hd1 : CardAt W da d dc) :
    Calls Try.prog 7 #[.agg #[.string ser, .int .i64 cy, .int .i64 hd, .slice A l.length c], .int .i64 op, .slice da d.length dc] W fun e W' => e = .returned (.bool true) ∧ Below W.heap.size W W' := by
  have HP := Lib.hid (fun (w : World) (F : List SA) (S : SL W F w) => play_any ser hz cy hd A l c hl hat hg S)
  have HD := Lib.hid hd1
  clear hat hg hd1
  go_enter Try.func7, Try.ntmps7
  go_upto_region 1 with fail
  refine name_world (P := Code.wp _ _ _ _) ?_
  intro wA hwA
  have H1 := Lib.hid (SL.cast hwA ((SL.start W).allocC #[.string ser, .int .i64 cy, .int .i64 hd, .slice A l.length c] 47))
  clear hwA
  obtain ⟨L, K, z⟩ := H1.out.look
  go_wp2_with fail
  refine (HP.out _ _ H1.out).mono ?_
  rintro e w1 (⟨hok, x, rfl, S1⟩ | ⟨hok, rfl, S1⟩)
  · have HS := Lib.hid (play_ok (l := l) (newOk_ok hok))
    generalize playDK (freshDK ser cy.toNat hd.toNat) l = s at *
    have H2 := Lib.hid S1
    clear S1 hok HP H1 L K z
    generalize (cel W.heap.size #[.string ser, .int .i64 cy, .int .i64 hd, .slice A l.length c] 47 :: [] : List SA) = F0 at *
    go_wp2_with fail
    refine (image_any HS.out H2.out).mono ?_
    rintro e w2 ⟨A2, c2, rfl, S2⟩
    have H3 := Lib.hid S2.s1
    clear S2 H2
    go_wp2_with fail
    refine (do_any op da d dc (fun wx Sx => HD.out.grow Sx.below) HS.out H3.out).mono ?_
    rintro e w3 ⟨A3, c3, rfl, S3⟩
    have H4 := Lib.hid S3.drop
    clear S3 H3
    have HK := Lib.hid (fun n => do_keeps s op d n)
    have HLN := Lib.hid (do_len s op d)
    have HS2 := Lib.hid (do_ok (op := op) (b := d) HS.out)
    generalize (dkDo s op d).1 = s1 at *
    have hnt := HS2.out.nt
    have ha := arm_any HS2.out H4.out
    have hsz := size_any HS2.out H4.out
    have hhere := HS2.out.here_lt
    have HHD := Lib.hid (show s1.here = s1.cyl * s1.heads + s1.head from rfl)
    have hcyl : s1.cyl ≤ 64 := by have := HS2.out.cy; have := HS2.out.c1; omega
    have hheads : s1.heads ≤ 8 := HS2.out.h1.2
    have hmm : s1.cyl * s1.heads ≤ 512 := Nat.mul_le_mul hcyl hheads
    have HA := Lib.hid ha
    clear ha hsz
    go_wp2_with fail
    refine HA.out.mono ?_
    rintro e w4 ⟨rfl, b4⟩
    have H5 := Lib.hid (H4.out.still b4)
    clear b4 H4 HA
    go_wp2_with fail
    refine (size_any HS2.out H5.out).mono ?_
    rintro e w5 ⟨rfl, b5⟩
    have H6 := Lib.hid (H5.out.still b5)
    clear b5 H5
    go_wp2_with fail
    refine (image_any HS2.out H6.out).mono ?_
    rintro e w6 ⟨A6, c6, rfl, S6⟩
    -- now, disk, old
    have H7 := Lib.hid S6
    clear S6 H6
    have HI1 := Lib.hid (img_at H7.out rfl)
    have HI2 := Lib.hid (img_at H7.out.s2 rfl)
    have HB7 := Lib.hid H7.out.below
    have em : (s1.cyl : Int) * (s1.heads : Int) = ((s1.cyl * s1.heads : Nat) : Int) := by push_cast; rfl
    have w1 : IntKind.i64.wrap ((s1.cyl : Int) * (s1.heads : Int)) = ((s1.cyl * s1.heads : Nat) : Int) := by
      rw [em]
      exact IntWalk.i64_in _ (by omega)
    clear em
    have w2 : IntKind.i64.wrap (((s1.cyl * s1.heads : Nat) : Int) + (s1.head : Int)) = (s1.here : Int) := by
      have h := HHD.out
      rw [IntWalk.i64_in _ (by omega)]; omega
    have W1 := Lib.hid w1
    have W2 := Lib.hid w2
    clear w1 w2 H7 hmm hcyl hheads
    generalize ((s1.cyl * s1.heads : Nat) : Int) = m at *
    go_upto_region 10 with fail
    go_loopw [14] (fun i wr => ∃ k : Nat, k ≤ s1.tracks.length ∧ i = .int .i64 k ∧ Below w6.heap.size w6 wr) (fun i _ => s1.tracks.length - (intOf i).toNat)
    case atStart => exact ⟨0, Nat.zero_le _, rfl, Below.refl _ _⟩
    case round =>
      obtain ⟨k, hk, rfl, b1⟩ := hrel
      have B1 := Lib.hid b1
      clear b1
      by_cases hlt : k < s1.tracks.length
      · have hx : s1.tracks[k]? = some s1.tracks[k] := by simp [hlt]
        have hv := HS2.out.val _ (List.mem_of_getElem? hx)
        generalize s1.tracks[k] = t at hx hv
        obtain ⟨g, off, A8, c8, hA, hg, k0, r0⟩ := HI1.out k t hx
        subst hA
        have HL := Lib.hid (fun (wx : World) (hx : Below w6.heap.size w6 wx) => (hx.cell (p := ⟨g, off + k, none⟩) hg).trans k0)
        have HV := Lib.hid (fun (wx : World) (hx : Below w6.heap.size w6 wx) => (rvalid_any A8 t c8 wx (r0.grow hx) (valid_fit2 hv)).mono fun e w' h => (⟨by rw [h.1, hv], h.2⟩ : e = .returned (.bool true) ∧ Below wx.heap.size wx w'))
        have hkl : (k : Int) < (s1.tracks.length : Int) := by omega
        have hkl2 : (k : Int) < (s.tracks.length : Int) := by have := HLN.out; omega
        have w1 := W1.out
        have w2 := W2.out
        by_cases hkh : k = s1.here
        · have t1 : ((k : Int) != (s1.here : Int)) = false := by simp; omega
          clear hkh hx hv k0 r0 hg hlt
          go_upto_region 12 with fail
          refine wp_region_quiet (C := Below w6.heap.size w6) (by kernel_rfl) (by kernel_rfl) B1.out.drew ?_
          (repeat (with_reducible refine wpQuiet_step ?_; intro K hK; go_simp; first | (with_reducible refine hK _ ?_; clear hK K) | (rw [if_neg (by decide)]; with_reducible refine hK _ ?_; clear hK K) | (refine ⟨_, fun wx hx => (by have f0 := HL.out wx hx; go_simp; with_reducible rfl), hK _ ?_⟩; clear hK K) | (refine ⟨_, fun wx hx => (by with_reducible refine (HV.out wx hx).mono ?_; rintro e w' ⟨rfl, h2⟩; exact ⟨rfl, hx.trans (h2.mono hx.size)⟩), hK _ ?_⟩; clear hK K) | (refine ⟨_, fun _ _ => rfl, hK _ ?_⟩; clear hK K))); with_reducible refine wpQuiet_nil ?_
          intro w8 hw8
          have B3 := Lib.hid hw8
          clear hw8 w1 w2
          go_wp2
          go_roundw
          case rel => exact ⟨k + 1, by omega, by go_num, B3.out⟩
          case measure => simp [intOf]; omega
        · have t1 : ((k : Int) != (s1.here : Int)) = true := by simp; omega
          have hx2 := (HK.out k hkh).symm.trans hx
          obtain ⟨g2, off2, A9, c9, hA2, hg2, k2, r2⟩ := HI2.out k t hx2
          subst hA2
          have HL2 := Lib.hid (fun (wx : World) (hx : Below w6.heap.size w6 wx) => (hx.cell (p := ⟨g2, off2 + k, none⟩) hg2).trans k2)
          have HSM := Lib.hid (fun (wx : World) (hx : Below w6.heap.size w6 wx) => same_any A8 A9 t c8 c9 wx (r0.grow hx) (r2.grow hx) (by have := valid_len hv; omega))
          clear hkh hx hx2 hv k0 k2 r0 r2 hg hg2 hlt
          go_upto_region 12 with fail
          refine wp_region_quiet (C := Below w6.heap.size w6) (by kernel_rfl) (by kernel_rfl) B1.out.drew ?_
          (repeat (with_reducible refine wpQuiet_step ?_; intro K hK; go_simp; first | (with_reducible refine hK _ ?_; clear hK K) | (rw [if_neg (by decide)]; with_reducible refine hK _ ?_; clear hK K) | (refine ⟨_, fun wx hx => (by have f0 := HL.out wx hx; have f1 := HL2.out wx hx; go_simp; with_reducible rfl), hK _ ?_⟩; clear hK K) | (first | (refine ⟨_, fun wx hx => (by with_reducible refine (HV.out wx hx).mono ?_; rintro e w' ⟨rfl, h2⟩; exact ⟨rfl, hx.trans (h2.mono hx.size)⟩), hK _ ?_⟩; clear hK K) | (refine ⟨_, fun wx hx => (by with_reducible refine (HSM.out wx hx).mono ?_; rintro e w' ⟨rfl, h2⟩; exact ⟨rfl, hx.trans (h2.mono hx.size)⟩), hK _ ?_⟩; clear hK K)) | (refine ⟨_, fun _ _ => rfl, hK _ ?_⟩; clear hK K))); with_reducible refine wpQuiet_nil ?_
          intro w8 hw8
          have B3 := Lib.hid hw8
          clear hw8 w1 w2
          go_wp2
          go_roundw
          case rel => exact ⟨k + 1, by omega, by go_num, B3.out⟩
          case measure => simp [intOf]; omega
      · obtain rfl : k = s1.tracks.length := by omega
        have HB := Lib.hid (HB7.out.trans (B1.out.mono HB7.out.size))
        have hln := HLN.out
        rw [hln]
        go_wp2_with fail
        refine (works_any _).mono ?_
        rintro e w9 ⟨rfl, b9⟩
        have HB2 := Lib.hid (HB.out.trans (b9.mono HB.out.size))
        clear b9 HB
        go_wp2
        go_ret
        exact ⟨rfl, HB2.out⟩
  · have HB := Lib.hid S1.below
    clear S1 hok HP H1 L K z
    go_wp2_with fail
    refine (works_any _).mono ?_
    rintro e w9 ⟨rfl, b9⟩
    have HB2 := Lib.hid (HB.out.trans (b9.mono HB.out.size))
    clear b9 HB
    go_wp2
    go_ret
    exact ⟨rfl, HB2.out⟩
end Go.Proofs.Ytmkndbledppniaa
