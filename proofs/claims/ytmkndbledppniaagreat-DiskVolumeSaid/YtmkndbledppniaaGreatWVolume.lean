/- DiskVolume: the walk. -/
import Derived.Test.YtmkndbledppniaaGreatStep
import Derived.Test.YtmkndbledppniaaGreatQNew
import Derived.Test.YtmkndbledppniaaGreatWorks16
namespace Go.Proofs.YtmkndbledppniaaGreat
open Go.RowKit
set_option maxRecDepth 100000 in
set_option maxHeartbeats 16000000 in
theorem walk_diskVolume (W : World) (ser : ByteArray) (hz : ser.size ≤ 140737488355328) (cy hd : Int) (A : Option Addr) (l : List StepV) (c : Nat) (hl : l.length ≤ 140737488355328) (hat : At W W.heap.size A (l.flatMap stepCells)) (hg : ∀ b ∈ l, StepV.good W b) :
    Calls Tryz.prog 3 #[.agg #[.string ser, .int .i64 cy, .int .i64 hd, .slice A l.length c]] W fun e W' => e = .returned (.bool true) ∧ Below W.heap.size W W' := by
  have HZ := Lib.hid hz
  have HA := Lib.hid hat
  have HG := Lib.hid hg
  clear hz hat hg
  go_enter Tryz.func3, Tryz.ntmps3
  go_upto_region 1 with fail
  refine name_world (P := Code.wp _ _ _ _) ?_
  intro wA hwA
  have H1 := Lib.hid (SL.cast hwA ((SL.start W).allocC #[.string ser, .int .i64 cy, .int .i64 hd, .slice A l.length c] 24))
  clear hwA
  generalize hsb : W.heap.size = sb at H1
  clear hsb
  obtain ⟨L, K, z⟩ := H1.out.look
  go_wp2_with fail
  refine (new_any ser HZ.out cy hd H1.out).mono ?_
  intro e w1 hn
  unfold NewR at hn
  cases hok : newOk ser cy hd with
  | false =>
    rw [hok, if_neg (by simp)] at hn
    obtain ⟨rfl, S1⟩ := hn
    have H2 := Lib.hid S1
    have HOK := Lib.hid hok
    clear S1 H1 L K z hok
    obtain ⟨L, K, z⟩ := H2.out.look
    go_wp2_with fail
    refine (qnew_any ser HZ.out cy hd H2.out).mono ?_
    intro e w2 h2
    unfold QNewR at h2
    rw [HOK.out, if_neg (by simp)] at h2
    obtain ⟨rfl, S2⟩ := h2
    have HB := Lib.hid S2.below
    clear S2 H2 L K z
    go_wp2_with fail
    refine (works_any _).mono ?_
    rintro e w9 ⟨rfl, b9⟩
    have HB2 := Lib.hid (HB.out.trans (b9.mono HB.out.size))
    clear b9 HB
    go_wp2
    go_ret
    exact ⟨rfl, HB2.out⟩
  | true =>
    rw [hok, if_pos rfl] at hn
    obtain ⟨x, rfl, S1⟩ := hn
    have H2 := Lib.hid S1.s1
    have HOK := Lib.hid hok
    clear S1 H1 L K z hok
    obtain ⟨L, K, z⟩ := H2.out.look
    go_wp2_with fail
    refine (qnew_any ser HZ.out cy hd H2.out).mono ?_
    intro e w2 h2
    unfold QNewR at h2
    rw [HOK.out, if_pos rfl] at h2
    obtain ⟨y, rfl, S2⟩ := h2
    have HDK := Lib.hid (newOk_ok HOK.out)
    -- qdisk, script, disk
    have H3 := Lib.hid (show SL W (diskS x (playDK (freshDK ser cy.toNat hd.toNat) (l.take 0)) :: qdiskS y (playDK (freshDK ser cy.toNat hd.toNat) (l.take 0)) :: _ :: []) w2 from S2.s2)
    clear S2 H2 L K z HOK
    generalize freshDK ser cy.toNat hd.toNat = s0 at *
    go_wp2_with fail
    go_loopw [7] (fun i wr => ∃ k : Nat, k ≤ l.length ∧ i = .int .i64 k ∧ SL W (diskS x (playDK s0 (l.take k)) :: qdiskS y (playDK s0 (l.take k)) :: cel sb #[.string ser, .int .i64 cy, .int .i64 hd, .slice A l.length c] 24 :: []) wr) (fun i _ => l.length - (intOf i).toNat)
    case atStart => exact ⟨0, Nat.zero_le _, rfl, H3.out⟩
    case round =>
      obtain ⟨k, hk, rfl, S3⟩ := hrel
      have H4 := Lib.hid S3
      clear S3 H3
      obtain ⟨L, K, z⟩ := H4.out.s2.look
      by_cases hlt : k < l.length
      · have hb : l[k]? = some l[k] := by simp [hlt]
        have hgb := HG.out l[k] (List.getElem_mem hlt)
        generalize l[k] = b at hb hgb
        obtain ⟨g, off, hA, hg, c0, c1, c2, c3, c4⟩ := step_cells HA.out hb
        subst hA
        have HLT := Lib.hid hlt
        have hbel := H4.out.below
        have d0 := (hbel.cell (p := ⟨g, off + k * 5, none⟩) hg).trans c0
        have d1 := (hbel.cell (p := ⟨g, off + k * 5 + 1, none⟩) hg).trans c1
        have d2 := (hbel.cell (p := ⟨g, off + k * 5 + 2, none⟩) hg).trans c2
        have d3 := (hbel.cell (p := ⟨g, off + k * 5 + 3, none⟩) hg).trans c3
        have d4 := (hbel.cell (p := ⟨g, off + k * 5 + 4, none⟩) hg).trans c4
        have HO := Lib.hid (lstep_any b.what b.op b.n b.data.1 b.data.2.1 b.data.2.2 b.ta b.t b.tc (good_card hgb) (good_recs hgb) hgb.2.2 (play_ok (l := l.take k) HDK.out) H4.out)
        have HB := Lib.hid (play_take (s := s0) hb)
        obtain ⟨wh, op, n, ⟨da, d, dc⟩, ta, t, tc⟩ := b
        dsimp only [cardV] at d0 d1 d2 d3 d4 HO
        clear hb hgb c0 c1 c2 c3 c4 hbel
        go_wp2_with fail
        refine HO.out.mono ?_
        rintro e w4 ⟨rfl, S4⟩
        rw [← HB.out] at S4
        have H5 := Lib.hid S4
        clear S4 H4 HO L K z d0 d1 d2 d3 d4
        go_wp2
        go_roundw
        case rel => exact ⟨k + 1, HLT.out, by go_num, H5.out⟩
        case measure => have := HLT.out; simp [intOf]; omega
      · obtain rfl : k = l.length := by omega
        rw [List.take_of_length_le (Nat.le_refl _)] at H4
        have HS0 := Lib.hid (play_ok (l := l) HDK.out)
        generalize playDK s0 l = s at *
        clear HDK
        go_wp2_with fail
        clear L K z
        go_loopw [8] (fun i wr => ∃ k : Nat, k ≤ s.tracks.length ∧ i = .int .i64 k ∧ SL W (diskS x s :: qdiskS y s :: cel sb #[.string ser, .int .i64 cy, .int .i64 hd, .slice A l.length c] 24 :: []) wr) (fun i _ => s.tracks.length - (intOf i).toNat)
        case atStart => exact ⟨0, Nat.zero_le _, rfl, H4.out⟩
        case round =>
          obtain ⟨k, hk, rfl, S5⟩ := hrel
          have H5 := Lib.hid S5
          clear S5 H4
          have hnt := HS0.out.nt
          obtain ⟨tb, old, a, m, S6⟩ := qdisk_open H5.out.s1
          by_cases hlt : k < s.tracks.length
          · have HLT := Lib.hid hlt
            have ht : s.tracks[k]? = some s.tracks[k] := List.getElem?_eq_getElem hlt
            have hv := HS0.out.val _ (List.mem_of_getElem? ht)
            generalize s.tracks[k] = t at ht hv
            obtain ⟨vs, hvs, S7⟩ := tracksQ_open S6.s1
            obtain ⟨v, hv1, hv2⟩ := zipQ_get hvs ht
            obtain ⟨A0, c0, rfl, hlc, hcm⟩ := trackQ_len (S7.s1.take hv2)
            have HS := Lib.hid S7.s2
            have HV := Lib.hid (And.intro hvs hv2)
            have HT := Lib.hid (And.intro ht hv)
            have HQ := Lib.hid (And.intro (show trkOf s (k : Int) = t by unfold trkOf; rw [if_pos (by omega), Int.toNat_natCast, ht]; rfl) (show trkIs s (k : Int) = true from decide_eq_true ⟨by omega, by exact_mod_cast hlt⟩))
            have hva : vs.toArray[k]? = some (.slice A0 t.length c0) := by simpa using hv1
            have HVA := Lib.hid hva
            generalize hch : s.last.isSome = ch at *
            have HCH := Lib.hid hch
            obtain ⟨L, K, z⟩ := HS.out.look
            clear S6 S7 hvs hv2 hva hv1 ht hv hch H5 hlc hcm
            go_wp2_with fail
            refine (track_any (k : Int) HS0.out HS.out.s4).mono ?_
            rintro e w3 ⟨A3, c3, rfl, S3⟩
            rw [HQ.out.1] at S3
            rw [HQ.out.1, HQ.out.2]
            have H6 := Lib.hid S3
            clear S3 L K z HS
            -- recs, disk, qdisk, slices, tracks, last, script
            obtain ⟨L, K, z⟩ := H6.out.s2.look
            have hq := (H6.out.s3.look.1 k).trans HVA.out
            go_wp2_with fail
            refine (same_any A3 A0 t c3 c0 w3 (recsS_at H6.out) (trackQ_at (H6.out.s4.take HV.out.2)) (by have := valid_len HT.out.2; omega)).mono ?_
            rintro e w4 ⟨rfl, b4⟩
            have H7 := Lib.hid (H6.out.grow b4)
            clear b4 H6 L K z hq
            go_wp2
            go_roundw
            case rel => exact ⟨k + 1, HLT.out, by go_num, (selQ_close HCH.out.symm HV.out.1 H7.out.drop.b4).s1⟩
            case measure => have := HLT.out; simp [intOf]; omega
          · obtain rfl : k = s.tracks.length := by omega
            have HB := Lib.hid S6.below
            obtain ⟨L, K, z⟩ := S6.look
            clear S6 H5
            generalize s.last.isSome = ch at *
            go_wp2_with fail
            refine (works_any _).mono ?_
            rintro e w9 ⟨rfl, b9⟩
            have HB2 := Lib.hid (HB.out.trans (b9.mono HB.out.size))
            clear b9 HB L K z
            go_wp2
            go_ret
            exact ⟨rfl, HB2.out⟩
end Go.Proofs.YtmkndbledppniaaGreat
