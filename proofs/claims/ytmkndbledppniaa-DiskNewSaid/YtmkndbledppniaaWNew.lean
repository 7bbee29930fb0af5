/- DiskNew: the walk. -/
import Derived.Test.YtmkndbledppniaaView
import Derived.Test.YtmkndbledppniaaQNew
import Derived.Test.YtmkndbledppniaaPlay
import Derived.Test.YtmkndbledppniaaWorks16
namespace Go.Proofs.Ytmkndbledppniaa
open Go.RowKit
theorem fresh_size {ser : ByteArray} {c h : Int} (e : newOk ser c h = true) : ((freshDK ser c.toNat h.toNat).cyls : Int) = c ∧ ((freshDK ser c.toNat h.toNat).heads : Int) = h ∧ (freshDK ser c.toNat h.toNat).serial = ser := by
  unfold newOk at e
  simp only [Bool.and_eq_true, decide_eq_true_eq] at e
  exact ⟨by show ((c.toNat : Nat) : Int) = c; omega, by show ((h.toNat : Nat) : Int) = h; omega, rfl⟩
theorem trk_len {s : DK} (h : s.ok) (n : Int) : (trkOf s n).length ≤ 8192 := by
  unfold trkOf
  by_cases h0 : 0 ≤ n
  · rw [if_pos h0]
    cases e : s.tracks[n.toNat]? with
    | none => exact Nat.zero_le _
    | some t =>
      have := valid_len (h.val _ (List.mem_of_getElem? e))
      show t.length ≤ 8192
      omega
  · rw [if_neg h0]; exact Nat.zero_le _
set_option maxRecDepth 100000 in
set_option maxHeartbeats 16000000 in
theorem walk_diskNew (W : World) (ser : ByteArray) (hz : ser.size ≤ 140737488355328) (cy hd n : Int) : Calls Try.prog 4 #[.string ser, .int .i64 cy, .int .i64 hd, .int .i64 n] W fun e W' => e = .returned (.bool true) ∧ Below W.heap.size W W' := by
  have HZ := Lib.hid hz
  clear hz
  go_enter Try.func4, Try.ntmps4
  go_wp2_with fail
  refine (new_any ser HZ.out cy hd (SL.start W)).mono ?_
  intro e w1 h1
  unfold NewR at h1
  cases hok : newOk ser cy hd with
  | false =>
    rw [hok, if_neg (by simp)] at h1
    obtain ⟨rfl, S1⟩ := h1
    have H1 := Lib.hid S1
    have HOK := Lib.hid hok
    clear S1 hok
    go_wp2_with fail
    refine (qnew_any ser HZ.out cy hd H1.out).mono ?_
    intro e w2 h2
    unfold QNewR at h2
    rw [HOK.out, if_neg (by simp)] at h2
    obtain ⟨rfl, S2⟩ := h2
    have HB := Lib.hid S2.below
    clear S2 H1
    go_wp2_with fail
    refine (works_any _).mono ?_
    rintro e w9 ⟨rfl, b9⟩
    have HB2 := Lib.hid (HB.out.trans (b9.mono HB.out.size))
    clear b9 HB
    go_wp2
    go_ret
    exact ⟨rfl, HB2.out⟩
  | true =>
    rw [hok, if_pos rfl] at h1
    obtain ⟨x, rfl, S1⟩ := h1
    have H1 := Lib.hid S1
    have HOK := Lib.hid hok
    clear S1 hok
    go_wp2_with fail
    refine (qnew_any ser HZ.out cy hd H1.out).mono ?_
    intro e w2 h2
    unfold QNewR at h2
    rw [HOK.out, if_pos rfl] at h2
    obtain ⟨y, rfl, S2⟩ := h2
    have H2 := Lib.hid S2.s1
    have HS := Lib.hid (newOk_ok HOK.out)
    obtain ⟨hf1, hf2, hf3⟩ := fresh_size HOK.out
    have HF := Lib.hid (And.intro hf1 (And.intro hf2 hf3))
    clear S2 H1 hf1 hf2 hf3
    generalize freshDK ser cy.toNat hd.toNat = s at *
    -- disk, qdisk
    go_wp2_with fail
    refine (size_any HS.out H2.out).mono ?_
    rintro e w3 ⟨rfl, b3⟩
    rw [HF.out.1, HF.out.2.1]
    have H3 := Lib.hid (H2.out.grow (b3.below _))
    clear b3 H2
    go_wp2_with fail
    refine (track_any n HS.out H3.out).mono ?_
    rintro e w4 ⟨A4, c4, rfl, S4⟩
    have H4 := Lib.hid S4.s2
    clear S4 H3
    -- qdisk, recs, disk
    go_wp2_with fail
    refine (qtrack_any n HS.out H4.out).mono ?_
    rintro e w5 ⟨A5, c5, rfl, S5⟩
    have H5 := Lib.hid S5.s3
    clear S5 H4
    -- disk, recs', qdisk, recs
    go_wp2_with fail
    refine (serial_any HS.out H5.out).mono ?_
    rintro e w6 ⟨rfl, rfl⟩
    rw [HF.out.2.2]
    go_wp2_with fail
    refine (same_any A4 A5 (trkOf s n) c4 c5 w6 (recsS_at H5.out.s3) (recsS_at H5.out.s1) (trk_len HS.out n)).mono ?_
    rintro e w7 ⟨rfl, b7⟩
    have H7 := Lib.hid (H5.out.grow b7)
    clear b7 H5
    go_wp2_with fail
    refine (lsame_any HS.out H7.out.s2.s1).mono ?_
    rintro e w8 ⟨rfl, S8⟩
    have HB := Lib.hid S8.below
    clear S8 H7
    go_wp2_with fail
    refine (works_any _).mono ?_
    rintro e w9 ⟨rfl, b9⟩
    have HB2 := Lib.hid (HB.out.trans (b9.mono HB.out.size))
    clear b9 HB
    go_wp2
    go_ret
    exact ⟨rfl, HB2.out⟩
end Go.Proofs.Ytmkndbledppniaa
