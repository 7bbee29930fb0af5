/- DiskUndoes: the walk. -/
import Derived.Test.YtmkndbledppniaaImage
import Derived.Test.YtmkndbledppniaaLaws
namespace Go.Proofs.Ytmkndbledppniaa
open Go.RowKit
set_option maxRecDepth 100000 in
set_option maxHeartbeats 16000000 in
theorem walk_diskUndoes (W : World) (ser : ByteArray) (hz : ser.size ≤ 140737488355328) (cy hd : Int) (A : Option Addr) (l : List StepV) (c : Nat) (hl : l.length ≤ 140737488355328) (hat : At W W.heap.size A (l.flatMap stepCells)) (hg : ∀ b ∈ l, StepV.good W b)
    (op : Int) (da : Option Addr) (d : List UInt8) (dc : Nat) (hd1 : CardAt W da d dc) :
    Calls Try.prog 6 #[.agg #[.string ser, .int .i64 cy, .int .i64 hd, .slice A l.length c], .int .i64 op, .slice da d.length dc] W fun e W' => e = .returned (.bool true) ∧ Below W.heap.size W W' := by
  have HP := Lib.hid (fun (w : World) (F : List SA) (S : SL W F w) => play_any ser hz cy hd A l c hl hat hg S)
  have HD := Lib.hid hd1
  clear hat hg hd1
  go_enter Try.func6, Try.ntmps6
  go_upto_region 1 with fail
  refine name_world (P := Code.wp _ _ _ _) ?_
  intro wA hwA
  have H1 := Lib.hid (SL.cast hwA ((SL.start W).allocC #[.string ser, .int .i64 cy, .int .i64 hd, .slice A l.length c] 47))
  clear hwA
  obtain ⟨L, K, z⟩ := H1.out.look
  go_wp2_with fail
  refine (HP.out _ _ H1.out).mono ?_
  rintro e w1 (⟨hok, x, rfl, S1⟩ | ⟨hok, rfl, S1⟩)
  · have HS := Lib.hid (play_ok (l := l) (newOk_ok hok))
    generalize playDK (freshDK ser cy.toNat hd.toNat) l = s at *
    have H2 := Lib.hid S1
    clear S1 hok HP H1 L K z
    generalize (cel W.heap.size #[.string ser, .int .i64 cy, .int .i64 hd, .slice A l.length c] 47 :: [] : List SA) = F0 at *
    go_wp2_with fail
    refine (image_any HS.out H2.out).mono ?_
    rintro e w2 ⟨A2, c2, rfl, S2⟩
    have H3 := Lib.hid S2.s1
    clear S2 H2
    go_wp2_with fail
    refine (do_any op da d dc (fun wx Sx => HD.out.grow Sx.below) HS.out H3.out).mono ?_
    rintro e w3 ⟨A3, c3, rfl, S3⟩
    have H4 := Lib.hid S3.drop
    clear S3 H3
    have HL := Lib.hid (do_undoes s HS.out op d)
    have HS2 := Lib.hid (do_ok (op := op) (b := d) HS.out)
    have HS3 := Lib.hid (undo_ok (how := 1) HS2.out)
    have hu1 := undo_any 1 HS2.out H4.out
    generalize (dkDo s op d).1 = s1 at *
    generalize hs2 : (dkUndo s1 1).1 = s2 at *
    generalize (dkUndo s1 1).2 = q1 at *
    have HU1 := Lib.hid hu1
    clear hs2 hu1
    go_wp2_with fail
    refine HU1.out.mono ?_
    rintro e w4 ⟨rfl, S4⟩
    have H5 := Lib.hid S4
    clear S4 H4 HU1
    -- disk, image
    have hi := image_any HS3.out H5.out
    rw [HL.out.1] at hi
    have HI := Lib.hid hi
    clear hi
    go_wp2_with fail
    refine HI.out.mono ?_
    rintro e w5 ⟨A5, c5, rfl, S5⟩
    have H6 := Lib.hid S5
    clear S5 HI H5
    have hnt := HS.out.nt
    go_wp2_with fail
    refine (sametracks_any A5 A2 s.tracks c5 c2 w5 (img_at H6.out rfl) (img_at H6.out.s2 rfl) (by omega) (fun t ht => by have := valid_len (HS.out.val t ht); omega)).mono ?_
    rintro e w6 ⟨rfl, b6⟩
    have H7 := Lib.hid (H6.out.grow b6)
    clear b6 H6
    have hu := undo_any 1 HS3.out H7.out.s1
    rw [HL.out.2] at hu
    have HU := Lib.hid hu
    clear hu
    go_wp2_with fail
    refine HU.out.mono ?_
    rintro e w7 ⟨rfl, S8⟩
    have HB := Lib.hid S8.below
    clear S8 HU H7
    go_wp2_with fail
    refine (works_any _).mono ?_
    rintro e w9 ⟨rfl, b9⟩
    have HB2 := Lib.hid (HB.out.trans (b9.mono HB.out.size))
    clear b9 HB
    go_wp2
    go_ret
    exact ⟨rfl, HB2.out⟩
  · have HB := Lib.hid S1.below
    clear S1 hok HP H1 L K z
    go_wp2_with fail
    refine (works_any _).mono ?_
    rintro e w9 ⟨rfl, b9⟩
    have HB2 := Lib.hid (HB.out.trans (b9.mono HB.out.size))
    clear b9 HB
    go_wp2
    go_ret
    exact ⟨rfl, HB2.out⟩
end Go.Proofs.Ytmkndbledppniaa
