/- MedDv, MedV. -/
import Derived.Test.YtfhpaehfihnjaaaGreatMedB
set_option maxRecDepth 100000
namespace Go.Proofs.YtfhpaehfihnjaaaGreat.D
open Go.RowKit
section
variable {W w : World} {F : List SA} {x : Nat} {s : DK}
theorem size_any (h : s.ok) (S : SL W (diskS x s :: F) w) : Calls Tryz.prog 66 #[.pointer (some ⟨x, 0, none⟩)] w fun e w' => e = .returned (.tuple #[.int .i64 (s.cyls : Int), .int .i64 (s.heads : Int)]) ∧ Still w w' := by
  obtain ⟨was, S0⟩ := disk_open S
  obtain ⟨tb, lp, S1⟩ := diskW_open S0
  have HS := Lib.hid S1
  have hn : 0 < s.tracks.length := by have := h.here_lt; omega
  obtain ⟨L, K, z⟩ := S1.look
  clear S S0 S1 h
  go_enter Tryz.func66, Tryz.ntmps66
  go_wp2_with fail
  refine (ready_any hn HS.out).mono ?_
  rintro e w2 ⟨rfl, rfl⟩
  go_wp2
  go_quiet (fail)
  go_wp2
  refine bodyPost_ret (v := .tuple #[.int .i64 (s.cyls : Int), .int .i64 (s.heads : Int)]) (by simp [results, Tryz.results66, go_sem]) rfl ⟨rfl, by first | exact still_1 _ _ | exact still_2 _ _ _⟩
theorem dserial_any (h : s.ok) (S : SL W (diskS x s :: F) w) : Calls Tryz.prog 70 #[.pointer (some ⟨x, 0, none⟩)] w fun e w' => e = .returned (.string s.serial) ∧ w' = w := by
  obtain ⟨was, S0⟩ := disk_open S
  obtain ⟨tb, lp, S1⟩ := diskW_open S0
  have HS := Lib.hid S1
  have hn : 0 < s.tracks.length := by have := h.here_lt; omega
  obtain ⟨L, K, z⟩ := S1.look
  clear S S0 S1 h
  go_enter Tryz.func70, Tryz.ntmps70
  go_wp2_with fail
  refine (ready_any hn HS.out).mono ?_
  rintro e w2 ⟨rfl, rfl⟩
  go_wp2
  go_ret
  exact ⟨rfl, rfl⟩
end
end Go.Proofs.YtfhpaehfihnjaaaGreat.D
namespace Go.Proofs.YtfhpaehfihnjaaaGreat
open Go.RowKit
section
variable {W w : World} {F : List SA} {x y : Nat} {v v2 : Value} {bs bq : List (Nat × Nat)} {s : ST} {i k : Nat}
theorem size_view {u : UN} {b db : Nat} {d : D.DK} (ok : d.ok) (hu : s.us[i]? = some u) (hd : u.dev = .disk d) (hp : bs[i]? = some (b, db)) (S : SL W (setO x v bs s :: F) w) :
    Calls Tryz.prog 66 #[.pointer (some ⟨db, 0, none⟩)] w (fun e w' => e = .returned (.tuple #[.int .i64 (d.cyls : Int), .int .i64 (d.heads : Int)]) ∧ Still w w') ∧
    Calls Tryz.prog 67 #[.pointer (some ⟨db, 0, none⟩)] w (fun e w' => e = .returned (.tuple #[.int .i64 (d.cyl : Int), .int .i64 (d.head : Int)]) ∧ Still w w') ∧
    Calls Tryz.prog 70 #[.pointer (some ⟨db, 0, none⟩)] w (fun e w' => e = .returned (.string d.serial) ∧ w' = w) := by
  have S1 := (dev_open hp hu S).2
  rw [hd] at S1
  exact ⟨D.size_any ok S1, D.arm_any ok S1, D.dserial_any ok S1⟩
theorem track_view {u : UN} {b db : Nat} {d : D.DK} (ok : d.ok) (hu : s.us[i]? = some u) (hd : u.dev = .disk d) (hp : bs[i]? = some (b, db)) (hb : bs.length = s.us.length) (n : Int) (S : SL W (setO x v bs s :: F) w) :
    Calls Tryz.prog 68 #[.pointer (some ⟨db, 0, none⟩), .int .i64 n] w (fun e w' => ∃ A c, e = .returned (.tuple #[.slice A (D.trkOf d n).length c, .bool (D.trkIs d n)]) ∧ SL W (D.recsS (.slice A (D.trkOf d n).length c) (D.trkOf d n) :: setO x v bs s :: F) w') := by
  have S1 := (dev_open hp hu S).2
  rw [hd] at S1
  refine (D.track_any n ok S1).mono fun _ _ ⟨A, c, h, S2⟩ => ⟨A, c, h, ?_⟩
  have S3 := SL.b5 S2
  exact (dev_same hb hp hu (F := D.recsS (.slice A (D.trkOf d n).length c) (D.trkOf d n) :: F) (by rw [hd]; exact S3)).s1
set_option maxHeartbeats 32000000 in
theorem volume_disk {u : UN} {qb qdb : Nat} {d : D.DK} (ok : s.ok k) (hu : s.us[i]? = some u) (hd : u.dev = .disk d) (hq : bq[i]? = some (qb, qdb)) (S : SL W (qsetO y v2 bq s :: setO x v bs s :: F) w) :
    Calls Tryz.prog 44 #[.pointer (some ⟨x, 0, none⟩), .pointer (some ⟨qb, 0, none⟩)] w fun e w' => e = .returned (.bool true) ∧ SL W (qsetO y v2 bq s :: setO x v bs s :: F) w' := by
  have hb := (set_open S.s1).1
  obtain ⟨b, db, hp⟩ := bs_get hb hu
  obtain ⟨hbq, SQ⟩ := qdev_open hq hu S
  have hdok := (ok.us u (List.mem_of_getElem? hu)).dev
  rw [hd] at hdok SQ
  obtain ⟨tb, old, a, n, S1⟩ := D.qdisk_open SQ
  obtain ⟨vs, hvs, S2⟩ := D.tracksQ_open S1.s1
  -- cel tb, star, celq, lastQ, qb, star, cely, rowS, setO
  have HQ := Lib.hid (show SL W (setO x v bs s :: cel qdb (D.qCells d tb d.last.isSome old a n) 157 :: cel tb vs.toArray 155 :: star (List.zipWith D.trackQ vs d.tracks) :: D.lastQ old a n d.last :: cel qb (qoneCells qdb u) 45 :: star ((List.zipWith qoneS bq s.us).eraseIdx i) :: cel y #[v2, .bool s.off] 38 :: rowS 31 1 v2 s.us.length (ptrs bq) :: F) w from S2.s8.s3.s1)
  have HG := Lib.hid (fun (wx : World) (hx : SL W (setO x v bs s :: cel qdb (D.qCells d tb d.last.isSome old a n) 157 :: cel tb vs.toArray 155 :: star (List.zipWith D.trackQ vs d.tracks) :: D.lastQ old a n d.last :: cel qb (qoneCells qdb u) 45 :: star ((List.zipWith qoneS bq s.us).eraseIdx i) :: cel y #[v2, .bool s.off] 38 :: rowS 31 1 v2 s.us.length (ptrs bq) :: F) wx) => (by
    obtain ⟨_, _, _, _, _, g5⟩ := getters ok hu hp hx
    rw [hd, if_pos (by rfl)] at g5
    exact g5 : Calls Tryz.prog 32 #[.pointer (some ⟨x, 0, none⟩), .int .i64 u.conf.addr] wx (fun e w' => e = .returned (.pointer (some ⟨db, 0, none⟩)) ∧ w' = wx)))
  have HL := Lib.hid (fun (wx : World) (hx : SL W (setO x v bs s :: cel qdb (D.qCells d tb d.last.isSome old a n) 157 :: cel tb vs.toArray 155 :: star (List.zipWith D.trackQ vs d.tracks) :: D.lastQ old a n d.last :: cel qb (qoneCells qdb u) 45 :: star ((List.zipWith qoneS bq s.us).eraseIdx i) :: cel y #[v2, .bool s.off] 38 :: rowS 31 1 v2 s.us.length (ptrs bq) :: F) wx) => (by
    have L := hx.drop.drop.drop.drop.drop.look.1
    have M := hx.drop.look.1
    exact ⟨L 0, (L 6).trans (by show some (qPtr 5 qdb u.dev) = _; rw [hd]; rfl), M 0, M 1, M 2, M 3, M 4, M 5⟩ :
    wx.cell? ⟨qb, 0, none⟩ = some (.int .i64 u.conf.addr) ∧ wx.cell? ⟨qb, 6, none⟩ = some (.pointer (some ⟨qdb, 0, none⟩)) ∧ wx.cell? ⟨qdb, 0, none⟩ = some (.string d.serial) ∧ wx.cell? ⟨qdb, 1, none⟩ = some (.int .i64 (d.cyls : Int)) ∧ wx.cell? ⟨qdb, 2, none⟩ = some (.int .i64 (d.heads : Int)) ∧
    wx.cell? ⟨qdb, 3, none⟩ = some (.slice (some ⟨tb, 0, none⟩) d.tracks.length d.tracks.length) ∧ wx.cell? ⟨qdb, 4, none⟩ = some (.int .i64 (d.cyl : Int)) ∧ wx.cell? ⟨qdb, 5, none⟩ = some (.int .i64 (d.head : Int))))
  have HDK := Lib.hid (show d.ok from hdok)
  have HB := Lib.hid (And.intro hb (And.intro hp (And.intro hbq hq)))
  have HU := Lib.hid hu
  have HD := Lib.hid hd
  have HV := Lib.hid hvs
  have hn64 : d.tracks.length ≤ 512 := by have h1 := HDK.out.n1; have h2 := HDK.out.c1.2; have h3 := HDK.out.h1.2; rw [h1]; exact Nat.mul_le_mul h2 h3
  clear SQ S S1 S2 hb hp hbq hq hdok ok hu hd hvs
  obtain ⟨e0, e6, q0, q1, q2, q3, q4, q5⟩ := HL.out _ HQ.out
  go_enter Tryz.func44, Tryz.ntmps44
  go_wp2_with fail
  refine (HG.out _ HQ.out).mono ?_
  rintro e w2 ⟨rfl, hw⟩
  have hw := hw.symm
  subst hw
  go_wp2_with fail
  refine (size_view HDK.out HU.out HD.out HB.out.2.1 HQ.out).1.mono ?_
  rintro e w3 ⟨rfl, hs⟩
  have H3 := Lib.hid (HQ.out.still hs)
  clear hs HQ e0 e6 q0 q1 q2 q3 q4 q5
  go_wp2_with fail
  refine (size_view HDK.out HU.out HD.out HB.out.2.1 H3.out).2.1.mono ?_
  rintro e w4 ⟨rfl, hs⟩
  have H4 := Lib.hid (H3.out.still hs)
  clear hs H3
  obtain ⟨nt, hnt⟩ : ∃ nt, nt = d.tracks.length := ⟨_, rfl⟩
  have HNT := Lib.hid hnt
  rw [← hnt] at hn64
  have HL3 := Lib.hid (fun (wx : World) (hx : SL W (setO x v bs s :: cel qdb (D.qCells d tb d.last.isSome old a n) 157 :: cel tb vs.toArray 155 :: star (List.zipWith D.trackQ vs d.tracks) :: D.lastQ old a n d.last :: cel qb (qoneCells qdb u) 45 :: star ((List.zipWith qoneS bq s.us).eraseIdx i) :: cel y #[v2, .bool s.off] 38 :: rowS 31 1 v2 s.us.length (ptrs bq) :: F) wx) => (by have h := (HL.out wx hx).2.2.2.2.2.1; rw [← hnt] at h; exact h : wx.cell? ⟨qdb, 3, none⟩ = some (.slice (some ⟨tb, 0, none⟩) nt nt)))
  clear hnt
  go_wp2_with fail
  go_loopw [10] (fun j wr => ∃ m : Nat, m ≤ nt ∧ j = .int .i64 m ∧ SL W (setO x v bs s :: cel qdb (D.qCells d tb d.last.isSome old a n) 157 :: cel tb vs.toArray 155 :: star (List.zipWith D.trackQ vs d.tracks) :: D.lastQ old a n d.last :: cel qb (qoneCells qdb u) 45 :: star ((List.zipWith qoneS bq s.us).eraseIdx i) :: cel y #[v2, .bool s.off] 38 :: rowS 31 1 v2 s.us.length (ptrs bq) :: F) wr) (fun j _ => nt - (intOf j).toNat)
  case atStart => exact ⟨0, Nat.zero_le _, rfl, H4.out⟩
  case round =>
    obtain ⟨m, hm, rfl, S5⟩ := hrel
    have H5 := Lib.hid S5
    clear S5 H4
    have q3 := HL3.out _ H5.out
    have e6 := (HL.out _ H5.out).2.1
    by_cases hlt : m < nt
    · have hmt : m < d.tracks.length := by rw [← HNT.out]; exact hlt
      have ht : d.tracks[m]? = some d.tracks[m] := List.getElem?_eq_getElem hmt
      have hval := HDK.out.val _ (List.getElem_mem hmt)
      generalize d.tracks[m] = t at ht hval
      obtain ⟨vv, hvv⟩ : ∃ vv, vs[m]? = some vv := ⟨_, List.getElem?_eq_getElem (by rw [HV.out]; exact hmt)⟩
      have htk : D.trkOf d (m : Int) = t := by unfold D.trkOf; rw [if_pos (by omega), Int.toNat_natCast, ht]; rfl
      have htb : D.trkIs d (m : Int) = true := by unfold D.trkIs; exact decide_eq_true (by omega)
      have HT := Lib.hid (track_view HDK.out HU.out HD.out HB.out.2.1 HB.out.1 (m : Int) H5.out)
      rw [htk, htb] at HT
      obtain ⟨A2, c2, rfl, _, _⟩ := D.trackQ_len ((SL.s3 H5.out).take (i := m) (by rw [List.getElem?_zipWith, hvv, ht]))
      have HTK := Lib.hid (And.intro ht hvv)
      have HVL := Lib.hid hval
      clear ht hvv hval htk htb hmt
      go_wp2_with fail
      refine HT.out.mono ?_
      rintro e w6 ⟨A6, c6, rfl, S6⟩
      have H6 := Lib.hid S6
      clear S6 H5 HT q3 e6
      have q3 := HL3.out _ H6.out.drop
      have e6 := (HL.out _ H6.out.drop).2.1
      have qt : w6.cell? ⟨tb, m, none⟩ = some (.slice A2 t.length c2) := by
        have h := H6.out.drop.drop.drop.look.1 m
        rw [h]
        simpa using HTK.out.2
      have r1 := D.recsS_at H6.out
      have r2 := D.trackQ_at ((SL.s4 H6.out).take (i := m) (by rw [List.getElem?_zipWith, HTK.out.2, HTK.out.1]))
      have HC := Lib.hid (recs_any A6 A2 t c6 c2 w6 r1 r2 (Nat.le_trans (D.valid_len HVL.out) (by omega)) (fun z hz => by have := (D.valid_fit2 HVL.out).2 z hz; unfold maxLen; omega))
      clear r1 r2
      go_wp2_with fail
      refine HC.out.mono ?_
      rintro e w7 ⟨rfl, b7⟩
      have H7 := Lib.hid (H6.out.grow b7).drop
      clear b7 HC H6 q3 e6 qt
      go_wp2
      go_roundw
      case rel => exact ⟨m + 1, by omega, by go_num, H7.out⟩
      case measure => simp [intOf]; omega
    · obtain rfl : m = nt := by omega
      have HS := Lib.hid (fun (wx : World) (hx : SL W (setO x v bs s :: cel qdb (D.qCells d tb d.last.isSome old a n) 157 :: cel tb vs.toArray 155 :: star (List.zipWith D.trackQ vs d.tracks) :: D.lastQ old a n d.last :: cel qb (qoneCells qdb u) 45 :: star ((List.zipWith qoneS bq s.us).eraseIdx i) :: cel y #[v2, .bool s.off] 38 :: rowS 31 1 v2 s.us.length (ptrs bq) :: F) wx) => (size_view HDK.out HU.out HD.out HB.out.2.1 hx).2.2)
      clear q3 e6
      have q3 := HL3.out _ H5.out
      have e6 := (HL.out _ H5.out).2.1
      go_upto_region 10 with fail
      refine wp_region_quiet (C := SL W (setO x v bs s :: cel qdb (D.qCells d tb d.last.isSome old a n) 157 :: cel tb vs.toArray 155 :: star (List.zipWith D.trackQ vs d.tracks) :: D.lastQ old a n d.last :: cel qb (qoneCells qdb u) 45 :: star ((List.zipWith qoneS bq s.us).eraseIdx i) :: cel y #[v2, .bool s.off] 38 :: rowS 31 1 v2 s.us.length (ptrs bq) :: F)) (by kernel_rfl) (by kernel_rfl) H5.out.drew ?_
      simp only []
      (repeat (with_reducible refine wpQuiet_step ?_; intro K hK; go_simp; first | (with_reducible refine hK _ ?_; clear hK K) | (rw [if_neg (by decide)]; with_reducible refine hK _ ?_; clear hK K) | (refine ⟨_, fun wx hx => (by obtain ⟨f0, f6, f1, f2, f3, f7, f4, f5⟩ := HL.out wx hx; go_simp; with_reducible rfl), hK _ ?_⟩; clear hK K) | (refine ⟨_, fun wx hx => (by with_reducible refine (HS.out wx hx).mono ?_; rintro e w' ⟨rfl, hw⟩; exact ⟨rfl, by rw [hw]; exact hx⟩), hK _ ?_⟩; clear hK K) | (refine ⟨_, fun _ _ => rfl, hK _ ?_⟩; clear hK K))); with_reducible refine wpQuiet_nil ?_
      intro w9 S9
      have H9 := Lib.hid S9
      clear S9 H5
      go_wp2
      go_ret
      exact ⟨rfl, qdev_same (u := u) HB.out.2.2.1 HB.out.2.2.2 HU.out (by rw [HD.out]; exact D.qdisk_close rfl (D.tracksQ_close HV.out H9.out.b8.b2).s1)⟩
end
end Go.Proofs.YtfhpaehfihnjaaaGreat
