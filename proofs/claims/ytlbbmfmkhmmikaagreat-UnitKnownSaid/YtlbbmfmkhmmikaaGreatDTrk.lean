/- The disk's reads of counts and of whole tracks. -/
import Derived.Test.YtlbbmfmkhmmikaaGreatDWrite
namespace Go.Proofs.YtlbbmfmkhmmikaaGreat.D
open Go.RowKit
section
variable {W w : World} {F : List SA} {x : Nat} {s : DK} {was : Bool}
set_option maxRecDepth 100000 in
set_option maxHeartbeats 16000000 in
theorem readTrack_any (A : Option Addr) (n c : Nat) (h : s.ok) (S : SL W (diskW x s was :: F) w) :
    Calls Tryz.prog 236 #[.pointer (some ⟨x, 0, none⟩), .slice A n c] w (RetM W F x (dkTrack s)) := by
  obtain ⟨tb, lp, vs, A0, c0, hv0, hva, hvz, hlc, hcm, S1⟩ := sel_open h S
  have HS := Lib.hid S1
  have HV := Lib.hid hv0
  have HVZ := Lib.hid (And.intro hva hvz)
  have HH := Lib.hid h
  have hrl := h.rl
  clear S S1 h hv0 hva hvz
  (go_enter Tryz.func236, Tryz.ntmps236; go_upto_region 1 with fail; refine name_world (P := Code.wp _ _ _ _) ?_; intro wA hwA; have H1 := Lib.hid (SL.cast hwA (HS.out.allocC #[.slice none 0 0, .int .i64 0, .int .i64 0] 30)); clear hwA HS; generalize w.heap.size = rb at *)
  go_wp2_with fail
  refine (records_any HH.out ((H1.out.s2.look.1 s.here).trans HVZ.out.1) H1.out.s1).mono ?_
  rintro e w2 ⟨rfl, b2⟩
  have H2 := Lib.hid (H1.out.grow b2)
  clear b2 H1
  obtain ⟨L, K, z⟩ := H2.out.s1.look
  go_upto_region 3 with fail
  refine name_world (P := Code.wp _ _ _ _) ?_
  intro w3 hw3
  -- disk, reply, slices, tracks, last
  have H3 := Lib.hid (SL.cast hw3 (H2.out.s1.set (off := 6) (v := .int .i64 (s.recs.length : Int)) (cs' := dkCells { s with next := s.recs.length } tb lp was) rfl))
  clear hw3 H2 L K z
  obtain ⟨L, K, z⟩ := H3.out.look
  have HX := Lib.hid (fun (wx : World) (hx : Below w3.heap.size w3 wx) => (⟨(hx.cell (p := ⟨x, 4, none⟩) z).trans (L 4), (hx.cell (p := ⟨x, 5, none⟩) z).trans (L 5)⟩ : wx.cell? ⟨x, 4, none⟩ = some (.int .i64 (s.cyl : Int)) ∧ wx.cell? ⟨x, 5, none⟩ = some (.int .i64 (s.head : Int))))
  clear L K z
  have hce := encode_any A0 s.recs c0 (s.cyl : Int) (s.head : Int) (SL.start w3.drew) (recsS_at (H3.out.drew.s3.take HVZ.out.2)) (valid_fit2 HH.out.rv)
  have HDT := Lib.hid (show dkTrack s = if encE s.cyl s.head s.recs ≠ 0 then dkCheck { s with next := s.recs.length } 8 else dkDone { s with next := s.recs.length } (encB s.cyl s.head s.recs) from rfl)
  generalize encE (s.cyl : Int) (s.head : Int) s.recs = ne at hce HDT
  generalize encB (s.cyl : Int) (s.head : Int) s.recs = nb at hce HDT
  have HCE := Lib.hid hce
  clear hce
  refine wp_region_stages (fun wx => Below w3.heap.size w3 wx) [0, 1, 2, 4, 5, 6, 8] [([3, 7], [9, 10]), ([12], [11, 13])] [14] (by kernel_rfl) (by kernel_rfl) (Below.refl _ _).drew (by intro c a d v w h; cases d <;> exact h) ?_
  simp only [pick, List.filterMap_cons, List.filterMap_nil, List.getElem?_cons_zero, List.getElem?_cons_succ]
  (repeat (with_reducible refine wpPure_step ?_; intro K hK; go_simp; with_reducible refine hK _ ?_; clear hK K))
  refine wpPure_nil ?_
  (with_reducible refine wpStages_step ((Below.refl _ _).drew) ?_); simp only [pick, List.filterMap_cons, List.filterMap_nil, List.getElem?_cons_zero, List.getElem?_cons_succ]
  (repeat (with_reducible refine wpLoads_step ?_; intro K hK; go_simp; first | (with_reducible refine hK _ ?_; clear hK K) | (rw [if_neg (by decide)]; with_reducible refine hK _ ?_; clear hK K) | (refine ⟨_, fun wx hx => (by obtain ⟨f0, f1⟩ := HX.out wx hx; go_simp; with_reducible rfl), hK _ ?_⟩; clear hK K) | (refine ⟨_, fun _ _ => rfl, hK _ ?_⟩; clear hK K))); with_reducible refine wpLoads_nil ?_
  (with_reducible refine wpKeep_step ?_; intro K hK; go_simp)
  refine HCE.out.mono ?_
  rintro e w4 ⟨A4, c4, rfl, S4⟩
  have B4 := Lib.hid (show Below w3.heap.size w3 w4 from (Below.refl _ _).drew.trans (S4.below.mono (Nat.le_refl _)))
  have H4 := Lib.hid (H3.out.drew.join S4)
  refine hK _ _ B4.out ?_
  clear hK K S4 HCE HX H3
  (with_reducible refine wpKeep_step ?_; intro K hK; go_simp; first | (with_reducible refine hK _ _ (B4.out) ?_; clear hK K) | (rw [if_neg (by decide)]; with_reducible refine hK _ _ (B4.out) ?_; clear hK K))
  refine wpKeep_nil ?_
  (with_reducible refine wpStages_step (B4.out) ?_); simp only [pick, List.filterMap_cons, List.filterMap_nil, List.getElem?_cons_zero, List.getElem?_cons_succ]
  (repeat (with_reducible refine wpLoads_step ?_; intro K hK; go_simp; first | (with_reducible refine hK _ ?_; clear hK K) | (rw [if_neg (by decide)]; with_reducible refine hK _ ?_; clear hK K) | (refine ⟨_, fun wx hx => (by skip; go_simp; with_reducible rfl), hK _ ?_⟩; clear hK K) | (refine ⟨_, fun _ _ => rfl, hK _ ?_⟩; clear hK K))); with_reducible refine wpLoads_nil ?_
  (with_reducible refine wpKeep_step ?_; intro K hK; go_simp; first | (with_reducible refine hK _ _ (B4.out) ?_; clear hK K) | (rw [if_neg (by decide)]; with_reducible refine hK _ _ (B4.out) ?_; clear hK K))
  (with_reducible refine wpKeep_step ?_; intro K hK; go_simp; first | (with_reducible refine hK _ _ (B4.out) ?_; clear hK K) | (rw [if_neg (by decide)]; with_reducible refine hK _ _ (B4.out) ?_; clear hK K))
  refine wpKeep_nil ?_
  (with_reducible refine wpStages_nil ?_); simp only [pick, List.filterMap_cons, List.filterMap_nil, List.getElem?_cons_zero, List.getElem?_cons_succ]
  -- bytes, disk, reply, slices, tracks, last
  by_cases he : ne = 0
  · subst he
    have HR := Lib.hid (show dkTrack s = dkDone { s with next := s.recs.length } nb by rw [HDT.out, if_neg (by simp)])
    go_wp2_with fail
    refine (done_any _ _ _ _).mono ?_
    rintro e w9 ⟨rfl, b9⟩
    have H9 := Lib.hid ((H4.out.grow b9).s2)
    clear b9 H4
    (obtain ⟨L, K, z⟩ := H9.out.look; go_wp2; refine bodyPost_ret (v := .agg #[.slice A4 nb.length c4, .int .i64 12, .int .i64 0]) (by simp [results, Tryz.results236, go_sem, L]) rfl ?_)
    rw [HR.out]
    -- bytes, disk, slices, tracks, last
    exact ⟨A4, c4, rfl, (disk_close (sel_close (s := { s with next := s.recs.length }) HV.out H9.out.set3.drop.b4)).s1⟩
  · have HR := Lib.hid (show dkTrack s = dkCheck { s with next := s.recs.length } 8 by rw [HDT.out, if_pos he])
    have t1 : (((ne : Nat) : Int) != (0 : Int)) = true := by simp; omega
    have H5 := Lib.hid H4.out.drop
    clear he H4
    go_wp2_with fail
    refine (check_any 8 H5.out).mono ?_
    rintro e w9 ⟨rfl, S9⟩
    have H9 := Lib.hid S9.s1
    clear S9
    (obtain ⟨L, K, z⟩ := H9.out.look; go_wp2; refine bodyPost_ret (v := .agg #[.slice none 0 0, .int .i64 14, .int .i64 8]) (by simp [results, Tryz.results236, go_sem, L]) rfl ?_)
    rw [HR.out]
    exact RetM.of (sel_close HV.out H9.out.set3.drop)
set_option maxRecDepth 100000 in
set_option maxHeartbeats 16000000 in
theorem readCount_any (A : Option Addr) (n c : Nat) (h : s.ok) (S : SL W (diskW x s was :: F) w) :
    Calls Tryz.prog 232 #[.pointer (some ⟨x, 0, none⟩), .slice A n c] w (RetM W F x (dkCount s)) := by
  obtain ⟨tb, lp, vs, A0, c0, hv0, hva, hvz, hlc, hcm, S1⟩ := sel_open h S
  have HS := Lib.hid S1
  have HV := Lib.hid hv0
  have HVZ := Lib.hid (And.intro hva hvz)
  have HH := Lib.hid h
  have hrl := h.rl
  have hnx := h.nx
  have HCY := Lib.hid (show s.cyl ≤ 64 ∧ s.head ≤ 8 by have := h.cy; have := h.c1; have := h.hd; have := h.h1; omega)
  have HDK := Lib.hid (show dkCount s = match s.recs[s.next]? with
    | none => dkCheck s 2
    | some x => dkDone s (cntL s.cyl s.head x) from rfl)
  clear S S1 h hv0 hva hvz
  (go_enter Tryz.func232, Tryz.ntmps232; go_upto_region 1 with fail; refine name_world (P := Code.wp _ _ _ _) ?_; intro wA hwA; have H1 := Lib.hid (SL.cast hwA (HS.out.allocC #[.slice none 0 0, .int .i64 0, .int .i64 0] 30)); clear hwA HS; generalize w.heap.size = rb at *)
  obtain ⟨L, K, z⟩ := H1.out.s1.look
  have HX := Lib.hid (fun (wx : World) (hx : Below wA.heap.size wA wx) => (hx.cell (p := ⟨x, 6, none⟩) z).trans (L 6))
  have HCR := Lib.hid (fun (wx : World) (hx : Below wA.heap.size wA wx) => records_any HH.out (((H1.out.grow hx).s2.look.1 s.here).trans HVZ.out.1) (H1.out.grow hx).s1)
  clear L K z
  refine wp_region_quiet (C := Below wA.heap.size wA) (by kernel_rfl) (by kernel_rfl) (Below.refl _ _).drew ?_
  (repeat (with_reducible refine wpQuiet_step ?_; intro K hK; go_simp; first | (with_reducible refine hK _ ?_; clear hK K) | (rw [if_neg (by decide)]; with_reducible refine hK _ ?_; clear hK K) | (refine ⟨_, fun wx hx => (by have f0 := HX.out wx hx; go_simp; with_reducible rfl), hK _ ?_⟩; clear hK K) | (refine ⟨_, fun wx hx => (by with_reducible refine (HCR.out wx hx).mono ?_; rintro e w' ⟨rfl, h2⟩; exact ⟨rfl, hx.trans (h2.mono hx.size)⟩), hK _ ?_⟩; clear hK K) | (refine ⟨_, fun _ _ => rfl, hK _ ?_⟩; clear hK K))); with_reducible refine wpQuiet_nil ?_
  intro w2 b2
  have B2 := Lib.hid b2
  clear b2
  by_cases hlt : s.next < s.recs.length
  · have hy : s.recs[s.next]? = some s.recs[s.next] := List.getElem?_eq_getElem hlt
    have hyr := valid_rec HH.out.rv hy
    generalize s.recs[s.next] = y at hy hyr
    have HY := Lib.hid hyr
    have HR := Lib.hid (show dkCount s = dkDone s (cntL s.cyl s.head y) by rw [HDK.out, hy])
    obtain ⟨PT, g1, ck, cd, Ak, Ad, hA, SP, hback, hrec⟩ := rec_sel HVZ.out.2 hy H1.out.s3
    subst hA
    -- PT, reply, disk, slices, last
    have H2 := Lib.hid SP
    have HB := Lib.hid (And.intro hback hrec)
    clear hy SP hback hrec hyr
    have HK := Lib.hid (fun (wx : World) (hx : Below wA.heap.size wA wx) => HB.out.2 _ _ (H2.out.grow hx))
    go_upto_region 3 with fail
    refine wp_region_order (fun wx => Below wA.heap.size wA wx) [0, 1, 3, 4, 5] [] [2, 6, 7, 8] [] [9, 10, 11] (by kernel_rfl) (by kernel_rfl) B2.out.drew (by intro c a d v w h; cases d <;> exact h) ?_
    simp only [pick, List.filterMap_cons, List.filterMap_nil, List.getElem?_cons_zero, List.getElem?_cons_succ]
    (repeat (with_reducible refine wpPure_step ?_; intro K hK; go_simp; with_reducible refine hK _ ?_; clear hK K))
    refine wpPure_nil ?_
    refine wpLoads_nil ?_
    (repeat (with_reducible refine wpQuiet_step ?_; intro K hK; go_simp; first | (with_reducible refine hK _ ?_; clear hK K) | (rw [if_neg (by decide)]; with_reducible refine hK _ ?_; clear hK K) | (refine ⟨_, fun wx hx => (by have f0 := HX.out wx hx; obtain ⟨f1, f2, f3, f4, _, _⟩ := HK.out wx hx; go_simp; with_reducible rfl), hK _ ?_⟩; clear hK K) | (refine ⟨_, fun wx hx => (by with_reducible refine (HCR.out wx hx).mono ?_; rintro e w' ⟨rfl, h2⟩; exact ⟨rfl, hx.trans (h2.mono hx.size)⟩), hK _ ?_⟩; clear hK K) | (refine ⟨_, fun _ _ => rfl, hK _ ?_⟩; clear hK K))); with_reducible refine wpQuiet_nil ?_
    intro w3 b3
    have H3 := Lib.hid (H2.out.grow b3)
    clear b3 HX HCR HK B2 H2 H1
    refine wpKeep_nil ?_
    refine wpList_plain rfl ?_
    intro K hK
    go_wp2_with fail
    refine (count_any y Ak Ad ck cd HCY.out.1 HCY.out.2 HY.out H3.out.s2).mono ?_
    rintro e w4 ⟨g, rfl, S4, b4⟩
    -- count, disk, PT, reply, slices, last
    have H4 := Lib.hid S4
    clear S4 b4 H3
    refine hK _ _ ?_
    clear hK K
    refine wpList_plain rfl ?_
    intro K hK
    go_wp2_with fail
    refine (done_any _ _ _ _).mono ?_
    rintro e w9 ⟨rfl, b9⟩
    have H9 := Lib.hid ((H4.out.grow b9).s3)
    clear b9 H4
    refine hK _ _ ?_
    clear hK K
    (obtain ⟨L, K, z⟩ := H9.out.look; go_wp2; refine bodyPost_ret (v := .agg #[.slice (some ⟨g, 0, none⟩) 8 8, .int .i64 12, .int .i64 0]) (by simp [results, Tryz.results232, go_sem, L]) rfl ?_)
    rw [HR.out]
    -- count, disk, PT, slices, last
    have hcl : (cntL s.cyl s.head y).length = 8 := cntL_len _ _ _
    refine ⟨some ⟨g, 0, none⟩, 8, by dsimp only [dkDone]; rw [hcl]; rfl, ?_⟩
    show SL W (rowS 5 1 (.slice (some ⟨g, 0, none⟩) (cntL s.cyl s.head y).length 8) (cntL s.cyl s.head y).length (Lib.byteCells (cntL s.cyl s.head y)) :: diskS x s :: F) _
    rw [hcl]
    exact (disk_close (sel_close HV.out (HB.out.1 _ _ H9.out.set3.drop.s2).s3.s3.s4.b3)).s1
  · have hn : s.recs[s.next]? = none := List.getElem?_eq_none (by omega)
    have HR := Lib.hid (show dkCount s = dkCheck s 2 by rw [HDK.out, hn])
    have H2 := Lib.hid (H1.out.grow B2.out)
    clear hn HX HCR
    go_wp2_with fail
    (refine (check_any 2 H2.out.s1).mono ?_; rintro e w9 ⟨rfl, S9⟩; have H9 := Lib.hid S9.s1; clear S9; (obtain ⟨L, K, z⟩ := H9.out.look; go_wp2; refine bodyPost_ret (v := .agg #[.slice none 0 0, .int .i64 14, .int .i64 2]) (by simp [results, Tryz.results232, go_sem, L]) rfl ?_); rw [HR.out]; exact RetM.of (sel_close HV.out H9.out.set3.drop))
end
end Go.Proofs.YtlbbmfmkhmmikaaGreat.D
