/- The document's unit: readTrack, change. -/
import Derived.Test.YtmkndbledppniaaGreatQRead
import Derived.BigRegion
namespace Go.Proofs.YtmkndbledppniaaGreat
open Go.RowKit
section
variable {W w : World} {F : List SA} {x : Nat} {s : DK}
set_option maxRecDepth 100000 in
set_option maxHeartbeats 16000000 in
theorem qreadTrack_any (h : s.ok) (S : SL W (qdiskS x s :: F) w) : Calls Tryz.prog 37 #[.pointer (some ⟨x, 0, none⟩)] w (RetQ W F x (dkTrack s)) := by
  have hhl := h.here_lt
  obtain ⟨tb, old, a, n, vs, A0, c0, hv0, hva, hvz, hlc, hcm, S1⟩ := selQ_open h S; have HS := Lib.hid S1; have HV := Lib.hid hv0; have HVZ := Lib.hid (And.intro hva hvz); have HH := Lib.hid h; have hrl := h.rl; clear S S1 h hv0 hva hvz
  (go_enter Tryz.func37, Tryz.ntmps37; go_upto_region 1 with fail; refine name_world (P := Code.wp _ _ _ _) ?_; intro wA hwA; have H1 := Lib.hid (SL.cast hwA (HS.out.allocC #[.slice none 0 0, .int .i64 0, .int .i64 0] 53)); clear hwA HS; generalize w.heap.size = rb at *)
  obtain ⟨L, K, z⟩ := H1.out.s1.look
  obtain ⟨L2, K2, z2⟩ := H1.out.s2.look
  have hqv := (L2 s.here).trans HVZ.out.1
  have hhi : (s.here : Int) < (s.tracks.length : Int) := by omega
  have HX := Lib.hid (fun (wx : World) (hx : Below wA.heap.size wA wx) => (⟨(hx.cell (p := ⟨x, 3, none⟩) z).trans (L 3), (hx.cell (p := ⟨tb, s.here, none⟩) z2).trans hqv⟩ : wx.cell? ⟨x, 3, none⟩ = some (.slice (some ⟨tb, 0, none⟩) s.tracks.length s.tracks.length) ∧ wx.cell? ⟨tb, s.here, none⟩ = some (.slice A0 s.recs.length c0)))
  have HC := Lib.hid (fun (wx : World) (hx : Below wA.heap.size wA wx) => qhere_b HH.out (H1.out.s1.grow hx))
  clear L K z L2 K2 z2 hqv
  refine wp_region_quiet (C := Below wA.heap.size wA) (by kernel_rfl) (by kernel_rfl) (Below.refl _ _).drew ?_
  (repeat (with_reducible refine wpQuiet_step ?_; intro K hK; go_simp; first | (with_reducible refine hK _ ?_; clear hK K) | (rw [if_neg (by decide)]; with_reducible refine hK _ ?_; clear hK K) | (refine ⟨_, fun wx hx => (by obtain ⟨f0, f1⟩ := HX.out wx hx; go_simp; with_reducible rfl), hK _ ?_⟩; clear hK K) | (refine ⟨_, fun wx hx => (by with_reducible refine (HC.out wx hx).mono ?_; rintro e w' ⟨rfl, h2⟩; exact ⟨rfl, hx.trans (h2.mono hx.size)⟩), hK _ ?_⟩; clear hK K) | (refine ⟨_, fun _ _ => rfl, hK _ ?_⟩; clear hK K))); with_reducible refine wpQuiet_nil ?_
  intro w1 b1
  have H2 := Lib.hid (H1.out.grow b1)
  clear b1 H1 HX HC
  obtain ⟨L, K, z⟩ := H2.out.s1.look
  go_upto_region 3 with fail
  refine name_world (P := Code.wp _ _ _ _) ?_
  intro w3 hw3
  -- disk, reply, slices, tracks, last
  have H3 := Lib.hid (SL.cast hw3 (H2.out.s1.set (off := 6) (v := .int .i64 (s.recs.length : Int)) (cs' := qCells { s with next := s.recs.length } tb s.last.isSome old a n) rfl))
  clear hw3 H2 L K z
  obtain ⟨L, K, z⟩ := H3.out.look
  have HX := Lib.hid (fun (wx : World) (hx : Below w3.heap.size w3 wx) => (⟨(hx.cell (p := ⟨x, 4, none⟩) z).trans (L 4), (hx.cell (p := ⟨x, 5, none⟩) z).trans (L 5)⟩ : wx.cell? ⟨x, 4, none⟩ = some (.int .i64 (s.cyl : Int)) ∧ wx.cell? ⟨x, 5, none⟩ = some (.int .i64 (s.head : Int))))
  clear L K z
  have hce := rencode_any A0 s.recs c0 (s.cyl : Int) (s.head : Int) (SL.start w3.drew) (trackQ_at (H3.out.drew.s3.take HVZ.out.2)) (valid_fit2 HH.out.rv)
  have HDT := Lib.hid (show dkTrack s = if encE s.cyl s.head s.recs ≠ 0 then dkCheck { s with next := s.recs.length } 8 else dkDone { s with next := s.recs.length } (encB s.cyl s.head s.recs) from rfl)
  generalize encE (s.cyl : Int) (s.head : Int) s.recs = ne at hce HDT
  generalize encB (s.cyl : Int) (s.head : Int) s.recs = nb at hce HDT
  have HCE := Lib.hid hce
  clear hce
  refine wp_region_stages (fun wx => Below w3.heap.size w3 wx) [0, 1, 2, 4, 5, 6, 8] [([3, 7], [9, 10]), ([12], [11, 13])] [14] (by kernel_rfl) (by kernel_rfl) (Below.refl _ _).drew (by intro c a d v w h; cases d <;> exact h) ?_
  simp only [pick, List.filterMap_cons, List.filterMap_nil, List.getElem?_cons_zero, List.getElem?_cons_succ]
  (repeat (with_reducible refine wpPure_step ?_; intro K hK; go_simp; with_reducible refine hK _ ?_; clear hK K))
  refine wpPure_nil ?_
  (with_reducible refine wpStages_step ((Below.refl _ _).drew) ?_); simp only [pick, List.filterMap_cons, List.filterMap_nil, List.getElem?_cons_zero, List.getElem?_cons_succ]
  (repeat (with_reducible refine wpLoads_step ?_; intro K hK; go_simp; first | (with_reducible refine hK _ ?_; clear hK K) | (rw [if_neg (by decide)]; with_reducible refine hK _ ?_; clear hK K) | (refine ⟨_, fun wx hx => (by obtain ⟨f0, f1⟩ := HX.out wx hx; go_simp; with_reducible rfl), hK _ ?_⟩; clear hK K) | (refine ⟨_, fun _ _ => rfl, hK _ ?_⟩; clear hK K))); with_reducible refine wpLoads_nil ?_
  (with_reducible refine wpKeep_step ?_; intro K hK; go_simp)
  refine HCE.out.mono ?_
  rintro e w4 ⟨A4, c4, rfl, S4⟩
  have B4 := Lib.hid (show Below w3.heap.size w3 w4 from (Below.refl _ _).drew.trans (S4.below.mono (Nat.le_refl _)))
  have H4 := Lib.hid (H3.out.drew.join S4)
  refine hK _ _ B4.out ?_
  clear hK K S4 HCE HX H3
  (with_reducible refine wpKeep_step ?_; intro K hK; go_simp; first | (with_reducible refine hK _ _ (B4.out) ?_; clear hK K) | (rw [if_neg (by decide)]; with_reducible refine hK _ _ (B4.out) ?_; clear hK K))
  refine wpKeep_nil ?_
  (with_reducible refine wpStages_step (B4.out) ?_); simp only [pick, List.filterMap_cons, List.filterMap_nil, List.getElem?_cons_zero, List.getElem?_cons_succ]
  (repeat (with_reducible refine wpLoads_step ?_; intro K hK; go_simp; first | (with_reducible refine hK _ ?_; clear hK K) | (rw [if_neg (by decide)]; with_reducible refine hK _ ?_; clear hK K) | (refine ⟨_, fun wx hx => (by skip; go_simp; with_reducible rfl), hK _ ?_⟩; clear hK K) | (refine ⟨_, fun _ _ => rfl, hK _ ?_⟩; clear hK K))); with_reducible refine wpLoads_nil ?_
  (with_reducible refine wpKeep_step ?_; intro K hK; go_simp; first | (with_reducible refine hK _ _ (B4.out) ?_; clear hK K) | (rw [if_neg (by decide)]; with_reducible refine hK _ _ (B4.out) ?_; clear hK K))
  (with_reducible refine wpKeep_step ?_; intro K hK; go_simp; first | (with_reducible refine hK _ _ (B4.out) ?_; clear hK K) | (rw [if_neg (by decide)]; with_reducible refine hK _ _ (B4.out) ?_; clear hK K))
  refine wpKeep_nil ?_
  (with_reducible refine wpStages_nil ?_); simp only [pick, List.filterMap_cons, List.filterMap_nil, List.getElem?_cons_zero, List.getElem?_cons_succ]
  -- bytes, disk, reply, slices, tracks, last
  by_cases he : ne = 0
  · subst he
    have HR := Lib.hid (show dkTrack s = dkDone { s with next := s.recs.length } nb by rw [HDT.out, if_neg (by simp)])
    go_wp2_with fail
    refine (good_any _ _ _ _).mono ?_
    rintro e w9 ⟨rfl, b9⟩
    have H9 := Lib.hid ((H4.out.grow b9).s2)
    clear b9 H4
    (obtain ⟨L, K, z⟩ := H9.out.look; go_wp2; refine bodyPost_ret (v := .agg #[.slice A4 nb.length c4, .int .i64 12, .int .i64 0]) (by simp [results, Tryz.results37, go_sem, L]) rfl ?_)
    rw [HR.out]
    exact ⟨A4, c4, rfl, (selQ_close (s := { s with next := s.recs.length }) rfl HV.out H9.out.set3.drop.b4).s1⟩
  · have HR := Lib.hid (show dkTrack s = dkCheck { s with next := s.recs.length } 8 by rw [HDT.out, if_pos he])
    have t1 : (((ne : Nat) : Int) != (0 : Int)) = true := by simp; omega
    have H5 := Lib.hid H4.out.drop
    clear he H4
    go_wp2_with fail
    refine (fail_any 8 H5.out).mono ?_
    rintro e w9 ⟨rfl, S9⟩
    have H9 := Lib.hid S9.s1
    clear S9
    (obtain ⟨L, K, z⟩ := H9.out.look; go_wp2; refine bodyPost_ret (v := .agg #[.slice none 0 0, .int .i64 14, .int .i64 8]) (by simp [results, Tryz.results37, go_sem, L]) rfl ?_)
    rw [HR.out]
    exact RetQ.of (selQ_close (s := { s with next := s.recs.length, sense := 8 }) rfl HV.out H9.out.set3.drop)
set_option maxRecDepth 100000 in
set_option maxHeartbeats 8000000 in
theorem qchange_any (v' : Value) (t' : List Rec) (m : Int) (h : s.ok) (S : SL W (qdiskS x s :: trackQ v' t' :: F) w) : Calls Tryz.prog 41 #[.pointer (some ⟨x, 0, none⟩), v', .int .i64 m] w fun e w' => e = .returned (.tuple #[]) ∧ SL W (qdiskS x (dkChange s t' m) :: F) w' := by
  obtain ⟨A', c', rfl, _, _⟩ := trackQ_len S.s1
  obtain ⟨tb, old, a, n, vs, A0, c0, hv0, hva, hvz, hlc, hcm, S1⟩ := selQ_open h S
  have hhl := h.here_lt
  have HS := Lib.hid S1
  have HV := Lib.hid (And.intro hv0 (And.intro (show vs[s.here]? = some (.slice A0 s.recs.length c0) by simpa using hva) h.at_))
  have HVA := Lib.hid hva
  have HH := Lib.hid h
  have hhi : (s.here : Int) < (s.tracks.length : Int) := by omega
  obtain ⟨L, K, z⟩ := S1.look
  clear S S1 h hv0 hva hvz
  generalize s.last.isSome = ch at *
  go_enter Tryz.func41, Tryz.ntmps41
  go_wp2_with fail
  refine name_world (P := fun W => Calls _ _ _ W _) ?_; intro wd hwd
  have H1 := Lib.hid (SL.cast hwd (HS.out.set (off := 9) (v := .bool true) (cs' := qCells s tb true old a n) rfl))
  clear hwd HS L K z
  refine (qhere_b HH.out H1.out).mono ?_
  rintro e w2 ⟨rfl, b2⟩
  have H2 := Lib.hid (H1.out.grow b2)
  clear b2 H1
  obtain ⟨L, K, z⟩ := H2.out.look
  go_upto_region 2 with fail
  refine name_world (P := Code.wp _ _ _ _) ?_
  intro w3 hw3
  have H3 := Lib.hid (SL.cast hw3 (H2.out.set (off := 11) (v := .int .i64 (s.here : Int)) (cs' := qCells s tb true old s.here n) rfl))
  clear hw3 H2 L K z
  -- disk, slices, tracks, last, new
  obtain ⟨L, K, z⟩ := H3.out.look
  obtain ⟨L2, K2, z2⟩ := H3.out.s1.look
  have hq := (L2 s.here).trans HVA.out
  clear L2
  go_big_region
  go_upto_region 4 with fail
  refine name_world (P := Code.wp _ _ _ _) ?_
  intro w4 hw4
  have h4 := (H3.out.set (off := 10) (v := .slice A0 s.recs.length c0) (cs' := qCells s tb true (.slice A0 s.recs.length c0) s.here n) rfl).drew
  have H4 := Lib.hid (SL.cast hw4 (h4.set (off := 12) (v := .int .i64 m) (cs' := qCells s tb true (.slice A0 s.recs.length c0) s.here m) rfl))
  clear hw4 h4 H3 L K z K2 z2 hq
  obtain ⟨L, K, z⟩ := H4.out.look
  obtain ⟨L2, K2, z2⟩ := H4.out.s1.look
  have hq := (L2 s.here).trans HVA.out
  clear L2
  go_big_region
  go_wp2
  go_end0
  refine ⟨rfl, ?_⟩
  obtain ⟨hvs, hv1, hat⟩ := HV.out
  -- slices, tracks, new, disk, last
  have S5 := tracksQ_swap (v' := .slice A' t'.length c') (t' := t') hvs hat hv1 (H4.out.s4.s1.b3.b2)
  have S6 := (lastQ_some (t := s.here) (m := m) S5).s3.drop.b2.s1.drew
  have hd : qCells (dkChange s t' m) tb true (.slice A0 s.recs.length c0) s.here m = qCells s tb true (.slice A0 s.recs.length c0) s.here m := by simp [qCells, dkChange, List.length_set]
  exact qdisk_close (s := dkChange s t' m) (tb := tb) (ch := true) rfl (by rw [hd]; exact S6)
end
end Go.Proofs.YtmkndbledppniaaGreat
