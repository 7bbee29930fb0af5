/- QU, QUn. -/
import Derived.Test.YtmkndbledppniaaGreatQM2
namespace Go.Proofs.YtmkndbledppniaaGreat
open Go.RowKit
def markF (how n : Int) (x : Rec) : Rec := if how = 2 ∧ x.r = n then { x with bad := true } else x
theorem mark_id {how n : Int} (h : how ≠ 2) (rs : List Rec) : rs.map (markF how n) = rs := by
  rw [show markF how n = id from funext fun x => by unfold markF; rw [if_neg (fun e => h e.1)]; rfl]; simp
theorem mark_bad {n : Int} {rs : List Rec} (hv : validB rs = true) : rs.map (markF 2 n) = badAt rs n := by
  unfold badAt
  cases hf : findN rs n with
  | none =>
    dsimp only
    have e : rs.map (markF 2 n) = rs.map id := List.map_congr_left fun x hx => by
      unfold findN at hf
      have := List.findIdx?_eq_none_iff.1 hf x hx
      unfold markF
      rw [if_neg (fun e => by simp [e.2] at this)]; rfl
    rw [e, List.map_id]
  | some i =>
    dsimp only
    unfold findN at hf
    obtain ⟨hi, hp, _⟩ := List.findIdx?_eq_some_iff_getElem.1 hf
    have hpw := asc_pw (validB_iff.1 hv).1
    rw [List.pairwise_iff_getElem] at hpw
    simp only [decide_eq_true_eq] at hp
    apply List.ext_getElem?
    intro j
    rw [List.getElem?_map, List.getElem?_modify]
    by_cases hj : j < rs.length
    · rw [List.getElem?_eq_getElem hj]
      by_cases e : i = j
      · subst e
        simp only [Option.map_some, if_true]
        unfold markF
        rw [if_pos ⟨rfl, hp⟩]; rfl
      · simp only [Option.map_some, if_neg e]
        unfold markF
        rw [if_neg (fun h2 => by
          rcases Nat.lt_or_gt_of_ne e with h | h
          · have := hpw i j hi hj h; omega
          · have := hpw j i hj hi h; omega)]; rfl
    · rw [List.getElem?_eq_none (by omega)]; rfl
theorem mark_step {how n : Int} {rs : List Rec} {k : Nat} {x : Rec} (hx : rs[k]? = some x) : ((rs.take k).map (markF how n) ++ rs.drop k)[k]? = some x ∧ ((rs.take k).map (markF how n) ++ rs.drop k).set k (markF how n x) = (rs.take (k + 1)).map (markF how n) ++ rs.drop (k + 1) := by
  have hk := (List.getElem?_eq_some_iff.1 hx).1
  have hl : ((rs.take k).map (markF how n)).length = k := by rw [List.length_map, List.length_take]; omega
  have e : rs.drop k = x :: rs.drop (k + 1) := by
    rw [List.drop_eq_getElem_cons hk, (List.getElem?_eq_some_iff.1 hx).2]
  constructor
  · rw [List.getElem?_append_right (by omega), hl, Nat.sub_self, List.getElem?_drop, Nat.add_zero]; exact hx
  · rw [List.set_append_right _ _ (by omega), hl, Nat.sub_self, List.take_add_one, hx, e]
    simp
section
variable {W w : World} {F : List SA} {x : Nat} {s : DK}
set_option maxRecDepth 100000 in
set_option maxHeartbeats 8000000 in
theorem qset_any (n : Int) (A : Option Addr) (t : List Rec) (c : Nat) (hr : RecsRd W F A t) (hf : FitV t) (h : s.ok) (S : SL W (qdiskS x s :: F) w) : Calls Tryz.prog 20 #[.pointer (some ⟨x, 0, none⟩), .int .i64 n, .slice A t.length c] w fun e w' => e = .returned (.int .i64 ((dkSet s n t).2 : Int)) ∧ SL W (qdiskS x (dkSet s n t).1 :: F) w' := by
  obtain ⟨tb, old, a, m, S1⟩ := qdisk_open S
  have hnt := h.nt
  clear S
  have HDS := Lib.hid (show dkSet s n t = if n < 0 ∨ (s.tracks.length : Int) ≤ n then (s, 6) else
    if validB t = false then (s, 1) else (if n = (s.here : Int) then { s with tracks := s.tracks.set n.toNat t, last := none, next := 0, found := false } else { s with tracks := s.tracks.set n.toNat t, last := none }, 0) from rfl)
  by_cases hr0 : n < 0 ∨ (s.tracks.length : Int) ≤ n
  · have HE := Lib.hid (show dkSet s n t = (s, 6) by rw [HDS.out, if_pos hr0])
    have HS := Lib.hid S1
    obtain ⟨L, K, z⟩ := S1.look
    clear S1 h hr
    go_enter Tryz.func20, Tryz.ntmps20
    by_cases h0 : n < 0
    · have t1 : (n < 0) = True := eq_true h0
      clear h0 hr0
      go_wp2
      go_ret
      rw [HE.out]
      exact ⟨rfl, qdisk_close rfl HS.out⟩
    · have t1 : (n < 0) = False := eq_false h0
      have t2 : ((s.tracks.length : Int) ≤ n) = True := eq_true (by omega)
      clear h0 hr0
      go_wp2
      go_ret
      rw [HE.out]
      exact ⟨rfl, qdisk_close rfl HS.out⟩
  · obtain ⟨k, rfl⟩ : ∃ k : Nat, n = (k : Int) := ⟨n.toNat, by omega⟩
    have hk : k < s.tracks.length := by omega
    have t1 : ((k : Int) < 0) = False := eq_false (by omega)
    have t2 : ((s.tracks.length : Int) ≤ (k : Int)) = False := eq_false (by omega)
    have t3 : (s.tracks.length ≤ k) = False := eq_false (by omega)
    have HR := Lib.hid (fun (wx : World) (Sx : SL W (cel x (qCells s tb s.last.isSome old a m) 40 :: tracksQ tb s.tracks :: lastQ old a m s.last :: F) wx) => hr wx Sx.drop.drop.drop)
    have HS := Lib.hid S1
    generalize hch : s.last.isSome = ch at *
    have HCH := Lib.hid hch
    have HFV := Lib.hid hf
    have HH := Lib.hid h
    obtain ⟨L, K, z⟩ := HS.out.look
    clear S1 h hr hf hch
    go_enter Tryz.func20, Tryz.ntmps20
    go_wp2_with fail
    refine (rvalid_wide A t c _ (HR.out _ HS.out) HFV.out).mono ?_
    rintro e w3 ⟨rfl, b3⟩
    have H3 := Lib.hid (HS.out.grow b3)
    clear b3 HS L K z
    cases hv : validB t with
    | false =>
      have HE := Lib.hid (show dkSet s (k : Int) t = (s, 1) by rw [HDS.out, if_neg hr0, if_pos hv])
      clear hr0
      go_wp2
      go_ret
      rw [HE.out]
      exact ⟨rfl, qdisk_close HCH.out.symm H3.out⟩
    | true =>
      have HE := Lib.hid (show dkSet s (k : Int) t = (if (k : Int) = (s.here : Int) then { s with tracks := s.tracks.set k t, last := none, next := 0, found := false } else { s with tracks := s.tracks.set k t, last := none }, 0) by
        rw [HDS.out, if_neg hr0, hv, if_neg (by simp), Int.toNat_natCast])
      have HVT := Lib.hid hv
      clear hr0 HDS hv
      have hts : s.tracks[k]? = some s.tracks[k] := List.getElem?_eq_getElem hk
      generalize s.tracks[k] = rs at hts
      obtain ⟨vs, hvs, h4⟩ := tracksQ_open H3.out.s1
      obtain ⟨vt, hv1, hv2⟩ := zipQ_get hvs hts
      have H4 := Lib.hid h4
      have HVS := Lib.hid (And.intro hvs (And.intro hv1 hts))
      clear h4 hvs hv1 hv2 hts
      -- slices, tracks, disk, last
      go_upto_region 5 with fail
      obtain ⟨L, K, z⟩ := H4.out.s2.look
      have HX := Lib.hid (fun (wx : World) (hx : Below w3.heap.size w3 wx) => (hx.cell (p := ⟨x, 3, none⟩) z).trans (L 3))
      clear L K z
      refine wp_region_order (fun wx => Below w3.heap.size w3 wx) [0, 1, 2, 4, 5] [3] [] [6] [7, 8] (by kernel_rfl) (by kernel_rfl) (Below.refl _ _).drew (by intro c a d v w h; cases d <;> exact h) ?_
      simp only [pick, List.filterMap_cons, List.filterMap_nil, List.getElem?_cons_zero, List.getElem?_cons_succ]
      (repeat (with_reducible refine wpPure_step ?_; intro K hK; go_simp; with_reducible refine hK _ ?_; clear hK K))
      refine wpPure_nil ?_
      (repeat (with_reducible refine wpLoads_step ?_; intro K hK; go_simp; first | (with_reducible refine hK _ ?_; clear hK K) | (rw [if_neg (by decide)]; with_reducible refine hK _ ?_; clear hK K) | (refine ⟨_, fun wx hx => (by have f0 := HX.out wx hx; go_simp; with_reducible rfl), hK _ ?_⟩; clear hK K) | (refine ⟨_, fun _ _ => rfl, hK _ ?_⟩; clear hK K))); with_reducible refine wpLoads_nil ?_
      refine wpQuiet_nil ?_
      intro wq hwq
      have BQ := Lib.hid hwq
      clear hwq HX
      have H5 := Lib.hid (H4.out.grow BQ.out)
      have hat := (HR.out w3 H3.out).grow BQ.out
      have hdc := rcopy_any A t c (SL.start wq) (fun wx Sx => hat.grow Sx.below) (valid_fit2 HVT.out)
      have HDC := Lib.hid hdc
      clear hat hdc H3
      (with_reducible refine wpKeep_step ?_; intro K hK; go_simp)
      refine HDC.out.mono ?_
      rintro e wk ⟨A3, c3, rfl, S3⟩
      have B6 := Lib.hid (BQ.out.trans (S3.below.mono BQ.out.size))
      have H6 := Lib.hid (trackQ_recs (H5.out.join S3))
      refine hK _ _ B6.out ?_
      clear hK K S3 HDC H5 H4 B6 BQ
      refine wpKeep_nil ?_
      -- new, slices, tracks, disk, last
      obtain ⟨L, K, z⟩ := H6.out.s1.look
      obtain ⟨L1, K1, z1⟩ := H6.out.s3.look
      have hkn : (k : Int) < (s.tracks.length : Int) := by omega
      have hne := H6.out.s3.s2.cne
      have hne2 := Ne.symm hne
      have hq := (L k).trans (show vs.toArray[k]? = some vt by simpa using HVS.out.2.1)
      clear L
      go_wp2_with fail
      refine name_world (P := fun W => Calls _ _ _ W _) ?_; intro wd hwd
      have S5 := tracksQ_swap (v' := .slice A3 t.length c3) (t' := t) HVS.out.1 HVS.out.2.2 HVS.out.2.1 H6.out.b2
      have h7 := SL.cast hwd ((S5.drop.s1).set (off := 9) (v := .bool false) (cs' := qCells s tb false old a m) rfl)
      have H7 := Lib.hid h7
      clear hwd S5 h7 H6 K z L1 K1 z1 hq
      -- disk, tracks, last
      refine (qhere_b HH.out H7.out).mono ?_
      rintro e w8 ⟨rfl, b8⟩
      have H8 := Lib.hid (H7.out.grow b8)
      clear b8 H7
      obtain ⟨L, K, z⟩ := H8.out.look
      by_cases hkh : k = s.here
      · have HE2 := Lib.hid (show dkSet s (k : Int) t = ({ s with tracks := s.tracks.set k t, last := none, next := 0, found := false }, 0) by rw [HE.out, if_pos (by omega)])
        have t5 : ((k : Int) == (s.here : Int)) = true := by simp; omega
        clear hkh HE
        go_wp2
        go_ret
        rw [HE2.out]
        refine ⟨rfl, qdisk_close (s := { s with tracks := s.tracks.set k t, last := none, next := 0, found := false }) (tb := tb) (ch := false) (old := old) (a := a) (n := m) rfl ?_⟩
        have ed : qCells { s with tracks := s.tracks.set k t, last := none, next := 0, found := false } tb false old a m = qCells { s with next := 0, found := false } tb false old a m := by simp [qCells]
        rw [ed]
        exact (lastQ_none _ _ _ ((H8.out.set (off := 6) (v := .int .i64 0) (cs' := qCells { s with next := 0 } tb false old a m) rfl).set (off := 7) (v := .bool false) (cs' := qCells { s with next := 0, found := false } tb false old a m) rfl).s2.drop).b2
      · have HE2 := Lib.hid (show dkSet s (k : Int) t = ({ s with tracks := s.tracks.set k t, last := none }, 0) by rw [HE.out, if_neg (by omega)])
        have t5 : ((k : Int) == (s.here : Int)) = false := by simp; omega
        clear hkh HE
        go_wp2
        go_ret
        rw [HE2.out]
        refine ⟨rfl, qdisk_close (s := { s with tracks := s.tracks.set k t, last := none }) (tb := tb) (ch := false) (old := old) (a := a) (n := m) rfl ?_⟩
        have ed : qCells { s with tracks := s.tracks.set k t, last := none } tb false old a m = qCells s tb false old a m := by simp [qCells]
        rw [ed]
        exact (lastQ_none _ _ _ H8.out.s2.drop).b2
end
end Go.Proofs.YtmkndbledppniaaGreat
namespace Go.Proofs.YtmkndbledppniaaGreat
open Go.RowKit
theorem set_self {α : Type} {l : List α} {k : Nat} {x : α} (h : l[k]? = some x) : l.set k x = l := by
  apply List.ext_getElem?
  intro j
  rw [List.getElem?_set]
  split
  · rename_i e; subst e; rw [if_pos (List.getElem?_eq_some_iff.1 h).1, h]
  · rfl
section
variable {W w : World} {F : List SA} {x : Nat} {s : DK}
set_option maxRecDepth 100000 in
set_option maxHeartbeats 16000000 in
theorem qundo_any (how : Int) (h : s.ok) (S : SL W (qdiskS x s :: F) w) : Calls Tryz.prog 18 #[.pointer (some ⟨x, 0, none⟩), .int .i64 how] w fun e w' => e = .returned (.bool (dkUndo s how).2) ∧ SL W (qdiskS x (dkUndo s how).1 :: F) w' := by
  obtain ⟨tb, old, a, m, S1⟩ := qdisk_open S
  have hnt := h.nt
  clear S
  by_cases hr : how < 0 ∨ 2 < how
  · have HE := Lib.hid (show dkUndo s how = (s, false) by unfold dkUndo; rw [if_pos hr])
    have HS := Lib.hid S1
    obtain ⟨L, K, z⟩ := S1.look
    clear S1 h
    generalize hch : s.last.isSome = ch at *
    have HCH := Lib.hid hch
    clear hch
    go_enter Tryz.func18, Tryz.ntmps18
    by_cases h0 : how < 0
    · have t1 : (how < 0) = True := eq_true h0
      clear h0 hr
      go_wp2
      go_ret
      rw [HE.out]
      exact ⟨rfl, qdisk_close HCH.out.symm HS.out⟩
    · have t1 : (how < 0) = False := eq_false h0
      have t2 : (2 < how) = True := eq_true (by omega)
      clear h0 hr
      go_wp2
      go_ret
      rw [HE.out]
      exact ⟨rfl, qdisk_close HCH.out.symm HS.out⟩
  · have t1 : (how < 0) = False := eq_false (by omega)
    have t2 : (2 < how) = False := eq_false (by omega)
    have h3 : how = 0 ∨ how = 1 ∨ how = 2 := by omega
    cases hl : s.last with
    | none =>
      have HE := Lib.hid (show dkUndo s how = (s, false) by unfold dkUndo; rw [if_neg hr, hl])
      rw [hl] at S1
      have HS := Lib.hid (show SL W (cel x (qCells s tb false old a m) 40 :: tracksQ tb s.tracks :: lastQ old a m none :: F) w from S1)
      have HL := Lib.hid hl
      obtain ⟨L, K, z⟩ := HS.out.look
      clear S1 h hr h3 hl
      go_enter Tryz.func18, Tryz.ntmps18
      go_wp2
      go_ret
      rw [HE.out]
      exact ⟨rfl, qdisk_close (s := s) (tb := tb) (ch := false) (old := old) (a := a) (n := m) (by rw [HL.out]; rfl) (by rw [HL.out]; exact HS.out)⟩
    | some q =>
      obtain ⟨t, b, n⟩ := q
      obtain ⟨ht, hbv⟩ := h.la t b n hl
      rw [hl] at S1
      obtain ⟨⟨ea, em⟩, S2⟩ := lastQ_open S1.s2
      subst ea; subst em
      obtain ⟨A', c', rfl, _, _⟩ := trackQ_len S2
      have hts : s.tracks[t]? = some s.tracks[t] := List.getElem?_eq_getElem ht
      have htv := h.val _ (List.mem_of_getElem? hts)
      generalize s.tracks[t] = rs at hts htv
      have HE := Lib.hid (show dkUndo s how = ({ s with last := none, found := false, tracks := if how = 1 then s.tracks.set t b else if how = 2 then s.tracks.set t (badAt rs m) else s.tracks }, true) by
        unfold dkUndo; rw [if_neg hr, hl]; dsimp only; rw [hts]; rfl)
      -- old, disk, tracks
      have HS := Lib.hid (show SL W (trackQ (.slice A' b.length c') b :: cel x (qCells s tb true (.slice A' b.length c') (t : Int) m) 40 :: tracksQ tb s.tracks :: F) w from S2)
      obtain ⟨L, K, z⟩ := HS.out.s1.look
      have HV := Lib.hid (And.intro hts (And.intro htv hbv))
      have htl : (t : Int) < (s.tracks.length : Int) := by omega
      have htl2 : t < s.tracks.length := ht
      have hfin : ∀ (ts : List (List Rec)) (w' : World), ts.length = s.tracks.length → SL W (cel x (qCells { s with found := false } tb false (.slice A' b.length c') (t : Int) m) 40 :: tracksQ tb ts :: F) w' → SL W (qdiskS x { s with last := none, found := false, tracks := ts } :: F) w' := fun ts w' hts S' =>
        qdisk_close (s := { s with last := none, found := false, tracks := ts }) (tb := tb) (ch := false) (old := .slice A' b.length c') (a := t) (n := m) rfl (by
          have e : qCells { s with last := none, found := false, tracks := ts } tb false (.slice A' b.length c') (t : Int) m = qCells { s with found := false } tb false (.slice A' b.length c') (t : Int) m := by simp [qCells, hts]
          rw [e]
          exact (lastQ_none _ _ _ S').b2)
      have HF := Lib.hid hfin
      clear S1 S2 h hr hl hbv hts htv hfin
      go_enter Tryz.func18, Tryz.ntmps18
      go_upto_region 4 with fail
      refine name_world (P := Code.wp _ _ _ _) ?_
      intro wd hwd
      -- disk, old, tracks
      have H3 := Lib.hid (SL.cast hwd ((HS.out.s1.set (off := 9) (v := .bool false) (cs' := qCells s tb false (.slice A' b.length c') (t : Int) m) rfl).set (off := 7) (v := .bool false) (cs' := qCells { s with found := false } tb false (.slice A' b.length c') (t : Int) m) rfl))
      clear hwd L K z HS
      rcases h3 with rfl | rfl | rfl
      · go_upto_region 6 with fail
        refine name_world (P := Code.wp _ _ _ _) ?_
        intro w5 hw5
        have H5 := Lib.hid (SL.cast hw5 H3.out.s1.drop)
        clear hw5 H3
        obtain ⟨vs, hvs, h4⟩ := tracksQ_open H5.out.s1
        obtain ⟨vt, hv1, hv2⟩ := zipQ_get hvs HV.out.1
        obtain ⟨A1, c1, rfl, hc1, hcm1⟩ := trackQ_len (h4.s1.take hv2)
        -- slices, tracks, disk
        have H6 := Lib.hid h4
        have HVS := Lib.hid (And.intro hvs (And.intro hv1 HV.out.1))
        obtain ⟨L, K, z⟩ := H6.out.s2.look
        obtain ⟨L2, K2, z2⟩ := H6.out.look
        have hq := (L2 t).trans (show vs.toArray[t]? = some (.slice A1 (rs).length c1) by simpa using hv1)
        have HX := Lib.hid (fun (wx : World) (hx : Below w5.heap.size w5 wx) => (⟨(hx.cell (p := ⟨x, 3, none⟩) z).trans (L 3), (hx.cell (p := ⟨x, 11, none⟩) z).trans (L 11), (hx.cell (p := ⟨tb, t, none⟩) z2).trans hq⟩ :
          wx.cell? ⟨x, 3, none⟩ = some (.slice (some ⟨tb, 0, none⟩) s.tracks.length s.tracks.length) ∧ wx.cell? ⟨x, 11, none⟩ = some (.int .i64 (t : Int)) ∧ wx.cell? ⟨tb, t, none⟩ = some (.slice A1 (rs).length c1)))
        have hat := trackQ_at (H6.out.s1.take hv2)
        have hrl := valid_len HV.out.2.1
        clear h4 hvs hv1 hv2 L K z L2 K2 z2 hq H5
        refine wp_region_order (fun wx => Below w5.heap.size w5 wx) [0, 1, 2, 4, 5, 6] [3, 7, 8, 9] [] [10, 11] [] (by kernel_rfl) (by kernel_rfl) (Below.refl _ _).drew (by intro c a d v w h; cases d <;> exact h) ?_
        simp only [pick, List.filterMap_cons, List.filterMap_nil, List.getElem?_cons_zero, List.getElem?_cons_succ]
        (repeat (with_reducible refine wpPure_step ?_; intro K hK; go_simp; with_reducible refine hK _ ?_; clear hK K))
        refine wpPure_nil ?_
        (repeat (with_reducible refine wpLoads_step ?_; intro K hK; go_simp; first | (with_reducible refine hK _ ?_; clear hK K) | (rw [if_neg (by decide)]; with_reducible refine hK _ ?_; clear hK K) | (refine ⟨_, fun wx hx => (by obtain ⟨f0, f1, f2⟩ := HX.out wx hx; go_simp; with_reducible rfl), hK _ ?_⟩; clear hK K) | (refine ⟨_, fun _ _ => rfl, hK _ ?_⟩; clear hK K))); with_reducible refine wpLoads_nil ?_
        refine wpQuiet_nil ?_
        intro wq hwq
        have BQ := Lib.hid hwq
        clear hwq HX
        have HDC := Lib.hid (rcopy_any A1 (rs) c1 (SL.start wq) (fun wx Sx => (hat.grow BQ.out).grow Sx.below) (valid_fit2 HV.out.2.1))
        clear hat
        (with_reducible refine wpKeep_step ?_; intro K hK; go_simp)
        refine HDC.out.mono ?_
        rintro e wk ⟨A3, c3, rfl, S3⟩
        have B6 := Lib.hid (BQ.out.trans (S3.below.mono BQ.out.size))
        have H7 := Lib.hid ((H6.out.grow BQ.out).join S3)
        refine hK _ _ B6.out ?_
        clear hK K S3 HDC H6
        (with_reducible refine wpKeep_step ?_; intro K hK; go_simp; first | (with_reducible refine hK _ _ (B6.out) ?_; clear hK K) | (rw [if_neg (by decide)]; with_reducible refine hK _ _ (B6.out) ?_; clear hK K))
        refine wpKeep_nil ?_
        clear B6 BQ
        -- new, slices, tracks, disk
        go_upto_region 8 with fail
        go_loopw [6] (fun i wr => ∃ k : Nat, k ≤ (rs).length ∧ i = .int .i64 k ∧ SL W (recsS (.slice A3 (rs).length c3) (((rs).take k).map (markF 0 m) ++ (rs).drop k) :: cel tb vs.toArray 35 :: star (List.zipWith trackQ vs (s.tracks)) :: cel x (qCells { s with found := false } tb false (.slice A' b.length c') (t : Int) m) 40 :: F) wr) (fun i _ => (rs).length - (intOf i).toNat)
        case atStart => exact ⟨0, Nat.zero_le _, rfl, by simpa using H7.out⟩
        case round =>
          obtain ⟨k, hk, rfl, S8⟩ := hrel
          have H8 := Lib.hid S8
          clear S8 H7
          by_cases hlt : k < (rs).length
          · have hx : (rs)[k]? = some (rs)[k] := by simp [hlt]
            have HLT := Lib.hid hlt
            generalize (rs)[k] = y at hx
            obtain ⟨m1, m2⟩ := mark_step (how := 0) (n := m) hx
            have HM := Lib.hid (And.intro m1 m2)
            have hmk : markF 0 m y = y := by unfold markF; rw [if_neg (fun e => absurd e.1 (by omega))]
            have HSET := Lib.hid (show SL W (recsS (.slice A3 (rs).length c3) (((rs).take (k + 1)).map (markF 0 m) ++ (rs).drop (k + 1)) :: _) wr by
              rw [← HM.out.2, hmk, set_self HM.out.1]; exact H8.out)
            clear hx m1 m2 hmk hlt
            go_upto_region 10 with fail
            refine wp_region_quiet (C := Below wr.heap.size wr) (by kernel_rfl) (by kernel_rfl) (Below.refl _ _).drew ?_
            (repeat (with_reducible refine wpQuiet_step ?_; intro K hK; go_simp; first | (with_reducible refine hK _ ?_; clear hK K) | (rw [if_neg (by decide)]; with_reducible refine hK _ ?_; clear hK K) | (refine ⟨_, fun wx hx => (by skip; go_simp; with_reducible rfl), hK _ ?_⟩; clear hK K) | fail | (refine ⟨_, fun _ _ => rfl, hK _ ?_⟩; clear hK K))); with_reducible refine wpQuiet_nil ?_
            intro w9 b9
            have H9 := Lib.hid (HSET.out.grow b9)
            clear b9 HSET H8
            go_wp2
            go_roundw
            case rel => exact ⟨k + 1, HLT.out, by go_num, H9.out⟩
            case measure => have := HLT.out; simp [intOf]; omega
          · obtain rfl : k = (rs).length := by omega
            rw [List.take_of_length_le (Nat.le_refl _), List.drop_length, List.append_nil] at H8
            -- new, slices, tracks, disk
            have H9 := Lib.hid (trackQ_recs H8.out)
            clear H8
            obtain ⟨L, K, z⟩ := H9.out.s1.look
            obtain ⟨L1, K1, z1⟩ := H9.out.s3.look
            have hq := (L t).trans (show vs.toArray[t]? = some (.slice A1 (rs).length c1) by simpa using HVS.out.2.1)
            clear L
            go_upto_region 12 with fail
            go_big_region
            go_wp2
            go_ret
            rw [HE.out]
            have S10 := tracksQ_swap (v' := .slice A3 (rs).length c3) (t' := (rs).map (markF 0 m)) HVS.out.1 HVS.out.2.2 HVS.out.2.1 H9.out.b2
            -- old, tracks, disk
            have S11 := HF.out _ _ (by simp) S10.drop.s1.drew
            have e : s.tracks.set t (rs.map (markF 0 m)) = s.tracks := by rw [mark_id (by omega), set_self HV.out.1]
            rw [e] at S11
            exact ⟨rfl, S11⟩
      · obtain ⟨vs0, hvs0, h40⟩ := tracksQ_open H3.out.s2
        obtain ⟨vt0, hv10, _⟩ := zipQ_get hvs0 HV.out.1
        -- slices, tracks, disk, old
        have H40 := Lib.hid h40
        have HVS0 := Lib.hid (And.intro hvs0 hv10)
        obtain ⟨L, K, z⟩ := H40.out.s2.look
        obtain ⟨L2, K2, z2⟩ := H40.out.look
        have hq := (L2 t).trans (show vs0.toArray[t]? = some vt0 by simpa using hv10)
        clear h40 hvs0 hv10 H3 L2
        go_upto_region 5 with fail
        go_big_region
        go_upto_region 6 with fail
        refine name_world (P := Code.wp _ _ _ _) ?_
        intro w5 hw5
        have S5 := tracksQ_swap (v' := .slice A' b.length c') (t' := b) HVS0.out.1 HV.out.1 HVS0.out.2 (H40.out.s3.b2)
        have H5 := Lib.hid (SL.cast hw5 S5.drop.s1.drew)
        clear hw5 S5 H40 L K z K2 z2 hq HVS0
        have HTB := Lib.hid (show (s.tracks.set t b)[t]? = some b by rw [List.getElem?_set, if_pos rfl, if_pos htl2])
        obtain ⟨vs, hvs, h4⟩ := tracksQ_open H5.out.s1
        obtain ⟨vt, hv1, hv2⟩ := zipQ_get hvs HTB.out
        obtain ⟨A1, c1, rfl, hc1, hcm1⟩ := trackQ_len (h4.s1.take hv2)
        -- slices, tracks, disk
        have H6 := Lib.hid h4
        have HVS := Lib.hid (And.intro hvs (And.intro hv1 HTB.out))
        obtain ⟨L, K, z⟩ := H6.out.s2.look
        obtain ⟨L2, K2, z2⟩ := H6.out.look
        have hq := (L2 t).trans (show vs.toArray[t]? = some (.slice A1 (b).length c1) by simpa using hv1)
        have HX := Lib.hid (fun (wx : World) (hx : Below w5.heap.size w5 wx) => (⟨(hx.cell (p := ⟨x, 3, none⟩) z).trans (L 3), (hx.cell (p := ⟨x, 11, none⟩) z).trans (L 11), (hx.cell (p := ⟨tb, t, none⟩) z2).trans hq⟩ :
          wx.cell? ⟨x, 3, none⟩ = some (.slice (some ⟨tb, 0, none⟩) s.tracks.length s.tracks.length) ∧ wx.cell? ⟨x, 11, none⟩ = some (.int .i64 (t : Int)) ∧ wx.cell? ⟨tb, t, none⟩ = some (.slice A1 (b).length c1)))
        have hat := trackQ_at (H6.out.s1.take hv2)
        have hrl := valid_len HV.out.2.2
        clear h4 hvs hv1 hv2 L K z L2 K2 z2 hq H5
        refine wp_region_order (fun wx => Below w5.heap.size w5 wx) [0, 1, 2, 4, 5, 6] [3, 7, 8, 9] [] [10, 11] [] (by kernel_rfl) (by kernel_rfl) (Below.refl _ _).drew (by intro c a d v w h; cases d <;> exact h) ?_
        simp only [pick, List.filterMap_cons, List.filterMap_nil, List.getElem?_cons_zero, List.getElem?_cons_succ]
        (repeat (with_reducible refine wpPure_step ?_; intro K hK; go_simp; with_reducible refine hK _ ?_; clear hK K))
        refine wpPure_nil ?_
        (repeat (with_reducible refine wpLoads_step ?_; intro K hK; go_simp; first | (with_reducible refine hK _ ?_; clear hK K) | (rw [if_neg (by decide)]; with_reducible refine hK _ ?_; clear hK K) | (refine ⟨_, fun wx hx => (by obtain ⟨f0, f1, f2⟩ := HX.out wx hx; go_simp; with_reducible rfl), hK _ ?_⟩; clear hK K) | (refine ⟨_, fun _ _ => rfl, hK _ ?_⟩; clear hK K))); with_reducible refine wpLoads_nil ?_
        refine wpQuiet_nil ?_
        intro wq hwq
        have BQ := Lib.hid hwq
        clear hwq HX
        have HDC := Lib.hid (rcopy_any A1 (b) c1 (SL.start wq) (fun wx Sx => (hat.grow BQ.out).grow Sx.below) (valid_fit2 HV.out.2.2))
        clear hat
        (with_reducible refine wpKeep_step ?_; intro K hK; go_simp)
        refine HDC.out.mono ?_
        rintro e wk ⟨A3, c3, rfl, S3⟩
        have B6 := Lib.hid (BQ.out.trans (S3.below.mono BQ.out.size))
        have H7 := Lib.hid ((H6.out.grow BQ.out).join S3)
        refine hK _ _ B6.out ?_
        clear hK K S3 HDC H6
        (with_reducible refine wpKeep_step ?_; intro K hK; go_simp; first | (with_reducible refine hK _ _ (B6.out) ?_; clear hK K) | (rw [if_neg (by decide)]; with_reducible refine hK _ _ (B6.out) ?_; clear hK K))
        refine wpKeep_nil ?_
        clear B6 BQ
        -- new, slices, tracks, disk
        go_upto_region 8 with fail
        go_loopw [6] (fun i wr => ∃ k : Nat, k ≤ (b).length ∧ i = .int .i64 k ∧ SL W (recsS (.slice A3 (b).length c3) (((b).take k).map (markF 1 m) ++ (b).drop k) :: cel tb vs.toArray 35 :: star (List.zipWith trackQ vs (s.tracks.set t b)) :: cel x (qCells { s with found := false } tb false (.slice A' b.length c') (t : Int) m) 40 :: F) wr) (fun i _ => (b).length - (intOf i).toNat)
        case atStart => exact ⟨0, Nat.zero_le _, rfl, by simpa using H7.out⟩
        case round =>
          obtain ⟨k, hk, rfl, S8⟩ := hrel
          have H8 := Lib.hid S8
          clear S8 H7
          by_cases hlt : k < (b).length
          · have hx : (b)[k]? = some (b)[k] := by simp [hlt]
            have HLT := Lib.hid hlt
            generalize (b)[k] = y at hx
            obtain ⟨m1, m2⟩ := mark_step (how := 1) (n := m) hx
            have HM := Lib.hid (And.intro m1 m2)
            have hmk : markF 1 m y = y := by unfold markF; rw [if_neg (fun e => absurd e.1 (by omega))]
            have HSET := Lib.hid (show SL W (recsS (.slice A3 (b).length c3) (((b).take (k + 1)).map (markF 1 m) ++ (b).drop (k + 1)) :: _) wr by
              rw [← HM.out.2, hmk, set_self HM.out.1]; exact H8.out)
            clear hx m1 m2 hmk hlt
            go_upto_region 10 with fail
            refine wp_region_quiet (C := Below wr.heap.size wr) (by kernel_rfl) (by kernel_rfl) (Below.refl _ _).drew ?_
            (repeat (with_reducible refine wpQuiet_step ?_; intro K hK; go_simp; first | (with_reducible refine hK _ ?_; clear hK K) | (rw [if_neg (by decide)]; with_reducible refine hK _ ?_; clear hK K) | (refine ⟨_, fun wx hx => (by skip; go_simp; with_reducible rfl), hK _ ?_⟩; clear hK K) | fail | (refine ⟨_, fun _ _ => rfl, hK _ ?_⟩; clear hK K))); with_reducible refine wpQuiet_nil ?_
            intro w9 b9
            have H9 := Lib.hid (HSET.out.grow b9)
            clear b9 HSET H8
            go_wp2
            go_roundw
            case rel => exact ⟨k + 1, HLT.out, by go_num, H9.out⟩
            case measure => have := HLT.out; simp [intOf]; omega
          · obtain rfl : k = (b).length := by omega
            rw [List.take_of_length_le (Nat.le_refl _), List.drop_length, List.append_nil] at H8
            -- new, slices, tracks, disk
            have H9 := Lib.hid (trackQ_recs H8.out)
            clear H8
            obtain ⟨L, K, z⟩ := H9.out.s1.look
            obtain ⟨L1, K1, z1⟩ := H9.out.s3.look
            have hq := (L t).trans (show vs.toArray[t]? = some (.slice A1 (b).length c1) by simpa using HVS.out.2.1)
            clear L
            go_upto_region 12 with fail
            go_big_region
            go_wp2
            go_ret
            rw [HE.out]
            have S10 := tracksQ_swap (v' := .slice A3 (b).length c3) (t' := (b).map (markF 1 m)) HVS.out.1 HVS.out.2.2 HVS.out.2.1 H9.out.b2
            -- old, tracks, disk
            have S11 := HF.out _ _ (by simp) S10.drop.s1.drew
            have e : (s.tracks.set t b).set t (b.map (markF 1 m)) = s.tracks.set t b := by rw [mark_id (by omega), List.set_set]
            rw [e] at S11
            exact ⟨rfl, S11⟩
      · go_upto_region 6 with fail
        refine name_world (P := Code.wp _ _ _ _) ?_
        intro w5 hw5
        have H5 := Lib.hid (SL.cast hw5 H3.out.s1.drop)
        clear hw5 H3
        obtain ⟨vs, hvs, h4⟩ := tracksQ_open H5.out.s1
        obtain ⟨vt, hv1, hv2⟩ := zipQ_get hvs HV.out.1
        obtain ⟨A1, c1, rfl, hc1, hcm1⟩ := trackQ_len (h4.s1.take hv2)
        -- slices, tracks, disk
        have H6 := Lib.hid h4
        have HVS := Lib.hid (And.intro hvs (And.intro hv1 HV.out.1))
        obtain ⟨L, K, z⟩ := H6.out.s2.look
        obtain ⟨L2, K2, z2⟩ := H6.out.look
        have hq := (L2 t).trans (show vs.toArray[t]? = some (.slice A1 (rs).length c1) by simpa using hv1)
        have HX := Lib.hid (fun (wx : World) (hx : Below w5.heap.size w5 wx) => (⟨(hx.cell (p := ⟨x, 3, none⟩) z).trans (L 3), (hx.cell (p := ⟨x, 11, none⟩) z).trans (L 11), (hx.cell (p := ⟨tb, t, none⟩) z2).trans hq⟩ :
          wx.cell? ⟨x, 3, none⟩ = some (.slice (some ⟨tb, 0, none⟩) s.tracks.length s.tracks.length) ∧ wx.cell? ⟨x, 11, none⟩ = some (.int .i64 (t : Int)) ∧ wx.cell? ⟨tb, t, none⟩ = some (.slice A1 (rs).length c1)))
        have hat := trackQ_at (H6.out.s1.take hv2)
        have hrl := valid_len HV.out.2.1
        clear h4 hvs hv1 hv2 L K z L2 K2 z2 hq H5
        refine wp_region_order (fun wx => Below w5.heap.size w5 wx) [0, 1, 2, 4, 5, 6] [3, 7, 8, 9] [] [10, 11] [] (by kernel_rfl) (by kernel_rfl) (Below.refl _ _).drew (by intro c a d v w h; cases d <;> exact h) ?_
        simp only [pick, List.filterMap_cons, List.filterMap_nil, List.getElem?_cons_zero, List.getElem?_cons_succ]
        (repeat (with_reducible refine wpPure_step ?_; intro K hK; go_simp; with_reducible refine hK _ ?_; clear hK K))
        refine wpPure_nil ?_
        (repeat (with_reducible refine wpLoads_step ?_; intro K hK; go_simp; first | (with_reducible refine hK _ ?_; clear hK K) | (rw [if_neg (by decide)]; with_reducible refine hK _ ?_; clear hK K) | (refine ⟨_, fun wx hx => (by obtain ⟨f0, f1, f2⟩ := HX.out wx hx; go_simp; with_reducible rfl), hK _ ?_⟩; clear hK K) | (refine ⟨_, fun _ _ => rfl, hK _ ?_⟩; clear hK K))); with_reducible refine wpLoads_nil ?_
        refine wpQuiet_nil ?_
        intro wq hwq
        have BQ := Lib.hid hwq
        clear hwq HX
        have HDC := Lib.hid (rcopy_any A1 (rs) c1 (SL.start wq) (fun wx Sx => (hat.grow BQ.out).grow Sx.below) (valid_fit2 HV.out.2.1))
        clear hat
        (with_reducible refine wpKeep_step ?_; intro K hK; go_simp)
        refine HDC.out.mono ?_
        rintro e wk ⟨A3, c3, rfl, S3⟩
        have B6 := Lib.hid (BQ.out.trans (S3.below.mono BQ.out.size))
        have H7 := Lib.hid ((H6.out.grow BQ.out).join S3)
        refine hK _ _ B6.out ?_
        clear hK K S3 HDC H6
        (with_reducible refine wpKeep_step ?_; intro K hK; go_simp; first | (with_reducible refine hK _ _ (B6.out) ?_; clear hK K) | (rw [if_neg (by decide)]; with_reducible refine hK _ _ (B6.out) ?_; clear hK K))
        refine wpKeep_nil ?_
        clear B6 BQ
        -- new, slices, tracks, disk
        go_upto_region 8 with fail
        go_loopw [6] (fun i wr => ∃ k : Nat, k ≤ (rs).length ∧ i = .int .i64 k ∧ SL W (recsS (.slice A3 (rs).length c3) (((rs).take k).map (markF 2 m) ++ (rs).drop k) :: cel tb vs.toArray 35 :: star (List.zipWith trackQ vs (s.tracks)) :: cel x (qCells { s with found := false } tb false (.slice A' b.length c') (t : Int) m) 40 :: F) wr) (fun i _ => (rs).length - (intOf i).toNat)
        case atStart => exact ⟨0, Nat.zero_le _, rfl, by simpa using H7.out⟩
        case round =>
          obtain ⟨k, hk, rfl, S8⟩ := hrel
          have H8 := Lib.hid S8
          clear S8 H7
          by_cases hlt : k < (rs).length
          · have hx : (rs)[k]? = some (rs)[k] := by simp [hlt]
            have HLT := Lib.hid hlt
            generalize (rs)[k] = y at hx
            obtain ⟨m1, m2⟩ := mark_step (how := 2) (n := m) hx
            have HM := Lib.hid (And.intro m1 m2)
            obtain ⟨g, eg, k3, k4, hset⟩ := recs_bad m1 H8.out
            subst eg
            obtain ⟨g', off', _, _, _, _, hA, k0, _⟩ := recsS_at H8.out k y m1
            injection hA with hA; injection hA with q1 q2 _; subst q1; subst q2
            rw [Nat.zero_add] at k0
            have zg := World.block_lt_of_cell? wr _ k0
            obtain ⟨L, K, z⟩ := H8.out.s3.look
            have HL := Lib.hid (fun (wx : World) (hx : Below wr.heap.size wr wx) => (⟨(hx.cell (p := ⟨g, k * 4, none⟩) zg).trans k0, (hx.cell (p := ⟨x, 12, none⟩) z).trans (L 12)⟩ : wx.cell? ⟨g, k * 4, none⟩ = some (.int .i64 y.r) ∧ wx.cell? ⟨x, 12, none⟩ = some (.int .i64 m)))
            have hki : (k : Int) < ((rs).length : Int) := by omega
            clear hx m1 m2 hlt k3 k4 hset k0 zg L K z
            go_upto_region 10 with fail
            by_cases hym : y.r = m
            · have u1 : (y.r == m) = true := by rw [hym]; simp
              have hmk : markF 2 m y = ⟨y.r, y.key, y.data, true⟩ := by unfold markF; rw [if_pos ⟨rfl, hym⟩]
              have HMK := Lib.hid hmk
              clear hym hmk
              refine wp_region_quiet (C := Below wr.heap.size wr) (by kernel_rfl) (by kernel_rfl) (Below.refl _ _).drew ?_
              (repeat (with_reducible refine wpQuiet_step ?_; intro K hK; go_simp; first | (with_reducible refine hK _ ?_; clear hK K) | (rw [if_neg (by decide)]; with_reducible refine hK _ ?_; clear hK K) | (refine ⟨_, fun wx hx => (by obtain ⟨f0, f1⟩ := HL.out wx hx; go_simp; with_reducible rfl), hK _ ?_⟩; clear hK K) | fail | (refine ⟨_, fun _ _ => rfl, hK _ ?_⟩; clear hK K))); with_reducible refine wpQuiet_nil ?_
              intro w9 b9
              have H9 := Lib.hid (H8.out.grow b9)
              clear b9 H8 HL
              obtain ⟨g2, eg, k3, k4, hset⟩ := recs_bad HM.out.1 H9.out
              injection eg with eg; injection eg with eg _ _; subst eg
              have hs := hset true
              rw [← HMK.out, HM.out.2] at hs
              have HS := Lib.hid hs
              clear hset hs
              go_wp2
              go_roundw
              case rel => exact ⟨k + 1, HLT.out, by go_num, HS.out⟩
              case measure => have := HLT.out; simp [intOf]; omega
            · have u1 : (y.r == m) = false := by simp [hym]
              have hmk : markF 2 m y = y := by unfold markF; rw [if_neg (fun e => hym e.2)]
              have HSET := Lib.hid (show SL W (recsS (.slice (some ⟨g, 0, none⟩) (rs).length c3) (((rs).take (k + 1)).map (markF 2 m) ++ (rs).drop (k + 1)) :: _) wr by
                rw [← HM.out.2, hmk, set_self HM.out.1]; exact H8.out)
              clear hym hmk
              refine wp_region_quiet (C := Below wr.heap.size wr) (by kernel_rfl) (by kernel_rfl) (Below.refl _ _).drew ?_
              (repeat (with_reducible refine wpQuiet_step ?_; intro K hK; go_simp; first | (with_reducible refine hK _ ?_; clear hK K) | (rw [if_neg (by decide)]; with_reducible refine hK _ ?_; clear hK K) | (refine ⟨_, fun wx hx => (by obtain ⟨f0, f1⟩ := HL.out wx hx; go_simp; with_reducible rfl), hK _ ?_⟩; clear hK K) | fail | (refine ⟨_, fun _ _ => rfl, hK _ ?_⟩; clear hK K))); with_reducible refine wpQuiet_nil ?_
              intro w9 b9
              have H9 := Lib.hid (HSET.out.grow b9)
              clear b9 HSET H8 HL
              go_wp2
              go_roundw
              case rel => exact ⟨k + 1, HLT.out, by go_num, H9.out⟩
              case measure => have := HLT.out; simp [intOf]; omega
          · obtain rfl : k = (rs).length := by omega
            rw [List.take_of_length_le (Nat.le_refl _), List.drop_length, List.append_nil] at H8
            -- new, slices, tracks, disk
            have H9 := Lib.hid (trackQ_recs H8.out)
            clear H8
            obtain ⟨L, K, z⟩ := H9.out.s1.look
            obtain ⟨L1, K1, z1⟩ := H9.out.s3.look
            have hq := (L t).trans (show vs.toArray[t]? = some (.slice A1 (rs).length c1) by simpa using HVS.out.2.1)
            clear L
            go_upto_region 12 with fail
            go_big_region
            go_wp2
            go_ret
            rw [HE.out]
            have S10 := tracksQ_swap (v' := .slice A3 (rs).length c3) (t' := (rs).map (markF 2 m)) HVS.out.1 HVS.out.2.2 HVS.out.2.1 H9.out.b2
            -- old, tracks, disk
            have S11 := HF.out _ _ (by simp) S10.drop.s1.drew
            rw [mark_bad HV.out.2.1] at S11
            exact ⟨rfl, S11⟩
end
end Go.Proofs.YtmkndbledppniaaGreat
