/- Undo, SetTrack and PowerUp of a unit. -/
import Derived.Test.YtmkndbledppniaaGreatUndo
import Derived.Test.YtmkndbledppniaaGreatFind
namespace Go.Proofs.YtmkndbledppniaaGreat
open Go.RowKit
theorem modify_set {rs : List Rec} {i : Nat} {y : Rec} (h : rs[i]? = some y) : rs.modify i (fun x => { x with bad := true }) = rs.set i ⟨y.r, y.key, y.data, true⟩ := by
  apply List.ext_getElem?
  intro j
  rw [List.getElem?_modify, List.getElem?_set]
  by_cases e : i = j
  · subst e
    simp only [if_true, if_pos (List.getElem?_eq_some_iff.1 h).1, h]; rfl
  · simp only [if_neg e]; cases rs[j]? <;> rfl
section
variable {W w : World} {F : List SA} {x : Nat} {s : DK}
set_option maxRecDepth 100000 in
set_option maxHeartbeats 8000000 in
theorem power_any (h : s.ok) (S : SL W (diskS x s :: F) w) : Calls Tryz.prog 21 #[.pointer (some ⟨x, 0, none⟩)] w fun e w' => e = .returned (.tuple #[]) ∧ SL W (diskS x (dkPower s) :: F) w' := by
  obtain ⟨was, S0⟩ := disk_open S
  obtain ⟨tb, lp, S1⟩ := diskW_open S0
  have HS := Lib.hid S1
  have hn : 0 < s.tracks.length := by have := h.here_lt; omega
  obtain ⟨L, K, z⟩ := S1.look
  clear S S0 S1 h
  go_enter Tryz.func21, Tryz.ntmps21
  go_wp2_with fail
  refine (ready_any hn HS.out).mono ?_
  rintro e w2 ⟨rfl, rfl⟩
  go_wp2
  go_end0
  have S3 := (SL.set (off := 10) (v := .pointer none) (cs' := #[.string s.serial, .int .i64 (s.cyls : Int), .int .i64 (s.heads : Int), .slice (some ⟨tb, 0, none⟩) s.tracks.length s.tracks.length, .int .i64 0, .int .i64 0, .int .i64 0, .bool false, .bool false, .int .i64 0, .pointer none]) (SL.set (off := 9) (v := .int .i64 0) (cs' := #[.string s.serial, .int .i64 (s.cyls : Int), .int .i64 (s.heads : Int), .slice (some ⟨tb, 0, none⟩) s.tracks.length s.tracks.length, .int .i64 0, .int .i64 0, .int .i64 0, .bool false, .bool false, .int .i64 0, .pointer lp]) (SL.set (off := 8) (v := .bool false) (cs' := #[.string s.serial, .int .i64 (s.cyls : Int), .int .i64 (s.heads : Int), .slice (some ⟨tb, 0, none⟩) s.tracks.length s.tracks.length, .int .i64 0, .int .i64 0, .int .i64 0, .bool false, .bool false, .int .i64 (s.sense : Int), .pointer lp]) (SL.set (off := 7) (v := .bool false) (cs' := #[.string s.serial, .int .i64 (s.cyls : Int), .int .i64 (s.heads : Int), .slice (some ⟨tb, 0, none⟩) s.tracks.length s.tracks.length, .int .i64 0, .int .i64 0, .int .i64 0, .bool false, .bool was, .int .i64 (s.sense : Int), .pointer lp]) (SL.set (off := 6) (v := .int .i64 0) (cs' := #[.string s.serial, .int .i64 (s.cyls : Int), .int .i64 (s.heads : Int), .slice (some ⟨tb, 0, none⟩) s.tracks.length s.tracks.length, .int .i64 0, .int .i64 0, .int .i64 0, .bool s.found, .bool was, .int .i64 (s.sense : Int), .pointer lp]) (SL.set (off := 5) (v := .int .i64 0) (cs' := #[.string s.serial, .int .i64 (s.cyls : Int), .int .i64 (s.heads : Int), .slice (some ⟨tb, 0, none⟩) s.tracks.length s.tracks.length, .int .i64 0, .int .i64 0, .int .i64 (s.next : Int), .bool s.found, .bool was, .int .i64 (s.sense : Int), .pointer lp]) (SL.set (off := 4) (v := .int .i64 0) (cs' := #[.string s.serial, .int .i64 (s.cyls : Int), .int .i64 (s.heads : Int), .slice (some ⟨tb, 0, none⟩) s.tracks.length s.tracks.length, .int .i64 0, .int .i64 (s.head : Int), .int .i64 (s.next : Int), .bool s.found, .bool was, .int .i64 (s.sense : Int), .pointer lp]) (SL.set (off := 3) (v := .slice (some ⟨tb, 0, none⟩) s.tracks.length s.tracks.length) (cs' := #[.string s.serial, .int .i64 (s.cyls : Int), .int .i64 (s.heads : Int), .slice (some ⟨tb, 0, none⟩) s.tracks.length s.tracks.length, .int .i64 (s.cyl : Int), .int .i64 (s.head : Int), .int .i64 (s.next : Int), .bool s.found, .bool was, .int .i64 (s.sense : Int), .pointer lp]) (SL.set (off := 2) (v := .int .i64 (s.heads : Int)) (cs' := #[.string s.serial, .int .i64 (s.cyls : Int), .int .i64 (s.heads : Int), .slice (some ⟨tb, 0, none⟩) s.tracks.length s.tracks.length, .int .i64 (s.cyl : Int), .int .i64 (s.head : Int), .int .i64 (s.next : Int), .bool s.found, .bool was, .int .i64 (s.sense : Int), .pointer lp]) (SL.set (off := 1) (v := .int .i64 (s.cyls : Int)) (cs' := #[.string s.serial, .int .i64 (s.cyls : Int), .int .i64 (s.heads : Int), .slice (some ⟨tb, 0, none⟩) s.tracks.length s.tracks.length, .int .i64 (s.cyl : Int), .int .i64 (s.head : Int), .int .i64 (s.next : Int), .bool s.found, .bool was, .int .i64 (s.sense : Int), .pointer lp]) (SL.set (off := 0) (v := .string s.serial) (cs' := #[.string s.serial, .int .i64 (s.cyls : Int), .int .i64 (s.heads : Int), .slice (some ⟨tb, 0, none⟩) s.tracks.length s.tracks.length, .int .i64 (s.cyl : Int), .int .i64 (s.head : Int), .int .i64 (s.next : Int), .bool s.found, .bool was, .int .i64 (s.sense : Int), .pointer lp]) HS.out rfl) rfl) rfl) rfl) rfl) rfl) rfl) rfl) rfl) rfl) rfl)
  refine ⟨rfl, disk_close (was := false) (diskW_close (s := dkPower s) (tb := tb) (lp := none) ?_)⟩
  exact (last_null S3.s2.drop).b2
set_option maxRecDepth 100000 in
set_option maxHeartbeats 16000000 in
theorem undo_any (how : Int) (h : s.ok) (S : SL W (diskS x s :: F) w) : Calls Tryz.prog 17 #[.pointer (some ⟨x, 0, none⟩), .int .i64 how] w fun e w' => e = .returned (.bool (dkUndo s how).2) ∧ SL W (diskS x (dkUndo s how).1 :: F) w' := by
  obtain ⟨was, S0⟩ := disk_open S
  obtain ⟨tb, lp, S1⟩ := diskW_open S0
  have hn : 0 < s.tracks.length := by have := h.here_lt; omega
  have hnt := h.nt
  clear S S0
  by_cases hr : how < 0 ∨ 2 < how
  · have HE := Lib.hid (show dkUndo s how = (s, false) by unfold dkUndo; rw [if_pos hr])
    have HS := Lib.hid S1
    obtain ⟨L, K, z⟩ := S1.look
    clear S1 h
    go_enter Tryz.func17, Tryz.ntmps17
    by_cases h0 : how < 0
    · have t1 : (how < 0) = True := eq_true h0
      clear h0 hr
      go_wp2_with fail
      refine (ready_any hn HS.out).mono ?_
      rintro e w2 ⟨rfl, rfl⟩
      go_wp2
      go_ret
      rw [HE.out]
      exact ⟨rfl, disk_close (diskW_close HS.out)⟩
    · have t1 : (how < 0) = False := eq_false h0
      have t2 : (2 < how) = True := eq_true (by omega)
      clear h0 hr
      go_wp2_with fail
      refine (ready_any hn HS.out).mono ?_
      rintro e w2 ⟨rfl, rfl⟩
      go_wp2
      go_ret
      rw [HE.out]
      exact ⟨rfl, disk_close (diskW_close HS.out)⟩
  · have t1 : (how < 0) = False := eq_false (by omega)
    have t2 : (2 < how) = False := eq_false (by omega)
    have h3 : how = 0 ∨ how = 1 ∨ how = 2 := by omega
    cases hl : s.last with
    | none =>
      have HE := Lib.hid (show dkUndo s how = (s, false) by unfold dkUndo; rw [if_neg hr, hl])
      rw [hl] at S1
      obtain ⟨e, S2⟩ := last_none S1.s2
      subst e
      have HS := Lib.hid S2
      have HL := Lib.hid hl
      obtain ⟨L, K, z⟩ := S2.look
      clear S1 S2 h hr h3 hl
      go_enter Tryz.func17, Tryz.ntmps17
      go_wp2_with fail
      refine (ready_any hn HS.out).mono ?_
      rintro e w2 ⟨rfl, rfl⟩
      go_wp2
      go_ret
      rw [HE.out]
      refine ⟨rfl, disk_close (was := was) (diskW_close (s := s) (tb := tb) (lp := none) ?_)⟩
      rw [HL.out]
      exact (last_null HS.out).b2
    | some p =>
      obtain ⟨t, b, n⟩ := p
      obtain ⟨ht, hbv⟩ := h.la t b n hl
      rw [hl] at S1
      obtain ⟨lb, v, e, S2⟩ := last_open S1.s2
      subst e
      obtain ⟨A', c', rfl, _, _⟩ := recsS_len S2.s1
      have hts : s.tracks[t]? = some s.tracks[t] := List.getElem?_eq_getElem ht
      have htv := h.val _ (List.mem_of_getElem? hts)
      generalize s.tracks[t] = rs at hts htv
      have HE := Lib.hid (show dkUndo s how = ({ s with last := none, found := false, tracks := if how = 1 then s.tracks.set t b else if how = 2 then s.tracks.set t (badAt rs n) else s.tracks }, true) by
        unfold dkUndo; rw [if_neg hr, hl]; dsimp only; rw [hts]; rfl)
      have HS := Lib.hid S2
      obtain ⟨L0, K0, z0⟩ := S2.look
      obtain ⟨L, K, z⟩ := S2.s2.look
      have HV := Lib.hid (And.intro hts htv)
      have htl : (t : Int) < (s.tracks.length : Int) := by omega
      clear S1 S2 h hr hl hbv hts htv
      go_enter Tryz.func17, Tryz.ntmps17
      go_wp2_with fail
      refine (ready_any hn HS.out.s2).mono ?_
      rintro e w2 ⟨rfl, rfl⟩
      go_upto_region 5 with fail
      refine name_world (P := Code.wp _ _ _ _) ?_
      intro wd hwd
      have H3 := Lib.hid (SL.cast hwd (((HS.out.s2.set (off := 10) (v := .pointer none) (cs' := dkCells s tb none was) rfl).set (off := 7) (v := .bool false) (cs' := dkCells { s with found := false } tb none was) rfl).allocC #[.int .i64 (t : Int), .slice A' b.length c', .int .i64 n] 75))
      clear hwd L0 K0 z0 L K z HS
      simp only [World.size_setCell] at H3
      generalize w2.heap.size = xb at *
      -- box, disk, change, old, tracks
      obtain ⟨vs, hvs, h4⟩ := tracks_open H3.out.s4
      obtain ⟨vt, hv1, hv2⟩ := zip_get hvs HV.out.1
      -- slices, tracks, box, disk, change, old
      have H4 := Lib.hid h4
      have HVS := Lib.hid (And.intro hvs (And.intro hv1 hv2))
      have hsz : vs.toArray.size = s.tracks.length := by simpa using hvs
      obtain ⟨L, K, z⟩ := h4.look
      obtain ⟨L1, K1, z1⟩ := h4.s2.look
      obtain ⟨L2, K2, z2⟩ := h4.s3.look
      have hq := (L t).trans (show vs.toArray[t]? = some vt by simpa using hv1)
      have hfin : ∀ (ts : List (List Rec)) (w' : World), ts.length = s.tracks.length → SL W (cel x (dkCells { s with found := false } tb none was) 50 :: tracksS tb ts :: F) w' → SL W (diskS x { s with last := none, found := false, tracks := ts } :: F) w' := fun ts w' hts S' =>
        disk_close (was := was) (diskW_close (s := { s with last := none, found := false, tracks := ts }) (tb := tb) (lp := none) (by
          have e : dkCells { s with last := none, found := false, tracks := ts } tb none was = dkCells { s with found := false } tb none was := by simp [dkCells, hts]
          rw [e]
          exact (last_null S').b2))
      have HF := Lib.hid hfin
      obtain ⟨A0, c0, rfl, hlc0, hcm0⟩ := recsS_len (h4.s1.take hv2)
      have hrl := valid_len HV.out.2
      clear h4 hvs hv1 hv2 H3 hfin
      rcases h3 with rfl | rfl | rfl
      · go_wp2
        go_ret
        rw [HE.out]
        exact ⟨rfl, HF.out s.tracks _ rfl (tracks_close HVS.out.1 H4.out).s2.s2.drop.s2.drop.s2.drop⟩
      · go_upto_region 7 with fail
        go_big_region
        go_wp2
        go_ret
        rw [HE.out]
        refine ⟨rfl, HF.out (s.tracks.set t b) _ (by simp) ?_⟩
        have S5 := tracks_swap2 (v' := .slice A' b.length c') (t' := b) HVS.out.1 HV.out.1 HVS.out.2.1 H4.out.s5.b2
        exact S5.drop.s2.s2.drop.s2.drop.drew
      · go_upto_region 9 with fail
        have HX := Lib.hid (fun (wx : World) (hx : Below wd.heap.size wd wx) => (⟨(hx.cell (p := ⟨x, 3, none⟩) z2).trans (L2 3), (hx.cell (p := ⟨xb, 0, none⟩) z1).trans (L1 0), (hx.cell (p := ⟨tb, t, none⟩) z).trans hq⟩ :
          wx.cell? ⟨x, 3, none⟩ = some (.slice (some ⟨tb, 0, none⟩) s.tracks.length s.tracks.length) ∧ wx.cell? ⟨xb, 0, none⟩ = some (.int .i64 (t : Int)) ∧ wx.cell? ⟨tb, t, none⟩ = some (.slice A0 rs.length c0)))
        clear L K z L1 K1 z1 L2 K2 z2 hq
        refine wp_region_order (fun wx => Below wd.heap.size wd wx) [0, 1, 2, 3, 5] [4, 6, 7, 8] [] [9, 10] [] (by kernel_rfl) (by kernel_rfl) (Below.refl _ _).drew (by intro c a d v w h; cases d <;> exact h) ?_
        simp only [pick, List.filterMap_cons, List.filterMap_nil, List.getElem?_cons_zero, List.getElem?_cons_succ]
        (repeat (with_reducible refine wpPure_step ?_; intro K hK; go_simp; with_reducible refine hK _ ?_; clear hK K))
        refine wpPure_nil ?_
        (repeat (with_reducible refine wpLoads_step ?_; intro K hK; go_simp; first | (with_reducible refine hK _ ?_; clear hK K) | (rw [if_neg (by decide)]; with_reducible refine hK _ ?_; clear hK K) | (refine ⟨_, fun wx hx => (by obtain ⟨f0, f1, f2⟩ := HX.out wx hx; go_simp; with_reducible rfl), hK _ ?_⟩; clear hK K) | (refine ⟨_, fun _ _ => rfl, hK _ ?_⟩; clear hK K))); with_reducible refine wpLoads_nil ?_
        refine wpQuiet_nil ?_
        intro wq hwq
        have BQ := Lib.hid hwq
        clear hwq HX
        have H5 := Lib.hid (H4.out.grow BQ.out)
        have hat := recsS_at (H5.out.s1.take HVS.out.2.2)
        have hfit := HV.out.2
        have hdc := dclone_any A0 rs c0 (SL.start wq) (fun wx Sx => hat.grow Sx.below) (valid_fit2 hfit) (by omega) (fun y hy => by obtain ⟨j, hj⟩ := List.mem_iff_getElem?.1 hy; have := valid_rec hfit hj; omega)
        have HDC := Lib.hid hdc
        clear hat hfit hdc
        (with_reducible refine wpKeep_step ?_; intro K hK; go_simp)
        refine HDC.out.mono ?_
        rintro e wk ⟨A3, c3, rfl, S3⟩
        have B6 := Lib.hid (BQ.out.trans (S3.below.mono BQ.out.size))
        have H6 := Lib.hid (H5.out.join S3)
        refine hK _ _ B6.out ?_
        clear hK K S3 HDC H5 H4
        (with_reducible refine wpKeep_step ?_; intro K hK; go_simp; first | (with_reducible refine hK _ _ (B6.out) ?_; clear hK K) | (rw [if_neg (by decide)]; with_reducible refine hK _ _ (B6.out) ?_; clear hK K))
        refine wpKeep_nil ?_
        -- new, slices, tracks, box, disk, change, old
        clear B6 BQ
        obtain ⟨L1, K1, z1⟩ := H6.out.s3.look
        go_wp2_with fail
        refine (find_any A3 rs c3 n _ (recsS_at H6.out) (by unfold maxLen; omega)).mono ?_
        rintro e w7 ⟨rfl, b7⟩
        have H7 := Lib.hid (H6.out.grow b7)
        clear b7 H6 L1 K1 z1
        have HBD := Lib.hid (show badAt rs n = match findN rs n with
          | none => rs
          | some i => rs.modify i fun x => { x with bad := true } from rfl)
        cases hf : findN rs n with
        | none =>
          rw [hf] at HBD
          have HB2 := Lib.hid (show badAt rs n = rs from HBD.out)
          clear HBD hf
          obtain ⟨L, K, z⟩ := H7.out.s1.look
          obtain ⟨L1, K1, z1⟩ := H7.out.s3.look
          obtain ⟨L2, K2, z2⟩ := H7.out.s4.look
          have hq := (L t).trans (show vs.toArray[t]? = some (.slice A0 rs.length c0) by simpa using HVS.out.2.1)
          simp only [Option.getD_none, Option.isSome_none]
          go_upto_region 13 with fail
          go_big_region
          go_wp2
          go_ret
          rw [HE.out, HB2.out]
          refine ⟨rfl, HF.out (s.tracks.set t rs) _ (by simp) ?_⟩
          have S5 := tracks_swap2 (v' := .slice A3 rs.length c3) (t' := rs) HVS.out.1 HV.out.1 HVS.out.2.1 H7.out.b2
          exact S5.drop.s2.s2.drop.s2.drop.s2.drop.drew
        | some i =>
          rw [hf] at HBD
          have hil := findN_lt hf
          have hy : rs[i]? = some rs[i] := List.getElem?_eq_getElem hil
          generalize rs[i] = y at hy
          have HB2 := Lib.hid (show badAt rs n = rs.set i ⟨y.r, y.key, y.data, true⟩ from HBD.out.trans (modify_set hy))
          obtain ⟨g, eg, k3, k4, hset⟩ := recs_bad hy H7.out
          subst eg
          have H8 := Lib.hid (hset true)
          have hil2 : (i : Int) < (rs.length : Int) := by omega
          clear HBD hf hset hy
          simp only [Option.getD_some, Option.isSome_some]
          go_upto_region 13 with fail
          refine name_world (P := Code.wp _ _ _ _) ?_
          intro w8 hw8
          have H9 := Lib.hid (SL.cast hw8 H8.out)
          clear hw8 H8 H7 k3 k4
          obtain ⟨L, K, z⟩ := H9.out.s1.look
          obtain ⟨L1, K1, z1⟩ := H9.out.s3.look
          obtain ⟨L2, K2, z2⟩ := H9.out.s4.look
          have hq := (L t).trans (show vs.toArray[t]? = some (.slice A0 rs.length c0) by simpa using HVS.out.2.1)
          go_big_region
          go_wp2
          go_ret
          rw [HE.out, HB2.out]
          refine ⟨rfl, HF.out (s.tracks.set t (rs.set i ⟨y.r, y.key, y.data, true⟩)) _ (by simp) ?_⟩
          have S5 := tracks_swap2 (v' := .slice (some ⟨g, 0, none⟩) rs.length c3) (t' := rs.set i ⟨y.r, y.key, y.data, true⟩) HVS.out.1 HV.out.1 HVS.out.2.1 H9.out.b2
          exact S5.drop.s2.s2.drop.s2.drop.s2.drop.drew
set_option maxRecDepth 100000 in
set_option maxHeartbeats 8000000 in
theorem set_any (n : Int) (A : Option Addr) (t : List Rec) (c : Nat) (hr : RecsRd W F A t) (hf : FitV t) (h : s.ok) (S : SL W (diskS x s :: F) w) : Calls Tryz.prog 19 #[.pointer (some ⟨x, 0, none⟩), .int .i64 n, .slice A t.length c] w fun e w' => e = .returned (.int .i64 ((dkSet s n t).2 : Int)) ∧ SL W (diskS x (dkSet s n t).1 :: F) w' := by
  obtain ⟨was, S0⟩ := disk_open S
  obtain ⟨tb, lp, S1⟩ := diskW_open S0
  have hn : 0 < s.tracks.length := by have := h.here_lt; omega
  have hnt := h.nt
  clear S S0
  have HDS := Lib.hid (show dkSet s n t = if n < 0 ∨ (s.tracks.length : Int) ≤ n then (s, 6) else
    if validB t = false then (s, 1) else (if n = (s.here : Int) then { s with tracks := s.tracks.set n.toNat t, last := none, next := 0, found := false } else { s with tracks := s.tracks.set n.toNat t, last := none }, 0) from rfl)
  by_cases hr0 : n < 0 ∨ (s.tracks.length : Int) ≤ n
  · have HE := Lib.hid (show dkSet s n t = (s, 6) by rw [HDS.out, if_pos hr0])
    have HS := Lib.hid S1
    obtain ⟨L, K, z⟩ := S1.look
    clear S1 h hr
    go_enter Tryz.func19, Tryz.ntmps19
    by_cases h0 : n < 0
    · have t1 : (n < 0) = True := eq_true h0
      clear h0 hr0
      go_wp2_with fail
      refine (ready_any hn HS.out).mono ?_
      rintro e w2 ⟨rfl, rfl⟩
      go_wp2
      go_ret
      rw [HE.out]
      exact ⟨rfl, disk_close (diskW_close HS.out)⟩
    · have t1 : (n < 0) = False := eq_false h0
      have t2 : ((s.tracks.length : Int) ≤ n) = True := eq_true (by omega)
      clear h0 hr0
      go_wp2_with fail
      refine (ready_any hn HS.out).mono ?_
      rintro e w2 ⟨rfl, rfl⟩
      go_wp2
      go_ret
      rw [HE.out]
      exact ⟨rfl, disk_close (diskW_close HS.out)⟩
  · obtain ⟨k, rfl⟩ : ∃ k : Nat, n = (k : Int) := ⟨n.toNat, by omega⟩
    have hk : k < s.tracks.length := by omega
    have t1 : ((k : Int) < 0) = False := eq_false (by omega)
    have t2 : ((s.tracks.length : Int) ≤ (k : Int)) = False := eq_false (by omega)
    have t3 : (s.tracks.length ≤ k) = False := eq_false (by omega)
    have HS := Lib.hid S1
    have HR := Lib.hid (fun (wx : World) (Sx : SL W (cel x (dkCells s tb lp was) 50 :: tracksS tb s.tracks :: lastS lp s.last :: F) wx) => hr wx Sx.drop.drop.drop)
    have HFV := Lib.hid hf
    have HH := Lib.hid h
    obtain ⟨L, K, z⟩ := S1.look
    clear S1 h hr hf
    go_enter Tryz.func19, Tryz.ntmps19
    go_wp2_with fail
    refine (ready_any hn HS.out).mono ?_
    rintro e w2 ⟨rfl, rfl⟩
    go_wp2_with fail
    refine (valid_wide A t c _ (HR.out _ HS.out) HFV.out).mono ?_
    rintro e w3 ⟨rfl, b3⟩
    have H3 := Lib.hid (HS.out.grow b3)
    clear b3 HS L K z
    cases hv : validB t with
    | false =>
      have HE := Lib.hid (show dkSet s (k : Int) t = (s, 1) by rw [HDS.out, if_neg hr0, if_pos hv])
      clear hr0
      go_wp2
      go_ret
      rw [HE.out]
      exact ⟨rfl, disk_close (diskW_close H3.out)⟩
    | true =>
      have HE := Lib.hid (show dkSet s (k : Int) t = (if (k : Int) = (s.here : Int) then { s with tracks := s.tracks.set k t, last := none, next := 0, found := false } else { s with tracks := s.tracks.set k t, last := none }, 0) by
        rw [HDS.out, if_neg hr0, hv, if_neg (by simp), Int.toNat_natCast])
      have HVT := Lib.hid hv
      clear hr0 HDS hv
      have hts : s.tracks[k]? = some s.tracks[k] := List.getElem?_eq_getElem hk
      generalize s.tracks[k] = rs at hts
      obtain ⟨vs, hvs, h4⟩ := tracks_open H3.out.s1
      obtain ⟨vt, hv1, hv2⟩ := zip_get hvs hts
      have H4 := Lib.hid h4
      have HVS := Lib.hid (And.intro hvs (And.intro hv1 hts))
      have hsz : vs.toArray.size = s.tracks.length := by simpa using hvs
      clear h4 hvs hv1 hv2 hts
      -- slices, tracks, disk, last
      go_upto_region 7 with fail
      obtain ⟨L, K, z⟩ := H4.out.s2.look
      have HX := Lib.hid (fun (wx : World) (hx : Below w3.heap.size w3 wx) => (hx.cell (p := ⟨x, 3, none⟩) z).trans (L 3))
      clear L K z
      refine wp_region_order (fun wx => Below w3.heap.size w3 wx) [0, 1, 2, 3, 5, 6, 7] [4] [] [8] [9, 10, 11, 12, 13] (by kernel_rfl) (by kernel_rfl) (Below.refl _ _).drew (by intro c a d v w h; cases d <;> exact h) ?_
      simp only [pick, List.filterMap_cons, List.filterMap_nil, List.getElem?_cons_zero, List.getElem?_cons_succ]
      (repeat (with_reducible refine wpPure_step ?_; intro K hK; go_simp; with_reducible refine hK _ ?_; clear hK K))
      refine wpPure_nil ?_
      (repeat (with_reducible refine wpLoads_step ?_; intro K hK; go_simp; first | (with_reducible refine hK _ ?_; clear hK K) | (rw [if_neg (by decide)]; with_reducible refine hK _ ?_; clear hK K) | (refine ⟨_, fun wx hx => (by have f0 := HX.out wx hx; go_simp; with_reducible rfl), hK _ ?_⟩; clear hK K) | (refine ⟨_, fun _ _ => rfl, hK _ ?_⟩; clear hK K))); with_reducible refine wpLoads_nil ?_
      refine wpQuiet_nil ?_
      intro wq hwq
      have BQ := Lib.hid hwq
      clear hwq HX
      have H5 := Lib.hid (H4.out.grow BQ.out)
      have hat := (HR.out w3 H3.out).grow BQ.out
      have hfit := HVT.out
      have hdc := dclone_any A t c (SL.start wq) (fun wx Sx => hat.grow Sx.below) (valid_fit2 hfit) (by have := valid_len hfit; omega) (fun y hy => by obtain ⟨j, hj⟩ := List.mem_iff_getElem?.1 hy; have := valid_rec hfit hj; omega)
      have HDC := Lib.hid hdc
      clear hat hfit hdc H3
      (with_reducible refine wpKeep_step ?_; intro K hK; go_simp)
      refine HDC.out.mono ?_
      rintro e wk ⟨A3, c3, rfl, S3⟩
      have B6 := Lib.hid (BQ.out.trans (S3.below.mono BQ.out.size))
      have H6 := Lib.hid (H5.out.join S3)
      refine hK _ _ B6.out ?_
      clear hK K S3 HDC H5 H4 B6 BQ
      refine wpKeep_nil ?_
      -- new, slices, tracks, disk, last
      obtain ⟨L, K, z⟩ := H6.out.s1.look
      obtain ⟨L1, K1, z1⟩ := H6.out.s3.look
      have hkn : (k : Int) < (s.tracks.length : Int) := by omega
      have hne := H6.out.s3.s2.cne
      have hne2 := Ne.symm hne
      have hq := (L k).trans (show vs.toArray[k]? = some vt by simpa using HVS.out.2.1)
      go_wp2_with fail
      refine name_world (P := fun W => Calls _ _ _ W _) ?_; intro wd hwd
      have S5 := tracks_swap2 (v' := .slice A3 t.length c3) (t' := t) HVS.out.1 HVS.out.2.2 HVS.out.2.1 H6.out.b2
      have ed : dkCells { s with tracks := s.tracks.set k t, last := none } tb none was = dkCells s tb none was := by simp [dkCells]
      have h7 := SL.cast hwd ((S5.drop.s1).set (off := 10) (v := .pointer none) (cs' := dkCells s tb none was) rfl)
      have H7 := Lib.hid h7
      clear hwd S5 ed h7 H6 L K z L1 K1 z1 hq
      -- disk, slices, last
      refine (here_b HH.out H7.out).mono ?_
      rintro e w8 ⟨rfl, b8⟩
      have H8 := Lib.hid (H7.out.grow b8)
      clear b8 H7
      obtain ⟨L, K, z⟩ := H8.out.look
      have hml : (s.tracks.set k t).length = s.tracks.length := by simp
      by_cases hkh : k = s.here
      · have HE2 := Lib.hid (show dkSet s (k : Int) t = ({ s with tracks := s.tracks.set k t, last := none, next := 0, found := false }, 0) by rw [HE.out, if_pos (by omega)])
        have t5 : ((k : Int) == (s.here : Int)) = true := by simp; omega
        clear hkh HE
        go_wp2
        go_ret
        rw [HE2.out]
        refine ⟨rfl, disk_close (was := was) (diskW_close (s := { s with tracks := s.tracks.set k t, last := none, next := 0, found := false }) (tb := tb) (lp := none) ?_)⟩
        have ed : dkCells { s with tracks := s.tracks.set k t, last := none, next := 0, found := false } tb none was = dkCells { s with next := 0, found := false } tb none was := by simp [dkCells]
        rw [ed]
        exact (last_null ((H8.out.set (off := 6) (v := .int .i64 0) (cs' := dkCells { s with next := 0 } tb none was) rfl).set (off := 7) (v := .bool false) (cs' := dkCells { s with next := 0, found := false } tb none was) rfl).s2.drop).b2
      · have HE2 := Lib.hid (show dkSet s (k : Int) t = ({ s with tracks := s.tracks.set k t, last := none }, 0) by rw [HE.out, if_neg (by omega)])
        have t5 : ((k : Int) == (s.here : Int)) = false := by simp; omega
        clear hkh HE
        go_wp2
        go_ret
        rw [HE2.out]
        refine ⟨rfl, disk_close (was := was) (diskW_close (s := { s with tracks := s.tracks.set k t, last := none }) (tb := tb) (lp := none) ?_)⟩
        have ed : dkCells { s with tracks := s.tracks.set k t, last := none } tb none was = dkCells s tb none was := by simp [dkCells]
        rw [ed]
        exact (last_null H8.out.s2.drop).b2
end
end Go.Proofs.YtmkndbledppniaaGreat
