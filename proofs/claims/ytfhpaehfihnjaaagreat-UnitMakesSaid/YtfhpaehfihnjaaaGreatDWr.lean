/- DWrite, DTrk, DWrite2. -/
import Derived.Test.YtfhpaehfihnjaaaGreatDRe
import Derived.Deep.RegionWith
import Derived.Deep.CutBlock
import Derived.Deep.CutRange
import Derived.BigRegion
set_option maxRecDepth 100000
namespace Go.Proofs.YtfhpaehfihnjaaaGreat.D
open Go.RowKit
theorem box_row {wA wd : World} {o : Obj} (h : wd = (wA.alloc o).drew) : wd.heap[wA.heap.size]? = some o := by rw [h]; exact hl_new (w := wA) rfl
theorem box_row2 {wA wd : World} {o : Obj} (h : wd = wA.drew.alloc o) : wd.heap[wA.heap.size]? = some o := by rw [h]; exact hl_new (w := wA.drew) rfl
theorem still_cell {w w' : World} (h : Still w w') (p : Addr) : w'.cell? p = w.cell? p := by obtain ⟨n, rfl⟩ := h; rfl
theorem still_frozen {w w' : World} (h : Still w w') (p : Addr) : w'.frozen? p = w.frozen? p := by obtain ⟨n, rfl⟩ := h; rfl
theorem still_size {w w' : World} (h : Still w w') : w'.heap.size = w.heap.size := by obtain ⟨n, rfl⟩ := h; rfl
theorem box5 {W w : World} {F : List SA} {x : Nat} {T : TypeId} {a0 b0 c0 d0 : Value} (S : SL W (cel x #[a0, b0, c0, d0] T :: F) w) (a b c d : Value) : SL W (cel x #[a, b, c, d] T :: F) ((((w.setCell ⟨x, 0, none⟩ a).setCell ⟨x, 1, none⟩ b).setCell ⟨x, 2, none⟩ c).setCell ⟨x, 3, none⟩ d) :=
  (((S.set (cs' := #[a, b0, c0, d0]) rfl).set (cs' := #[a, b, c0, d0]) rfl).set (cs' := #[a, b, c, d0]) rfl).set rfl
section
variable {W w : World} {F : List SA} {x : Nat} {s : DK} {was : Bool}
set_option maxHeartbeats 16000000 in
theorem rewrite_any (y : Rec) (Ak Ad : Option Addr) (ck cd : Nat) (h : s.ok) (hl : s.last = none) (hn : s.next < s.recs.length) (hk : CardAt w Ak y.key ck) (hd : CardAt w Ad y.data cd) (hb : y.key.length ≤ 140737488355328 ∧ y.data.length ≤ 140737488355328) (S : SL W (diskW x s was :: F) w) :
    Calls Tryz.prog 248 #[.pointer (some ⟨x, 0, none⟩), .agg #[.int .i64 y.r, .slice Ak y.key.length ck, .slice Ad y.data.length cd, .bool y.bad]] w (RetM W F x (dkRewrite s y)) := by
  obtain ⟨tb, lp, vs, A0, c0, hv0, hva, hvz, hlc, hcm, S1⟩ := sel_open h S
  have HS := Lib.hid S1
  have HV := Lib.hid hv0
  have HVZ := Lib.hid (And.intro hva hvz)
  have HH := Lib.hid (And.intro h hl)
  have HC := Lib.hid (And.intro hk (And.intro hd hb))
  have hrl := h.rl
  have hnx := h.nx
  clear S S1 h hv0 hva hvz hl hk hd hb
  go_enter Tryz.func248, Tryz.ntmps248
  go_upto_region 1 with fail
  refine name_world (P := Code.wp _ _ _ _) ?_
  intro wA hwA
  have h1 := SL.cast hwA ((HS.out.allocC #[.int .i64 y.r, .slice Ak y.key.length ck, .slice Ad y.data.length cd, .bool y.bad] 188).allocC #[.slice none 0 0, .int .i64 0, .int .i64 0] 55)
  have hbA : Below w.heap.size w wA := by rw [hwA]; (repeat' (first | (with_reducible exact Below.refl _ _) | (with_reducible assumption) | (with_reducible refine below_drewN ?_ _) | (with_reducible refine Below.drew ?_) | (with_reducible refine Below.alloc ?_ ?_ _) | (with_reducible refine Below.setCell ?_ ?_ _) | (with_reducible refine below_row ?_ ?_ _) | (with_reducible exact Nat.le_refl _) | omega | (simp only [World.size_alloc, World.size_setCell, World.size_drew, World.size_drewN]; omega) | (simp; done) | (simp; omega)))
  simp only [World.size_alloc] at h1
  have H1 := Lib.hid h1
  have HC1 := Lib.hid (And.intro (HC.out.1.grow hbA) (HC.out.2.1.grow hbA))
  have HCL := Lib.hid HC.out.2.2
  clear hwA HS h1 hbA HC
  generalize w.heap.size + 1 = rb at *
  generalize w.heap.size = bx at *
  -- reply, box, disk, slices, tracks, last
  obtain ⟨L, K, z⟩ := H1.out.s1.look
  have HX := Lib.hid (fun (wx : World) (hx : Below wA.heap.size wA wx) => (⟨(hx.cell (p := ⟨bx, 0, none⟩) z).trans (L 0), (hx.cell (p := ⟨bx, 1, none⟩) z).trans (L 1), (hx.cell (p := ⟨bx, 2, none⟩) z).trans (L 2), (hx.cell (p := ⟨bx, 3, none⟩) z).trans (L 3)⟩ :
    wx.cell? ⟨bx, 0, none⟩ = some (.int .i64 y.r) ∧ wx.cell? ⟨bx, 1, none⟩ = some (.slice Ak y.key.length ck) ∧ wx.cell? ⟨bx, 2, none⟩ = some (.slice Ad y.data.length cd) ∧ wx.cell? ⟨bx, 3, none⟩ = some (.bool y.bad)))
  clear L K z
  refine wp_region_stages (fun wx => Below wA.heap.size wA wx) [0] [([2], [1]), ([], [3, 4]), ([6], [5, 7])] [8] (by kernel_rfl) (by kernel_rfl) (Below.refl _ _).drew (by intro c a d v w h; cases d <;> exact h) ?_
  simp only [pick, List.filterMap_cons, List.filterMap_nil, List.getElem?_cons_zero, List.getElem?_cons_succ]
  (repeat (with_reducible refine wpPure_step ?_; intro K hK; go_simp; with_reducible refine hK _ ?_; clear hK K))
  refine wpPure_nil ?_
  (with_reducible refine wpStages_step ((Below.refl _ _).drew) ?_); simp only [pick, List.filterMap_cons, List.filterMap_nil, List.getElem?_cons_zero, List.getElem?_cons_succ]
  (repeat (with_reducible refine wpLoads_step ?_; intro K hK; go_simp; first | (with_reducible refine hK _ ?_; clear hK K) | (rw [if_neg (by decide)]; with_reducible refine hK _ ?_; clear hK K) | (refine ⟨_, fun wx hx => (by obtain ⟨f0, f1, f2, f3⟩ := HX.out wx hx; go_simp; with_reducible rfl), hK _ ?_⟩; clear hK K) | (refine ⟨_, fun _ _ => rfl, hK _ ?_⟩; clear hK K))); with_reducible refine wpLoads_nil ?_
  (with_reducible refine wpKeep_step ?_; intro K hK; go_simp)
  refine (records_any HH.out.1 ((H1.out.drew.s3.look.1 s.here).trans HVZ.out.1) H1.out.drew.s2).mono ?_
  rintro e w2 ⟨rfl, b2⟩
  have B2 := Lib.hid (show Below wA.heap.size wA w2 from (Below.refl _ _).drew.trans (b2.mono (Nat.le_refl _)))
  refine hK _ _ B2.out ?_
  clear hK K b2
  refine wpKeep_nil ?_
  (with_reducible refine wpStages_step (B2.out) ?_); simp only [pick, List.filterMap_cons, List.filterMap_nil, List.getElem?_cons_zero, List.getElem?_cons_succ]
  refine wpLoads_nil ?_
  have H2 := Lib.hid (H1.out.grow B2.out)
  have hcR := replace_any A0 s.recs c0 y Ak Ad ck cd (SL.start w2) (recsS_at (H2.out.s4.take HVZ.out.2)) (valid_fit2 HH.out.1.rv) (HC1.out.1.grow B2.out) (HC1.out.2.grow B2.out) HCL.out
  have HDR := Lib.hid (show dkRewrite s y = dkDone { dkChange s (repR s.recs y) y.r with next := s.next + 1 } [] from rfl)
  have HRV := Lib.hid (repR_valid (rs := s.recs) (x := y))
  generalize repR s.recs y = nl at hcR HDR HRV
  generalize repE s.recs y = ne at hcR
  have HCR := Lib.hid hcR
  clear hcR
  (with_reducible refine wpKeep_step ?_; intro K hK; go_simp)
  refine HCR.out.mono ?_
  rintro e w3 ⟨A3, c3, rfl, S3⟩
  have H3 := Lib.hid (H2.out.join S3)
  have B3 := Lib.hid (show Below wA.heap.size wA w3 from B2.out.trans (S3.below.mono B2.out.size))
  refine hK _ _ B3.out ?_
  clear hK K S3
  (with_reducible refine wpKeep_step ?_; intro K hK; go_simp; first | (with_reducible refine hK _ _ (B3.out) ?_; clear hK K) | (rw [if_neg (by decide)]; with_reducible refine hK _ _ (B3.out) ?_; clear hK K))
  refine wpKeep_nil ?_
  (with_reducible refine wpStages_step (B3.out) ?_); simp only [pick, List.filterMap_cons, List.filterMap_nil, List.getElem?_cons_zero, List.getElem?_cons_succ]
  (repeat (with_reducible refine wpLoads_step ?_; intro K hK; go_simp; first | (with_reducible refine hK _ ?_; clear hK K) | (rw [if_neg (by decide)]; with_reducible refine hK _ ?_; clear hK K) | (refine ⟨_, fun wx hx => (by skip; go_simp; with_reducible rfl), hK _ ?_⟩; clear hK K) | (refine ⟨_, fun _ _ => rfl, hK _ ?_⟩; clear hK K))); with_reducible refine wpLoads_nil ?_
  (with_reducible refine wpKeep_step ?_; intro K hK; go_simp; first | (with_reducible refine hK _ _ (B3.out) ?_; clear hK K) | (rw [if_neg (by decide)]; with_reducible refine hK _ _ (B3.out) ?_; clear hK K))
  (with_reducible refine wpKeep_step ?_; intro K hK; go_simp; first | (with_reducible refine hK _ _ (B3.out) ?_; clear hK K) | (rw [if_neg (by decide)]; with_reducible refine hK _ _ (B3.out) ?_; clear hK K))
  refine wpKeep_nil ?_
  (with_reducible refine wpStages_nil ?_); simp only [pick, List.filterMap_cons, List.filterMap_nil, List.getElem?_cons_zero, List.getElem?_cons_succ]
  obtain ⟨f0, f1, f2, f3⟩ := HX.out w3 B3.out
  have H4 := Lib.hid (sel_close HV.out H3.out.s6.s6.s6.s6)
  clear H3 H2 B2 B3 HX HCR H1
  go_wp2_with fail
  refine (change_any (.slice A3 nl.length c3) nl y.r HH.out.1 HH.out.2 H4.out).mono ?_
  rintro e w5 ⟨rfl, S5⟩
  obtain ⟨tb5, lp5, S6⟩ := diskW_open S5
  have H6 := Lib.hid S6
  clear S5 S6 H4 f0 f1 f2 f3
  -- disk, tracks, last, reply, box
  obtain ⟨L, K, z⟩ := H6.out.look
  have L6 : w5.cell? ⟨x, 6, none⟩ = some (.int .i64 (s.next : Int)) := L 6
  clear L
  go_wp2_with fail
  refine name_world (P := fun W => Calls _ _ _ W _) ?_; intro wd hwd
  have H7 := Lib.hid (SL.cast hwd (H6.out.set (off := 6) (v := .int .i64 ((s.next : Int) + 1)) (cs' := dkCells { dkChange s nl y.r with next := s.next + 1 } tb5 lp5 was) (by simp [dkCells])).s3)
  clear hwd H6 K z L6
  refine (done_any _ _ _ _).mono ?_
  rintro e w9 ⟨rfl, b9⟩
  have H9 := Lib.hid (H7.out.grow b9)
  clear b9 H7
  (obtain ⟨L, K, z⟩ := H9.out.look; go_wp2; refine bodyPost_ret (v := .agg #[.slice none 0 0, .int .i64 12, .int .i64 0]) (by simp [results, Tryz.results248, go_sem, L]) rfl ?_)
  rw [HDR.out]
  -- disk, tracks, last, box
  exact RetM.of (diskW_close (s := { dkChange s nl y.r with next := s.next + 1 }) H9.out.set3.drop.s3.drop)
theorem records_still {tb : Nat} {lp : Option Addr} (h : s.ok) {v : Value} (hv : w.cell? ⟨tb, s.here, none⟩ = some v) (S : SL W (cel x (dkCells s tb lp was) 173 :: F) w) : Calls Tryz.prog 241 #[.pointer (some ⟨x, 0, none⟩)] w fun e w' => e = .returned v ∧ Still w w' := by
  obtain ⟨L, K, z⟩ := S.look
  have L3 := L 3
  have HH := Lib.hid (fun (wx : World) (hx : Still w wx) => here_any h (S.still hx))
  have hb := h.here_lt
  have hnt := h.nt
  generalize s.here = hn at *
  clear L K z S h
  go_enter Tryz.func241, Tryz.ntmps241
  go_upto_region 1 with fail
  refine wp_region_quiet (C := Still w) (by kernel_rfl) (by kernel_rfl) (still_1 _ _) ?_
  (repeat (with_reducible refine wpQuiet_step ?_; intro K hK; go_simp; first | (with_reducible refine hK _ ?_; clear hK K) | (rw [if_neg (by decide)]; with_reducible refine hK _ ?_; clear hK K) | (refine ⟨_, fun wx hx => (by have f0 := (still_cell hx _).trans L3; have f1 := (still_cell hx _).trans hv; go_simp; with_reducible rfl), hK _ ?_⟩; clear hK K) | (refine ⟨_, fun wx hx => (by with_reducible refine (HH.out wx hx).mono ?_; rintro e w' ⟨rfl, h2⟩; exact ⟨rfl, hx.trans h2⟩), hK _ ?_⟩; clear hK K) | (refine ⟨_, fun _ _ => rfl, hK _ ?_⟩; clear hK K))); with_reducible refine wpQuiet_nil ?_
  intro w1 hw1
  go_wp2
  go_ret
  exact ⟨rfl, hw1⟩
set_option maxHeartbeats 16000000 in
theorem writeData_any (A : Option Addr) (b : List UInt8) (c : Nat) (hd : CardB W F A b c) (h : s.ok) (hl : s.last = none) (hw : was = true → s.next < s.recs.length) (S : SL W (diskW x s was :: F) w) :
    Calls Tryz.prog 232 #[.pointer (some ⟨x, 0, none⟩), .slice A b.length c] w (RetM W F x (dkWriteData s was b)) := by
  obtain ⟨tb, lp, vs, A0, c0, hv0, hva, hvz, hlc, hcm, S1⟩ := sel_open h S
  have HS := Lib.hid S1
  have HV := Lib.hid hv0
  have HVZ := Lib.hid (And.intro hva hvz)
  have HH := Lib.hid (And.intro h hl)
  have HDB := Lib.hid hd
  have hrl := h.rl
  have hnx := h.nx
  clear S S1 h hv0 hva hvz hl hd
  cases was with
  | false =>
    have HR := Lib.hid (show dkWriteData s false b = dkCheck s 128 from rfl)
    (go_enter Tryz.func232, Tryz.ntmps232; go_upto_region 1 with fail; refine name_world (P := Code.wp _ _ _ _) ?_; intro wA hwA; have H1 := Lib.hid (SL.cast hwA (HS.out.allocC #[.slice none 0 0, .int .i64 0, .int .i64 0] 55)); clear hwA HS; generalize w.heap.size = rb at *)
    obtain ⟨L, K, z⟩ := H1.out.s1.look
    go_wp2_with fail
    (refine (check_any 128 H1.out.s1).mono ?_; rintro e w9 ⟨rfl, S9⟩; have H9 := Lib.hid S9.s1; clear S9; (obtain ⟨L, K, z⟩ := H9.out.look; go_wp2; refine bodyPost_ret (v := .agg #[.slice none 0 0, .int .i64 14, .int .i64 128]) (by simp [results, Tryz.results232, go_sem, L]) rfl ?_); rw [HR.out]; exact RetM.of (sel_close HV.out H9.out.set3.drop))
  | true =>
    have hlt := hw rfl
    have hy : s.recs[s.next]? = some s.recs[s.next] := List.getElem?_eq_getElem hlt
    have hyr := valid_rec HH.out.1.rv hy
    generalize s.recs[s.next] = y at hy hyr
    have HY := Lib.hid (And.intro hy hyr)
    have HR := Lib.hid (show dkWriteData s true b = dkRewrite s ⟨y.r, y.key, padL b y.data.length, false⟩ by unfold dkWriteData; rw [if_neg (by simp), hy])
    clear hw hyr
    (go_enter Tryz.func232, Tryz.ntmps232; go_upto_region 1 with fail; refine name_world (P := Code.wp _ _ _ _) ?_; intro wA hwA; have H1 := Lib.hid (SL.cast hwA (HS.out.allocC #[.slice none 0 0, .int .i64 0, .int .i64 0] 55)); clear hwA HS; generalize w.heap.size = rb at *)
    obtain ⟨PT, g1, ck, cd, Ak, Ad, hA, SP, hback, hrec⟩ := rec_sel HVZ.out.2 hy H1.out.s3
    subst hA
    -- PT, reply, disk, slices, last
    have H2 := Lib.hid SP
    have HB := Lib.hid (And.intro hback hrec)
    clear hy SP hback hrec H1
    obtain ⟨L, K, z⟩ := H2.out.s2.look
    have HX := Lib.hid (fun (wx : World) (hx : Below wA.heap.size wA wx) => (⟨(hx.cell (p := ⟨x, 6, none⟩) z).trans (L 6), (HB.out.2 _ _ (H2.out.grow hx)).1, (HB.out.2 _ _ (H2.out.grow hx)).2.1, (HB.out.2 _ _ (H2.out.grow hx)).2.2.1, (HB.out.2 _ _ (H2.out.grow hx)).2.2.2.1⟩ :
      wx.cell? ⟨x, 6, none⟩ = some (.int .i64 (s.next : Int)) ∧ wx.cell? ⟨g1, s.next * 4, none⟩ = some (.int .i64 y.r) ∧ wx.cell? ⟨g1, s.next * 4 + 1, none⟩ = some (.slice Ak y.key.length ck) ∧ wx.cell? ⟨g1, s.next * 4 + 2, none⟩ = some (.slice Ad y.data.length cd) ∧ wx.cell? ⟨g1, s.next * 4 + 3, none⟩ = some (.bool y.bad)))
    have HCR := Lib.hid (fun (wx : World) (hx : Below wA.heap.size wA wx) => records_any HH.out.1 (((H2.out.grow hx).s3.look.1 s.here).trans HVZ.out.1) (H2.out.grow hx).s2)
    go_upto_region 3 with fail
    go_cut [5] (fun v wx => ∃ bx, v = .pointer (some ⟨bx, 0, none⟩) ∧ SL W (cel bx #[.int .i64 y.r, .slice Ak y.key.length ck, .slice Ad y.data.length cd, .bool y.bad] 188 :: PT :: cel rb #[.slice none 0 0, .int .i64 0, .int .i64 0] 55 :: cel x (dkCells s tb lp true) 173 :: cel tb vs.toArray 155 :: lastS lp s.last :: F) wx)
    case first =>
      have HCS := Lib.hid (fun (wx : World) (hx : Below wA.heap.size wA wx) => records_still HH.out.1 (((H2.out.grow hx).s3.look.1 s.here).trans HVZ.out.1) (H2.out.grow hx).s2)
      have L6 := L 6
      obtain ⟨k0, k1, k2, k3, _, _⟩ := HB.out.2 _ _ H2.out
      have zg := World.block_lt_of_cell? wA _ k0
      clear L
      go_region_with (go_at_call 241
                      refine (HCS.out _ (by (repeat' (first | (with_reducible exact Below.refl _ _) | (with_reducible assumption) | (with_reducible refine below_drewN ?_ _) | (with_reducible refine Below.drew ?_) | (with_reducible refine Below.alloc ?_ ?_ _) | (with_reducible refine Below.setCell ?_ ?_ _) | (with_reducible refine below_row ?_ ?_ _) | (with_reducible exact Nat.le_refl _) | omega | (simp only [World.size_alloc, World.size_setCell, World.size_drew, World.size_drewN]; omega) | (simp; done) | (simp; omega))))).mono ?_
                      rintro e w2 ⟨rfl, hs⟩
                      have hA := still_cell hs
                      have hF := still_frozen hs
                      have hZ := still_size hs
                      have HST := Lib.hid hs
                      clear hs)
      all_goals (go_wp2_with fail)
      all_goals (go_meet)
      all_goals (refine ⟨_, rfl, ?_⟩)
      all_goals (first
        | exact box5 ((H2.out.allocC #[.int .i64 0, .slice none 0 0, .slice none 0 0, .bool false] 188).drew.still HST.out) _ _ _ _
        | exact box5 ((H2.out.drew.allocC #[.int .i64 0, .slice none 0 0, .slice none 0 0, .bool false] 188).still HST.out) _ _ _ _
        | (have S := (H2.out.drew.still HST.out).allocC #[.int .i64 y.r, .slice Ak y.key.length ck, .slice Ad y.data.length cd, .bool y.bad] 188
           rw [still_size HST.out] at S
           exact S))
    case rest =>
    obtain ⟨bx, rfl, S4⟩ := hcut
    obtain ⟨w4, hnm⟩ : ∃ x : World, x = wc := ⟨_, rfl⟩
    subst hnm
    have H4 := Lib.hid S4
    clear S4 H2 HX HCR L K z
    -- box, PT, reply, disk, slices, last
    obtain ⟨L, K, z⟩ := H4.out.look
    have HPD := Lib.hid (padded_any A b b.length c y.data.length rfl (HDB.out w4 H4.out.drop.drop.drop.drop.drop.drop) (by have := HY.out.2; omega) H4.out)
    obtain ⟨pd, hpd, hpl⟩ : ∃ pd, pd = padL b y.data.length ∧ pd.length = y.data.length := ⟨_, rfl, padL_len _ _⟩
    go_wp2_with fail
    refine HPD.out.mono ?_
    rintro e w5 ⟨g, rfl, S5, b5⟩
    rw [← hpd] at S5
    have HRR := Lib.hid (show dkWriteData s true b = dkRewrite s ⟨y.r, y.key, pd, false⟩ by rw [HR.out, hpd])
    have hdl : y.data.length ≤ 2016 := HY.out.2.2.2.2
    rw [← hpl] at S5 hdl ⊢
    have H5 := Lib.hid S5
    clear S5 b5 hpd hpl H4 HPD L K z HR
    -- pad, box, PT, reply, disk, slices, last
    obtain ⟨L, K, z⟩ := H5.out.s1.look
    go_wp2_with fail
    refine name_world (P := fun W => Calls _ _ _ W _) ?_; intro wd hwd
    have H6 := Lib.hid (SL.cast hwd ((H5.out.s1.set (off := 2) (v := .slice (some ⟨g, 0, none⟩) pd.length pd.length) (cs' := #[.int .i64 y.r, .slice Ak y.key.length ck, .slice (some ⟨g, 0, none⟩) pd.length pd.length, .bool y.bad]) rfl).set (off := 3) (v := .bool false) (cs' := #[.int .i64 y.r, .slice Ak y.key.length ck, .slice (some ⟨g, 0, none⟩) pd.length pd.length, .bool false]) rfl))
    clear hwd H5 L K z
    -- box, pad, PT, reply, disk, slices, last
    refine (rewrite_any ⟨y.r, y.key, pd, false⟩ Ak (some ⟨g, 0, none⟩) ck pd.length HH.out.1 HH.out.2 hlt (HB.out.2 _ _ H6.out.s2).2.2.2.2.1 (rowS_card H6.out.s1) (by have := HY.out.2; exact ⟨by show y.key.length ≤ _; omega, by show pd.length ≤ _; omega⟩) (sel_close HV.out (HB.out.1 _ _ H6.out.s2).s6.s1.s6.s6)).mono ?_
    rintro e w9 ⟨A9, c9, rfl, S9⟩
    have H9 := Lib.hid S9.s4
    clear S9 H6
    obtain ⟨L, K, z⟩ := H9.out.look
    go_wp2
    refine bodyPost_ret (by simp [results, Tryz.results232, go_sem, L]; rfl) rfl ?_
    rw [HRR.out]
    exact ⟨A9, c9, rfl, H9.out.set3.drop.s2.drop.s2.drop⟩
end
end Go.Proofs.YtfhpaehfihnjaaaGreat.D
namespace Go.Proofs.YtfhpaehfihnjaaaGreat.D
open Go.RowKit
section
variable {W w : World} {F : List SA} {x : Nat} {s : DK} {was : Bool}
set_option maxHeartbeats 16000000 in
theorem readTrack_any (A : Option Addr) (n c : Nat) (h : s.ok) (S : SL W (diskW x s was :: F) w) :
    Calls Tryz.prog 231 #[.pointer (some ⟨x, 0, none⟩), .slice A n c] w (RetM W F x (dkTrack s)) := by
  obtain ⟨tb, lp, vs, A0, c0, hv0, hva, hvz, hlc, hcm, S1⟩ := sel_open h S
  have HS := Lib.hid S1
  have HV := Lib.hid hv0
  have HVZ := Lib.hid (And.intro hva hvz)
  have HH := Lib.hid h
  have hrl := h.rl
  clear S S1 h hv0 hva hvz
  (go_enter Tryz.func231, Tryz.ntmps231; go_upto_region 1 with fail; refine name_world (P := Code.wp _ _ _ _) ?_; intro wA hwA; have H1 := Lib.hid (SL.cast hwA (HS.out.allocC #[.slice none 0 0, .int .i64 0, .int .i64 0] 55)); clear hwA HS; generalize w.heap.size = rb at *)
  go_wp2_with fail
  refine (records_any HH.out ((H1.out.s2.look.1 s.here).trans HVZ.out.1) H1.out.s1).mono ?_
  rintro e w2 ⟨rfl, b2⟩
  have H2 := Lib.hid (H1.out.grow b2)
  clear b2 H1
  obtain ⟨L, K, z⟩ := H2.out.s1.look
  go_upto_region 3 with fail
  refine name_world (P := Code.wp _ _ _ _) ?_
  intro w3 hw3
  -- disk, reply, slices, tracks, last
  have H3 := Lib.hid (SL.cast hw3 (H2.out.s1.set (off := 6) (v := .int .i64 (s.recs.length : Int)) (cs' := dkCells { s with next := s.recs.length } tb lp was) rfl))
  clear hw3 H2 L K z
  obtain ⟨L, K, z⟩ := H3.out.look
  have HX := Lib.hid (fun (wx : World) (hx : Below w3.heap.size w3 wx) => (⟨(hx.cell (p := ⟨x, 4, none⟩) z).trans (L 4), (hx.cell (p := ⟨x, 5, none⟩) z).trans (L 5)⟩ : wx.cell? ⟨x, 4, none⟩ = some (.int .i64 (s.cyl : Int)) ∧ wx.cell? ⟨x, 5, none⟩ = some (.int .i64 (s.head : Int))))
  clear L K z
  have hce := encode_any A0 s.recs c0 (s.cyl : Int) (s.head : Int) (SL.start w3.drew) (recsS_at (H3.out.drew.s3.take HVZ.out.2)) (valid_fit2 HH.out.rv)
  have HDT := Lib.hid (show dkTrack s = if encE s.cyl s.head s.recs ≠ 0 then dkCheck { s with next := s.recs.length } 8 else dkDone { s with next := s.recs.length } (encB s.cyl s.head s.recs) from rfl)
  generalize encE (s.cyl : Int) (s.head : Int) s.recs = ne at hce HDT
  generalize encB (s.cyl : Int) (s.head : Int) s.recs = nb at hce HDT
  have HCE := Lib.hid hce
  clear hce
  refine wp_region_stages (fun wx => Below w3.heap.size w3 wx) [0, 1, 2, 4, 5, 6, 8] [([3, 7], [9, 10]), ([12], [11, 13])] [14] (by kernel_rfl) (by kernel_rfl) (Below.refl _ _).drew (by intro c a d v w h; cases d <;> exact h) ?_
  simp only [pick, List.filterMap_cons, List.filterMap_nil, List.getElem?_cons_zero, List.getElem?_cons_succ]
  (repeat (with_reducible refine wpPure_step ?_; intro K hK; go_simp; with_reducible refine hK _ ?_; clear hK K))
  refine wpPure_nil ?_
  (with_reducible refine wpStages_step ((Below.refl _ _).drew) ?_); simp only [pick, List.filterMap_cons, List.filterMap_nil, List.getElem?_cons_zero, List.getElem?_cons_succ]
  (repeat (with_reducible refine wpLoads_step ?_; intro K hK; go_simp; first | (with_reducible refine hK _ ?_; clear hK K) | (rw [if_neg (by decide)]; with_reducible refine hK _ ?_; clear hK K) | (refine ⟨_, fun wx hx => (by obtain ⟨f0, f1⟩ := HX.out wx hx; go_simp; with_reducible rfl), hK _ ?_⟩; clear hK K) | (refine ⟨_, fun _ _ => rfl, hK _ ?_⟩; clear hK K))); with_reducible refine wpLoads_nil ?_
  (with_reducible refine wpKeep_step ?_; intro K hK; go_simp)
  refine HCE.out.mono ?_
  rintro e w4 ⟨A4, c4, rfl, S4⟩
  have B4 := Lib.hid (show Below w3.heap.size w3 w4 from (Below.refl _ _).drew.trans (S4.below.mono (Nat.le_refl _)))
  have H4 := Lib.hid (H3.out.drew.join S4)
  refine hK _ _ B4.out ?_
  clear hK K S4 HCE HX H3
  (with_reducible refine wpKeep_step ?_; intro K hK; go_simp; first | (with_reducible refine hK _ _ (B4.out) ?_; clear hK K) | (rw [if_neg (by decide)]; with_reducible refine hK _ _ (B4.out) ?_; clear hK K))
  refine wpKeep_nil ?_
  (with_reducible refine wpStages_step (B4.out) ?_); simp only [pick, List.filterMap_cons, List.filterMap_nil, List.getElem?_cons_zero, List.getElem?_cons_succ]
  (repeat (with_reducible refine wpLoads_step ?_; intro K hK; go_simp; first | (with_reducible refine hK _ ?_; clear hK K) | (rw [if_neg (by decide)]; with_reducible refine hK _ ?_; clear hK K) | (refine ⟨_, fun wx hx => (by skip; go_simp; with_reducible rfl), hK _ ?_⟩; clear hK K) | (refine ⟨_, fun _ _ => rfl, hK _ ?_⟩; clear hK K))); with_reducible refine wpLoads_nil ?_
  (with_reducible refine wpKeep_step ?_; intro K hK; go_simp; first | (with_reducible refine hK _ _ (B4.out) ?_; clear hK K) | (rw [if_neg (by decide)]; with_reducible refine hK _ _ (B4.out) ?_; clear hK K))
  (with_reducible refine wpKeep_step ?_; intro K hK; go_simp; first | (with_reducible refine hK _ _ (B4.out) ?_; clear hK K) | (rw [if_neg (by decide)]; with_reducible refine hK _ _ (B4.out) ?_; clear hK K))
  refine wpKeep_nil ?_
  (with_reducible refine wpStages_nil ?_); simp only [pick, List.filterMap_cons, List.filterMap_nil, List.getElem?_cons_zero, List.getElem?_cons_succ]
  -- bytes, disk, reply, slices, tracks, last
  by_cases he : ne = 0
  · subst he
    have HR := Lib.hid (show dkTrack s = dkDone { s with next := s.recs.length } nb by rw [HDT.out, if_neg (by simp)])
    go_wp2_with fail
    refine (done_any _ _ _ _).mono ?_
    rintro e w9 ⟨rfl, b9⟩
    have H9 := Lib.hid ((H4.out.grow b9).s2)
    clear b9 H4
    (obtain ⟨L, K, z⟩ := H9.out.look; go_wp2; refine bodyPost_ret (v := .agg #[.slice A4 nb.length c4, .int .i64 12, .int .i64 0]) (by simp [results, Tryz.results231, go_sem, L]) rfl ?_)
    rw [HR.out]
    -- bytes, disk, slices, tracks, last
    exact ⟨A4, c4, rfl, (disk_close (sel_close (s := { s with next := s.recs.length }) HV.out H9.out.set3.drop.b4)).s1⟩
  · have HR := Lib.hid (show dkTrack s = dkCheck { s with next := s.recs.length } 8 by rw [HDT.out, if_pos he])
    have t1 : (((ne : Nat) : Int) != (0 : Int)) = true := by simp; omega
    have H5 := Lib.hid H4.out.drop
    clear he H4
    go_wp2_with fail
    refine (check_any 8 H5.out).mono ?_
    rintro e w9 ⟨rfl, S9⟩
    have H9 := Lib.hid S9.s1
    clear S9
    (obtain ⟨L, K, z⟩ := H9.out.look; go_wp2; refine bodyPost_ret (v := .agg #[.slice none 0 0, .int .i64 14, .int .i64 8]) (by simp [results, Tryz.results231, go_sem, L]) rfl ?_)
    rw [HR.out]
    exact RetM.of (sel_close HV.out H9.out.set3.drop)
set_option maxHeartbeats 16000000 in
theorem readCount_any (A : Option Addr) (n c : Nat) (h : s.ok) (S : SL W (diskW x s was :: F) w) :
    Calls Tryz.prog 227 #[.pointer (some ⟨x, 0, none⟩), .slice A n c] w (RetM W F x (dkCount s)) := by
  obtain ⟨tb, lp, vs, A0, c0, hv0, hva, hvz, hlc, hcm, S1⟩ := sel_open h S
  have HS := Lib.hid S1
  have HV := Lib.hid hv0
  have HVZ := Lib.hid (And.intro hva hvz)
  have HH := Lib.hid h
  have hrl := h.rl
  have hnx := h.nx
  have HCY := Lib.hid (show s.cyl ≤ 64 ∧ s.head ≤ 8 by have := h.cy; have := h.c1; have := h.hd; have := h.h1; omega)
  have HDK := Lib.hid (show dkCount s = match s.recs[s.next]? with
    | none => dkCheck s 2
    | some x => dkDone s (cntL s.cyl s.head x) from rfl)
  clear S S1 h hv0 hva hvz
  (go_enter Tryz.func227, Tryz.ntmps227; go_upto_region 1 with fail; refine name_world (P := Code.wp _ _ _ _) ?_; intro wA hwA; have H1 := Lib.hid (SL.cast hwA (HS.out.allocC #[.slice none 0 0, .int .i64 0, .int .i64 0] 55)); clear hwA HS; generalize w.heap.size = rb at *)
  obtain ⟨L, K, z⟩ := H1.out.s1.look
  have HX := Lib.hid (fun (wx : World) (hx : Below wA.heap.size wA wx) => (hx.cell (p := ⟨x, 6, none⟩) z).trans (L 6))
  have HCR := Lib.hid (fun (wx : World) (hx : Below wA.heap.size wA wx) => records_any HH.out (((H1.out.grow hx).s2.look.1 s.here).trans HVZ.out.1) (H1.out.grow hx).s1)
  clear L K z
  refine wp_region_quiet (C := Below wA.heap.size wA) (by kernel_rfl) (by kernel_rfl) (Below.refl _ _).drew ?_
  (repeat (with_reducible refine wpQuiet_step ?_; intro K hK; go_simp; first | (with_reducible refine hK _ ?_; clear hK K) | (rw [if_neg (by decide)]; with_reducible refine hK _ ?_; clear hK K) | (refine ⟨_, fun wx hx => (by have f0 := HX.out wx hx; go_simp; with_reducible rfl), hK _ ?_⟩; clear hK K) | (refine ⟨_, fun wx hx => (by with_reducible refine (HCR.out wx hx).mono ?_; rintro e w' ⟨rfl, h2⟩; exact ⟨rfl, hx.trans (h2.mono hx.size)⟩), hK _ ?_⟩; clear hK K) | (refine ⟨_, fun _ _ => rfl, hK _ ?_⟩; clear hK K))); with_reducible refine wpQuiet_nil ?_
  intro w2 b2
  have B2 := Lib.hid b2
  clear b2
  by_cases hlt : s.next < s.recs.length
  · have hy : s.recs[s.next]? = some s.recs[s.next] := List.getElem?_eq_getElem hlt
    have hyr := valid_rec HH.out.rv hy
    generalize s.recs[s.next] = y at hy hyr
    have HY := Lib.hid hyr
    have HR := Lib.hid (show dkCount s = dkDone s (cntL s.cyl s.head y) by rw [HDK.out, hy])
    obtain ⟨PT, g1, ck, cd, Ak, Ad, hA, SP, hback, hrec⟩ := rec_sel HVZ.out.2 hy H1.out.s3
    subst hA
    -- PT, reply, disk, slices, last
    have H2 := Lib.hid SP
    have HB := Lib.hid (And.intro hback hrec)
    clear hy SP hback hrec hyr
    have HK := Lib.hid (fun (wx : World) (hx : Below wA.heap.size wA wx) => HB.out.2 _ _ (H2.out.grow hx))
    go_upto_region 3 with fail
    refine wp_region_order (fun wx => Below wA.heap.size wA wx) [0, 1, 3, 4, 5] [] [2, 6, 7, 8] [] [9, 10, 11] (by kernel_rfl) (by kernel_rfl) B2.out.drew (by intro c a d v w h; cases d <;> exact h) ?_
    simp only [pick, List.filterMap_cons, List.filterMap_nil, List.getElem?_cons_zero, List.getElem?_cons_succ]
    (repeat (with_reducible refine wpPure_step ?_; intro K hK; go_simp; with_reducible refine hK _ ?_; clear hK K))
    refine wpPure_nil ?_
    refine wpLoads_nil ?_
    (repeat (with_reducible refine wpQuiet_step ?_; intro K hK; go_simp; first | (with_reducible refine hK _ ?_; clear hK K) | (rw [if_neg (by decide)]; with_reducible refine hK _ ?_; clear hK K) | (refine ⟨_, fun wx hx => (by have f0 := HX.out wx hx; obtain ⟨f1, f2, f3, f4, _, _⟩ := HK.out wx hx; go_simp; with_reducible rfl), hK _ ?_⟩; clear hK K) | (refine ⟨_, fun wx hx => (by with_reducible refine (HCR.out wx hx).mono ?_; rintro e w' ⟨rfl, h2⟩; exact ⟨rfl, hx.trans (h2.mono hx.size)⟩), hK _ ?_⟩; clear hK K) | (refine ⟨_, fun _ _ => rfl, hK _ ?_⟩; clear hK K))); with_reducible refine wpQuiet_nil ?_
    intro w3 b3
    have H3 := Lib.hid (H2.out.grow b3)
    clear b3 HX HCR HK B2 H2 H1
    refine wpKeep_nil ?_
    refine wpList_plain rfl ?_
    intro K hK
    go_wp2_with fail
    refine (count_any y Ak Ad ck cd HCY.out.1 HCY.out.2 HY.out H3.out.s2).mono ?_
    rintro e w4 ⟨g, rfl, S4, b4⟩
    -- count, disk, PT, reply, slices, last
    have H4 := Lib.hid S4
    clear S4 b4 H3
    refine hK _ _ ?_
    clear hK K
    refine wpList_plain rfl ?_
    intro K hK
    go_wp2_with fail
    refine (done_any _ _ _ _).mono ?_
    rintro e w9 ⟨rfl, b9⟩
    have H9 := Lib.hid ((H4.out.grow b9).s3)
    clear b9 H4
    refine hK _ _ ?_
    clear hK K
    (obtain ⟨L, K, z⟩ := H9.out.look; go_wp2; refine bodyPost_ret (v := .agg #[.slice (some ⟨g, 0, none⟩) 8 8, .int .i64 12, .int .i64 0]) (by simp [results, Tryz.results227, go_sem, L]) rfl ?_)
    rw [HR.out]
    -- count, disk, PT, slices, last
    have hcl : (cntL s.cyl s.head y).length = 8 := cntL_len _ _ _
    refine ⟨some ⟨g, 0, none⟩, 8, by dsimp only [dkDone]; rw [hcl]; rfl, ?_⟩
    show SL W (rowS 5 1 (.slice (some ⟨g, 0, none⟩) (cntL s.cyl s.head y).length 8) (cntL s.cyl s.head y).length (Lib.byteCells (cntL s.cyl s.head y)) :: diskS x s :: F) _
    rw [hcl]
    exact (disk_close (sel_close HV.out (HB.out.1 _ _ H9.out.set3.drop.s2).s3.s3.s4.b3)).s1
  · have hn : s.recs[s.next]? = none := List.getElem?_eq_none (by omega)
    have HR := Lib.hid (show dkCount s = dkCheck s 2 by rw [HDK.out, hn])
    have H2 := Lib.hid (H1.out.grow B2.out)
    clear hn HX HCR
    go_wp2_with fail
    (refine (check_any 2 H2.out.s1).mono ?_; rintro e w9 ⟨rfl, S9⟩; have H9 := Lib.hid S9.s1; clear S9; (obtain ⟨L, K, z⟩ := H9.out.look; go_wp2; refine bodyPost_ret (v := .agg #[.slice none 0 0, .int .i64 14, .int .i64 2]) (by simp [results, Tryz.results227, go_sem, L]) rfl ?_); rw [HR.out]; exact RetM.of (sel_close HV.out H9.out.set3.drop))
end
end Go.Proofs.YtfhpaehfihnjaaaGreat.D
namespace Go.Proofs.YtfhpaehfihnjaaaGreat.D
open Go.RowKit
section
variable {W w : World} {F : List SA} {x : Nat} {s : DK} {was : Bool}
set_option maxHeartbeats 16000000 in
theorem writeKeyData_any (A : Option Addr) (b : List UInt8) (c : Nat) (hd : CardB W F A b c) (h : s.ok) (hl : s.last = none) (hw : was = true → s.next < s.recs.length) (S : SL W (diskW x s was :: F) w) :
    Calls Tryz.prog 233 #[.pointer (some ⟨x, 0, none⟩), .slice A b.length c] w (RetM W F x (dkWriteKey s was b)) := by
  obtain ⟨tb, lp, vs, A0, c0, hv0, hva, hvz, hlc, hcm, S1⟩ := sel_open h S
  have HS := Lib.hid S1
  have HV := Lib.hid hv0
  have HVZ := Lib.hid (And.intro hva hvz)
  have HH := Lib.hid (And.intro h hl)
  have HDB := Lib.hid hd
  have hrl := h.rl
  have hnx := h.nx
  clear S S1 h hv0 hva hvz hl hd
  cases was with
  | false =>
    have HR := Lib.hid (show dkWriteKey s false b = dkCheck s 128 from rfl)
    (go_enter Tryz.func233, Tryz.ntmps233; go_upto_region 1 with fail; refine name_world (P := Code.wp _ _ _ _) ?_; intro wA hwA; have H1 := Lib.hid (SL.cast hwA (HS.out.allocC #[.slice none 0 0, .int .i64 0, .int .i64 0] 55)); clear hwA HS; generalize w.heap.size = rb at *)
    obtain ⟨L, K, z⟩ := H1.out.s1.look
    go_wp2_with fail
    (refine (check_any 128 H1.out.s1).mono ?_; rintro e w9 ⟨rfl, S9⟩; have H9 := Lib.hid S9.s1; clear S9; (obtain ⟨L, K, z⟩ := H9.out.look; go_wp2; refine bodyPost_ret (v := .agg #[.slice none 0 0, .int .i64 14, .int .i64 128]) (by simp [results, Tryz.results233, go_sem, L]) rfl ?_); rw [HR.out]; exact RetM.of (sel_close HV.out H9.out.set3.drop))
  | true =>
    have hlt := hw rfl
    have hy : s.recs[s.next]? = some s.recs[s.next] := List.getElem?_eq_getElem hlt
    have hyr := valid_rec HH.out.1.rv hy
    generalize s.recs[s.next] = y at hy hyr
    have HY := Lib.hid (And.intro hy hyr)
    have HR := Lib.hid (show dkWriteKey s true b = dkRewrite s ⟨y.r, (padL b (y.key.length + y.data.length)).take y.key.length, (padL b (y.key.length + y.data.length)).drop y.key.length, false⟩ by unfold dkWriteKey; rw [if_neg (by simp), hy])
    clear hw hyr
    (go_enter Tryz.func233, Tryz.ntmps233; go_upto_region 1 with fail; refine name_world (P := Code.wp _ _ _ _) ?_; intro wA hwA; have H1 := Lib.hid (SL.cast hwA (HS.out.allocC #[.slice none 0 0, .int .i64 0, .int .i64 0] 55)); clear hwA HS; generalize w.heap.size = rb at *)
    obtain ⟨PT, g1, ck, cd, Ak, Ad, hA, SP, hback, hrec⟩ := rec_sel HVZ.out.2 hy H1.out.s3
    subst hA
    -- PT, reply, disk, slices, last
    have H2 := Lib.hid SP
    have HB := Lib.hid (And.intro hback hrec)
    clear hy SP hback hrec H1
    obtain ⟨L, K, z⟩ := H2.out.s2.look
    have HX := Lib.hid (fun (wx : World) (hx : Below wA.heap.size wA wx) => (⟨(hx.cell (p := ⟨x, 6, none⟩) z).trans (L 6), (HB.out.2 _ _ (H2.out.grow hx)).1, (HB.out.2 _ _ (H2.out.grow hx)).2.1, (HB.out.2 _ _ (H2.out.grow hx)).2.2.1, (HB.out.2 _ _ (H2.out.grow hx)).2.2.2.1⟩ :
      wx.cell? ⟨x, 6, none⟩ = some (.int .i64 (s.next : Int)) ∧ wx.cell? ⟨g1, s.next * 4, none⟩ = some (.int .i64 y.r) ∧ wx.cell? ⟨g1, s.next * 4 + 1, none⟩ = some (.slice Ak y.key.length ck) ∧ wx.cell? ⟨g1, s.next * 4 + 2, none⟩ = some (.slice Ad y.data.length cd) ∧ wx.cell? ⟨g1, s.next * 4 + 3, none⟩ = some (.bool y.bad)))
    have HCR := Lib.hid (fun (wx : World) (hx : Below wA.heap.size wA wx) => records_any HH.out.1 (((H2.out.grow hx).s3.look.1 s.here).trans HVZ.out.1) (H2.out.grow hx).s2)
    go_upto_region 3 with fail
    go_cut [5] (fun v wx => ∃ bx, v = .pointer (some ⟨bx, 0, none⟩) ∧ SL W (cel bx #[.int .i64 y.r, .slice Ak y.key.length ck, .slice Ad y.data.length cd, .bool y.bad] 188 :: PT :: cel rb #[.slice none 0 0, .int .i64 0, .int .i64 0] 55 :: cel x (dkCells s tb lp true) 173 :: cel tb vs.toArray 155 :: lastS lp s.last :: F) wx)
    case first =>
      have HCS := Lib.hid (fun (wx : World) (hx : Below wA.heap.size wA wx) => records_still HH.out.1 (((H2.out.grow hx).s3.look.1 s.here).trans HVZ.out.1) (H2.out.grow hx).s2)
      have L6 := L 6
      obtain ⟨k0, k1, k2, k3, _, _⟩ := HB.out.2 _ _ H2.out
      have zg := World.block_lt_of_cell? wA _ k0
      clear L
      go_region_with (go_at_call 241
                      refine (HCS.out _ (by (repeat' (first | (with_reducible exact Below.refl _ _) | (with_reducible assumption) | (with_reducible refine below_drewN ?_ _) | (with_reducible refine Below.drew ?_) | (with_reducible refine Below.alloc ?_ ?_ _) | (with_reducible refine Below.setCell ?_ ?_ _) | (with_reducible refine below_row ?_ ?_ _) | (with_reducible exact Nat.le_refl _) | omega | (simp only [World.size_alloc, World.size_setCell, World.size_drew, World.size_drewN]; omega) | (simp; done) | (simp; omega))))).mono ?_
                      rintro e w2 ⟨rfl, hs⟩
                      have hA := still_cell hs
                      have hF := still_frozen hs
                      have hZ := still_size hs
                      have HST := Lib.hid hs
                      clear hs)
      all_goals (go_wp2_with fail)
      all_goals (go_meet)
      all_goals (refine ⟨_, rfl, ?_⟩)
      all_goals (first
        | exact box5 ((H2.out.allocC #[.int .i64 0, .slice none 0 0, .slice none 0 0, .bool false] 188).drew.still HST.out) _ _ _ _
        | exact box5 ((H2.out.drew.allocC #[.int .i64 0, .slice none 0 0, .slice none 0 0, .bool false] 188).still HST.out) _ _ _ _
        | (have S := (H2.out.drew.still HST.out).allocC #[.int .i64 y.r, .slice Ak y.key.length ck, .slice Ad y.data.length cd, .bool y.bad] 188
           rw [still_size HST.out] at S
           exact S))
    case rest =>
    obtain ⟨bx, rfl, S4⟩ := hcut
    obtain ⟨w4, hnm⟩ : ∃ x : World, x = wc := ⟨_, rfl⟩
    subst hnm
    have H4 := Lib.hid S4
    clear S4 H2 HX HCR L K z
    -- box, PT, reply, disk, slices, last
    obtain ⟨L, K, z⟩ := H4.out.look
    have hyl := HY.out.2
    have hpd0 := padded_any A b b.length c (y.key.length + y.data.length) rfl (HDB.out w4 H4.out.drop.drop.drop.drop.drop.drop) (by omega) H4.out
    rw [Int.natCast_add] at hpd0
    have HPD := Lib.hid hpd0
    have hkl : y.key.length ≤ 255 := hyl.2.2.1
    have hdl : y.data.length ≤ 2016 := hyl.2.2.2
    clear hpd0 hyl
    obtain ⟨pd, hpd, hpl⟩ : ∃ pd, pd = padL b (y.key.length + y.data.length) ∧ pd.length = y.key.length + y.data.length := ⟨_, rfl, padL_len _ _⟩
    obtain ⟨k2, hk2, hk2l⟩ : ∃ k2, k2 = pd.take y.key.length ∧ k2.length = y.key.length := ⟨_, rfl, by rw [List.length_take]; omega⟩
    obtain ⟨d2, hd2, hd2l⟩ : ∃ d2, d2 = pd.drop y.key.length ∧ d2.length = y.data.length := ⟨_, rfl, by rw [List.length_drop]; omega⟩
    have HRR := Lib.hid (show dkWriteKey s true b = dkRewrite s ⟨y.r, k2, d2, false⟩ by rw [HR.out, hk2, hd2, hpd])
    have HPS := Lib.hid (And.intro hpd (And.intro hk2 (And.intro hd2 hpl)))
    clear hpd hk2 hd2 hpl HR
    go_wp2_with fail
    refine HPD.out.mono ?_
    rintro e w5 ⟨g, rfl, S5, b5⟩
    rw [← HPS.out.1, ← hk2l, ← hd2l] at S5
    have HPL := Lib.hid (show pd.length = k2.length + d2.length by rw [HPS.out.2.2.2, hk2l, hd2l])
    rw [← hk2l] at hkl
    rw [← hd2l] at hdl
    have HKD := Lib.hid (show pd.take k2.length = k2 ∧ pd.drop k2.length = d2 by rw [hk2l]; exact ⟨HPS.out.2.1.symm, HPS.out.2.2.1.symm⟩)
    rw [← hk2l, ← hd2l]
    have H5 := Lib.hid S5
    clear S5 b5 hk2l hd2l H4 HPD L K z HPS
    -- all, box, PT, reply, disk, slices, last
    obtain ⟨L, K, z⟩ := H5.out.s1.look
    obtain ⟨kn, hkn⟩ : ∃ n, k2.length = n := ⟨_, rfl⟩
    obtain ⟨dn, hdn⟩ : ∃ n, d2.length = n := ⟨_, rfl⟩
    rw [hkn] at hkl HPL HKD H5 L ⊢
    rw [hdn] at hdl HPL H5 L ⊢
    have HKL := Lib.hid (And.intro hkn (And.intro hdn (And.intro hkl hdl)))
    clear hkn hdn
    rcases Nat.eq_zero_or_pos dn with hz | hz
    · subst hz
      rw [Nat.add_zero] at H5 HPL
      go_upto_region 6 with fail
      go_big_region
      go_wp2_with fail
      refine name_world (P := fun W => Calls _ _ _ W _) ?_; intro wd hwd
      have H6 := Lib.hid (SL.cast hwd (((H5.out.s1.set (off := 1) (v := .slice (some ⟨g, 0, none⟩) kn (kn)) (cs' := #[.int .i64 y.r, .slice (some ⟨g, 0, none⟩) kn (kn), .slice Ad 0 cd, .bool y.bad]) rfl).set (off := 2) (v := .slice (some ⟨g, 0, none⟩) 0 0) (cs' := #[.int .i64 y.r, .slice (some ⟨g, 0, none⟩) kn (kn), .slice (some ⟨g, 0, none⟩) 0 0, .bool y.bad]) rfl).set (off := 3) (v := .bool false) (cs' := #[.int .i64 y.r, .slice (some ⟨g, 0, none⟩) kn (kn), .slice (some ⟨g, 0, none⟩) 0 0, .bool false]) rfl).drew)
      clear hwd H5 L K z
      -- box, all, PT, reply, disk, slices, last
      have hall := rowS_card (l := pd) (c := kn) (by rw [HPL.out]; exact H6.out.s1)
      have ck2 : CardAt wd (some ⟨g, 0, none⟩) k2 (kn) := by
        have h := hall.take kn
        rw [HKD.out.1] at h; exact h
      have cd2 : CardAt wd (some ⟨g, 0, none⟩) d2 0 := by
        have h := hall.drop kn (by rw [HPL.out]; omega) (some ⟨g, 0, none⟩) (by intro h; rw [HPL.out] at h; omega)
        rw [HKD.out.2] at h
        simpa using h
      have hrw := rewrite_any ⟨y.r, k2, d2, false⟩ (some ⟨g, 0, none⟩) (some ⟨g, 0, none⟩) (kn) 0 HH.out.1 HH.out.2 hlt ck2 cd2 (by have := HKL.out; exact ⟨by show k2.length ≤ _; omega, by show d2.length ≤ _; omega⟩) (sel_close HV.out (HB.out.1 _ _ H6.out.s2).s6.s1.s6.s6)
      dsimp only at hrw
      rw [HKL.out.1, HKL.out.2.1] at hrw
      have HRW := Lib.hid hrw
      clear hrw ck2 cd2 hall
      refine HRW.out.mono ?_
      rintro e w9 ⟨A9, c9, rfl, S9⟩
      have H9 := Lib.hid S9.s4
      clear S9 H6
      obtain ⟨L, K, z⟩ := H9.out.look
      go_wp2
      refine bodyPost_ret (by simp [results, Tryz.results233, go_sem, L]; rfl) rfl ?_
      rw [HRR.out]
      exact ⟨A9, c9, rfl, H9.out.set3.drop.s2.drop.s2.drop⟩
    · have hz2 : ¬ dn = 0 := by omega
      have g1 : ((kn : Int) ≤ (kn : Int) + (dn : Int)) = True := eq_true (by omega)
      go_upto_region 6 with fail
      go_big_region
      go_wp2_with fail
      refine name_world (P := fun W => Calls _ _ _ W _) ?_; intro wd hwd
      have H6 := Lib.hid (SL.cast hwd (((H5.out.s1.set (off := 1) (v := .slice (some ⟨g, 0, none⟩) kn (kn + dn)) (cs' := #[.int .i64 y.r, .slice (some ⟨g, 0, none⟩) kn (kn + dn), .slice Ad dn cd, .bool y.bad]) rfl).set (off := 2) (v := .slice (some ⟨g, kn, none⟩) dn dn) (cs' := #[.int .i64 y.r, .slice (some ⟨g, 0, none⟩) kn (kn + dn), .slice (some ⟨g, kn, none⟩) dn dn, .bool y.bad]) rfl).set (off := 3) (v := .bool false) (cs' := #[.int .i64 y.r, .slice (some ⟨g, 0, none⟩) kn (kn + dn), .slice (some ⟨g, kn, none⟩) dn dn, .bool false]) rfl).drew)
      clear hwd H5 L K z
      -- box, all, PT, reply, disk, slices, last
      have hall := rowS_card (l := pd) (c := kn + dn) (by rw [HPL.out]; exact H6.out.s1)
      have ck2 : CardAt wd (some ⟨g, 0, none⟩) k2 (kn + dn) := by
        have h := hall.take kn
        rw [HKD.out.1] at h; exact h
      have cd2 : CardAt wd (some ⟨g, kn, none⟩) d2 dn := by
        have h := hall.drop kn (by rw [HPL.out]; omega) (some ⟨g, kn, none⟩) (by intro h; simp)
        rw [HKD.out.2] at h
        rw [Nat.add_sub_cancel_left] at h; exact h
      have hrw := rewrite_any ⟨y.r, k2, d2, false⟩ (some ⟨g, 0, none⟩) (some ⟨g, kn, none⟩) (kn + dn) dn HH.out.1 HH.out.2 hlt ck2 cd2 (by have := HKL.out; exact ⟨by show k2.length ≤ _; omega, by show d2.length ≤ _; omega⟩) (sel_close HV.out (HB.out.1 _ _ H6.out.s2).s6.s1.s6.s6)
      dsimp only at hrw
      rw [HKL.out.1, HKL.out.2.1] at hrw
      have HRW := Lib.hid hrw
      clear hrw ck2 cd2 hall
      refine HRW.out.mono ?_
      rintro e w9 ⟨A9, c9, rfl, S9⟩
      have H9 := Lib.hid S9.s4
      clear S9 H6
      obtain ⟨L, K, z⟩ := H9.out.look
      go_wp2
      refine bodyPost_ret (by simp [results, Tryz.results233, go_sem, L]; rfl) rfl ?_
      rw [HRR.out]
      exact ⟨A9, c9, rfl, H9.out.set3.drop.s2.drop.s2.drop⟩
end
end Go.Proofs.YtfhpaehfihnjaaaGreat.D
