/- Play, View, Step. -/
import Derived.Test.YtmkndbledppniaaGreatSteps
import Derived.Test.YtmkndbledppniaaGreatUndo2
import Derived.Test.YtmkndbledppniaaGreatWorks16
import Derived.Test.YtmkndbledppniaaGreatQ
import Derived.Test.YtmkndbledppniaaGreatQUn
import Derived.Test.YtmkndbledppniaaGreatQDo
namespace Go.Proofs.YtmkndbledppniaaGreat
open Go.RowKit
def stepDK (s : DK) (b : StepV) : DK := if b.what = 0 then (dkDo s b.op b.data.2.1).1 else if b.what = 1 then (dkUndo s b.n).1 else if b.what = 2 then (dkSet s b.n b.t).1 else dkPower s
theorem step_ok {s : DK} (h : s.ok) (b : StepV) : (stepDK s b).ok := by
  unfold stepDK
  split
  · exact do_ok h
  split
  · exact undo_ok h
  split
  · exact set_ok h
  · exact power_ok h
def playDK (s : DK) (l : List StepV) : DK := l.foldl stepDK s
theorem play_ok : ∀ {l : List StepV} {s : DK}, s.ok → (playDK s l).ok
  | [], _, h => h
  | b :: l, _, h => play_ok (l := l) (step_ok h b)
theorem play_take {s : DK} {l : List StepV} {k : Nat} {b : StepV} (h : l[k]? = some b) : playDK s (l.take (k + 1)) = stepDK (playDK s (l.take k)) b := by
  unfold playDK
  rw [List.take_add_one, h, List.foldl_append]; rfl
theorem good_card {W : World} {F : List SA} {b : StepV} (h : StepV.good W b) : CardB W F b.data.1 b.data.2.1 b.data.2.2 := fun _ S => CardAt.grow h.1 S.below
theorem good_recs {W : World} {F : List SA} {b : StepV} (h : StepV.good W b) : RecsRd W F b.ta b.t := fun _ S => h.2.1.grow S.below
theorem step_cells {w : World} {B : Nat} {A : Option Addr} {l : List StepV} (h : At w B A (l.flatMap stepCells)) {k : Nat} {b : StepV} (hb : l[k]? = some b) : ∃ g off, A = some ⟨g, off, none⟩ ∧ g < B ∧
    w.cell? ⟨g, off + k * 5, none⟩ = some (.int .i64 b.what) ∧ w.cell? ⟨g, off + k * 5 + 1, none⟩ = some (.int .i64 b.op) ∧ w.cell? ⟨g, off + k * 5 + 2, none⟩ = some (.int .i64 b.n) ∧ w.cell? ⟨g, off + k * 5 + 3, none⟩ = some (cardV b.data) ∧ w.cell? ⟨g, off + k * 5 + 4, none⟩ = some (.slice b.ta b.t.length b.tc) := by
  have hc : ∀ j, j < 5 → (l.flatMap stepCells)[k * 5 + j]? = (stepCells b)[j]? := fun j hj => by
    rw [flat_get stepCells 5 (by omega) (fun _ => rfl), show (k * 5 + j) / 5 = k by omega, show (k * 5 + j) % 5 = j by omega, hb]; rfl
  obtain ⟨g, off, hA, hg, c0⟩ := h.cell (k := k * 5 + 0) (u := .int .i64 b.what) (by rw [hc 0 (by omega)]; rfl)
  obtain ⟨g1, off1, hA1, _, c1⟩ := h.cell (k := k * 5 + 1) (u := .int .i64 b.op) (by rw [hc 1 (by omega)]; rfl)
  obtain ⟨g2, off2, hA2, _, c2⟩ := h.cell (k := k * 5 + 2) (u := .int .i64 b.n) (by rw [hc 2 (by omega)]; rfl)
  obtain ⟨g3, off3, hA3, _, c3⟩ := h.cell (k := k * 5 + 3) (u := cardV b.data) (by rw [hc 3 (by omega)]; rfl)
  obtain ⟨g4, off4, hA4, _, c4⟩ := h.cell (k := k * 5 + 4) (u := .slice b.ta b.t.length b.tc) (by rw [hc 4 (by omega)]; rfl)
  subst hA
  injection hA1 with hA1; injection hA1 with e1 e2; subst e1; subst e2
  injection hA2 with hA2; injection hA2 with e1 e2; subst e1; subst e2
  injection hA3 with hA3; injection hA3 with e1 e2; subst e1; subst e2
  injection hA4 with hA4; injection hA4 with e1 e2; subst e1; subst e2
  exact ⟨g, off, rfl, hg, c0, by rw [Nat.add_assoc]; exact c1, by rw [Nat.add_assoc]; exact c2, by rw [Nat.add_assoc]; exact c3, by rw [Nat.add_assoc]; exact c4⟩
section
variable {W w : World} {F : List SA} {x : Nat} {s : DK}
def PlayR (W : World) (F : List SA) (ser : ByteArray) (cy hd : Int) (l : List StepV) (e : Ending) (w' : World) : Prop :=
  (newOk ser cy hd = true ∧ ∃ x, e = .returned (.pointer (some ⟨x, 0, none⟩)) ∧ SL W (diskS x (playDK (freshDK ser cy.toNat hd.toNat) l) :: F) w') ∨ (newOk ser cy hd = false ∧ e = .returned (.pointer none) ∧ SL W F w')
theorem newOk_ok {ser : ByteArray} {cy hd : Int} (h : newOk ser cy hd = true) : (freshDK ser cy.toNat hd.toNat).ok := by
  unfold newOk at h
  simp only [Bool.and_eq_true, decide_eq_true_eq] at h
  exact fresh_ok (by omega) (by omega)
end
end Go.Proofs.YtmkndbledppniaaGreat
namespace Go.Proofs.YtmkndbledppniaaGreat
open Go.RowKit
theorem still_b {w w' : World} {e v : Ending} (h : e = v ∧ w' = w) : e = v ∧ Below w.heap.size w w' := ⟨h.1, by rw [h.2]; exact Below.refl _ _⟩
section
variable {W w : World} {F : List SA} {x y : Nat} {s : DK}
theorem diskS_len (h : s.ok) : s.recs.length ≤ 4096 := by
  have := h.val _ (List.mem_of_getElem? h.at_)
  have := valid_len this
  omega
set_option maxRecDepth 100000 in
set_option maxHeartbeats 8000000 in
/-- The program's unit and the document's unit in one state are the same to the law. -/
theorem lsame_any (h : s.ok) (S : SL W (diskS x s :: qdiskS y s :: F) w) : Calls Tryz.prog 11 #[.pointer (some ⟨x, 0, none⟩), .pointer (some ⟨y, 0, none⟩)] w fun e w' => e = .returned (.bool true) ∧ SL W (diskS x s :: qdiskS y s :: F) w' := by
  have HS := Lib.hid S
  have HH := Lib.hid h
  have hA := arm_any h S
  have HA := Lib.hid hA
  clear S h hA
  go_enter Tryz.func11, Tryz.ntmps11
  go_wp2_with fail
  refine HA.out.mono ?_
  rintro e w1 ⟨rfl, b1⟩
  have H1 := Lib.hid (HS.out.grow (b1.below _))
  clear b1 HS HA
  go_upto_region 2 with fail
  obtain ⟨tb, old, a, m, S1⟩ := qdisk_open H1.out.s1
  have H2 := Lib.hid S1
  clear S1
  generalize hch : s.last.isSome = ch at *
  have HCH := Lib.hid hch
  clear hch
  go_wp2_with fail
  refine (qhere_b HH.out H2.out).mono ?_
  rintro e w2 ⟨rfl, b2⟩
  have H3 := Lib.hid (H2.out.grow b2)
  clear b2 H1 H2
  go_wp2_with fail
  refine (track_any (s.here : Int) HH.out (qdisk_close HCH.out.symm H3.out).s1).mono ?_
  rintro e w3 ⟨A3, c3, rfl, S3⟩
  have ht : trkOf s (s.here : Int) = s.recs := by unfold trkOf; rw [if_pos (by omega), Int.toNat_natCast, HH.out.at_]; rfl
  have hi : trkIs s (s.here : Int) = true := decide_eq_true ⟨by omega, by exact_mod_cast HH.out.here_lt⟩
  rw [ht] at S3
  rw [ht, hi]
  clear ht hi H3
  have H4 := Lib.hid S3
  clear S3
  obtain ⟨tb, old, a, m, vs, A0, c0, hv0, hva, hvz, hlc, hcm, S5⟩ := selQ_open HH.out H4.out.s2
  have H5 := Lib.hid S5
  have HV := Lib.hid (And.intro hv0 hvz)
  generalize hch : s.last.isSome = ch at *
  have HC2 := Lib.hid hch
  clear hch S5 hv0 hvz H4
  -- qdisk, slices, tracks, last, recs, disk
  go_upto_region 3 with fail
  have hf : ∀ wx, Below w3.heap.size w3 wx → wx.cell? ⟨y, 4, none⟩ = some (.int .i64 (s.cyl : Int)) ∧ wx.cell? ⟨y, 5, none⟩ = some (.int .i64 (s.head : Int)) ∧ wx.cell? ⟨y, 8, none⟩ = some (.int .i64 (s.sense : Int)) ∧ wx.cell? ⟨y, 3, none⟩ = some (.slice (some ⟨tb, 0, none⟩) s.tracks.length s.tracks.length) ∧ wx.cell? ⟨tb, s.here, none⟩ = some (.slice A0 s.recs.length c0) := fun wx hx => by
    obtain ⟨L, K, z⟩ := (H5.out.grow hx).look
    obtain ⟨L2, K2, z2⟩ := (H5.out.grow hx).s1.look
    exact ⟨L 4, L 5, L 8, L 3, (L2 s.here).trans hva⟩
  have HX := Lib.hid hf
  have hc1 : ∀ wx, Below w3.heap.size w3 wx → Calls Tryz.prog 28 #[.pointer (some ⟨x, 0, none⟩)] wx fun e w' => e = .returned (.int .i64 (s.sense : Int)) ∧ Below wx.heap.size wx w' := fun wx hx => (sense_any HH.out (H5.out.grow hx).s5).mono fun e w' k => still_b k
  have HC1 := Lib.hid hc1
  have hc3 : ∀ wx, Below w3.heap.size w3 wx → Calls Tryz.prog 27 #[.pointer (some ⟨y, 0, none⟩)] wx fun e w' => e = .returned (.int .i64 (s.here : Int)) ∧ Below wx.heap.size wx w' := fun wx hx => (qhere_b HH.out (H5.out.grow hx)).mono fun e w' k => k
  have HC3 := Lib.hid hc3
  have hc4 : ∀ wx, Below w3.heap.size w3 wx → Calls Tryz.prog 10 #[.slice A3 s.recs.length c3, .slice A0 s.recs.length c0] wx fun e w' => e = .returned (.bool true) ∧ Below wx.heap.size wx w' := fun wx hx => same_any A3 A0 s.recs c3 c0 wx (recsS_at (H5.out.grow hx).s4) (trackQ_at ((H5.out.grow hx).s2.take HV.out.2)) (by have := diskS_len HH.out; omega)
  have HC4 := Lib.hid hc4
  have hlt := HH.out.here_lt
  clear hf hc1 hc3 hc4
  refine wp_region_quiet (C := Below w3.heap.size w3) (by kernel_rfl) (by kernel_rfl) (Below.refl _ _).drew ?_
  (repeat (with_reducible refine wpQuiet_step ?_; intro K hK; go_simp; first | (with_reducible refine hK _ ?_; clear hK K) | (rw [if_neg (by decide)]; with_reducible refine hK _ ?_; clear hK K) | (refine ⟨_, fun wx hx => (by obtain ⟨f0, f1, f2, f3, f4⟩ := HX.out wx hx; go_simp; with_reducible rfl), hK _ ?_⟩; clear hK K) | (first | (refine ⟨_, fun wx hx => (by with_reducible refine (HC1.out wx hx).mono ?_; rintro e w' ⟨rfl, h2⟩; exact ⟨rfl, hx.trans (h2.mono hx.size)⟩), hK _ ?_⟩; clear hK K) | (refine ⟨_, fun wx hx => (by with_reducible refine (HC3.out wx hx).mono ?_; rintro e w' ⟨rfl, h2⟩; exact ⟨rfl, hx.trans (h2.mono hx.size)⟩), hK _ ?_⟩; clear hK K) | (refine ⟨_, fun wx hx => (by with_reducible refine (HC4.out wx hx).mono ?_; rintro e w' ⟨rfl, h2⟩; exact ⟨rfl, hx.trans (h2.mono hx.size)⟩), hK _ ?_⟩; clear hK K)) | (refine ⟨_, fun _ _ => rfl, hK _ ?_⟩; clear hK K))); with_reducible refine wpQuiet_nil ?_
  intro wq hwq
  have H6 := Lib.hid (H5.out.grow hwq)
  clear hwq
  go_wp2
  go_ret
  refine ⟨rfl, ?_⟩
  have T := (selQ_close HC2.out.symm HV.out.1 H6.out).s1
  exact T.drop.s1
end
end Go.Proofs.YtmkndbledppniaaGreat
namespace Go.Proofs.YtmkndbledppniaaGreat
open Go.RowKit
set_option maxRecDepth 100000 in
set_option maxHeartbeats 8000000 in
theorem samereply_any (A1 A2 : Option Addr) (l : List UInt8) (c1 c2 : Nat) (st sn : Int) (w : World) (h1 : CardAt w A1 l c1) (h2 : CardAt w A2 l c2) : Calls Tryz.prog 15 #[.agg #[.slice A1 l.length c1, .int .i64 st, .int .i64 sn], .agg #[.slice A2 l.length c2, .int .i64 st, .int .i64 sn]] w fun e w' => e = .returned (.bool true) ∧ Below w.heap.size w w' := by
  have HA := Lib.hid h1
  have HB := Lib.hid h2
  have hl : l.length ≤ maxLen := Nat.le_trans h1.2.1 h1.2.2
  have HL := Lib.hid hl
  clear h1 h2 hl
  go_enter Tryz.func15, Tryz.ntmps15
  go_wp2_with fail
  refine name_world (P := fun W => Calls _ _ _ W _) ?_; intro wd hwd
  have bd : Below w.heap.size w wd := by rw [hwd]; (repeat' (first | (with_reducible exact Below.refl _ _) | (with_reducible assumption) | (with_reducible refine below_drewN ?_ _) | (with_reducible refine Below.drew ?_) | (with_reducible refine Below.alloc ?_ ?_ _) | (with_reducible refine Below.setCell ?_ ?_ _) | (with_reducible refine below_row ?_ ?_ _) | (with_reducible exact Nat.le_refl _) | omega | (simp only [World.size_alloc, World.size_setCell, World.size_drew, World.size_drewN]; omega) | (simp; done) | (simp; omega)))
  have BD := Lib.hid bd
  have hs := sameb_any A1 A2 l l c1 c2 wd wd.heap.size (HA.out.grow bd).1 (HB.out.grow bd).1 HL.out HL.out
  clear bd
  rw [beq_self_eq_true] at hs
  refine hs.mono ?_
  rintro e w9 ⟨rfl, b9⟩
  obtain ⟨kk, rfl⟩ := b9
  go_wp2
  go_ret
  exact ⟨rfl, by (repeat' (first | (with_reducible exact Below.refl _ _) | (with_reducible assumption) | (with_reducible refine below_drewN ?_ _) | (with_reducible refine Below.drew ?_) | (with_reducible refine Below.alloc ?_ ?_ _) | (with_reducible refine Below.setCell ?_ ?_ _) | (with_reducible refine below_row ?_ ?_ _) | (with_reducible exact Nat.le_refl _) | omega | (simp only [World.size_alloc, World.size_setCell, World.size_drew, World.size_drewN]; omega) | (simp; done) | (simp; omega)))⟩
def StepBox (sb : Nat) (op n : Int) (d t : Value) (wx : World) : Prop := wx.cell? ⟨sb, 1, none⟩ = some (.int .i64 op) ∧ wx.cell? ⟨sb, 2, none⟩ = some (.int .i64 n) ∧ wx.cell? ⟨sb, 3, none⟩ = some d ∧ wx.cell? ⟨sb, 4, none⟩ = some t
section
variable {W w : World} {F : List SA} {x y : Nat} {s : DK}
set_option maxRecDepth 100000 in
set_option maxHeartbeats 16000000 in
theorem lstep_any (wh op n : Int) (da : Option Addr) (d : List UInt8) (dc : Nat) (ta : Option Addr) (t : List Rec) (tc : Nat) (hd : CardB W F da d dc) (ht : RecsRd W F ta t) (hf : FitV t) (h : s.ok) (S : SL W (diskS x s :: qdiskS y s :: F) w) :
    Calls Tryz.prog 8 #[.pointer (some ⟨x, 0, none⟩), .pointer (some ⟨y, 0, none⟩), .agg #[.int .i64 wh, .int .i64 op, .int .i64 n, .slice da d.length dc, .slice ta t.length tc]] w fun e w' => e = .returned (.bool true) ∧ SL W (diskS x (stepDK s ⟨wh, op, n, (da, d, dc), ta, t, tc⟩) :: qdiskS y (stepDK s ⟨wh, op, n, (da, d, dc), ta, t, tc⟩) :: F) w' := by
  have HS := Lib.hid S
  have HD := Lib.hid hd
  have HT := Lib.hid ht
  have HF := Lib.hid hf
  have HH := Lib.hid h
  clear S hd ht hf h
  go_enter Tryz.func8, Tryz.ntmps8
  go_upto_region 1 with fail
  refine name_world (P := Code.wp _ _ _ _) ?_
  intro wA hwA
  have H1 := Lib.hid (SL.cast hwA (HS.out.allocC #[.int .i64 wh, .int .i64 op, .int .i64 n, .slice da d.length dc, .slice ta t.length tc] 37))
  clear hwA HS
  generalize w.heap.size = sb at *
  have hcl : ∀ {L' : List SA} {wx : World}, SL W (cel sb #[.int .i64 wh, .int .i64 op, .int .i64 n, .slice da d.length dc, .slice ta t.length tc] 37 :: L') wx → StepBox sb op n (.slice da d.length dc) (.slice ta t.length tc) wx := fun Sx => ⟨Sx.look.1 1, Sx.look.1 2, Sx.look.1 3, Sx.look.1 4⟩
  have CL := Lib.hid (And.intro @hcl trivial)
  have SB := Lib.hid (And.intro (show ∀ (wx : World), StepBox sb op n (.slice da d.length dc) (.slice ta t.length tc) wx → wx.cell? ⟨sb, 1, none⟩ = some (.int .i64 op) ∧ wx.cell? ⟨sb, 2, none⟩ = some (.int .i64 n) ∧ wx.cell? ⟨sb, 3, none⟩ = some (.slice da d.length dc) ∧ wx.cell? ⟨sb, 4, none⟩ = some (.slice ta t.length tc) from fun wx hx => hx) trivial)
  clear hcl
  obtain ⟨L, K, z⟩ := H1.out.look
  by_cases h0 : wh = 0
  · subst h0
    have HE := Lib.hid (show stepDK s ⟨0, op, n, (da, d, dc), ta, t, tc⟩ = (dkDo s op d).1 from rfl)
    go_upto_region 3 with fail
    clear L K z
    refine wp_region_order2 (SL W (cel sb #[.int .i64 0, .int .i64 op, .int .i64 n, .slice da d.length dc, .slice ta t.length tc] 37 :: diskS x s :: qdiskS y s :: F)) (StepBox sb op n (.slice da d.length dc) (.slice ta t.length tc)) (fun wx hx => CL.out.1 hx) [0, 1, 3, 6, 7, 9] [2, 4, 8, 10] [] [5, 11] [12, 13] (by kernel_rfl) (by kernel_rfl) H1.out.drew (by intro c a d v w h; cases d <;> exact h) ?_
    simp only [pick, List.filterMap_cons, List.filterMap_nil, List.getElem?_cons_zero, List.getElem?_cons_succ]
    (repeat (with_reducible refine wpPure_step ?_; intro K hK; go_simp; with_reducible refine hK _ ?_; clear hK K))
    refine wpPure_nil ?_
    (repeat (with_reducible refine wpLoads_step ?_; intro K hK; go_simp; first | (with_reducible refine hK _ ?_; clear hK K) | (rw [if_neg (by decide)]; with_reducible refine hK _ ?_; clear hK K) | (refine ⟨_, fun wx hx => (by obtain ⟨f1, f2, f3, f4⟩ := SB.out.1 wx hx; go_simp; with_reducible rfl), hK _ ?_⟩; clear hK K) | (refine ⟨_, fun _ _ => rfl, hK _ ?_⟩; clear hK K))); with_reducible refine wpLoads_nil ?_
    refine wpQuiet_nil ?_
    intro wq hwq
    have H2 := Lib.hid hwq
    clear hwq H1
    (with_reducible refine wpKeep_step ?_; intro K hK; go_simp)
    refine (do_any op da d dc (fun wx Sx => HD.out wx Sx.drop.drop) HH.out H2.out.s1).mono ?_
    rintro e w3 ⟨A3, c3, rfl, S3⟩
    -- row, disk, box, qdisk
    refine hK _ _ (CL.out.1 S3.s2) ?_
    clear hK K H2
    have H3 := Lib.hid S3.s3
    clear S3
    (with_reducible refine wpKeep_step ?_; intro K hK; go_simp)
    refine (qdo_any op da d dc (fun wx Sx => HD.out wx Sx.drop.drop.drop) HH.out H3.out).mono ?_
    rintro e w4 ⟨A4, c4, rfl, S4⟩
    -- row, qdisk, row1, disk, box
    refine hK _ _ (CL.out.1 S4.s4) ?_
    clear hK K H3
    have H4 := Lib.hid S4
    clear S4
    refine wpKeep_nil ?_
    go_wp2_with fail
    refine (samereply_any A3 A4 (dkDo s op d).2.1 c3 c4 _ _ w4 (rowS_card H4.out.s2) (rowS_card H4.out)).mono ?_
    rintro e w5 ⟨rfl, b5⟩
    have H5 := Lib.hid (H4.out.grow b5)
    clear b5 H4
    go_wp2
    go_ret
    rw [HE.out]
    exact ⟨rfl, H5.out.drop.s1.drop.s1.s2.drop⟩
  · have t0 : (wh == 0) = false := by simp; omega
    by_cases h1 : wh = 1
    · subst h1
      have HE := Lib.hid (show stepDK s ⟨1, op, n, (da, d, dc), ta, t, tc⟩ = (dkUndo s n).1 from rfl)
      go_upto_region 5 with fail
      clear L K z
      refine wp_region_order2 (SL W (cel sb #[.int .i64 1, .int .i64 op, .int .i64 n, .slice da d.length dc, .slice ta t.length tc] 37 :: diskS x s :: qdiskS y s :: F)) (StepBox sb op n (.slice da d.length dc) (.slice ta t.length tc)) (fun wx hx => CL.out.1 hx) [0, 1, 4, 5] [2, 6] [] [3, 7] [8, 9] (by kernel_rfl) (by kernel_rfl) H1.out.drew (by intro c a d v w h; cases d <;> exact h) ?_
      simp only [pick, List.filterMap_cons, List.filterMap_nil, List.getElem?_cons_zero, List.getElem?_cons_succ]
      (repeat (with_reducible refine wpPure_step ?_; intro K hK; go_simp; with_reducible refine hK _ ?_; clear hK K))
      refine wpPure_nil ?_
      (repeat (with_reducible refine wpLoads_step ?_; intro K hK; go_simp; first | (with_reducible refine hK _ ?_; clear hK K) | (rw [if_neg (by decide)]; with_reducible refine hK _ ?_; clear hK K) | (refine ⟨_, fun wx hx => (by obtain ⟨f1, f2, f3, f4⟩ := SB.out.1 wx hx; go_simp; with_reducible rfl), hK _ ?_⟩; clear hK K) | (refine ⟨_, fun _ _ => rfl, hK _ ?_⟩; clear hK K))); with_reducible refine wpLoads_nil ?_
      refine wpQuiet_nil ?_
      intro wq hwq
      have H2 := Lib.hid hwq
      clear hwq H1
      (with_reducible refine wpKeep_step ?_; intro K hK; go_simp)
      refine (undo_any n HH.out H2.out.s1).mono ?_
      rintro e w3 ⟨rfl, S3⟩
      refine hK _ _ (CL.out.1 S3.s1) ?_
      clear hK K H2
      have H3 := Lib.hid S3.s2
      clear S3
      (with_reducible refine wpKeep_step ?_; intro K hK; go_simp)
      refine (qundo_any n HH.out H3.out).mono ?_
      rintro e w4 ⟨rfl, S4⟩
      -- qdisk, disk, box
      refine hK _ _ (CL.out.1 S4.s2) ?_
      clear hK K H3
      have H4 := Lib.hid S4
      clear S4
      refine wpKeep_nil ?_
      go_wp2
      go_ret
      rw [HE.out]
      exact ⟨rfl, H4.out.s2.drop.s1⟩
    · have t1 : (wh == 1) = false := by simp; omega
      by_cases h2 : wh = 2
      · subst h2
        have HE := Lib.hid (show stepDK s ⟨2, op, n, (da, d, dc), ta, t, tc⟩ = (dkSet s n t).1 from rfl)
        go_upto_region 7 with fail
        clear L K z
        refine wp_region_order2 (SL W (cel sb #[.int .i64 2, .int .i64 op, .int .i64 n, .slice da d.length dc, .slice ta t.length tc] 37 :: diskS x s :: qdiskS y s :: F)) (StepBox sb op n (.slice da d.length dc) (.slice ta t.length tc)) (fun wx hx => CL.out.1 hx) [0, 1, 3, 6, 7, 9] [2, 4, 8, 10] [] [5, 11] [12, 13] (by kernel_rfl) (by kernel_rfl) H1.out.drew (by intro c a d v w h; cases d <;> exact h) ?_
        simp only [pick, List.filterMap_cons, List.filterMap_nil, List.getElem?_cons_zero, List.getElem?_cons_succ]
        (repeat (with_reducible refine wpPure_step ?_; intro K hK; go_simp; with_reducible refine hK _ ?_; clear hK K))
        refine wpPure_nil ?_
        (repeat (with_reducible refine wpLoads_step ?_; intro K hK; go_simp; first | (with_reducible refine hK _ ?_; clear hK K) | (rw [if_neg (by decide)]; with_reducible refine hK _ ?_; clear hK K) | (refine ⟨_, fun wx hx => (by obtain ⟨f1, f2, f3, f4⟩ := SB.out.1 wx hx; go_simp; with_reducible rfl), hK _ ?_⟩; clear hK K) | (refine ⟨_, fun _ _ => rfl, hK _ ?_⟩; clear hK K))); with_reducible refine wpLoads_nil ?_
        refine wpQuiet_nil ?_
        intro wq hwq
        have H2 := Lib.hid hwq
        clear hwq H1
        (with_reducible refine wpKeep_step ?_; intro K hK; go_simp)
        refine (set_any n ta t tc (fun wx Sx => HT.out wx Sx.drop.drop) HF.out HH.out H2.out.s1).mono ?_
        rintro e w3 ⟨rfl, S3⟩
        refine hK _ _ (CL.out.1 S3.s1) ?_
        clear hK K H2
        have H3 := Lib.hid S3.s2
        clear S3
        (with_reducible refine wpKeep_step ?_; intro K hK; go_simp)
        refine (qset_any n ta t tc (fun wx Sx => HT.out wx Sx.drop.drop) HF.out HH.out H3.out).mono ?_
        rintro e w4 ⟨rfl, S4⟩
        refine hK _ _ (CL.out.1 S4.s2) ?_
        clear hK K H3
        have H4 := Lib.hid S4
        clear S4
        refine wpKeep_nil ?_
        go_wp2
        go_ret
        rw [HE.out]
        exact ⟨rfl, H4.out.s2.drop.s1⟩
      · have t2 : (wh == 2) = false := by simp; omega
        have HE := Lib.hid (show stepDK s ⟨wh, op, n, (da, d, dc), ta, t, tc⟩ = dkPower s by unfold stepDK; rw [if_neg h0, if_neg h1, if_neg h2])
        clear h0 h1 h2
        go_wp2_with fail
        refine (power_any HH.out H1.out.s1).mono ?_
        rintro e w2 ⟨rfl, S2⟩
        have H2 := Lib.hid S2.s2
        clear S2 H1 L K z
        go_wp2_with fail
        refine (qpower_any H2.out).mono ?_
        rintro e w3 ⟨rfl, S3⟩
        have H3 := Lib.hid S3
        clear S3 H2
        go_wp2
        go_ret
        rw [HE.out]
        exact ⟨rfl, H3.out.s2.drop.s1⟩
end
end Go.Proofs.YtmkndbledppniaaGreat
