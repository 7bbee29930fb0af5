/- play: a unit with which the calls of a script were done. -/
import Derived.Test.YtmkndbledppniaaSteps
import Derived.Test.YtmkndbledppniaaUndo2
import Derived.Test.YtmkndbledppniaaWorks16
namespace Go.Proofs.Ytmkndbledppniaa
open Go.RowKit
def stepDK (s : DK) (b : StepV) : DK := if b.what = 0 then (dkDo s b.op b.data.2.1).1 else if b.what = 1 then (dkUndo s b.n).1 else if b.what = 2 then (dkSet s b.n b.t).1 else dkPower s
theorem step_ok {s : DK} (h : s.ok) (b : StepV) : (stepDK s b).ok := by
  unfold stepDK
  split
  · exact do_ok h
  split
  · exact undo_ok h
  split
  · exact set_ok h
  · exact power_ok h
def playDK (s : DK) (l : List StepV) : DK := l.foldl stepDK s
theorem play_ok : ∀ {l : List StepV} {s : DK}, s.ok → (playDK s l).ok
  | [], _, h => h
  | b :: l, _, h => play_ok (l := l) (step_ok h b)
theorem play_take {s : DK} {l : List StepV} {k : Nat} {b : StepV} (h : l[k]? = some b) : playDK s (l.take (k + 1)) = stepDK (playDK s (l.take k)) b := by
  unfold playDK
  rw [List.take_add_one, h, List.foldl_append]; rfl
theorem good_card {W : World} {F : List SA} {b : StepV} (h : StepV.good W b) : CardB W F b.data.1 b.data.2.1 b.data.2.2 := fun _ S => CardAt.grow h.1 S.below
theorem good_recs {W : World} {F : List SA} {b : StepV} (h : StepV.good W b) : RecsRd W F b.ta b.t := fun _ S => h.2.1.grow S.below
theorem step_cells {w : World} {B : Nat} {A : Option Addr} {l : List StepV} (h : At w B A (l.flatMap stepCells)) {k : Nat} {b : StepV} (hb : l[k]? = some b) : ∃ g off, A = some ⟨g, off, none⟩ ∧ g < B ∧
    w.cell? ⟨g, off + k * 5, none⟩ = some (.int .i64 b.what) ∧ w.cell? ⟨g, off + k * 5 + 1, none⟩ = some (.int .i64 b.op) ∧ w.cell? ⟨g, off + k * 5 + 2, none⟩ = some (.int .i64 b.n) ∧ w.cell? ⟨g, off + k * 5 + 3, none⟩ = some (cardV b.data) ∧ w.cell? ⟨g, off + k * 5 + 4, none⟩ = some (.slice b.ta b.t.length b.tc) := by
  have hc : ∀ j, j < 5 → (l.flatMap stepCells)[k * 5 + j]? = (stepCells b)[j]? := fun j hj => by
    rw [flat_get stepCells 5 (by omega) (fun _ => rfl), show (k * 5 + j) / 5 = k by omega, show (k * 5 + j) % 5 = j by omega, hb]; rfl
  obtain ⟨g, off, hA, hg, c0⟩ := h.cell (k := k * 5 + 0) (u := .int .i64 b.what) (by rw [hc 0 (by omega)]; rfl)
  obtain ⟨g1, off1, hA1, _, c1⟩ := h.cell (k := k * 5 + 1) (u := .int .i64 b.op) (by rw [hc 1 (by omega)]; rfl)
  obtain ⟨g2, off2, hA2, _, c2⟩ := h.cell (k := k * 5 + 2) (u := .int .i64 b.n) (by rw [hc 2 (by omega)]; rfl)
  obtain ⟨g3, off3, hA3, _, c3⟩ := h.cell (k := k * 5 + 3) (u := cardV b.data) (by rw [hc 3 (by omega)]; rfl)
  obtain ⟨g4, off4, hA4, _, c4⟩ := h.cell (k := k * 5 + 4) (u := .slice b.ta b.t.length b.tc) (by rw [hc 4 (by omega)]; rfl)
  subst hA
  injection hA1 with hA1; injection hA1 with e1 e2; subst e1; subst e2
  injection hA2 with hA2; injection hA2 with e1 e2; subst e1; subst e2
  injection hA3 with hA3; injection hA3 with e1 e2; subst e1; subst e2
  injection hA4 with hA4; injection hA4 with e1 e2; subst e1; subst e2
  exact ⟨g, off, rfl, hg, c0, by rw [Nat.add_assoc]; exact c1, by rw [Nat.add_assoc]; exact c2, by rw [Nat.add_assoc]; exact c3, by rw [Nat.add_assoc]; exact c4⟩
section
variable {W w : World} {F : List SA} {x : Nat} {s : DK}
set_option maxRecDepth 100000 in
set_option maxHeartbeats 8000000 in
theorem one_step (wh op n : Int) (da ta : Option Addr) (d : List UInt8) (t : List Rec) (dc tc : Nat) (hd : CardB W F da d dc) (ht : RecsRd W F ta t) (hf : FitV t) (h : s.ok) (S : SL W (diskS x s :: F) w) : Calls Try.prog 39 #[.pointer (some ⟨x, 0, none⟩), .agg #[.int .i64 wh, .int .i64 op, .int .i64 n, .slice da d.length dc, .slice ta t.length tc]] w fun e w' => e = .returned (.tuple #[]) ∧ SL W (diskS x (stepDK s ⟨wh, op, n, (da, d, dc), ta, t, tc⟩) :: F) w' := by
  have HS := Lib.hid S
  have HD := Lib.hid hd
  have HT := Lib.hid ht
  have HF := Lib.hid hf
  have HH := Lib.hid h
  clear S hd ht hf h
  go_enter Try.func39, Try.ntmps39
  go_upto_region 1 with fail
  refine name_world (P := Code.wp _ _ _ _) ?_
  intro wA hwA
  have H1 := Lib.hid (SL.cast hwA (HS.out.allocC #[.int .i64 wh, .int .i64 op, .int .i64 n, .slice da d.length dc, .slice ta t.length tc] 80))
  clear hwA HS
  generalize w.heap.size = sb at *
  obtain ⟨L, K, z⟩ := H1.out.look
  by_cases h0 : wh = 0
  · subst h0
    go_wp2_with fail
    refine (do_any op da d dc (fun wx Sx => HD.out wx Sx.drop) HH.out H1.out.s1).mono ?_
    rintro e w2 ⟨A2, c2, rfl, S2⟩
    have H2 := Lib.hid S2.drop.s1.drop
    clear S2 H1 L K z
    go_wp2
    go_end0
    exact ⟨rfl, H2.out⟩
  · have t0 : (wh == 0) = false := by simp; omega
    by_cases h1 : wh = 1
    · subst h1
      go_wp2_with fail
      refine (undo_any n HH.out H1.out.s1).mono ?_
      rintro e w2 ⟨rfl, S2⟩
      have H2 := Lib.hid S2.s1.drop
      clear S2 H1 L K z
      go_wp2
      go_end0
      exact ⟨rfl, H2.out⟩
    · have t1 : (wh == 1) = false := by simp; omega
      by_cases h2 : wh = 2
      · subst h2
        go_wp2_with fail
        refine (set_any n ta t tc (fun wx Sx => HT.out wx Sx.drop) HF.out HH.out H1.out.s1).mono ?_
        rintro e w2 ⟨rfl, S2⟩
        have H2 := Lib.hid S2.s1.drop
        clear S2 H1 L K z
        go_wp2
        go_end0
        exact ⟨rfl, H2.out⟩
      · have t2 : (wh == 2) = false := by simp; omega
        have HE := Lib.hid (show stepDK s ⟨wh, op, n, (da, d, dc), ta, t, tc⟩ = dkPower s by unfold stepDK; rw [if_neg h0, if_neg h1, if_neg h2])
        clear h0 h1 h2
        go_wp2_with fail
        refine (power_any HH.out H1.out.s1).mono ?_
        rintro e w2 ⟨rfl, S2⟩
        have H2 := Lib.hid S2.s1.drop
        clear S2 H1 L K z
        go_wp2
        go_end0
        rw [HE.out]
        exact ⟨rfl, H2.out⟩
def PlayR (W : World) (F : List SA) (ser : ByteArray) (cy hd : Int) (l : List StepV) (e : Ending) (w' : World) : Prop :=
  (newOk ser cy hd = true ∧ ∃ x, e = .returned (.pointer (some ⟨x, 0, none⟩)) ∧ SL W (diskS x (playDK (freshDK ser cy.toNat hd.toNat) l) :: F) w') ∨ (newOk ser cy hd = false ∧ e = .returned (.pointer none) ∧ SL W F w')
theorem newOk_ok {ser : ByteArray} {cy hd : Int} (h : newOk ser cy hd = true) : (freshDK ser cy.toNat hd.toNat).ok := by
  unfold newOk at h
  simp only [Bool.and_eq_true, decide_eq_true_eq] at h
  exact fresh_ok (by omega) (by omega)
set_option maxRecDepth 100000 in
set_option maxHeartbeats 8000000 in
theorem play_any (ser : ByteArray) (hz : ser.size ≤ 140737488355328) (cy hd : Int) (A : Option Addr) (l : List StepV) (c : Nat) (hl : l.length ≤ 140737488355328) (hat : At W W.heap.size A (l.flatMap stepCells)) (hg : ∀ b ∈ l, StepV.good W b) (S : SL W F w) :
    Calls Try.prog 21 #[.agg #[.string ser, .int .i64 cy, .int .i64 hd, .slice A l.length c]] w (PlayR W F ser cy hd l) := by
  have HA := Lib.hid hat
  have HG := Lib.hid hg
  have HS := Lib.hid S
  clear S hat hg
  go_enter Try.func21, Try.ntmps21
  go_upto_region 1 with fail
  refine name_world (P := Code.wp _ _ _ _) ?_
  intro wA hwA
  have H1 := Lib.hid (SL.cast hwA (HS.out.allocC #[.string ser, .int .i64 cy, .int .i64 hd, .slice A l.length c] 47))
  clear hwA HS
  generalize w.heap.size = sb at *
  obtain ⟨L, K, z⟩ := H1.out.look
  go_wp2_with fail
  refine (new_any ser hz cy hd H1.out).mono ?_
  intro e w1 hn
  unfold NewR at hn
  cases hok : newOk ser cy hd with
  | false =>
    rw [hok, if_neg (by simp)] at hn
    obtain ⟨rfl, S1⟩ := hn
    have H2 := Lib.hid (And.intro hok S1.drop)
    clear S1 H1 L K z hok
    go_wp2
    go_ret
    exact .inr ⟨H2.out.1, rfl, H2.out.2⟩
  | true =>
    rw [hok, if_pos rfl] at hn
    obtain ⟨x, rfl, S1⟩ := hn
    have HOK := Lib.hid hok
    have H2 := Lib.hid (show SL W (diskS x (playDK (freshDK ser cy.toNat hd.toNat) (l.take 0)) :: _ :: F) w1 from S1)
    have hdk := newOk_ok hok
    have HDK := Lib.hid hdk
    clear S1 H1 L K z hok hdk
    generalize hs0 : freshDK ser cy.toNat hd.toNat = s0 at *
    have HSE := Lib.hid hs0
    clear hs0
    go_upto_region 5 with fail
    go_loopw [5] (fun i wr => ∃ k : Nat, k ≤ l.length ∧ i = .int .i64 k ∧ SL W (diskS x (playDK s0 (l.take k)) :: cel sb #[.string ser, .int .i64 cy, .int .i64 hd, .slice A l.length c] 47 :: F) wr) (fun i _ => l.length - (intOf i).toNat)
    case atStart => exact ⟨0, Nat.zero_le _, rfl, H2.out⟩
    case round =>
      obtain ⟨k, hk, rfl, S3⟩ := hrel
      have H3 := Lib.hid S3
      clear S3 H2
      obtain ⟨L, K, z⟩ := H3.out.s1.look
      by_cases hlt : k < l.length
      · have hb : l[k]? = some l[k] := by simp [hlt]
        have hgb := HG.out l[k] (List.getElem_mem hlt)
        generalize l[k] = b at hb hgb
        obtain ⟨g, off, hA, hg, c0, c1, c2, c3, c4⟩ := step_cells HA.out hb
        subst hA
        have HLT := Lib.hid hlt
        have hbel := H3.out.below
        have d0 := (hbel.cell (p := ⟨g, off + k * 5, none⟩) hg).trans c0
        have d1 := (hbel.cell (p := ⟨g, off + k * 5 + 1, none⟩) hg).trans c1
        have d2 := (hbel.cell (p := ⟨g, off + k * 5 + 2, none⟩) hg).trans c2
        have d3 := (hbel.cell (p := ⟨g, off + k * 5 + 3, none⟩) hg).trans c3
        have d4 := (hbel.cell (p := ⟨g, off + k * 5 + 4, none⟩) hg).trans c4
        have HO := Lib.hid (one_step b.what b.op b.n b.data.1 b.ta b.data.2.1 b.t b.data.2.2 b.tc (good_card hgb) (good_recs hgb) hgb.2.2 (play_ok (l := l.take k) HDK.out) H3.out)
        have HB := Lib.hid (play_take (s := s0) hb)
        obtain ⟨wh, op, n, ⟨da, d, dc⟩, ta, t, tc⟩ := b
        dsimp only [cardV] at d0 d1 d2 d3 d4 HO
        clear hb hgb c0 c1 c2 c3 c4 hbel
        go_wp2_with fail
        refine HO.out.mono ?_
        rintro e w4 ⟨rfl, S4⟩
        rw [← HB.out] at S4
        have H4 := Lib.hid S4
        clear S4 H3 HO L K z d0 d1 d2 d3 d4
        go_wp2
        go_roundw
        case rel => exact ⟨k + 1, HLT.out, by go_num, H4.out⟩
        case measure => have := HLT.out; simp [intOf]; omega
      · obtain rfl : k = l.length := by omega
        go_wp2
        go_ret
        rw [List.take_of_length_le (Nat.le_refl _)] at H3
        exact .inl ⟨HOK.out, x, rfl, by rw [HSE.out]; exact H3.out.s1.drop⟩
end
end Go.Proofs.Ytmkndbledppniaa
