/- UnitrecPrints: the walk. -/
import Derived.Test.YtgklbilkfmieoaaLawPr
namespace Go.Proofs.Ytgklbilkfmieoaa
open Go.RowKit

set_option maxRecDepth 100000 in
set_option maxHeartbeats 4000000 in
theorem walk_unitrecPrints (W : World) (a : Option Addr) (l : List ActV) (cap : Nat) (hl : l.length ≤ cap) (hcm : cap ≤ maxLen) (ha : At W W.heap.size a (l.flatMap actCells)) (hx : ∀ x ∈ l, ActV.good W W.heap.size x) :
    Calls Try.prog 3 #[.slice a l.length cap] W fun e W' => e = .returned (.bool true) ∧ Below W.heap.size W W' := by
  have hm : l.length ≤ maxLen := by omega
  have HX := Lib.hid hx
  have HA := Lib.hid ha
  have HM := Lib.hid hm
  unfold maxLen at hm
  clear hx ha hcm hl
  go_enter Try.func3, Try.ntmps3
  go_wp2_with fail
  refine (works_any _).mono ?_
  rintro e w1 ⟨rfl, b1⟩
  have B1 := Lib.hid b1
  clear b1
  go_wp2_with fail
  refine (light_any a l cap w1 W.heap.size (HA.out.below B1.out) HM.out (fun x hx => (HX.out x hx).below B1.out)).mono ?_
  rintro e w2 ⟨rfl, m2, rfl⟩
  cases hlt : lightB l
  · go_wp2
    go_ret
    exact ⟨rfl, by have := B1.out; (repeat' (first | (with_reducible exact Below.refl _ _) | (with_reducible assumption) | (with_reducible refine below_drewN ?_ _) | (with_reducible refine Below.drew ?_) | (with_reducible refine Below.alloc ?_ ?_ _) | (with_reducible refine Below.setCell ?_ ?_ _) | (with_reducible refine below_row ?_ ?_ _) | (with_reducible exact Nat.le_refl _) | omega | (simp only [World.size_alloc, World.size_setCell, World.size_drew, World.size_drewN]; omega) | (simp; done) | (simp; omega)))⟩
  have h200 : l.length ≤ 200 := by
    unfold lightB at hlt
    simp only [Bool.and_eq_true, decide_eq_true_eq] at hlt
    exact hlt.2
  have HL := Lib.hid hlt
  clear hlt
  have B2 := Lib.hid (show Below W.heap.size W (w1.drewN m2) by have := B1.out; (repeat' (first | (with_reducible exact Below.refl _ _) | (with_reducible assumption) | (with_reducible refine below_drewN ?_ _) | (with_reducible refine Below.drew ?_) | (with_reducible refine Below.alloc ?_ ?_ _) | (with_reducible refine Below.setCell ?_ ?_ _) | (with_reducible refine below_row ?_ ?_ _) | (with_reducible exact Nat.le_refl _) | omega | (simp only [World.size_alloc, World.size_setCell, World.size_drew, World.size_drewN]; omega) | (simp; done) | (simp; omega))))
  generalize w1.drewN m2 = w2 at *
  clear B1
  go_wp2_with fail
  refine (pnew_any _).mono ?_
  rintro e w3 ⟨rfl, p3, b3⟩
  have P3 := Lib.hid (p3.mono B2.out.size)
  have B3 := Lib.hid (B2.out.trans (b3.mono B2.out.size))
  clear p3 b3 B2
  generalize w2.heap.size = pb at *
  go_wp2_with fail
  refine name_world (P := Code.wp _ _ _ _) ?_
  intro w4 hw4
  have b4 : Below w3.heap.size w3 w4 := by rw [hw4]; (repeat' (first | (with_reducible exact Below.refl _ _) | (with_reducible assumption) | (with_reducible refine below_drewN ?_ _) | (with_reducible refine Below.drew ?_) | (with_reducible refine Below.alloc ?_ ?_ _) | (with_reducible refine Below.setCell ?_ ?_ _) | (with_reducible refine below_row ?_ ?_ _) | (with_reducible exact Nat.le_refl _) | omega | (simp only [World.size_alloc, World.size_setCell, World.size_drew, World.size_drewN]; omega) | (simp; done) | (simp; omega)))
  have q4 : QrAt w4 W.heap.size w3.heap.size ⟨0, [], 0⟩ := ⟨B3.out.size, none, 0, by rw [hw4]; exact hl_new rfl, World.ownsRow_nil _ _ _ _⟩
  have Q4 := Lib.hid q4
  have P4 := Lib.hid (P3.out.grow b4)
  have B4 := Lib.hid (B3.out.trans (b4.mono B3.out.size))
  clear q4 hw4 b4 P3 B3
  generalize w3.heap.size = qb at *
  go_loopw [5] (fun i wr => ∃ (k : Nat) (s : PS), k ≤ l.length ∧ i = .int .i64 k ∧ s.fit k ∧ PrAt wr W.heap.size pb s ∧ QrAt wr W.heap.size qb s ∧ Below W.heap.size W wr) (fun i _ => l.length - (intOf i).toNat)
  case atStart => exact ⟨0, _, Nat.zero_le _, rfl, ⟨by simp, by simp, by simp⟩, P4.out, Q4.out, B4.out⟩
  case round =>
    obtain ⟨k, s, hk, rfl, hfit, hp, hq, hb⟩ := hrel
    have HFIT := Lib.hid hfit
    have HP := Lib.hid hp
    have HQ := Lib.hid hq
    have HB := Lib.hid hb
    clear hfit hp hq hb P4 Q4 B4
    by_cases hlt : k < l.length
    · have hgood := (HX.out l[k] (List.getElem_mem hlt)).below HB.out
      obtain ⟨b, off, rfl, hbb, c0, c1, c2, c3⟩ := act_cell (HA.out.below HB.out) hlt
      have hl4 : l[k].lightB = true := by
        have h := HL.out
        unfold lightB at h
        rw [Bool.and_eq_true] at h
        exact List.all_eq_true.1 h.1 _ (List.getElem_mem hlt)
      generalize l[k] = x at *
      obtain ⟨kd, op, ⟨A1, d1, e1⟩, C, cards, cc⟩ := x
      simp only [cardV] at c0 c1 c2
      have HGD := Lib.hid hgood.1
      have HC := Lib.hid (fun (wx : World) (h : Below W.heap.size wr wx) => (⟨(h.cell (p := ⟨b, off + k * 4 + 1, none⟩) hbb).trans c1, (h.cell (p := ⟨b, off + k * 4 + 2, none⟩) hbb).trans c2⟩ : wx.cell? ⟨b, off + k * 4 + 1, none⟩ = some (.int .i64 op) ∧ wx.cell? ⟨b, off + k * 4 + 2, none⟩ = some (.slice A1 d1.length e1)))
      have hd4 : d1.length ≤ 400 := by
        unfold ActV.lightB at hl4
        simp only [Bool.and_eq_true, decide_eq_true_eq] at hl4
        exact hl4.1
      clear hl4
      have h63 : d1.length ≤ maxLen := Nat.le_trans hgood.1.2.1 hgood.1.2.2
      clear hgood c3
      have hkd := kd.toNat_lt
      by_cases h8 : 6 ≤ kd.toNat % 8
      · have hz := HB.out.size
        go_wp2_with fail
        refine (ppower_any pb W.heap.size s wr HP.out).mono ?_
        rintro e w6 ⟨rfl, p6, f6⟩
        have Q6 := HQ.out.beside1 HP.out f6
        have B6 := Lib.hid (HB.out.trans (f6.to_below (fun b _ e => e ▸ HP.out.1) hz))
        have P6 := Lib.hid p6
        obtain ⟨hqb, Aq, cq, rq, oq⟩ := Q6
        obtain ⟨L, F, zq⟩ := row_look rq
        have OQ := Lib.hid oq
        have RQ := Lib.hid rq
        clear p6 f6 rq oq HP HQ
        go_wp2_with fail
        refine name_world (P := fun W => Calls _ _ _ W _) ?_
        intro w9 hw9
        have f9 : Fr (fun b => b = qb) w6 w9 := by rw [hw9]; exact (Fr.refl (fun b => b = qb) w6).setCell (fun _ => rfl) _
        have Q9 := Lib.hid (show QrAt w9 W.heap.size qb { s with sense := 0 } from ⟨hqb, Aq, cq, by rw [hw9]; exact hl_set (by rfl) RQ.out, f9.own OQ.out (fun g hg e => own_row_ne OQ.out RQ.out (by decide) (e ▸ hg))⟩)
        have P9 := Lib.hid (P6.out.beside1 (s' := s) ⟨hqb, Aq, cq, RQ.out, OQ.out⟩ f9)
        have B9 := Lib.hid (B6.out.trans (f9.to_below (fun b _ e => e ▸ hqb) B6.out.size))
        have F9 := Lib.hid (fit_calm HFIT.out)
        clear f9 hw9 L F OQ RQ P6 B6
        generalize ({ s with sense := 0 } : PS) = s9 at *
        refine (pat_any pb W.heap.size _ _ P9.out).mono ?_
        rintro e w10 ⟨rfl, m10, rfl⟩
        have P10 := Lib.hid (P9.out.grow (show Below w9.heap.size w9 (w9.drewN m10) by (repeat' (first | (with_reducible exact Below.refl _ _) | (with_reducible assumption) | (with_reducible refine below_drewN ?_ _) | (with_reducible refine Below.drew ?_) | (with_reducible refine Below.alloc ?_ ?_ _) | (with_reducible refine Below.setCell ?_ ?_ _) | (with_reducible refine below_row ?_ ?_ _) | (with_reducible exact Nat.le_refl _) | omega | (simp only [World.size_alloc, World.size_setCell, World.size_drew, World.size_drewN]; omega) | (simp; done) | (simp; omega)))))
        have Q10 := Lib.hid (Q9.out.grow (show Below w9.heap.size w9 (w9.drewN m10) by (repeat' (first | (with_reducible exact Below.refl _ _) | (with_reducible assumption) | (with_reducible refine below_drewN ?_ _) | (with_reducible refine Below.drew ?_) | (with_reducible refine Below.alloc ?_ ?_ _) | (with_reducible refine Below.setCell ?_ ?_ _) | (with_reducible refine below_row ?_ ?_ _) | (with_reducible exact Nat.le_refl _) | omega | (simp only [World.size_alloc, World.size_setCell, World.size_drew, World.size_drewN]; omega) | (simp; done) | (simp; omega)))))
        have B10 := Lib.hid (show Below W.heap.size W (w9.drewN m10) by have := B9.out; (repeat' (first | (with_reducible exact Below.refl _ _) | (with_reducible assumption) | (with_reducible refine below_drewN ?_ _) | (with_reducible refine Below.drew ?_) | (with_reducible refine Below.alloc ?_ ?_ _) | (with_reducible refine Below.setCell ?_ ?_ _) | (with_reducible refine below_row ?_ ?_ _) | (with_reducible exact Nat.le_refl _) | omega | (simp only [World.size_alloc, World.size_setCell, World.size_drew, World.size_drewN]; omega) | (simp; done) | (simp; omega))))
        clear P9 Q9 B9
        generalize w9.drewN m10 = w10 at *
        have hfd := F9.out.2.2
        go_wp2_with fail
        refine (rpat_any qb W.heap.size _ (Nat.le_trans hfd (by omega)) _ Q10.out).mono ?_
        rintro e w11 ⟨rfl, m11, rfl⟩
        have P11 := Lib.hid (P10.out.grow (show Below w10.heap.size w10 (w10.drewN m11) by (repeat' (first | (with_reducible exact Below.refl _ _) | (with_reducible assumption) | (with_reducible refine below_drewN ?_ _) | (with_reducible refine Below.drew ?_) | (with_reducible refine Below.alloc ?_ ?_ _) | (with_reducible refine Below.setCell ?_ ?_ _) | (with_reducible refine below_row ?_ ?_ _) | (with_reducible exact Nat.le_refl _) | omega | (simp only [World.size_alloc, World.size_setCell, World.size_drew, World.size_drewN]; omega) | (simp; done) | (simp; omega)))))
        have Q11 := Lib.hid (Q10.out.grow (show Below w10.heap.size w10 (w10.drewN m11) by (repeat' (first | (with_reducible exact Below.refl _ _) | (with_reducible assumption) | (with_reducible refine below_drewN ?_ _) | (with_reducible refine Below.drew ?_) | (with_reducible refine Below.alloc ?_ ?_ _) | (with_reducible refine Below.setCell ?_ ?_ _) | (with_reducible refine below_row ?_ ?_ _) | (with_reducible exact Nat.le_refl _) | omega | (simp only [World.size_alloc, World.size_setCell, World.size_drew, World.size_drewN]; omega) | (simp; done) | (simp; omega)))))
        have B11 := Lib.hid (show Below W.heap.size W (w10.drewN m11) by have := B10.out; (repeat' (first | (with_reducible exact Below.refl _ _) | (with_reducible assumption) | (with_reducible refine below_drewN ?_ _) | (with_reducible refine Below.drew ?_) | (with_reducible refine Below.alloc ?_ ?_ _) | (with_reducible refine Below.setCell ?_ ?_ _) | (with_reducible refine below_row ?_ ?_ _) | (with_reducible exact Nat.le_refl _) | omega | (simp only [World.size_alloc, World.size_setCell, World.size_drew, World.size_drewN]; omega) | (simp; done) | (simp; omega))))
        clear P10 Q10 B10
        generalize w10.drewN m11 = w11 at *
        go_wp2
        go_roundw
        case rel => exact ⟨k + 1, _, by omega, by go_num, F9.out, P11.out, Q11.out, B11.out⟩
        case measure => simp [intOf]; omega
      · have hz := HB.out.size
        have c2' := (HC.out (wr.alloc (.cells #[] 5)) (by (repeat' (first | (with_reducible exact Below.refl _ _) | (with_reducible assumption) | (with_reducible refine below_drewN ?_ _) | (with_reducible refine Below.drew ?_) | (with_reducible refine Below.alloc ?_ ?_ _) | (with_reducible refine Below.setCell ?_ ?_ _) | (with_reducible refine below_row ?_ ?_ _) | (with_reducible exact Nat.le_refl _) | omega | (simp only [World.size_alloc, World.size_setCell, World.size_drew, World.size_drewN]; omega) | (simp; done) | (simp; omega))))).2
        go_wp2_with (at_builtin; refine wpList_append_at (by rfl) _ _ _ (by rfl) bElem wr.heap.size _ 0 [] (by rfl) (World.ownsRow_lit wr #[] 0 (Nat.le_refl _) (by decide) rfl) W.heap.size A1 d1.length e1 (Lib.byteCells d1) (by rfl) (HGD.out.1.below (by (repeat' (first | (with_reducible exact Below.refl _ _) | (with_reducible assumption) | (with_reducible refine below_drewN ?_ _) | (with_reducible refine Below.drew ?_) | (with_reducible refine Below.alloc ?_ ?_ _) | (with_reducible refine Below.setCell ?_ ?_ _) | (with_reducible refine below_row ?_ ?_ _) | (with_reducible exact Nat.le_refl _) | omega | (simp only [World.size_alloc, World.size_setCell, World.size_drew, World.size_drewN]; omega) | (simp; done) | (simp; omega))))) (by rw [byteCells_len, Nat.mul_one]) (byteCells_one _) (by unfold maxLen at *; omega) (by omega) (by simp) ?_
                     intro A6 c6 w6 o6 g6
                     have b6 : Below wr.heap.size wr w6 := ((Below.refl _ _).alloc (Nat.le_refl _) _).grown g6 (by simp) (by intro k hk; simp [Value.ownBlock] at hk; omega)
                     simp only [Nat.zero_add, List.nil_append] at o6
                     have O6 := Lib.hid o6
                     have P6 := Lib.hid (HP.out.grow b6)
                     have Q6 := Lib.hid (HQ.out.grow b6)
                     have B6 := Lib.hid (HB.out.trans (b6.mono hz))
                     have BB6 := Lib.hid (b6.mono hz)
                     have c16 := (HC.out w6 BB6.out).1
                     clear o6 g6 b6 c2')
        refine (pdo_any pb W.heap.size s op A6 d1 c6 w6 P6.out (HFIT.out.good (by omega)) (own_at O6.out) (own_cap O6.out).1 h63).mono ?_
        have F9 := Lib.hid (prDo_fit HFIT.out op d1)
        have HR := Lib.hid (fun (wx : World) (hq : QrAt wx W.heap.size qb s) (hb : Below W.heap.size wr wx) => rdo_any qb W.heap.size s op A1 d1 e1 wx hq (HFIT.out.good (by omega)) ((HGD.out.1.below hb).mono (by have := hb.size; omega)) HGD.out.2.1 h63)
        generalize prDo s op d1 = r at *
        obtain ⟨s', rd, st, sn⟩ := r
        dsimp only at *
        rintro e w7 ⟨⟨A7, c7, rfl, o7⟩, p7, f7⟩
        have O7 := Lib.hid (own_mono o7 (show W.heap.size ≤ _ from B6.out.size))
        have P7 := Lib.hid p7
        have Q7 := Lib.hid (Q6.out.beside P6.out f7)
        have D7 := Lib.hid (own_mono (own_pr O6.out P6.out f7) hz)
        have b7 : Below W.heap.size w6 w7 := f7.to_below (fun b _ => PrT.le P6.out.1 b) B6.out.size
        have B7 := Lib.hid (B6.out.trans b7)
        have BB7 := Lib.hid (BB6.out.trans b7)
        clear o7 p7 f7 b7 O6 P6 Q6 B6 BB6 c16
        go_wp2_with fail
        refine name_world (P := Code.wp _ _ _ _) ?_
        intro w8 hw8
        have b8 : Below w7.heap.size w7 w8 := by rw [hw8]; (repeat' (first | (with_reducible exact Below.refl _ _) | (with_reducible assumption) | (with_reducible refine below_drewN ?_ _) | (with_reducible refine Below.drew ?_) | (with_reducible refine Below.alloc ?_ ?_ _) | (with_reducible refine Below.setCell ?_ ?_ _) | (with_reducible refine below_row ?_ ?_ _) | (with_reducible exact Nat.le_refl _) | omega | (simp only [World.size_alloc, World.size_setCell, World.size_drew, World.size_drewN]; omega) | (simp; done) | (simp; omega)))
        have r8 : w8.heap[w7.heap.size]? = some (.cells #[.slice A7 rd.length c7, .int .i64 st, .int .i64 sn] 36 (0, 0)) := by rw [hw8]; exact hl_new rfl
        have O8 := Lib.hid (own_below O7.out b8)
        have D8 := Lib.hid (own_below D7.out b8)
        have P8 := Lib.hid (P7.out.grow b8)
        have Q8 := Lib.hid (Q7.out.grow b8)
        have B8 := Lib.hid (B7.out.trans (b8.mono B7.out.size))
        have BB8 := Lib.hid (BB7.out.trans (b8.mono B7.out.size))
        have R8 := Lib.hid r8
        clear hw8 b8 r8 O7 D7 P7 Q7 B7 BB7
        generalize w7.heap.size = xb at *
        have HF := Lib.hid (fun (wx : World) (h : Fr (QrT w8 W.heap.size qb) w8 wx) => (⟨h.row R8.out (fun ht => by rcases QrT.type Q8.out _ (hl_lt R8.out) ht _ _ _ R8.out with e | e <;> revert e <;> decide), HC.out wx (BB8.out.trans (h.to_below (fun b _ => QrT.ge Q8.out.1 b) B8.out.size))⟩ : wx.heap[xb]? = some (.cells #[.slice A7 rd.length c7, .int .i64 st, .int .i64 sn] 36 (0, 0)) ∧ wx.cell? ⟨b, off + k * 4 + 1, none⟩ = some (.int .i64 op) ∧ wx.cell? ⟨b, off + k * 4 + 2, none⟩ = some (.slice A1 d1.length e1)))
        refine wp_region_order2 (Below w8.heap.size w8) (Fr (QrT w8 W.heap.size qb) w8) (fun _ h => Fr.of_grow h) [1, 2, 3, 4, 5, 7, 8, 9, 10] [0, 6, 11] [] [12, 13, 14] [] (by kernel_rfl) (by kernel_rfl) (by (repeat' (first | (with_reducible exact Below.refl _ _) | (with_reducible assumption) | (with_reducible refine below_drewN ?_ _) | (with_reducible refine Below.drew ?_) | (with_reducible refine Below.alloc ?_ ?_ _) | (with_reducible refine Below.setCell ?_ ?_ _) | (with_reducible refine below_row ?_ ?_ _) | (with_reducible exact Nat.le_refl _) | omega | (simp only [World.size_alloc, World.size_setCell, World.size_drew, World.size_drewN]; omega) | (simp; done) | (simp; omega)))) (by intro c a d v w h; cases d <;> exact h) ?_
        simp only [pick, List.filterMap_cons, List.filterMap_nil, List.getElem?_cons_zero, List.getElem?_cons_succ]
        repeat (refine wpPure_step (fun K hK => ?_); go_simp; refine hK _ ?_; clear hK K)
        refine wpPure_nil ?_
        repeat (refine wpLoads_step (fun K hK => ?_); go_simp; first | (refine hK _ ?_; clear hK K) | (refine ⟨_, fun wx hx => (by obtain ⟨f0, f1, f2⟩ := HF.out wx hx; obtain ⟨f3, f4, f5⟩ := row_look f0; go_simp; rfl), hK _ ?_⟩; clear hK K))
        refine wpLoads_nil (wpQuiet_nil ?_)
        intro w9 hw9
        refine wpKeep_step (fun K hK => ?_)
        go_simp
        have Q9 := Q8.out.grow hw9
        refine (HR.out w9 Q9 (BB8.out.trans (hw9.mono B8.out.size))).mono ?_
        rintro e w10 ⟨⟨A10, c10, rfl, o10⟩, q10, f10⟩
        have f10' : Fr (QrT w8 W.heap.size qb) w8 w10 := (Fr.of_grow hw9 : Fr (QrT w8 W.heap.size qb) w8 w9).trans f10 (QrT.then_back (Fr.of_grow hw9))
        have hz10 := (f10'.to_below (fun b _ => QrT.ge Q8.out.1 b) B8.out.size).size
        have O10 := Lib.hid (own_mono o10 (show W.heap.size ≤ w9.heap.size by have := hw9.size; have := B8.out.size; omega))
        have Q10 := Lib.hid q10
        have F10 := Lib.hid f10'
        have P10 := Lib.hid (P8.out.beside Q8.out f10')
        have E10 := Lib.hid (own_qr O8.out Q8.out f10')
        have D10 := Lib.hid (own_qr D8.out Q8.out f10')
        have B10 := Lib.hid (B8.out.trans (f10'.to_below (fun b _ => QrT.ge Q8.out.1 b) B8.out.size))
        refine hK _ _ f10' ?_
        clear hK K Q9 hw9 o10 q10 f10 f10'
        refine wpKeep_step (fun K hK => ?_)
        go_simp
        refine (reply_eq A7 A10 rd c7 c10 st sn w10 w10.heap.size (own_at E10.out) (own_at O10.out) (Nat.le_refl _) (by have := own_cap E10.out; omega)).mono ?_
        rintro e w11 ⟨rfl, b11⟩
        refine hK _ _ (F10.out.then b11) ?_
        clear hK K
        refine wpKeep_step (fun K hK => ?_)
        go_simp
        refine hK _ _ (F10.out.then b11) ?_
        clear hK K
        refine wpKeep_nil ?_
        have P11 := Lib.hid (P10.out.grow b11)
        have Q11 := Lib.hid (Q10.out.grow b11)
        have E11 := Lib.hid (own_below E10.out b11)
        have D11 := Lib.hid (own_below D10.out b11)
        have B11 := Lib.hid (B10.out.trans (b11.mono B10.out.size))
        have r11 := (HF.out w11 (F10.out.then b11)).1
        clear b11 O10 E10 D10 P10 Q10 B10 F10 HF
        obtain ⟨L11, F11, z11⟩ := row_look r11
        go_wp2_with fail
        have b12 : Below w11.heap.size w11 (w11.alloc (.cells #[Value.slice A6 d1.length c6, Value.slice A7 rd.length c7] 31)) := by (repeat' (first | (with_reducible exact Below.refl _ _) | (with_reducible assumption) | (with_reducible refine below_drewN ?_ _) | (with_reducible refine Below.drew ?_) | (with_reducible refine Below.alloc ?_ ?_ _) | (with_reducible refine Below.setCell ?_ ?_ _) | (with_reducible refine below_row ?_ ?_ _) | (with_reducible exact Nat.le_refl _) | omega | (simp only [World.size_alloc, World.size_setCell, World.size_drew, World.size_drewN]; omega) | (simp; done) | (simp; omega)))
        have hv : ∀ v ∈ [Value.slice A6 d1.length c6, Value.slice A7 rd.length c7], Wr (w11.alloc (.cells #[Value.slice A6 d1.length c6, Value.slice A7 rd.length c7] 31)) v := by
          intro v hv
          simp only [List.mem_cons, List.not_mem_nil, or_false] at hv
          rcases hv with rfl | rfl
          · exact Wr.of_own (own_below D11.out b12)
          · exact Wr.of_own (own_below E11.out b12)
        refine (spoil_any (some ⟨w11.heap.size, 0, none⟩) 2 [Value.slice A6 d1.length c6, Value.slice A7 rd.length c7] _ (World.ownsRow_lit w11 #[Value.slice A6 d1.length c6, Value.slice A7 rd.length c7] 2 (Nat.zero_le _) (by decide) rfl) hv).mono ?_
        rintro e w9 ⟨rfl, f13⟩
        have P9 := Lib.hid ((P11.out.grow b12).spoilt hv f13)
        have Q9 := Lib.hid ((Q11.out.grow b12).spoilt hv f13)
        have B9 := Lib.hid ((B11.out.trans (b12.mono B11.out.size)).trans (f13.to_below (B := W.heap.size) (by
          rintro g _ ⟨v, hv, hg⟩
          simp only [List.mem_cons, List.not_mem_nil, or_false] at hv
          rcases hv with rfl | rfl
          · exact (own_lt D11.out g hg).1
          · exact (own_lt E11.out g hg).1) (by have := B11.out.size; simp; omega)))
        clear f13 hv b12 P11 Q11 B11 D11 E11 r11 L11 F11 z11
        go_wp2_with fail
        refine (pat_any pb W.heap.size _ _ P9.out).mono ?_
        rintro e w10 ⟨rfl, m10, rfl⟩
        have P10 := Lib.hid (P9.out.grow (show Below w9.heap.size w9 (w9.drewN m10) by (repeat' (first | (with_reducible exact Below.refl _ _) | (with_reducible assumption) | (with_reducible refine below_drewN ?_ _) | (with_reducible refine Below.drew ?_) | (with_reducible refine Below.alloc ?_ ?_ _) | (with_reducible refine Below.setCell ?_ ?_ _) | (with_reducible refine below_row ?_ ?_ _) | (with_reducible exact Nat.le_refl _) | omega | (simp only [World.size_alloc, World.size_setCell, World.size_drew, World.size_drewN]; omega) | (simp; done) | (simp; omega)))))
        have Q10 := Lib.hid (Q9.out.grow (show Below w9.heap.size w9 (w9.drewN m10) by (repeat' (first | (with_reducible exact Below.refl _ _) | (with_reducible assumption) | (with_reducible refine below_drewN ?_ _) | (with_reducible refine Below.drew ?_) | (with_reducible refine Below.alloc ?_ ?_ _) | (with_reducible refine Below.setCell ?_ ?_ _) | (with_reducible refine below_row ?_ ?_ _) | (with_reducible exact Nat.le_refl _) | omega | (simp only [World.size_alloc, World.size_setCell, World.size_drew, World.size_drewN]; omega) | (simp; done) | (simp; omega)))))
        have B10 := Lib.hid (show Below W.heap.size W (w9.drewN m10) by have := B9.out; (repeat' (first | (with_reducible exact Below.refl _ _) | (with_reducible assumption) | (with_reducible refine below_drewN ?_ _) | (with_reducible refine Below.drew ?_) | (with_reducible refine Below.alloc ?_ ?_ _) | (with_reducible refine Below.setCell ?_ ?_ _) | (with_reducible refine below_row ?_ ?_ _) | (with_reducible exact Nat.le_refl _) | omega | (simp only [World.size_alloc, World.size_setCell, World.size_drew, World.size_drewN]; omega) | (simp; done) | (simp; omega))))
        clear P9 Q9 B9
        generalize w9.drewN m10 = w10 at *
        have hfd := F9.out.2.2
        go_wp2_with fail
        refine (rpat_any qb W.heap.size _ (Nat.le_trans hfd (by omega)) _ Q10.out).mono ?_
        rintro e w11 ⟨rfl, m11, rfl⟩
        have P11 := Lib.hid (P10.out.grow (show Below w10.heap.size w10 (w10.drewN m11) by (repeat' (first | (with_reducible exact Below.refl _ _) | (with_reducible assumption) | (with_reducible refine below_drewN ?_ _) | (with_reducible refine Below.drew ?_) | (with_reducible refine Below.alloc ?_ ?_ _) | (with_reducible refine Below.setCell ?_ ?_ _) | (with_reducible refine below_row ?_ ?_ _) | (with_reducible exact Nat.le_refl _) | omega | (simp only [World.size_alloc, World.size_setCell, World.size_drew, World.size_drewN]; omega) | (simp; done) | (simp; omega)))))
        have Q11 := Lib.hid (Q10.out.grow (show Below w10.heap.size w10 (w10.drewN m11) by (repeat' (first | (with_reducible exact Below.refl _ _) | (with_reducible assumption) | (with_reducible refine below_drewN ?_ _) | (with_reducible refine Below.drew ?_) | (with_reducible refine Below.alloc ?_ ?_ _) | (with_reducible refine Below.setCell ?_ ?_ _) | (with_reducible refine below_row ?_ ?_ _) | (with_reducible exact Nat.le_refl _) | omega | (simp only [World.size_alloc, World.size_setCell, World.size_drew, World.size_drewN]; omega) | (simp; done) | (simp; omega)))))
        have B11 := Lib.hid (show Below W.heap.size W (w10.drewN m11) by have := B10.out; (repeat' (first | (with_reducible exact Below.refl _ _) | (with_reducible assumption) | (with_reducible refine below_drewN ?_ _) | (with_reducible refine Below.drew ?_) | (with_reducible refine Below.alloc ?_ ?_ _) | (with_reducible refine Below.setCell ?_ ?_ _) | (with_reducible refine below_row ?_ ?_ _) | (with_reducible exact Nat.le_refl _) | omega | (simp only [World.size_alloc, World.size_setCell, World.size_drew, World.size_drewN]; omega) | (simp; done) | (simp; omega))))
        clear P10 Q10 B10
        generalize w10.drewN m11 = w11 at *
        go_wp2
        go_roundw
        case rel => exact ⟨k + 1, _, by omega, by go_num, F9.out, P11.out, Q11.out, B11.out⟩
        case measure => simp [intOf]; omega
    · obtain rfl : k = l.length := by omega
      go_wp2_with fail
      refine (ppaper_any pb W.heap.size s wr HP.out (HFIT.out.good (by omega))).mono ?_
      rintro e w5 ⟨A5, c5, rfl, o5, b5⟩
      have P5 := Lib.hid (HP.out.grow b5)
      have B5 := Lib.hid (HB.out.trans (b5.mono HB.out.size))
      obtain ⟨_, Aq, cq, rq, oq⟩ := HQ.out.grow b5
      have O5 := Lib.hid o5
      have OQ := Lib.hid oq
      have RQ := Lib.hid rq
      have h8192 := HFIT.out.1
      clear o5 b5 oq rq HP HB HQ
      go_wp2_with fail
      go_loopw [13] (fun i wr => ∃ (k : Nat), k ≤ s.lines.length ∧ i = .int .i64 k ∧ Still w5 wr) (fun i _ => s.lines.length - (intOf i).toNat)
      case atStart => exact ⟨0, Nat.zero_le _, rfl, 0, rfl⟩
      case round =>
        obtain ⟨k, hk, rfl, m, rfl⟩ := hrel
        by_cases hlt : k < s.lines.length
        · obtain ⟨g5, rfl, f50, f51, f52⟩ := line_cell (own_below O5.out (show Below w5.heap.size w5 (w5.drewN m) by (repeat' (first | (with_reducible exact Below.refl _ _) | (with_reducible assumption) | (with_reducible refine below_drewN ?_ _) | (with_reducible refine Below.drew ?_) | (with_reducible refine Below.alloc ?_ ?_ _) | (with_reducible refine Below.setCell ?_ ?_ _) | (with_reducible refine below_row ?_ ?_ _) | (with_reducible exact Nat.le_refl _) | omega | (simp only [World.size_alloc, World.size_setCell, World.size_drew, World.size_drewN]; omega) | (simp; done) | (simp; omega))))) hlt
          obtain ⟨gq, rfl, fq0, fq1, fq2⟩ := line_cell (own_below OQ.out (show Below w5.heap.size w5 (w5.drewN m) by (repeat' (first | (with_reducible exact Below.refl _ _) | (with_reducible assumption) | (with_reducible refine below_drewN ?_ _) | (with_reducible refine Below.drew ?_) | (with_reducible refine Below.alloc ?_ ?_ _) | (with_reducible refine Below.setCell ?_ ?_ _) | (with_reducible refine below_row ?_ ?_ _) | (with_reducible exact Nat.le_refl _) | omega | (simp only [World.size_alloc, World.size_setCell, World.size_drew, World.size_drewN]; omega) | (simp; done) | (simp; omega))))) hlt
          obtain ⟨L, F, z⟩ := row_look (hl_drewN m RQ.out)
          generalize s.lines[k] = x at *
          have S6 := Lib.hid (show Still w5 (w5.drewN m).drew from ⟨m + 1, by first | rfl | simp [World.drewN, World.drew]⟩)
          generalize w5.drewN m = w6 at *
          go_wp2_with fail
          have t0 : (k : Int) < (s.lines.length : Int) := by omega
          have t1 : decide ((s.lines.length : Int) ≤ (k : Int)) = false := by simp; omega
          refine wp_region_order (fun wx => wx = w6.drew) [] [0, 1, 2, 3, 4, 5, 6, 7, 8, 9, 10, 11, 12, 13, 14, 15, 16, 17, 18, 19, 20, 21, 22, 23, 24, 25, 26, 27, 28, 29, 30, 31, 32, 33, 34, 35, 36, 37, 38, 39, 40, 41, 42, 43, 44, 45, 46, 47, 48, 49, 50, 51, 52, 53, 54] [] [] [] (by kernel_rfl) (by kernel_rfl) rfl (by intro c a d v w h; cases d <;> exact h) ?_
          simp only [pick, List.filterMap_cons, List.filterMap_nil, List.getElem?_cons_zero, List.getElem?_cons_succ]
          refine wpPure_nil ?_
          repeat (refine wpLoads_step (fun K hK => ?_); go_simp; first | (refine hK _ ?_; clear hK K) | (refine ⟨_, fun wx hx => (by subst hx; go_simp; rfl), hK _ ?_⟩; clear hK K))
          refine wpLoads_nil (wpQuiet_nil ?_)
          intro w7 hw7
          subst hw7
          refine wpKeep_nil ?_
          go_wp2
          go_roundw
          case rel => exact ⟨k + 1, by omega, by go_num, S6.out⟩
          case measure => simp [intOf]; omega
        · go_wp2_with fail
          obtain ⟨L, F, z⟩ := row_look (hl_drewN m RQ.out)
          have B6 := Lib.hid (show Below W.heap.size W (w5.drewN m) by have := B5.out; (repeat' (first | (with_reducible exact Below.refl _ _) | (with_reducible assumption) | (with_reducible refine below_drewN ?_ _) | (with_reducible refine Below.drew ?_) | (with_reducible refine Below.alloc ?_ ?_ _) | (with_reducible refine Below.setCell ?_ ?_ _) | (with_reducible refine below_row ?_ ?_ _) | (with_reducible exact Nat.le_refl _) | omega | (simp only [World.size_alloc, World.size_setCell, World.size_drew, World.size_drewN]; omega) | (simp; done) | (simp; omega))))
          generalize w5.drewN m = w6 at *
          refine (ppower_nil _).mono ?_
          rintro e w7 ⟨rfl, rfl⟩
          go_wp2_with fail
          refine (pat_nil _).mono ?_
          rintro e w7 ⟨rfl, rfl⟩
          go_wp2_with fail
          refine (ppaper_nil _).mono ?_
          rintro e w7 ⟨rfl, rfl⟩
          go_wp2_with fail
          refine (pdo_nil _ _ _).mono ?_
          rintro e w7 ⟨rfl, b7⟩
          go_wp2_with fail
          refine (reply_eq none none [] 0 0 14 64 w7 0 At.nil_ At.nil_ (Nat.zero_le _) (by simp [maxLen])).mono ?_
          rintro e w8 ⟨rfl, b8⟩
          go_wp2
          go_ret
          exact ⟨rfl, (B6.out.trans (b7.mono (by have := B6.out.size; simpa using this))).trans (b8.mono (by have := B6.out.size; have := b7.size; simp at *; omega))⟩
end Go.Proofs.Ytgklbilkfmieoaa
