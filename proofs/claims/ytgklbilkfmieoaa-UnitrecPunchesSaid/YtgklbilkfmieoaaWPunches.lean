/- UnitrecPunches: the walk. -/
import Derived.Test.YtgklbilkfmieoaaQun
import Derived.Test.YtgklbilkfmieoaaDeckS
import Derived.Test.YtgklbilkfmieoaaLight
namespace Go.Proofs.Ytgklbilkfmieoaa
open Go.RowKit

/-- The state of a punch after k acts. -/
def PunFit (k se : Nat) (cs : List (List UInt8)) : Prop := cs.length ≤ k ∧ se < 256 ∧ ∀ c ∈ cs, c.length = 80
theorem punDo_fit {k se : Nat} {cs : List (List UInt8)} (h : PunFit k se cs) (op : Int) (l : List UInt8) : PunFit (k + 1) (punDo se cs op l).1 (punDo se cs op l).2.1 ∧ (punDo se cs op l).2.2.1.length ≤ 1 := by
  obtain ⟨h1, h2, h3⟩ := h
  unfold punDo punOwn
  by_cases e3 : op = 3
  · rw [if_pos e3]; exact ⟨⟨Nat.le_succ_of_le h1, h2, h3⟩, Nat.zero_le _⟩
  rw [if_neg e3]
  by_cases e4 : op = 4
  · rw [if_pos e4]; exact ⟨⟨Nat.le_succ_of_le h1, h2, h3⟩, Nat.le_refl _⟩
  rw [if_neg e4]
  by_cases e1 : op ≠ 1 ∨ 80 < l.length
  · simp only [if_pos e1]; exact ⟨⟨Nat.le_succ_of_le h1, by simp, h3⟩, Nat.zero_le _⟩
  simp only [if_neg e1]
  by_cases e2 : cs.length = 4096
  · simp only [if_pos e2]; exact ⟨⟨Nat.le_succ_of_le h1, by simp, h3⟩, Nat.zero_le _⟩
  simp only [if_neg e2]
  refine ⟨⟨by simp; omega, h2, ?_⟩, Nat.zero_le _⟩
  intro c hc
  rcases List.mem_append.1 hc with hc | hc
  · exact h3 c hc
  · simp only [List.mem_cons, List.not_mem_nil, or_false] at hc; subst hc; simp; omega

set_option maxRecDepth 100000 in
set_option maxHeartbeats 4000000 in
theorem walk_unitrecPunches (W : World) (a : Option Addr) (l : List ActV) (cap : Nat) (hl : l.length ≤ cap) (hcm : cap ≤ maxLen) (ha : At W W.heap.size a (l.flatMap actCells)) (hx : ∀ x ∈ l, ActV.good W W.heap.size x) :
    Calls Try.prog 6 #[.slice a l.length cap] W fun e W' => e = .returned (.bool true) ∧ Below W.heap.size W W' := by
  have hm : l.length ≤ maxLen := by omega
  have HX := Lib.hid hx
  have HA := Lib.hid ha
  have HM := Lib.hid hm
  unfold maxLen at hm
  clear hx ha hcm hl
  go_enter Try.func6, Try.ntmps6
  go_wp2_with fail
  refine (works_any _).mono ?_
  rintro e w1 ⟨rfl, b1⟩
  have H1 := Lib.hid ((SL.start W).grow b1)
  clear b1
  go_wp2_with fail
  refine (light_any a l cap w1 W.heap.size (HA.out.below H1.out.1) HM.out (fun x hx => (HX.out x hx).below H1.out.1)).mono ?_
  rintro e w2 ⟨rfl, m2, rfl⟩
  have H2 := Lib.hid (H1.out.drewN m2)
  clear H1
  generalize w1.drewN m2 = w2 at *
  cases hlt : lightB l
  · go_wp2
    go_ret
    exact ⟨rfl, H2.out.1⟩
  have h200 : l.length ≤ 200 := by
    unfold lightB at hlt
    simp only [Bool.and_eq_true, decide_eq_true_eq] at hlt
    exact hlt.2
  have HL := Lib.hid hlt
  clear hlt
  go_wp2_with fail
  refine (punnew_any H2.out).mono ?_
  rintro e w3 ⟨pb, rfl, S3⟩
  have H3 := Lib.hid S3
  clear S3 H2
  go_wp2_with fail
  refine name_world (P := Code.wp _ _ _ _) ?_
  intro w4 hw4
  have H4 := Lib.hid (qunS_close (deckS_close (ps := []) ((SL.cast hw4 (H3.out.allocC #[.slice none 0 0, .int .i64 (0 : Nat)] 57)).empty.nil _ _)).s1)
  clear hw4 H3
  generalize w3.heap.size = qb at *
  go_loopw [5] (fun i wr => ∃ (k se : Nat) (cs : List (List UInt8)), k ≤ l.length ∧ i = .int .i64 k ∧ PunFit k se cs ∧ SL W [qunS qb se cs, punchS pb se cs] wr) (fun i _ => l.length - (intOf i).toNat)
  case atStart => exact ⟨0, 0, [], Nat.zero_le _, rfl, ⟨by simp, by simp, by simp⟩, H4.out⟩
  case round =>
    obtain ⟨k, se, cs, hk, rfl, hfit, S5⟩ := hrel
    have HF := Lib.hid hfit
    have H5 := Lib.hid S5
    clear hfit S5 H4
    by_cases hlt : k < l.length
    · have hgood := HX.out l[k] (List.getElem_mem hlt)
      obtain ⟨b, off, rfl, hbb, c0, c1, c2, c3⟩ := act_cell HA.out hlt
      have hl4 : l[k].lightB = true := by
        have h := HL.out
        unfold lightB at h
        rw [Bool.and_eq_true] at h
        exact List.all_eq_true.1 h.1 _ (List.getElem_mem hlt)
      generalize l[k] = x at *
      obtain ⟨kd, op, ⟨A1, d1, e1⟩, C, cards, cc⟩ := x
      simp only [cardV] at c0 c1 c2
      have HGD := Lib.hid hgood.1
      have HC := Lib.hid (fun (wx : World) (h : SL W [] wx) => (⟨(h.1.cell (p := ⟨b, off + k * 4, none⟩) hbb).trans c0, (h.1.cell (p := ⟨b, off + k * 4 + 1, none⟩) hbb).trans c1, (h.1.cell (p := ⟨b, off + k * 4 + 2, none⟩) hbb).trans c2⟩ : wx.cell? ⟨b, off + k * 4, none⟩ = some (.int .u8 (kd.toNat : Int)) ∧ wx.cell? ⟨b, off + k * 4 + 1, none⟩ = some (.int .i64 op) ∧ wx.cell? ⟨b, off + k * 4 + 2, none⟩ = some (.slice A1 d1.length e1)))
      have hd4 : d1.length ≤ 400 := by
        unfold ActV.lightB at hl4
        simp only [Bool.and_eq_true, decide_eq_true_eq] at hl4
        exact hl4.1
      have h63 : d1.length ≤ maxLen := Nat.le_trans hgood.1.2.1 hgood.1.2.2
      clear hgood c0 c1 c2 c3 hl4
      have hkd := kd.toNat_lt
      obtain ⟨f0, f1, f2⟩ := HC.out wr H5.out.drop.drop
      go_upto_if 33 with fail
      go_cut [] (fun wx => ∃ se' cs', PunFit (k + 1) se' cs' ∧ SL W [qunS qb se' cs', punchS pb se' cs'] wx)
      case first =>
        by_cases h8 : 6 ≤ kd.toNat % 8
        · go_wp2_with fail
          refine (punpower_any pb se cs H5.out.s1).mono ?_
          rintro e w6 ⟨rfl, S6⟩
          obtain ⟨vq, _, S7⟩ := qunS_open S6.s1
          obtain ⟨L7, K7, z7⟩ := S7.look
          have H7 := Lib.hid S7
          clear S6 S7
          go_wp2_with fail
          go_meet
          case rel => exact ⟨0, cs, ⟨Nat.le_succ_of_le HF.out.1, by decide, HF.out.2.2⟩, qunS_close (se := 0) (H7.out.set rfl)⟩
        · have h0 := H5.out.lit #[] 5 1 0 rfl (by decide)
          have HS := Lib.hid h0
          have f2' := (HC.out _ h0.drop.drop.drop).2.2
          clear h0 f2
          go_wp2_with (at_builtin; refine wpList_appS rfl _ _ _ rfl bElem _ 0 [] rfl HS.out _ A1 d1.length e1 (Lib.byteCells d1) rfl (HGD.out.1.below HS.out.1) (by rw [byteCells_len, Nat.mul_one]) (byteCells_one _) (by unfold maxLen; omega) (by omega) ?_
                       intro A6 c6 w6 S6
                       simp only [Nat.zero_add, List.nil_append] at S6
                       have H6 := Lib.hid S6
                       have f16 := (HC.out _ S6.drop.drop.drop).2.1
                       clear S6 f2')
          refine (pundo_any pb se cs op A6 d1 c6 H6.out.s2 (fun _ S => S.s1.at_) (own_cap H6.out.own).1 h63 (by have := HF.out.1; omega) HF.out.2.1).mono ?_
          have F9 := Lib.hid (punDo_fit HF.out op d1)
          have HR := Lib.hid (fun (R : List SA) (wx : World) (S : SL W (qunS qb se cs :: R) wx) => qundo_any qb se cs op A1 d1 e1 S (Rd.base HGD.out.1) h63 (by have := HF.out.1; omega) HF.out.2.1)
          generalize punDo se cs op d1 = r at *
          obtain ⟨se', cs', rd, st, sn⟩ := r
          dsimp only at *
          rintro e w7 ⟨A7, c7, rfl, S7⟩
          have H7 := Lib.hid S7
          have hrd : rd.length ≤ maxLen := by have := (own_cap S7.own); omega
          clear S7 H6 f16
          go_wp2_with fail
          refine name_world (P := Code.wp _ _ _ _) ?_
          intro w8 hw8
          have S8 := SL.cast hw8 (H7.out.allocC #[.slice A7 rd.length c7, .int .i64 st, .int .i64 sn] 36)
          have S8 := S8.s4
          have H8 := Lib.hid S8
          clear hw8 S8 H7
          generalize w7.heap.size = xb at *
          refine wp_region_order2 (SL W [qunS qb se cs, cel xb #[.slice A7 rd.length c7, .int .i64 st, .int .i64 sn] 36, rowS 5 1 (.slice A7 rd.length c7) rd.length (Lib.byteCells rd), punchS pb se' cs', rowS 5 1 (.slice A6 d1.length c6) d1.length (Lib.byteCells d1)])
            (SL W [cel xb #[.slice A7 rd.length c7, .int .i64 st, .int .i64 sn] 36, rowS 5 1 (.slice A7 rd.length c7) rd.length (Lib.byteCells rd), punchS pb se' cs', rowS 5 1 (.slice A6 d1.length c6) d1.length (Lib.byteCells d1)])
            (fun _ S => S.drop) [1, 2, 3, 4, 5, 7, 8, 9, 10] [0, 6, 11] [] [12, 13, 14] [] (by kernel_rfl) (by kernel_rfl) H8.out.drew (by intro c a d v w h; cases d <;> exact h) ?_
          simp only [pick, List.filterMap_cons, List.filterMap_nil, List.getElem?_cons_zero, List.getElem?_cons_succ]
          repeat (refine wpPure_step (fun K hK => ?_); go_simp; refine hK _ ?_; clear hK K)
          refine wpPure_nil ?_
          repeat (refine wpLoads_step (fun K hK => ?_); go_simp; first | (refine hK _ ?_; clear hK K) | (refine ⟨_, fun wx S => (by obtain ⟨f3, f4, f5⟩ := S.look; obtain ⟨_, g1, g2⟩ := HC.out wx S.drop.drop.drop.drop; go_simp; rfl), hK _ ?_⟩; clear hK K))
          refine wpLoads_nil (wpQuiet_nil ?_)
          intro w9 S9
          (refine wpKeep_step (fun K hK => ?_); go_simp)
          refine (HR.out _ w9 S9).mono ?_
          rintro e w10 ⟨A10, c10, rfl, S10⟩
          have H10 := Lib.hid S10
          refine hK _ _ (S10.drop.drop) ?_
          clear hK K S9 S10 H8
          (refine wpKeep_step (fun K hK => ?_); go_simp)
          refine (reply_eq A7 A10 rd c7 c10 st sn w10 w10.heap.size H10.out.s3.at_ H10.out.at_ (Nat.le_refl _) hrd).mono ?_
          rintro e w11 ⟨rfl, b11⟩
          have H11 := Lib.hid (H10.out.grow b11)
          refine hK _ _ (H11.out.drop.drop) ?_
          clear hK K b11 H10
          (refine wpKeep_step (fun K hK => ?_); go_simp)
          refine hK _ _ (H11.out.drop.drop) ?_
          clear hK K
          refine wpKeep_nil ?_
          obtain ⟨L11, K11, z11⟩ := H11.out.s2.look
          go_wp2_with fail
          refine (spoilS (deck_two H11.out.s3.s5)).mono ?_
          rintro e w12 ⟨rfl, S12⟩
          have H12 := Lib.hid S12
          clear S12
          go_wp2_with fail
          go_meet
          case rel =>
            exact ⟨se', cs', F9.out.1, H12.out.drop.s1.drop⟩
      case rest =>
        obtain ⟨se', cs', hf9, S9⟩ := hcut
        have HF9 := Lib.hid hf9
        have H9 := Lib.hid S9
        clear hf9 S9 H5 HF
        by_cases h10 : k % 10 = 9
        · have h10' : ((k : Int) % 10) = 9 := by omega
          go_wp2_with fail
          refine (pundeck_any pb se' cs' H9.out.s1 (by have := HF9.out.1; omega) (fun c hc => by rw [HF9.out.2.2 c hc]; omega)).mono ?_
          rintro e w10 ⟨A10, c10, rfl, S10⟩
          have H10 := Lib.hid S10
          clear S10
          go_wp2_with fail
          refine (spoilS H10.out).mono ?_
          rintro e w11 ⟨rfl, S11⟩
          have H11 := Lib.hid S11.s1
          clear S11
          go_wp2
          go_roundw
          case rel => exact ⟨k + 1, se', cs', by omega, by go_num, HF9.out, H11.out⟩
          case measure => simp [intOf]; omega
        · have h10' : ¬ ((k : Int) % 10) = 9 := by omega
          go_wp2
          go_roundw
          case rel => exact ⟨k + 1, se', cs', by omega, by go_num, HF9.out, H9.out⟩
          case measure => simp [intOf]; omega
    · obtain rfl : k = l.length := by omega
      have hc4 : cs.length ≤ 200 := by have := HF.out.1; omega
      go_wp2_with fail
      refine (pundeck_any pb se cs H5.out.s1 (by omega) (fun c hc => by rw [HF.out.2.2 c hc]; omega)).mono ?_
      rintro e w6 ⟨A6, c6, rfl, S6⟩
      have H6 := Lib.hid S6
      clear S6 H5
      go_wp2_with fail
      go_loopw [9] (fun i wx => ∃ j : Nat, j ≤ cs.length ∧ i = .int .i64 j ∧ Below w6.heap.size w6 wx) (fun i _ => cs.length - (intOf i).toNat)
      case atStart => exact ⟨0, Nat.zero_le _, rfl, Below.refl _ _⟩
      case round =>
        obtain ⟨j, hj, rfl, bx⟩ := hrel
        have H7 := Lib.hid (H6.out.grow bx)
        have BX := Lib.hid bx
        clear bx
        obtain ⟨vq, _, Sq⟩ := qunS_open H7.out.s2
        obtain ⟨Aq, cq, rfl, _, _⟩ := deck_len Sq.s1
        have HQ := Lib.hid Sq
        clear Sq
        by_cases hjl : j < cs.length
        · have hx63 : cs[j].length ≤ maxLen := by rw [HF.out.2.2 cs[j] (List.getElem_mem hjl)]; decide
          obtain ⟨b7, A7, c7, rfl, d7, a7, _, _⟩ := deck_cell H7.out (j := j) (x := cs[j]) (by simp [hjl])
          obtain ⟨b8, A8, c8, rfl, d8, a8, _, _⟩ := deck_cell HQ.out.s1 (j := j) (x := cs[j]) (by simp [hjl])
          have z8 := HQ.out.look.2.2
          have d9 := HQ.out.look.1 0
          have HA7 := Lib.hid a7
          have HA8 := Lib.hid a8
          generalize cs[j] = x at *
          have HB := Lib.hid (fun (wx : World) (h : Below wr.heap.size wr wx) => (⟨(h.cell (p := ⟨b7, j, none⟩) (World.block_lt_of_cell? wr _ d7)).trans d7, (h.cell (p := ⟨b8, j, none⟩) (World.block_lt_of_cell? wr _ d8)).trans d8, (h.cell (p := ⟨qb, 0, none⟩) z8).trans d9⟩ : wx.cell? ⟨b7, j, none⟩ = some (.slice A7 x.length c7) ∧ wx.cell? ⟨b8, j, none⟩ = some (.slice A8 x.length c8) ∧ wx.cell? ⟨qb, 0, none⟩ = some (.slice (some ⟨b8, 0, none⟩) cs.length cq)))
          have t1 : ¬ (cs.length ≤ j) := by omega
          clear d7 d8 d9 a7 a8
          go_wp2_with fail
          refine wp_region_below wr.heap.size (by kernel_rfl) (by kernel_rfl) ?_
          repeat (refine wpQuiet_step (fun K hK => ?_); go_simp; first | (refine hK _ ?_; clear hK K) | (refine ⟨_, fun wx hx => (same_eq A7 A8 x c7 c8 wx wx.heap.size ((HA7.out.below hx).mono hx.size) ((HA8.out.below hx).mono hx.size) hx63).mono (fun e w' h => ⟨h.1, hx.trans (h.2.below _)⟩), hK _ ?_⟩; clear hK K) | (refine ⟨_, fun wx hx => (by obtain ⟨f0, f1, f2⟩ := HB.out wx hx; go_simp; rfl), hK _ ?_⟩; clear hK K))
          refine wpQuiet_nil ?_
          intro w8 hw8
          have BX8 := Lib.hid (BX.out.trans (hw8.mono BX.out.size))
          go_wp2
          go_roundw
          case rel => exact ⟨j + 1, by omega, by go_num, BX8.out⟩
          case measure => simp [intOf]; omega
        · obtain ⟨L8, K8, z8⟩ := HQ.out.look
          go_wp2_with fail
          refine (punpower_nil _).mono ?_
          rintro e w7 ⟨rfl, rfl⟩
          go_wp2_with fail
          refine (pundeck_nil _).mono ?_
          rintro e w7 ⟨rfl, rfl⟩
          go_wp2_with fail
          refine (pundo_nil _ _ _).mono ?_
          rintro e w7 ⟨rfl, b7⟩
          have B7 := Lib.hid (H7.out.grow b7).1
          clear b7
          go_wp2_with fail
          refine (reply_eq none none [] 0 0 14 64 w7 0 At.nil_ At.nil_ (Nat.zero_le _) (by simp [maxLen])).mono ?_
          rintro e w8 ⟨rfl, b8⟩
          have B8 := Lib.hid (B7.out.trans (b8.mono B7.out.size))
          go_wp2
          go_ret
          exact ⟨rfl, B8.out⟩
end Go.Proofs.Ytgklbilkfmieoaa
