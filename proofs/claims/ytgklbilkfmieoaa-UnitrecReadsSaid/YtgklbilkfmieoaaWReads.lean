/- UnitrecReads: the walk. -/
import Derived.Test.YtgklbilkfmieoaaRqOwn
import Derived.Test.YtgklbilkfmieoaaLight
import Derived.Test.YtgklbilkfmieoaaTail3
import Derived.Deep.CutBlock
import Derived.Deep.CutRange
namespace Go.Proofs.Ytgklbilkfmieoaa
open Go.RowKit

set_option maxRecDepth 100000 in
set_option maxHeartbeats 4000000 in
theorem nilReader_any (W w : World) (hW : Below W.heap.size W w) (a : Option Addr) (l : List ActV) (cap : Nat) (hm : l.length ≤ maxLen) (ha : At W W.heap.size a (l.flatMap actCells)) :
    Calls Try.prog 38 #[.slice a l.length cap] w fun e W' => e = .returned (.bool true) ∧ Below W.heap.size W W' := by
  have HA := Lib.hid ha
  have HW := Lib.hid hW
  unfold maxLen at hm
  clear ha hW
  go_enter Try.func38, Try.ntmps38
  go_wp2_with fail
  refine (rpower_nil _).mono ?_
  rintro e w1 ⟨rfl, rfl⟩
  go_wp2_with fail
  go_loopw [4] (fun i wr => ∃ k : Nat, k ≤ l.length ∧ i = .int .i64 k ∧ Below W.heap.size W wr) (fun i _ => l.length - (intOf i).toNat)
  case atStart => exact ⟨0, Nat.zero_le _, rfl, HW.out⟩
  case round =>
    obtain ⟨k, hk, rfl, hb⟩ := hrel
    have HB := Lib.hid hb
    clear hb HW
    by_cases hlt : k < l.length
    · obtain ⟨b, off, rfl, hbb, _, c1, c2, c3⟩ := act_cell HA.out hlt
      generalize l[k] = x at *
      obtain ⟨kd, op, ⟨A1, d1, e1⟩, C, cards, cc⟩ := x
      simp only [cardV] at c1 c2 c3
      have HC := Lib.hid (fun (wx : World) (h : Below wr.heap.size wr wx) => (by
        have h' : Below W.heap.size W wx := HB.out.trans (h.mono HB.out.size)
        exact ⟨(h'.cell (p := ⟨b, off + k * 4 + 1, none⟩) hbb).trans c1, (h'.cell (p := ⟨b, off + k * 4 + 2, none⟩) hbb).trans c2, (h'.cell (p := ⟨b, off + k * 4 + 3, none⟩) hbb).trans c3⟩ : wx.cell? ⟨b, off + k * 4 + 1, none⟩ = some (.int .i64 op) ∧ wx.cell? ⟨b, off + k * 4 + 2, none⟩ = some (.slice A1 d1.length e1) ∧ wx.cell? ⟨b, off + k * 4 + 3, none⟩ = some (.slice C cards.length cc)))
      clear c1 c2 c3
      go_wp2_with fail
      refine wp_region_below wr.heap.size (by kernel_rfl) (by kernel_rfl) ?_
      repeat (refine wpQuiet_step (fun K hK => ?_); go_simp; first | (refine hK _ ?_; clear hK K) | (refine ⟨_, fun wx hx => (rddo_nil _ _ wx).mono (fun e w' h => ⟨h.1, hx.trans (h.2.mono hx.size)⟩), hK _ ?_⟩; clear hK K) | (refine ⟨_, fun wx hx => (reply_eq none none [] 0 0 14 64 wx 0 At.nil_ At.nil_ (Nat.zero_le _) (by simp [maxLen])).mono (fun e w' h => ⟨h.1, hx.trans (h.2.mono hx.size)⟩), hK _ ?_⟩; clear hK K) | (refine ⟨_, fun wx hx => (radd_nil _ wx).mono (fun e w' h => ⟨h.1, h.2 ▸ hx⟩), hK _ ?_⟩; clear hK K) | (refine ⟨_, fun wx hx => (by obtain ⟨f0, f1, f2⟩ := HC.out wx hx; go_simp; rfl), hK _ ?_⟩; clear hK K))
      refine wpQuiet_nil ?_
      intro w2 hw2
      have B2 := Lib.hid (HB.out.trans (hw2.mono HB.out.size))
      go_wp2
      go_roundw
      case rel => exact ⟨k + 1, by omega, by go_num, B2.out⟩
      case measure => simp [intOf]; omega
    · go_wp2_with fail
      refine (rcards_nil _).mono ?_
      rintro e w1 ⟨rfl, rfl⟩
      go_wp2_with fail
      refine (rtaken_nil _).mono ?_
      rintro e w1 ⟨rfl, rfl⟩
      go_wp2_with fail
      refine (rstacked_nil _).mono ?_
      rintro e w1 ⟨rfl, rfl⟩
      go_wp2
      go_ret
      exact ⟨rfl, HB.out⟩

theorem deckRd_own {W : World} {F : List SA} {A : Option Addr} {n c : Nat} {ps : List (Value × List UInt8)} {ds : List (List UInt8)} (h : ps.map Prod.snd = ds) : DeckRd W (rowS 31 1 (.slice A n c) n (ps.map Prod.fst) :: star (ps.map cardS) :: F) A ds :=
  h ▸ DeckRd.own fun _ S => ⟨F, S⟩
theorem few_len {xs : List CardV} (h : fewB xs = true) : xs.length ≤ 20 ∧ ∀ x ∈ xs.map (fun x => x.2.1), x.length ≤ 200 := by
  unfold fewB at h
  simp only [Bool.and_eq_true, decide_eq_true_eq, List.all_eq_true] at h
  refine ⟨h.2, fun x hx => ?_⟩
  obtain ⟨y, hy, rfl⟩ := List.mem_map.1 hx
  exact h.1 y hy
theorem addErr_fit {cs ds : List (List UInt8)} {se tk st : Nat} (h : RdFit se tk st cs) : RdFit se tk st (addCs cs ds) := by
  obtain ⟨h1, h2, h3, h4, h5⟩ := h
  unfold addCs
  split
  · rename_i h0
    unfold addErr at h0
    split at h0
    · omega
    · split at h0
      · rename_i h6 h7
        refine ⟨h1, by simp; omega, by simp; omega, h4, fun c hc => ?_⟩
        rcases List.mem_append.1 hc with hc | hc
        · exact h5 c hc
        · simpa using List.all_eq_true.1 h7 c hc
      · omega
  · exact ⟨h1, h2, h3, h4, h5⟩

set_option maxRecDepth 100000 in
set_option maxHeartbeats 4000000 in
theorem walk_unitrecReads (W : World) (a0 : Option Addr) (l0 : List CardV) (cap0 : Nat) (hl0 : l0.length ≤ cap0) (hcm0 : cap0 ≤ maxLen) (ha0 : At W W.heap.size a0 (l0.map cardV)) (hx0 : ∀ x ∈ l0, CardV.good W W.heap.size x)
    (a : Option Addr) (l : List ActV) (cap : Nat) (hl : l.length ≤ cap) (hcm : cap ≤ maxLen) (ha : At W W.heap.size a (l.flatMap actCells)) (hx : ∀ x ∈ l, ActV.good W W.heap.size x) :
    Calls Try.prog 8 #[.slice a0 l0.length cap0, .slice a l.length cap] W fun e W' => e = .returned (.bool true) ∧ Below W.heap.size W W' := by
  have hm : l.length ≤ maxLen := by omega
  have HX := Lib.hid hx
  have HA := Lib.hid ha
  have HM := Lib.hid hm
  have HX0 := Lib.hid hx0
  have HA0 := Lib.hid ha0
  have HC0 := Lib.hid hcm0
  unfold maxLen at hm
  clear hx ha hcm hl ha0 hx0 hcm0
  go_enter Try.func8, Try.ntmps8
  go_wp2_with fail
  refine (works_any _).mono ?_
  rintro e w1 ⟨rfl, b1⟩
  have H1 := Lib.hid ((SL.start W).grow b1)
  clear b1
  go_wp2_with fail
  refine (few_cards a0 l0 cap0 w1 W.heap.size (HA0.out.below H1.out.1) hl0 HC0.out (fun x hx => (HX0.out x hx).below H1.out.1)).mono ?_
  rintro e w2 ⟨rfl, rfl⟩
  cases hfw : fewB l0
  · go_wp2
    go_ret
    exact ⟨rfl, H1.out.1⟩
  have HFW := Lib.hid (few_len hfw)
  clear hfw
  go_wp2_with fail
  refine (light_any a l cap w1 W.heap.size (HA.out.below H1.out.1) HM.out (fun x hx => (HX.out x hx).below H1.out.1)).mono ?_
  rintro e w2 ⟨rfl, m2, rfl⟩
  have H2 := Lib.hid (H1.out.drewN m2)
  clear H1
  generalize w1.drewN m2 = w2 at *
  cases hlt : lightB l
  · go_wp2
    go_ret
    exact ⟨rfl, H2.out.1⟩
  have h200 : l.length ≤ 200 := by
    unfold lightB at hlt
    simp only [Bool.and_eq_true, decide_eq_true_eq] at hlt
    exact hlt.2
  have HL := Lib.hid hlt
  clear hlt
  have hd20 : l0.length ≤ 20 := HFW.out.1
  have HDB := Lib.hid (fun (F : List SA) => (DeckRd.base HA0.out HX0.out : DeckRd W F a0 (l0.map fun x => x.2.1)))
  have hdl : (l0.map fun x => x.2.1).length = l0.length := List.length_map ..
  have HDL := Lib.hid hdl
  clear hdl
  have H200 := Lib.hid HFW.out.2
  have hds := Lib.hid (rfl : l0.map (fun x => x.2.1) = l0.map (fun x => x.2.1))
  clear hds
  generalize l0.map (fun x => x.2.1) = ds at *
  go_wp2_with fail
  rw [← HDL.out]
  have hd20' : ds.length ≤ 20 := by rw [HDL.out]; exact hd20
  refine (deckof_any a0 ds cap0 H2.out (HDB.out _) (by omega) (fun x hx => by have := H200.out x hx; omega)).mono ?_
  rintro e w3 ⟨A3, c3, rfl, S3⟩
  obtain ⟨ps3, hps3, S3'⟩ := deckS_open S3
  have hpl3 : ps3.length = ds.length := by rw [← hps3, List.length_map]
  rw [hpl3] at S3'
  have H3 := Lib.hid S3'
  have HP3 := Lib.hid (And.intro hps3 hpl3)
  clear S3 S3' H2 hps3 hpl3
  go_wp2_with fail
  have HN := Lib.hid (rnew_any ds A3 c3 H3.out (deckRd_own HP3.out.1) (by unfold maxLen; omega))
  have HQ := Lib.hid (fun (F : List SA) (w : World) (S : SL W F w) => qnew_any ds a0 cap0 S (HDB.out F) (by omega))
  have HFIT := Lib.hid (show addErr [] ds = 0 → RdFit 0 0 0 ds from fun h => by
    have := addErr_fit (ds := ds) (show RdFit 0 0 0 [] from ⟨by omega, by simp, by simp, by simp, by simp⟩)
    unfold addCs at this; rw [if_pos h] at this; exact this)
  have ht : addErr [] ds = 0 ∨ ((addErr [] ds) != 0) = true := by
    by_cases h : addErr [] ds = 0
    · exact Or.inl h
    · exact Or.inr (by simpa using h)
  generalize addErr [] ds = er at *
  refine HN.out.mono ?_
  intro e w4 hn
  rcases ht with h0 | ht
  rotate_left
  · obtain ⟨rfl, S4⟩ := hn.2 (by simpa using ht)
    have H4 := Lib.hid S4
    clear hn S4 HN H3
    go_wp2_with fail
    refine (HQ.out _ _ H4.out).mono ?_
    intro e w5 hq
    obtain ⟨rfl, S5⟩ := hq.2 (by simpa using ht)
    have H5 := Lib.hid (deckS_close' HP3.out.2.symm S5)
    clear hq S5 H4
    go_wp2_with fail
    refine (spoilS H5.out).mono ?_
    rintro e w6 ⟨rfl, S6⟩
    have H6 := Lib.hid S6
    clear S6 H5
    go_wp2_with fail
    refine (nilReader_any W _ H6.out.1 a l cap HM.out HA.out).mono ?_
    rintro e w7 ⟨rfl, b7⟩
    have B7 := Lib.hid b7
    clear b7
    go_wp2
    go_ret
    exact ⟨rfl, B7.out⟩
  subst h0
  obtain ⟨rb, rfl, S4⟩ := hn.1 rfl
  have H4 := Lib.hid S4
  have HF0 := Lib.hid (HFIT.out rfl)
  clear hn S4 HN H3 HFIT
  go_wp2_with fail
  refine (HQ.out _ _ H4.out).mono ?_
  intro e w5 hq
  obtain ⟨qb, rfl, S5⟩ := hq.1 rfl
  have H5 := Lib.hid (deckS_close' HP3.out.2.symm S5.s3.s3)
  clear hq S5 H4 HQ
  go_wp2_with fail
  refine (spoilS H5.out).mono ?_
  rintro e w6 ⟨rfl, S6⟩
  have H6 := Lib.hid S6
  clear S6 H5
  go_wp2_with fail
  go_loopw [10] (fun i wr => ∃ (k se tk st : Nat) (cs : List (List UInt8)), k ≤ l.length ∧ i = .int .i64 k ∧ RdFit se tk st cs ∧ SL W [readqS qb se tk st cs, readerS rb se tk st cs] wr) (fun i _ => l.length - (intOf i).toNat)
  case atStart => exact ⟨0, 0, 0, 0, ds, Nat.zero_le _, rfl, HF0.out, H6.out⟩
  case round =>
    obtain ⟨k, se, tk, st, cs, hk, rfl, hfit, S7⟩ := hrel
    have HF := Lib.hid hfit
    have H7 := Lib.hid S7
    clear hfit S7 H6
    by_cases hlt : k < l.length
    · have hgood := HX.out l[k] (List.getElem_mem hlt)
      obtain ⟨b, off, rfl, hbb, c0, c1, c2, c3⟩ := act_cell HA.out hlt
      have hl4 : l[k].lightB = true := by
        have h := HL.out
        unfold lightB at h
        rw [Bool.and_eq_true] at h
        exact List.all_eq_true.1 h.1 _ (List.getElem_mem hlt)
      generalize l[k] = x at *
      obtain ⟨kd, op, ⟨A1, d1, e1⟩, C, cards, cc⟩ := x
      simp only [cardV] at c0 c1 c2 c3
      have HGD := Lib.hid hgood.1
      unfold ActV.lightB at hl4
      simp only [Bool.and_eq_true, decide_eq_true_eq] at hl4
      have hd4 : d1.length ≤ 400 := hl4.1
      have HFC := Lib.hid (few_len hl4.2)
      have HDB2 := Lib.hid (fun (F : List SA) => (DeckRd.base hgood.2.1 hgood.2.2.2.2 : DeckRd W F C (cards.map fun x => x.2.1)))
      have hcl : cards.length = (cards.map fun x => x.2.1).length := (List.length_map ..).symm
      rw [hcl] at c3
      have hc20 : (cards.map fun x => x.2.1).length ≤ 20 := by rw [← hcl]; exact HFC.out.1
      have HF200 := Lib.hid HFC.out.2
      have h63 : d1.length ≤ maxLen := Nat.le_trans hgood.1.2.1 hgood.1.2.2
      clear hcl HFC hl4 hgood
      generalize cards.map (fun x => x.2.1) = d2 at *
      have HC := Lib.hid (fun (wx : World) (h : SL W [] wx) => (⟨(h.1.cell (p := ⟨b, off + k * 4, none⟩) hbb).trans c0, (h.1.cell (p := ⟨b, off + k * 4 + 1, none⟩) hbb).trans c1, (h.1.cell (p := ⟨b, off + k * 4 + 2, none⟩) hbb).trans c2, (h.1.cell (p := ⟨b, off + k * 4 + 3, none⟩) hbb).trans c3⟩ : wx.cell? ⟨b, off + k * 4, none⟩ = some (.int .u8 (kd.toNat : Int)) ∧ wx.cell? ⟨b, off + k * 4 + 1, none⟩ = some (.int .i64 op) ∧ wx.cell? ⟨b, off + k * 4 + 2, none⟩ = some (.slice A1 d1.length e1) ∧ wx.cell? ⟨b, off + k * 4 + 3, none⟩ = some (.slice C d2.length cc)))
      clear c0 c1 c2 c3
      have hkd := kd.toNat_lt
      obtain ⟨f0, f1, f2, f3⟩ := HC.out wr H7.out.drop.drop
      go_upto_block 2 with fail
      go_cut [] from 51 to 160 (fun wx => ∃ se' tk' st' cs', RdFit se' tk' st' cs' ∧ SL W [readqS qb se' tk' st' cs', readerS rb se' tk' st' cs'] wx)
      case first =>
        by_cases h6 : kd.toNat % 8 = 6
        · have h6' : ((kd.toNat : Int) % 8) = 6 := by omega
          go_wp2_with fail
          refine (rpower_any rb se tk st cs H7.out.s1).mono ?_
          rintro e w8 ⟨rfl, S8⟩
          have H8 := Lib.hid S8.s1
          clear S8
          go_wp2_with fail
          refine (qpower_any qb se tk st cs H8.out).mono ?_
          rintro e w9 ⟨rfl, S9⟩
          have H9 := Lib.hid S9
          clear S9 H8
          go_wp2_with fail
          go_meet
          case rel => exact ⟨0, st, st, cs, ⟨by omega, HF.out.2.1, by have := HF.out.2.2; omega, Nat.le_refl _, HF.out.2.2.2.2⟩, H9.out⟩
        by_cases h7 : kd.toNat % 8 = 7
        · have h6' : ¬ ((kd.toNat : Int) % 8) = 6 := by omega
          have h7' : ((kd.toNat : Int) % 8) = 7 := by omega
          have hd22 : d2.length ≤ maxLen := by unfold maxLen; omega
          go_wp2_with fail
          refine (deckof_any C d2 cc H7.out (HDB2.out _) (by omega) (fun x hx => by have := HF200.out x hx; omega)).mono ?_
          rintro e w8 ⟨A8, c8, rfl, S8⟩
          obtain ⟨ps8, hps8, S8'⟩ := deckS_open S8
          have hpl8 : ps8.length = d2.length := by rw [← hps8, List.length_map]
          rw [hpl8] at S8'
          have H8 := Lib.hid S8'.s3
          have HP8 := Lib.hid (And.intro hps8 hpl8)
          clear S8 S8' hps8 hpl8
          have HR := Lib.hid (fun (w : World) (S : SL W (readerS rb se tk st cs :: rowS 31 1 (.slice A8 d2.length c8) d2.length (ps8.map Prod.fst) :: star (ps8.map cardS) :: [readqS qb se tk st cs]) w) => radd_any rb se tk st cs d2 A8 c8 S (deckRd_own HP8.out.1) HF.out.2.1 hd22)
          have HQ2 := Lib.hid (fun (F : List SA) (w : World) (S : SL W (readqS qb se tk st cs :: F) w) => qadd_any qb se tk st cs d2 C cc S (HDB2.out F) HF.out.2.1 (by omega))
          have HF9 := Lib.hid (addErr_fit (ds := d2) HF.out)
          generalize addErr cs d2 = er2 at *
          generalize addCs cs d2 = cs2 at *
          go_wp2_with fail
          refine wp_region_order3 (SL W []) [0, 1, 3, 4, 5, 6, 7] [8] [2, 9, 10] [] [] [] (by kernel_rfl) (by kernel_rfl) H8.out.drop.drop.drop.drop.drew (by intro c a d v w h; cases d <;> exact h) ?_
          simp only [pick, List.filterMap_cons, List.filterMap_nil, List.getElem?_cons_zero, List.getElem?_cons_succ]
          (repeat (refine wpPure_step (fun K hK => ?_); go_simp; refine hK _ ?_; clear hK K)); refine wpPure_nil ?_
          repeat (refine wpLoads_step (fun K hK => ?_); go_simp; first | (refine hK _ ?_; clear hK K) | (refine ⟨_, fun wx hx => (by obtain ⟨g0, g1, g2, g3⟩ := HC.out wx hx; go_simp; rfl), hK _ ?_⟩; clear hK K))
          refine wpLoads_nil ?_
          (refine wpKeep_step (fun K hK => ?_); go_simp)
          refine (HR.out _ H8.out.drew).mono ?_
          rintro e w9 ⟨rfl, S9⟩
          have H9 := Lib.hid S9.s3
          refine hK _ _ (S9.drop.drop.drop.drop) ?_
          clear hK K S9 H8
          (refine wpKeep_step (fun K hK => ?_); go_simp)
          refine (HQ2.out _ _ H9.out).mono ?_
          rintro e w10 ⟨rfl, S10⟩
          have H10 := Lib.hid S10
          refine hK _ _ (S10.drop.drop.drop.drop) ?_
          clear hK K S10 H9
          (refine wpKeep_step (fun K hK => ?_); go_simp)
          refine hK _ _ (H10.out.drop.drop.drop.drop) ?_
          clear hK K
          refine wpKeep_nil ⟨fun wx => wx = w10, fun wx e => e ▸ H10.out.drop.drop.drop.drop, rfl, wpQuiet_nil fun wx e => wpKeep_nil ?_⟩
          subst e
          have H11 := Lib.hid (deckS_close' HP8.out.2.symm H10.out.s3.s3)
          clear H10
          go_wp2_with fail
          refine (spoilS H11.out).mono ?_
          rintro e w12 ⟨rfl, S12⟩
          have H12 := Lib.hid S12
          clear S12 H11
          go_wp2_with fail
          go_meet
          case rel => exact ⟨se, tk, st, cs2, HF9.out, H12.out⟩
        · have h6' : ¬ ((kd.toNat : Int) % 8) = 6 := by omega
          have h7' : ¬ ((kd.toNat : Int) % 8) = 7 := by omega
          have h0 := H7.out.lit #[] 5 1 0 rfl (by decide)
          have HS := Lib.hid h0
          have f2' := (HC.out _ h0.drop.drop.drop).2.2.1
          clear h0 f2
          go_wp2_with (at_builtin; refine wpList_appS rfl _ _ _ rfl bElem _ 0 [] rfl HS.out _ A1 d1.length e1 (Lib.byteCells d1) rfl (HGD.out.1.below HS.out.1) (by rw [byteCells_len, Nat.mul_one]) (byteCells_one _) (by unfold maxLen; omega) (by omega) ?_
                       intro A6 c6 w6 S6
                       simp only [Nat.zero_add, List.nil_append] at S6
                       have H6 := Lib.hid S6
                       have f16 := (HC.out _ S6.drop.drop.drop).2.1
                       clear S6 f2')
          refine (rddo_any rb se tk st cs op A6 d1 c6 H6.out.s2 (fun _ S => S.s1.at_) h63 HF.out).mono ?_
          have F9 := Lib.hid (rdDo_fit HF.out op d1)
          have HR := Lib.hid (fun (R : List SA) (wx : World) (S : SL W (readqS qb se tk st cs :: R) wx) => qrdo_any qb se tk st cs op A1 d1 e1 S (Rd.base HGD.out.1) h63 HF.out)
          generalize rdDo se tk st cs op d1 = r at *
          obtain ⟨⟨se', tk', st'⟩, rd, xs, sn⟩ := r
          dsimp only at *
          rintro e w7 ⟨A7, c7, rfl, S7⟩
          have H7' := Lib.hid S7
          have hrd : rd.length ≤ maxLen := by have := (own_cap S7.own); omega
          clear S7 H6 f16 H7
          go_wp2_with fail
          refine name_world (P := Code.wp _ _ _ _) ?_
          intro w8 hw8
          have S8 := SL.cast hw8 (H7'.out.allocC #[.slice A7 rd.length c7, .int .i64 xs, .int .i64 sn] 36)
          have S8 := S8.s4
          have H8 := Lib.hid S8
          clear hw8 S8 H7'
          generalize w7.heap.size = xb at *
          refine wp_region_order3 (SL W [cel xb #[.slice A7 rd.length c7, .int .i64 xs, .int .i64 sn] 36, rowS 5 1 (.slice A7 rd.length c7) rd.length (Lib.byteCells rd), readerS rb se' tk' st' cs, rowS 5 1 (.slice A6 d1.length c6) d1.length (Lib.byteCells d1)])
            [1, 2, 3, 4, 5, 7, 8, 9, 10] [0, 6, 11] [12, 13, 14, 15] [16, 17, 18, 19, 20, 21, 22, 23, 24] [] [] (by kernel_rfl) (by kernel_rfl) H8.out.drop.drew (by intro c a d v w h; cases d <;> exact h) ?_
          simp only [pick, List.filterMap_cons, List.filterMap_nil, List.getElem?_cons_zero, List.getElem?_cons_succ]
          (repeat (refine wpPure_step (fun K hK => ?_); go_simp; refine hK _ ?_; clear hK K)); refine wpPure_nil ?_
          repeat (refine wpLoads_step (fun K hK => ?_); go_simp; first | (refine hK _ ?_; clear hK K) | (refine ⟨_, fun wx S => (by obtain ⟨f3, f4, f5⟩ := S.look; obtain ⟨_, g1, g2, g3⟩ := HC.out wx S.drop.drop.drop.drop; go_simp; rfl), hK _ ?_⟩; clear hK K))
          refine wpLoads_nil ?_
          (refine wpKeep_step (fun K hK => ?_); go_simp)
          refine (HR.out _ _ H8.out.drew).mono ?_
          rintro e w10 ⟨A10, c10, rfl, S10⟩
          have H10 := Lib.hid S10
          refine hK _ _ (S10.drop.drop) ?_
          clear hK K S10 H8
          (refine wpKeep_step (fun K hK => ?_); go_simp)
          refine (reply_eq A7 A10 rd c7 c10 xs sn w10 w10.heap.size H10.out.s3.at_ H10.out.at_ (Nat.le_refl _) hrd).mono ?_
          rintro e w11 ⟨rfl, b11⟩
          have H11 := Lib.hid (H10.out.grow b11)
          refine hK _ _ (H11.out.drop.drop) ?_
          clear hK K b11 H10
          (refine wpKeep_step (fun K hK => ?_); go_simp)
          refine hK _ _ (H11.out.drop.drop) ?_
          clear hK K
          (refine wpKeep_step (fun K hK => ?_); go_simp)
          refine hK _ _ (H11.out.drop.drop) ?_
          clear hK K
          have HA6 := Lib.hid H11.out.s5.at_
          refine wpKeep_nil ⟨Below w11.heap.size w11, fun wx h => (H11.out.grow h).drop.drop, Below.refl _ _, ?_⟩
          repeat (refine wpQuiet_step (fun K hK => ?_); go_simp; first | (refine hK _ ?_; clear hK K) | (refine ⟨_, fun wx hx => (same_eq A6 A1 d1 c6 e1 wx wx.heap.size ((HA6.out.below hx).mono hx.size) ((HGD.out.1.below (H11.out.grow hx).1).mono (H11.out.grow hx).1.size) h63).mono (fun e w' h => ⟨h.1, hx.trans (h.2.below _)⟩), hK _ ?_⟩; clear hK K) | (refine ⟨_, fun wx hx => (by obtain ⟨g0, g1, g2, g3⟩ := HC.out wx ((H11.out.grow hx).drop.drop.drop.drop.drop.drop); go_simp; rfl), hK _ ?_⟩; clear hK K))
          refine wpQuiet_nil ?_
          intro w12 hw12
          refine wpKeep_nil ?_
          have H12 := Lib.hid (H11.out.grow hw12)
          clear hw12 H11 HA6
          obtain ⟨L12, K12, z12⟩ := H12.out.s2.look
          go_wp2_with fail
          refine (spoilS (deck_two H12.out.s3.s5)).mono ?_
          rintro e w13 ⟨rfl, S13⟩
          have H13 := Lib.hid S13
          clear S13
          go_wp2_with fail
          go_meet
          case rel => exact ⟨se', tk', st', cs, F9.out.1, H13.out.drop.s1.drop⟩
      case rest =>
        obtain ⟨se', tk', st', cs', hf9, S9⟩ := hcut
        have HF9 := Lib.hid hf9
        have H9 := Lib.hid S9
        clear hf9 S9 H7 HF
        obtain ⟨vq, _, Sq⟩ := readqS_open H9.out
        obtain ⟨Aq, cq, rfl, _, _⟩ := deck_len Sq.s1
        have HB := Lib.hid (fun (wx : World) (h : Below wc.heap.size wc wx) => SL.look (Sq.grow h))
        clear Sq
        go_wp2_with fail
        refine wp_region_below wc.heap.size (by kernel_rfl) (by kernel_rfl) ?_
        repeat (refine wpQuiet_step (fun K hK => ?_); go_simp; first | (refine hK _ ?_; clear hK K) | (refine ⟨_, fun wx hx => (rcards_any rb se' tk' st' cs' (H9.out.grow hx).s1).mono (fun e w' h => ⟨h.1, h.2 ▸ hx⟩), hK _ ?_⟩; clear hK K) | (refine ⟨_, fun wx hx => (rtaken_any rb se' tk' st' cs' (H9.out.grow hx).s1).mono (fun e w' h => ⟨h.1, h.2 ▸ hx⟩), hK _ ?_⟩; clear hK K) | (refine ⟨_, fun wx hx => (rstacked_any rb se' tk' st' cs' (H9.out.grow hx).s1).mono (fun e w' h => ⟨h.1, h.2 ▸ hx⟩), hK _ ?_⟩; clear hK K) | (refine ⟨_, fun wx hx => (by obtain ⟨g0, g1, g2⟩ := HB.out wx hx; go_simp; rfl), hK _ ?_⟩; clear hK K))
        refine wpQuiet_nil ?_
        intro w10 hw10
        have H10 := Lib.hid (H9.out.grow hw10)
        clear hw10
        go_wp2
        go_roundw
        case rel => exact ⟨k + 1, se', tk', st', cs', by omega, by go_num, HF9.out, H10.out⟩
        case measure => simp [intOf]; omega
    · go_wp2
      go_ret
      exact ⟨rfl, H7.out.1⟩
end Go.Proofs.Ytgklbilkfmieoaa
