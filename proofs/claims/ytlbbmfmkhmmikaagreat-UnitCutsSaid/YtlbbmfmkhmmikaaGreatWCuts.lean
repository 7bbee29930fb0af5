/- UnitCuts: the walk. -/
import Derived.Test.YtlbbmfmkhmmikaaGreatCutL
import Derived.Test.YtlbbmfmkhmmikaaGreatFrame
import Derived.Deep.CutRange
namespace Go.Proofs.YtlbbmfmkhmmikaaGreat
open Go.RowKit
set_option maxRecDepth 100000 in
set_option maxHeartbeats 16000000 in
theorem walk_unitCuts (w : World) (a : Option Addr) (l : List U.CardV) (cap : Nat) (hl : l.length ≤ cap) (hcm : cap ≤ maxLen) (ha : At w w.heap.size a (l.map U.cardV)) (hx : ∀ x ∈ l, U.CardV.good w w.heap.size x) (hz : ∀ x ∈ l, x.2.1.length ≤ 140737488355328) (ch co : UInt8) :
    Calls Tryz.prog 3 #[.slice a l.length cap, .int .u8 (ch.toNat : Int), .int .u8 (co.toNat : Int)] w fun e w' => e = .returned (.bool true) ∧ Below w.heap.size w w' := by
  have hm : l.length ≤ maxLen := by omega
  unfold maxLen at hm
  have HX := Lib.hid hx
  have HZ := Lib.hid hz
  have HA := Lib.hid ha
  have hch := ch.toNat_lt
  have hco := co.toNat_lt
  clear hx ha hcm hl hz
  generalize ch.toNat = how at *
  generalize co.toNat = other at *
  obtain ⟨hw, hhw, hwl⟩ : ∃ f : Nat, ((how : Int) % 3) = (f : Int) ∧ f < 3 := ⟨how % 3, by omega, by omega⟩
  have HS := Lib.hid (SL.start w)
  go_enter Tryz.func3, Tryz.ntmps3
  go_wp2_with fail
  refine (plant_any HS.out).mono ?_
  rintro e w1 ⟨x, v, bs, rfl, S1⟩
  have H1 := Lib.hid S1
  clear S1 HS
  unfold ptrV
  go_wp2_with fail
  refine (works_any H1.out).mono ?_
  rintro e w2 ⟨rfl, S2⟩
  rw [cutG_plant] at S2
  have H2 := Lib.hid S2
  have HO := Lib.hid plant_ok
  rw [cutG_plant] at HO
  clear S2 H1
  go_wp2_with fail
  obtain ⟨nn, hn1, hn2⟩ : ∃ n : Nat, n ≤ l.length ∧ n = min l.length 20 := ⟨_, Nat.min_le_left _ _, rfl⟩
  go_loopw [8, 9] (fun o i wr => ∃ (k : Nat) (A3 : Option Addr) (c3 : Nat) (ps : List T.BV) (la : Option Nat), k ≤ nn ∧ i = .int .i64 k ∧ o = .slice A3 k c3 ∧ ps.length = k ∧ ps.map Prod.snd = (dsOf l k).map mkB ∧
    (la = none ∨ la = some 3) ∧ (la = some 3 ∨ k = 0) ∧ (cutG (tpW (dsOf l k)) uDisk la false).ok k ∧
    SL w [rowT 33 3 (.slice A3 k c3) k (ps.flatMap T.blkCells), star (ps.map T.datS), setO x v bs (cutG (tpW (dsOf l k)) uDisk la false)] wr) (fun _ i _ => nn - (intOf i).toNat)
  case atStart => exact ⟨0, none, 0, [], none, Nat.zero_le _, rfl, rfl, rfl, rfl, Or.inl rfl, Or.inr rfl, HO.out, H2.out.empty.nilT _ _⟩
  case round =>
    obtain ⟨k, A3, c3, ps, la, hk, rfl, rfl, hp1, hp2, hla, hla2, hok, S3⟩ := hrel
    have H3 := Lib.hid S3
    have HP := Lib.hid (And.intro hp1 (And.intro hp2 (And.intro hla (And.intro hla2 hok))))
    clear hp1 hp2 hla hla2 hok S3 H2
    go_upto_region 6 with fail
    go_cut [28] from 21 to 55 (fun s28 wx => s28 = .bool (decide (k < nn)) ∧ wx = wr)
    case first =>
      by_cases h1 : k < l.length
      · by_cases h2 : k < 20
        · go_wp2
          go_meet
          case rel => exact ⟨congrArg Value.bool (by simp; omega), rfl⟩
        · go_wp2
          go_meet
          case rel => exact ⟨congrArg Value.bool (by simp; omega), rfl⟩
      · go_wp2
        go_meet
        case rel => exact ⟨congrArg Value.bool (by simp; omega), rfl⟩
    case rest =>
      obtain ⟨rfl, rfl⟩ := hcut
      by_cases hlt : k < nn
      · obtain ⟨b, hb⟩ : ∃ b, l[k]? = some b := ⟨l[k]'(by omega), List.getElem?_eq_getElem (by omega)⟩
        have HGD := Lib.hid (HX.out b (List.mem_of_getElem? hb))
        have hdl := HZ.out b (List.mem_of_getElem? hb)
        obtain ⟨g, off, rfl, hgb, hgc⟩ := HA.out.cell (k := k) (u := U.cardV b) (by rw [List.getElem?_map, hb]; rfl)
        have HC := Lib.hid (fun (wx : World) (h : Below w.heap.size w wx) => ((h.cell (p := ⟨g, off + k, none⟩) hgb).trans hgc))
        obtain ⟨Ab, d, cb⟩ := b
        dsimp only at hdl
        have HBK := Lib.hid hb
        clear hgc hb
        go_upto_region 8 with fail
        go_cut [10] from 21 to 55 (fun s10 wx => ∃ (A : Option Addr) (c : Nat), s10 = .slice A d.length c ∧ SL w [rowS 5 1 (.slice A d.length c) d.length (Lib.byteCells d), rowT 33 3 (.slice A3 k c3) k (ps.flatMap T.blkCells), star (ps.map T.datS), setO x v bs (cutG (tpW (dsOf l k)) uDisk la false)] wx)
        case first =>
          have h0 := H3.out.lit #[] 5 1 0 rfl (by decide)
          have H4 := Lib.hid h0
          have hc0 := HC.out _ h0.below
          unfold U.cardV at hc0
          clear h0
          go_wp2_with (at_builtin; refine wpList_appS rfl _ _ _ rfl U.bElem _ 0 [] rfl H4.out _ Ab d.length cb (Lib.byteCells d) rfl (HGD.out.1.below H4.out.below) (by rw [byteCells_len, Nat.mul_one]) (byteCells_one _) (by unfold maxLen; omega) (by omega) ?_
                       intro A6 c6 w6 S6
                       simp only [Nat.zero_add, List.nil_append] at S6
                       have H6 := Lib.hid S6
                       clear S6 hc0)
          go_meet
          case rel => exact ⟨A6, c6, rfl, H6.out⟩
        case rest =>
          obtain ⟨A6, c6, rfl, S6⟩ := hcut
          have H6 := Lib.hid S6
          clear S6 H3
          go_upto_if 39 with fail
          go_cut [10] from 21 to 55 (fun s10 wx => ∃ (A : Option Addr) (c : Nat), s10 = .slice A (d.take 60).length c ∧ SL w [rowS 5 1 (.slice A (d.take 60).length c) (d.take 60).length (Lib.byteCells (d.take 60)), rowT 33 3 (.slice A3 k c3) k (ps.flatMap T.blkCells), star (ps.map T.datS), setO x v bs (cutG (tpW (dsOf l k)) uDisk la false)] wx)
          case first =>
            have hcap := (own_cap H6.out.own).1
            by_cases h60 : 60 < d.length
            · go_wp2
              go_meet
              case rel =>
                have e1 : (d.take 60).length = 60 := by simp; omega
                have h := rowS_short (k := 60) H6.out (by omega)
                rw [← bc_take] at h
                exact ⟨A6, c6, by rw [e1]; try rfl, by rw [e1]; exact h⟩
            · go_wp2
              go_meet
              case rel =>
                have e1 : d.take 60 = d := List.take_of_length_le (by omega)
                exact ⟨A6, c6, by rw [e1], by rw [e1]; exact H6.out⟩
          case rest =>
            obtain ⟨A7, c7, rfl, S7⟩ := hcut
            have H7 := Lib.hid S7
            clear S7 H6
            go_upto_if 44 with fail
            go_cut [10] from 21 to 55 (fun s10 wx => ∃ (A : Option Addr) (c : Nat), s10 = .slice A (normC d).length c ∧ SL w [rowS 5 1 (.slice A (normC d).length c) (normC d).length (Lib.byteCells (normC d)), rowT 33 3 (.slice A3 k c3) k (ps.flatMap T.blkCells), star (ps.map T.datS), setO x v bs (cutG (tpW (dsOf l k)) uDisk la false)] wx)
            case first =>
              by_cases h0 : d.length = 0
              · obtain rfl : d = [] := List.eq_nil_of_length_eq_zero h0
                have S8 := (H7.out.lit #[.int .u8 0] 5 1 1 rfl (by decide)).s1.drop
                have H8 := Lib.hid S8
                clear S8
                go_wp2
                go_meet
                case rel => exact ⟨_, 1, rfl, H8.out⟩
              · have e1 : normC d = d.take 60 := by unfold normC; rw [if_neg h0]
                have h1 : ¬ min 60 d.length = 0 := by omega
                go_wp2
                go_meet
                case rel => exact ⟨A7, c7, by rw [e1], by rw [e1]; exact H7.out⟩
            case rest =>
              obtain ⟨A8, c8, rfl, S8⟩ := hcut
              have H8 := Lib.hid S8
              clear S8 H7
              obtain ⟨hq1, hq2⟩ := normC_len d
              have hce : (cutG (tpW (dsOf l k)) uDisk la false).act 384 1 (normC d) = (cutG (tpW (dsOf l (k + 1))) uDisk (some 3) false, [], 12, 0) := by
                rw [dsOf_succ HBK.out]
                exact cutG_write HP.out.2.2.1 (by rw [dsOf_len (by omega)]; omega) hq1 (by show (normC d).length ≤ 1024; omega)
              have hok2 := HP.out.2.2.2.2.act 384 1 (normC d)
              rw [hce] at hok2
              have HCE := Lib.hid (act_at hce A8 c8 (cardB_head rfl) (by omega) HP.out.2.2.2.2 (by omega) H8.out.s3)
              have hmk : (ps ++ [((.slice A8 (normC d).length c8 : Value), mkB (normC d))]).map Prod.snd = (dsOf l (k + 1)).map mkB := by rw [dsOf_succ HBK.out]; simp [HP.out.2.1]
              have HM := Lib.hid (And.intro hmk hok2)
              clear hmk hok2 hce
              generalize normC d = nd at *
              go_wp2_with fail
              refine HCE.out.mono ?_
              rintro e w9 ⟨A9, c9, rfl, S9⟩
              have H9 := Lib.hid S9.drop
              clear S9 HCE H8
              go_wp2_with fail
              refine (fine_yes _ _).mono ?_
              rintro e w10 ⟨rfl, b10⟩
              have H10 := Lib.hid (H9.out.grow b10).s2
              clear b10 H9
              have hps := HP.out.1
              go_wp2_with (at_builtin; refine wpList_pushT rfl _ _ _ rfl T.blkElem w10 [.bool false, .slice A8 nd.length c8, .bool false] 1 rfl rfl (by simp [Value.oneCell']) _ k _ rfl rfl H10.out (by unfold maxLen; omega) (by omega) ?_
                           intro A11 c11 w11 S11
                           have H11 := Lib.hid S11
                           clear S11 H10)
              go_roundw
              case rel =>
                refine ⟨k + 1, A11, c11, ps ++ [(.slice A8 nd.length c8, mkB nd)], some 3, by omega, by go_num, rfl, by simp [hps], HM.out.1, Or.inr rfl, Or.inl rfl, HM.out.2, ?_⟩
                have h := (SL.snoc (P := T.datS (.slice A8 nd.length c8, mkB nd)) H11.out.s2.s3.s1).s1
                simp only [List.map_append, List.map_cons, List.map_nil, List.flatMap_append, List.flatMap_cons, List.flatMap_nil, List.append_nil]
                exact h
              case measure => simp [intOf]; omega
      · rw [show decide (k < nn) = false from decide_eq_false hlt]
        obtain rfl : k = nn := by omega
        have hds : (dsOf l k).length = k := dsOf_len hn1
        have hk20 : k ≤ 20 := by omega
        clear hn2 hlt
        have S4 := H3.out
        rw [← HP.out.1] at S4
        have S5 := T.blksS_close (v := .slice A3 ps.length c3) S4
        rw [HP.out.2.1, HP.out.1] at S5
        have H4 := Lib.hid S5
        have HQ := Lib.hid HP.out.2.2
        clear S4 S5 H3 HP HO HX HA HZ
        generalize dsOf l k = ds at *
        have hc3 : k ≤ c3 := (T.blksS_slice H4.out).elim fun A h => h.elim fun c h => by
          have e := h.1
          injection e with _ _ e3
          have := h.2.1
          simp only [List.length_map] at this
          omega
        go_upto_if 60 with fail
        go_cut [8] from 56 to 158 (fun s8 wx => ∃ (A : Option Addr) (c n0 : Nat) (bs0 wb : List T.Blk) (tp : T.TP) (u : UN) (la : Option Nat) (mm : Nat), s8 = .slice A wb.length c ∧ wb = bs0.take wb.length ∧ wb.length ≤ 20 ∧ (T.tpUndo tp hw).1.bs = wb ∧ (cutG tp u la false).ok mm ∧ mm ≤ 100 ∧
          SL w [T.blksS (.slice A n0 c) bs0, setO x v bs (cutG tp u la false)] wx)
        case first =>
          by_cases ho : 128 ≤ other
          · go_wp2_with fail
            refine (act_at (cutG_other (op := (other : Int)) HQ.out.1 (by omega)) none 0 (l := []) cardB_nil (by decide) HQ.out.2.2 (by omega) H4.out.s1).mono ?_
            rintro e w5 ⟨A5, c5, rfl, S5⟩
            have H5 := Lib.hid S5.drop.s1
            have hok2 := HQ.out.2.2.act 400 (other : Int) []
            rw [cutG_other HQ.out.1 (by omega)] at hok2
            go_wp2_with fail
            go_meet
            case rel => exact ⟨A3, c3, k, ds.map mkB, ds.map mkB, _, _, some 4, k + 1, by simp [hds], List.take_length.symm, by simp; omega, tpS_cut (HQ.out.2.1.imp id fun h => List.eq_nil_of_length_eq_zero (by omega)), hok2, by omega, H5.out⟩
          · have HU := Lib.hid (undo_bs ds hwl)
            have HE := Lib.hid (fun h : k = 0 => show ds = [] from List.eq_nil_of_length_eq_zero (by omega))
            by_cases h1 : hw = 1
            · subst h1
              by_cases h0 : k = 0
              · go_wp2
                go_meet
                case rel => exact ⟨A3, c3, k, ds.map mkB, ds.map mkB, tpW ds, uDisk, la, k, by simp [hds], List.take_length.symm, by simp; omega, by rw [HU.out, HE.out h0]; rfl, HQ.out.2.2, by omega, H4.out⟩
              · go_wp2
                go_meet
                case rel =>
                  have e1 : ((ds.map mkB).take (k - 1)).length = k - 1 := by simp; omega
                  exact ⟨A3, c3, k, ds.map mkB, (ds.map mkB).take (k - 1), tpW ds, uDisk, la, k, by rw [e1], by rw [e1], by omega, by rw [HU.out]; simp [wantC, hds], HQ.out.2.2, by omega, H4.out⟩
            · by_cases h2 : hw = 2
              · subst h2
                by_cases h0 : k = 0
                · go_wp2
                  go_meet
                  case rel => exact ⟨A3, c3, k, ds.map mkB, ds.map mkB, tpW ds, uDisk, la, k, by simp [hds], List.take_length.symm, by simp; omega, by rw [HU.out, HE.out h0]; rfl, HQ.out.2.2, by omega, H4.out⟩
                · obtain ⟨b, hb⟩ : ∃ b, (ds.map mkB)[k - 1]? = some b := ⟨(ds.map mkB)[k - 1]'(by simp; omega), List.getElem?_eq_getElem (by simp; omega)⟩
                  have hk' : k = (ds.map mkB).length := by simp [hds]
                  have S4 := H4.out
                  rw [show (Value.slice A3 k c3) = .slice A3 (ds.map mkB).length c3 by rw [← hk']] at S4
                  obtain ⟨g, ps2, A4, c4, rfl, hps, hpp, S5⟩ := T.blk_open S4 hb
                  rw [← hk'] at S5
                  obtain ⟨g3, S6⟩ := T.rowT_set (j := (k - 1) * 3 + 2) S5 (.bool true)
                  have g4 : wc.frozen? ⟨g, (k - 1) * 3 + 2, none⟩ = false := g3 _
                  rw [T.blk_setc ps2 (k - 1) _ b hpp] at S6
                  have S7 := S6.s1
                  rw [← T.dats_set ps2 (k - 1) _ b hpp] at S7
                  have S8 := T.blk_close (bs := (ds.map mkB).modify (k - 1) fun b => { b with bad := true }) (n := k) (by rw [T.blk_modify ps2 (k - 1) _ b hpp, hps]) (by simp [hds]) S7.s1
                  obtain ⟨k0, k1, k2⟩ := T.blk_cells S5 hpp
                  have H8 := Lib.hid S8
                  clear S4 S5 S6 S7 S8 g3 H4 hk'
                  go_wp2
                  have hne : ds ≠ [] := fun h => h0 (by rw [← hds, h]; rfl)
                  go_meet
                  case rel => exact ⟨some ⟨g, 0, none⟩, c3, k, (ds.map mkB).modify (k - 1) (fun b => { b with bad := true }), (ds.map mkB).modify (k - 1) (fun b => { b with bad := true }), tpW ds, uDisk, la, k, by simp [hds], List.take_length.symm, by simp; omega, by rw [HU.out]; simp [wantC, hds, hne], HQ.out.2.2, by omega, H8.out⟩
              · have h00 : hw = 0 := by omega
                subst h00
                by_cases h0 : k = 0
                · go_wp2
                  go_meet
                  case rel => exact ⟨A3, c3, k, ds.map mkB, ds.map mkB, tpW ds, uDisk, la, k, by simp [hds], List.take_length.symm, by simp; omega, by rw [HU.out, HE.out h0]; rfl, HQ.out.2.2, by omega, H4.out⟩
                · go_wp2
                  go_meet
                  case rel => exact ⟨A3, c3, k, ds.map mkB, ds.map mkB, tpW ds, uDisk, la, k, by simp [hds], List.take_length.symm, by simp; omega, by rw [HU.out]; rfl, HQ.out.2.2, by omega, H4.out⟩
        case rest =>
          obtain ⟨A, c, n0, bs0, wb, tp, u, la2, mm, rfl, hwb, hw20, hun, hok, hmm, S5⟩ := hcut
          have H5 := Lib.hid S5.s1
          have hcut' : (cutG tp u la2 false).cut hw = (cutG (T.tpUndo tp hw).1 (u.undo hw) la2 true, 0) := cutG_cut (by omega)
          have hok2 := ST.ok.cut hok hw
          rw [hcut'] at hok2
          have HC := Lib.hid (cut_at hcut' hok H5.out)
          have HK := Lib.hid (And.intro hwb (And.intro hun hok2))
          clear hwb hun hok hok2 S5 hcut' H4 HQ
          go_wp2_with fail
          refine HC.out.mono ?_
          rintro e w6 ⟨rfl, S6⟩
          have H6 := Lib.hid S6
          clear S6 HC H5
          generalize (T.tpUndo tp hw).1 = tq at *
          generalize u.undo hw = uq at *
          have hD := down_any H6.out
          rw [show (cutG tq uq la2 true).off = true from rfl] at hD
          have HD := Lib.hid hD
          clear hD
          go_wp2_with fail
          refine HD.out.mono ?_
          rintro e w7 ⟨rfl, rfl⟩
          clear HD
          go_wp2_with fail
          refine (cut_at (s2 := cutG tq uq la2 true) (r := 171) (cutG_cut2 (by omega)) HK.out.2.2 H6.out).mono ?_
          rintro e w8 ⟨rfl, S8⟩
          have H8 := Lib.hid S8
          clear S8 H6
          have hu1 : (cutG tq uq la2 true).us[3]? = some (mkU cTape (.tape nmA tq)) := rfl
          have hb1 := (set_open H8.out).1
          obtain ⟨tb1, db1, hp1⟩ := bs_get hb1 hu1
          have hg1 : getP 4 bs (cutG tq uq la2 true) 384 = ptrV db1 := by rw [getP_some cutG_f3 hp1 hu1]; rfl
          have HG1 := getTape_any 384 HK.out.2.2.len H8.out
          rw [hg1] at HG1
          have HT1 := Lib.hid HG1
          have HB1 := Lib.hid (And.intro hb1 hp1)
          clear hb1 hp1 hg1 HG1
          unfold ptrV at HT1
          have hfit : T.Fit tq.bs := (HK.out.2.2.us _ (List.mem_of_getElem? hu1)).dev.2.1.fit
          have HF := Lib.hid hfit
          clear hfit
          go_wp2_with fail
          refine HT1.out.mono ?_
          rintro e w9 ⟨rfl, rfl⟩
          have H9 := Lib.hid (dev_open HB1.out.2 hu1 H8.out).2
          clear HT1
          go_wp2_with fail
          refine (T.blocks_any (s := tq) H9.out HF.out).mono ?_
          rintro e w10 ⟨v10, rfl, S10⟩
          have H10 := Lib.hid S10
          clear S10 H9
          obtain ⟨A10, c10, rfl, hc1, hc2⟩ := T.blksS_slice H10.out
          clear hc1 hc2
          have h1 := T.blksS_at H10.out
          have S11 := dev_same (v := v) HB1.out.1 HB1.out.2 hu1 H10.out.drop
          have h2 := T.blksS_at S11.drop
          have h3 : T.BlksAt w10 A wb := by rw [HK.out.1]; exact h2.take' _
          have e1 := HK.out.2.1
          have HBL := Lib.hid (blocks_any A10 A tq.bs c10 c w10 h1 (by rw [e1]; exact h3) (by rw [e1]; omega))
          rw [e1] at HBL
          have H11 := Lib.hid S11
          clear S11 h1 h2 h3 H8
          rw [e1]
          go_wp2_with fail
          refine HBL.out.mono ?_
          rintro e w11 ⟨rfl, b11⟩
          have H12 := Lib.hid ((H11.out.grow b11).lit #[.int .u8 1] 5 1 1 rfl (by decide)).s1
          clear b11 HBL H11 H10
          go_wp2_with fail
          refine (act_at cutG_off3 _ _ (l := [1]) (cardB_head rfl) (by decide) HK.out.2.2 (by omega) H12.out).mono ?_
          rintro e w13 ⟨A13, c13, rfl, S13⟩
          have S14 := (S13.drop.allocC #[.slice A13 0 c13, .int .i64 14, .int .i64 64] 30).lit #[.int .u8 1] 5 1 1 rfl (by decide)
          rw [World.size_alloc] at S14
          have H14 := Lib.hid S14.s2
          clear S13 S14 H12
          go_wp2_with fail
          refine (act_at cutG_off1 _ _ (l := [1]) (cardB_head rfl) (by decide) HK.out.2.2 (by omega) H14.out).mono ?_
          rintro e w15 ⟨A15, c15, rfl, S15⟩
          have H15 := Lib.hid (S15.drop.allocC #[.slice A15 0 c15, .int .i64 14, .int .i64 64] 30)
          clear S15 H14
          obtain ⟨L15, _, _⟩ := H15.out.look
          obtain ⟨L14, _, _⟩ := H15.out.drop.drop.drop.look
          have hok3 := ST.ok.up HK.out.2.2
          rw [cutG_up] at hok3
          have HK2 := Lib.hid hok3
          have H15b := Lib.hid H15.out.s1
          clear hok3
          go_wp2_with fail
          refine (up_at cutG_up HK.out.2.2 H15b.out).mono ?_
          rintro e w16 ⟨rfl, S16⟩
          have H16 := Lib.hid S16
          clear S16 H15 H15b L15 L14
          have hr : (T.tpPower tq).bs = wb ∧ (T.tpPower tq).pos = 0 := ⟨HK.out.2.1, rfl⟩
          have HR := Lib.hid hr
          clear hr
          generalize T.tpPower tq = tr at *
          generalize uq.up = ur at *
          have hD := down_any H16.out
          rw [show (cutG tr ur none false).off = false from rfl] at hD
          have HD := Lib.hid hD
          clear hD
          go_wp2_with fail
          refine HD.out.mono ?_
          rintro e w17 ⟨rfl, rfl⟩
          clear HD
          go_wp2_with fail
          refine (up_at (s2 := cutG tr ur none false) (r := 8) cutG_up2 HK2.out H16.out).mono ?_
          rintro e w18 ⟨rfl, S18⟩
          have H18 := Lib.hid S18
          clear S18 H16
          have hu2 : (cutG tr ur none false).us[3]? = some (mkU cTape (.tape nmA tr)) := rfl
          have hb2 := (set_open H18.out).1
          obtain ⟨tb2, db2, hp2⟩ := bs_get hb2 hu2
          have hg2 : getP 4 bs (cutG tr ur none false) 384 = ptrV db2 := by rw [getP_some cutG_f3 hp2 hu2]; rfl
          have HG2 := getTape_any 384 HK2.out.len H18.out
          rw [hg2] at HG2
          have HT2 := Lib.hid HG2
          have HB2 := Lib.hid (And.intro hb2 hp2)
          clear hb2 hp2 hg2 HG2
          unfold ptrV at HT2
          have hfit2 : T.Fit tr.bs := (HK2.out.us _ (List.mem_of_getElem? hu2)).dev.2.1.fit
          have HF2 := Lib.hid hfit2
          clear hfit2
          go_wp2_with fail
          refine HT2.out.mono ?_
          rintro e w19 ⟨rfl, rfl⟩
          have H19 := Lib.hid (dev_open HB2.out.2 hu2 H18.out).2
          clear HT2
          go_wp2_with fail
          refine (T.blocks_any (s := tr) H19.out HF2.out).mono ?_
          rintro e w20 ⟨v20, rfl, S20⟩
          have H20 := Lib.hid S20
          clear S20 H19
          obtain ⟨A20, c20, rfl, hc1, hc2⟩ := T.blksS_slice H20.out
          clear hc1 hc2
          have h1 := T.blksS_at H20.out
          have S21 := dev_same (v := v) HB2.out.1 HB2.out.2 hu2 H20.out.drop
          have h2 := T.blksS_at S21.drop.drop.drop.drop.drop
          have h3 : T.BlksAt w20 A wb := by rw [HK.out.1]; exact h2.take' _
          have e2 := HR.out.1
          have HBL := Lib.hid (blocks_any A20 A tr.bs c20 c w20 h1 (by rw [e2]; exact h3) (by rw [e2]; omega))
          rw [e2] at HBL
          have H21 := Lib.hid S21
          clear S21 h1 h2 h3 H18 H20
          rw [e2]
          go_wp2_with fail
          refine HBL.out.mono ?_
          rintro e w21 ⟨rfl, b21⟩
          have H22 := Lib.hid (H21.out.grow b21)
          clear b21 HBL H21 hu2 HB2
          have hu3 : (cutG tr ur none false).us[3]? = some (mkU cTape (.tape nmA tr)) := rfl
          have hb3 := (set_open H22.out).1
          obtain ⟨tb3, db3, hp3⟩ := bs_get hb3 hu3
          have hg3 : getP 4 bs (cutG tr ur none false) 384 = ptrV db3 := by rw [getP_some cutG_f3 hp3 hu3]; rfl
          have HG3 := getTape_any 384 HK2.out.len H22.out
          rw [hg3] at HG3
          have HT3 := Lib.hid HG3
          have HB3 := Lib.hid (And.intro hb3 hp3)
          clear hb3 hp3 hg3 HG3
          unfold ptrV at HT3
          go_wp2_with fail
          refine HT3.out.mono ?_
          rintro e w22 ⟨rfl, rfl⟩
          have H23 := Lib.hid (dev_open HB3.out.2 hu3 H22.out).2
          clear HT3
          go_wp2_with fail
          refine (T.at_any (s := tr) H23.out).mono ?_
          rintro e w23 ⟨rfl, S23⟩
          have H24 := Lib.hid (dev_same (v := v) HB3.out.1 HB3.out.2 hu3 S23)
          clear S23 H23 H22 hu3 HB3
          rw [HR.out.2]
          have hu4 : (cutG tr ur none false).us[1]? = some (mkU cPunch (.punch 0 [])) := rfl
          have hb4 := (set_open H24.out).1
          obtain ⟨tb4, db4, hp4⟩ := bs_get hb4 hu4
          have hg4 : getP 2 bs (cutG tr ur none false) 13 = ptrV db4 := by rw [getP_some cutG_f1 hp4 hu4]; rfl
          have HG4 := getPunch_any 13 HK2.out.len H24.out
          rw [hg4] at HG4
          have HT4 := Lib.hid HG4
          have HB4 := Lib.hid (And.intro hb4 hp4)
          clear hb4 hp4 hg4 HG4
          unfold ptrV at HT4
          go_wp2_with fail
          refine HT4.out.mono ?_
          rintro e w24 ⟨rfl, rfl⟩
          have H25 := Lib.hid (dev_open HB4.out.2 hu4 H24.out).2
          clear HT4
          go_wp2_with fail
          refine (U.pundeck_any db4 0 [] H25.out (by decide) (fun c hc => by cases hc)).mono ?_
          rintro e w25 ⟨A25, c25, rfl, S25⟩
          have H26 := Lib.hid (dev_same (v := v) HB4.out.1 HB4.out.2 hu4 S25.drop)
          clear S25 H25
          go_wp2
          go_ret
          exact ⟨rfl, H26.out.below⟩
end Go.Proofs.YtlbbmfmkhmmikaaGreat
