/- DiskWrites: the walk. -/
import Derived.Test.YtmkndbledppniaaImage
import Derived.Test.YtmkndbledppniaaWritesLaw
namespace Go.Proofs.Ytmkndbledppniaa
open Go.RowKit
theorem id_cells {c h r : Nat} (hc : c ≤ 64) (hh : h ≤ 8) (hr : r ≤ 255) : #[Value.int .u8 ((c : Int) / 256), .int .u8 (c : Int), .int .u8 ((h : Int) / 256), .int .u8 (h : Int), .int .u8 ((r : Int) % 256)] = (Lib.byteCells (idL c h r)).toArray := by
  have a1 := half_cells c (by omega)
  have a2 := half_cells h (by omega)
  unfold idL
  rw [byteCells_app, byteCells_app, a1, a2, show (c : Int) % 256 = (c : Int) by omega, show (h : Int) % 256 = (h : Int) by omega, show (r : Int) % 256 = (r : Int) by omega]
  show _ = ([Value.int .u8 ((c : Int) / 256), Value.int .u8 (c : Int)] ++ [Value.int .u8 ((h : Int) / 256), Value.int .u8 (h : Int)] ++ [Value.int .u8 ((UInt8.ofNat r).toNat : Int)]).toArray
  rw [ofNat_small hr]
  rfl
theorem all_cells {c h r k : Nat} {b : List UInt8} (hk : k ≤ 255) (hn : b.length - k ≤ 65535) : Lib.byteCells (idL c h r) ++ [Value.int .u8 ((k : Int) % 256), .int .u8 (((b.length - k : Nat) : Int) / 256), .int .u8 (((b.length - k : Nat) : Int) % 256)] ++ Lib.byteCells b = Lib.byteCells (allL c h r k b) := by
  unfold allL
  rw [byteCells_app, byteCells_app, byteCells_app, half_cells _ hn, show (k : Int) % 256 = (k : Int) by omega]
  show _ = Lib.byteCells (idL c h r) ++ [Value.int .u8 ((UInt8.ofNat k).toNat : Int)] ++ _ ++ _
  rw [ofNat_small hk]
  simp
set_option maxRecDepth 100000 in
set_option maxHeartbeats 16000000 in
/-- With a unit and arguments in their bounds. -/
theorem writes_in (W : World) (ser : ByteArray) (cy hd : Int) (A : Option Addr) (l : List StepV) (c : Nat) (rn kn : Nat) (ba : Option Addr) (b : List UInt8) (bc : Nat) (hd1 : CardAt W ba b bc) (hr : 1 ≤ rn ∧ rn ≤ 255) (hk : kn ≤ 255) (hkb : kn ≤ b.length) (hn : b.length - kn ≤ 65535)
    (hok : newOk ser cy hd = true) (hP : ∀ (w : World) (F : List SA), SL W F w → Calls Try.prog 21 #[.agg #[.string ser, .int .i64 cy, .int .i64 hd, .slice A l.length c]] w (PlayR W F ser cy hd l)) :
    Calls Try.prog 5 #[.agg #[.string ser, .int .i64 cy, .int .i64 hd, .slice A l.length c], .int .i64 (rn : Int), .int .i64 (kn : Int), .slice ba b.length bc] W fun e W' => e = .returned (.bool true) ∧ Below W.heap.size W W' := by
  have HP := Lib.hid hP
  have HD := Lib.hid hd1
  have HOK := Lib.hid hok
  have hbl : b.length ≤ 65790 := by omega
  clear hP hd1 hok
  go_enter Try.func5, Try.ntmps5
  go_upto_region 1 with fail
  refine name_world (P := Code.wp _ _ _ _) ?_
  intro wA hwA
  have H1 := Lib.hid (SL.cast hwA ((SL.start W).allocC #[.string ser, .int .i64 cy, .int .i64 hd, .slice A l.length c] 47))
  clear hwA
  obtain ⟨L, K, z⟩ := H1.out.look
  go_wp2_with fail
  refine (HP.out _ _ H1.out).mono ?_
  rintro e w1 (⟨hok, x, rfl, S1⟩ | ⟨hok, rfl, S1⟩)
  · have HS := Lib.hid (play_ok (l := l) (newOk_ok hok))
    generalize playDK (freshDK ser cy.toNat hd.toNat) l = s at *
    have H2 := Lib.hid S1
    clear S1 hok HP H1 L K z HOK
    generalize (cel W.heap.size #[.string ser, .int .i64 cy, .int .i64 hd, .slice A l.length c] 47 :: [] : List SA) = F0 at *
    have hc : s.cyl ≤ 64 := by have := HS.out.cy; have := HS.out.c1; omega
    have hh : s.head ≤ 8 := by have := HS.out.hd; have := HS.out.h1; omega
    have hR := writes_law (r := rn) (k := kn) (b := b) HS.out hr hk hkb hn
    have HR := Lib.hid hR
    have t1 : ((rn : Int) < 1) = False := eq_false (by omega)
    have t2 : (255 < (rn : Int)) = False := eq_false (by omega)
    have t3 : ((kn : Int) < 0) = False := eq_false (by omega)
    have t4 : (255 < (kn : Int)) = False := eq_false (by omega)
    have t5 : ((b.length : Int) < (kn : Int)) = False := eq_false (by omega)
    have t6 : ((b.length : Int) - (kn : Int)) = ((b.length - kn : Nat) : Int) := by omega
    have t7 : (65535 < ((b.length - kn : Nat) : Int)) = False := eq_false (by omega)
    have HN := Lib.hid (And.intro (And.intro hr hk) (And.intro hkb hn))
    have HA := Lib.hid (arm_any HS.out H2.out)
    clear hr hk hR
    go_wp2_with fail
    refine HA.out.mono ?_
    rintro e w4 ⟨rfl, b4⟩
    have H5 := Lib.hid (H2.out.still b4)
    clear b4 H2 HA
    go_upto_region 6 with fail
    refine name_world (P := Code.wp _ _ _ _) ?_
    intro w5 hw5
    have h6 := SL.cast hw5 (H5.out.lit #[.int .u8 ((s.cyl : Int) / 256), .int .u8 (s.cyl : Int), .int .u8 ((s.head : Int) / 256), .int .u8 (s.head : Int), .int .u8 ((rn : Int) % 256)] 5 1 5 rfl (by decide))
    rw [id_cells hc hh HN.out.1.1.2] at h6
    have H6 := Lib.hid (show SL W (rowS 5 1 (.slice (some ⟨w4.heap.size, 0, none⟩) 5 5) 5 (Lib.byteCells (idL s.cyl s.head rn)) :: diskS x s :: F0) w5 from h6)
    clear hw5 h6 H5
    generalize w4.heap.size = ib at *
    have H7 := Lib.hid (show SL W (rowS 5 1 (.slice (some ⟨w5.heap.size, 0, none⟩) 0 0) 0 [] :: rowS 5 1 (.slice (some ⟨ib, 0, none⟩) 5 5) 5 (Lib.byteCells (idL s.cyl s.head rn)) :: diskS x s :: F0) (w5.alloc (.cells #[] 5)) from H6.out.lit #[] 5 1 0 rfl (by decide))
    have HAT := Lib.hid (show At (w5.alloc (.cells #[] 5)) w5.heap.size (some ⟨ib, 0, none⟩) (Lib.byteCells (idL s.cyl s.head rn)) from H6.out.at_.alloc (Nat.le_refl _) _)
    have h8 : 8 + b.length ≤ 66000 := by omega
    go_wp2_with (first
      | (at_builtin; refine wpList_appS rfl _ _ _ rfl bElem _ 0 [] rfl H7.out w5.heap.size (some ⟨ib, 0, none⟩) 5 5 (Lib.byteCells (idL s.cyl s.head rn)) rfl HAT.out rfl (byteCells_one _) (by unfold maxLen; omega) (by omega) ?_
         intro A2 c2 w7 S7
         have H8 := Lib.hid (show SL W (rowS 5 1 (.slice A2 (0 + 5) c2) (0 + 5) (Lib.byteCells (idL s.cyl s.head rn)) :: rowS 5 1 (.slice (some ⟨ib, 0, none⟩) 5 5) 5 (Lib.byteCells (idL s.cyl s.head rn)) :: diskS x s :: F0) w7 from S7)
         clear S7 H7 H6 HAT)
      | (at_builtin; refine wpList_pushS rfl _ _ _ rfl bElem w7 [.int .u8 ((kn : Int) % 256), .int .u8 (((b.length - kn : Nat) : Int) / 256), .int .u8 (((b.length - kn : Nat) : Int) % 256)] 3 rfl rfl (by simp [Value.oneCell']) _ (0 + 5) _ rfl rfl H8.out (by unfold maxLen; omega) (by omega) ?_
         intro A4 c4 w8 S8
         have H9 := Lib.hid S8
         clear S8 H8)
      | (at_builtin; refine wpList_appS rfl _ _ _ rfl bElem _ (0 + 5 + 3) _ rfl H9.out W.heap.size ba b.length bc (Lib.byteCells b) rfl (HD.out.1.below H9.out.below) (by rw [byteCells_len, Nat.mul_one]) (byteCells_one _) (by unfold maxLen; omega) (by omega) ?_
         intro A6 c6 w9 S9
         rw [all_cells HN.out.1.2 HN.out.2.2] at S9
         have H10 := Lib.hid S9
         clear S9 H9))
    have h11 := H10.out.s2
    rw [show 0 + 5 + 3 + b.length = (allL s.cyl s.head rn kn b).length by rw [allL_len]] at h11
    have H11 := Lib.hid h11
    have hid : (idL s.cyl s.head rn).length = 5 := rfl
    have hc1 := do_any 29 A6 (allL s.cyl s.head rn kn b) c6 (fun _ S => rowS_card (l := allL s.cyl s.head rn kn b) S) HS.out H11.out
    have HS2 := Lib.hid (do_ok (op := 29) (b := allL s.cyl s.head rn kn b) HS.out)
    have hr := HR.out
    clear h11 H10 HR hbl h8
    have hal := allL_len s.cyl s.head rn kn b
    generalize idL s.cyl s.head rn = idl at *
    generalize allL s.cyl s.head rn kn b = all at *
    generalize hq : dkDo s 29 all = q at *
    obtain ⟨s2, q2⟩ := q
    dsimp only at hr HS2
    rcases hr with rfl | ⟨rfl, h76, h30⟩
    · have HC := Lib.hid (hc1.mono fun e w' h => RetM.lit (n := 0) (a := 14) (b := 4) h rfl rfl rfl)
      rw [hal] at HC
      clear hc1 hq hal hid
      refine HC.out.mono ?_
      rintro e v1 ⟨B1, d1, rfl, S⟩
      have K1 := Lib.hid S.below
      clear S HC H11
      go_upto_region 9 with fail
      refine name_world (P := Code.wp _ _ _ _) ?_
      intro z1 hz
      have h := SL.cast hz ((SL.start v1).allocC #[.slice B1 0 d1, .int .i64 14, .int .i64 4] 28)
      have Z1 := Lib.hid (h)
      have ZB := Lib.hid (K1.out.trans (h.below.mono K1.out.size))
      clear h hz K1
      obtain ⟨L, K, z⟩ := Z1.out.look
      go_wp2_with fail
      refine (works_any _).mono ?_
      rintro e w9 ⟨rfl, b9⟩
      have HB2 := Lib.hid (ZB.out.trans (b9.mono ZB.out.size))
      clear b9 ZB L K z Z1
      go_wp2
      go_ret
      exact ⟨rfl, HB2.out⟩
    · have HC := Lib.hid (hc1.mono fun e w' h => RetM.lit (n := 0) (a := 12) (b := 0) h rfl rfl rfl)
      rw [hal] at HC
      have HAL := Lib.hid (And.intro hal hid)
      have HX := Lib.hid (And.intro h76 h30)
      clear hc1 hq hal hid h76 h30
      refine HC.out.mono ?_
      rintro e v1 ⟨B1, d1, rfl, S⟩
      have K1 := Lib.hid S
      clear S HC H11
      go_upto_region 9 with fail
      refine name_world (P := Code.wp _ _ _ _) ?_
      intro z1 hz
      -- box, row, disk, all, id
      have Z1 := Lib.hid (SL.cast hz (K1.out.allocC #[.slice B1 0 d1, .int .i64 12, .int .i64 0] 28))
      clear hz K1
      generalize v1.heap.size = b1 at *
      obtain ⟨L, K, z⟩ := Z1.out.look
      have h12 : SL W (rowS 5 1 (.slice (some ⟨ib, 0, none⟩) idl.length idl.length) idl.length (Lib.byteCells idl) :: cel b1 #[.slice B1 0 d1, .int .i64 12, .int .i64 0] 28 :: rowS 5 1 (.slice B1 0 d1) 0 (Lib.byteCells []) :: diskS x s2 :: rowS 5 1 (.slice A6 (8 + b.length) c6) (8 + b.length) (Lib.byteCells all) :: F0) z1 := by
        rw [HAL.out.2]
        exact Z1.out.s4
      -- id, box, row, disk, all
      have hc2 := do_any 49 (some ⟨ib, 0, none⟩) idl idl.length (fun _ S => rowS_card (l := idl) S) HS2.out h12.s3
      have HS3 := Lib.hid (do_ok (op := 49) (b := idl) HS2.out)
      have h76 := HX.out.1
      have h30 := HX.out.2
      generalize dkDo s2 49 idl = q at *
      obtain ⟨s3, q3⟩ := q
      dsimp only at h76 h30 HS3
      subst h76
      have HC := Lib.hid (hc2.mono fun e w' h => RetM.lit (n := 0) (a := 76) (b := 0) h rfl rfl rfl)
      rw [HAL.out.2] at HC
      have H30 := Lib.hid h30
      clear h12 hc2 h30 HX
      go_wp2_with fail
      refine HC.out.mono ?_
      rintro e v2 ⟨B2, d2, rfl, S⟩
      -- row, disk, id, box, row, all
      have K2 := Lib.hid S
      clear S HC Z1 L K z
      go_upto_region 12 with fail
      refine name_world (P := Code.wp _ _ _ _) ?_
      intro z2 hz
      have Z2 := Lib.hid (SL.cast hz (K2.out.allocC #[.slice B2 0 d2, .int .i64 76, .int .i64 0] 28))
      clear hz K2
      generalize v2.heap.size = b2 at *
      -- box2, row, disk, id, box, row, all
      have hc3 := do_any 30 none [] 0 (fun _ _ => card_nil0) HS3.out Z2.out.s2
      have h30 := H30.out
      generalize dkDo s3 30 [] = q at *
      obtain ⟨s4, q4⟩ := q
      dsimp only at h30
      subst h30
      have HC := Lib.hid (hc3.mono fun e w' h => RetM.lit (n := 8 + b.length) (a := 12) (b := 0) h HAL.out.1 rfl rfl)
      clear hc3 H30
      go_wp2_with fail
      refine HC.out.mono ?_
      rintro e v3 ⟨B3, d3, rfl, S⟩
      -- row3, disk, box2, row, id, box, row, all
      have K3 := Lib.hid S
      clear S HC Z2
      go_upto_region 13 with fail
      refine name_world (P := Code.wp _ _ _ _) ?_
      intro z3 hz
      have Z3 := Lib.hid (SL.cast hz (K3.out.allocC #[.slice B3 (8 + b.length) d3, .int .i64 12, .int .i64 0] 28))
      clear hz K3
      generalize v3.heap.size = b3 at *
      -- box3, row3, disk, box2, row, id, box, row, all
      obtain ⟨L2, K2, y2⟩ := Z3.out.s3.look
      obtain ⟨L3, K3, y3⟩ := Z3.out.look
      have ha1 := Z3.out.s1.at_
      have hal := HAL.out.1
      have ha2 := Z3.out.drop.drop.drop.s5.at_
      have hs := sameb_any B3 A6 all all d3 c6 z3 z3.heap.size ha1 ha2 (by have := HN.out; unfold maxLen; omega) (by have := HN.out; unfold maxLen; omega)
      rw [hal, beq_self_eq_true] at hs
      have HSB := Lib.hid hs
      clear hal hs ha1 ha2
      go_wp2_with fail
      refine HSB.out.mono ?_
      rintro e w9 ⟨rfl, b9⟩
      have HB := Lib.hid (Z3.out.still b9).below
      clear b9 HSB Z3 L2 K2 y2 L3 K3 y3
      go_wp2_with fail
      refine (works_any _).mono ?_
      rintro e w10 ⟨rfl, b10⟩
      have HB2 := Lib.hid (HB.out.trans (b10.mono HB.out.size))
      clear b10 HB
      go_wp2
      go_ret
      exact ⟨rfl, HB2.out⟩
  · rw [HOK.out] at hok
    cases hok
set_option maxRecDepth 100000 in
set_option maxHeartbeats 16000000 in
theorem walk_diskWrites (W : World) (ser : ByteArray) (hz : ser.size ≤ 140737488355328) (cy hd : Int) (A : Option Addr) (l : List StepV) (c : Nat) (hl : l.length ≤ 140737488355328) (hat : At W W.heap.size A (l.flatMap stepCells)) (hg : ∀ b ∈ l, StepV.good W b)
    (r k : Int) (ba : Option Addr) (b : List UInt8) (bc : Nat) (hd1 : CardAt W ba b bc) :
    Calls Try.prog 5 #[.agg #[.string ser, .int .i64 cy, .int .i64 hd, .slice A l.length c], .int .i64 r, .int .i64 k, .slice ba b.length bc] W fun e W' => e = .returned (.bool true) ∧ Below W.heap.size W W' := by
  have hP := fun (w : World) (F : List SA) (S : SL W F w) => play_any ser hz cy hd A l c hl hat hg S
  by_cases hgood : newOk ser cy hd = true ∧ 1 ≤ r ∧ r ≤ 255 ∧ 0 ≤ k ∧ k ≤ 255 ∧ k ≤ (b.length : Int) ∧ (b.length : Int) - k ≤ 65535
  · obtain ⟨hok, h1, h2, h3, h4, h5, h6⟩ := hgood
    obtain ⟨rn, rfl⟩ : ∃ n : Nat, r = (n : Int) := ⟨r.toNat, by omega⟩
    obtain ⟨kn, rfl⟩ : ∃ n : Nat, k = (n : Int) := ⟨k.toNat, by omega⟩
    exact writes_in W ser cy hd A l c rn kn ba b bc hd1 (by omega) (by omega) (by omega) (by omega) hok hP
  · have HP := Lib.hid hP
    have HG := Lib.hid hgood
    have hbm : b.length ≤ 9223372036854775807 := by have := hd1.2; unfold maxLen at this; omega
    clear hat hg hd1 hP hgood
    go_enter Try.func5, Try.ntmps5
    go_upto_region 1 with fail
    refine name_world (P := Code.wp _ _ _ _) ?_
    intro wA hwA
    have H1 := Lib.hid (SL.cast hwA ((SL.start W).allocC #[.string ser, .int .i64 cy, .int .i64 hd, .slice A l.length c] 47))
    clear hwA
    obtain ⟨L, K, z⟩ := H1.out.look
    go_wp2_with fail
    refine (HP.out _ _ H1.out).mono ?_
    rintro e w1 (⟨hok, x, rfl, S1⟩ | ⟨hok, rfl, S1⟩)
    · have HB := Lib.hid S1.below
      have HOK := Lib.hid hok
      clear S1 HP H1 L K z hok
      by_cases h1 : r < 1
      · have t1 : (r < 1) = True := eq_true h1
        clear h1
        go_wp2_with fail
        refine (works_any _).mono ?_
        rintro e w9 ⟨rfl, b9⟩
        have HB2 := Lib.hid (HB.out.trans (b9.mono HB.out.size))
        clear b9 HB
        go_wp2
        go_ret
        exact ⟨rfl, HB2.out⟩
      · have t1 : (r < 1) = False := eq_false h1
        by_cases h2 : 255 < r
        · have t2 : (255 < r) = True := eq_true h2
          clear h2
          go_wp2_with fail
          refine (works_any _).mono ?_
          rintro e w9 ⟨rfl, b9⟩
          have HB2 := Lib.hid (HB.out.trans (b9.mono HB.out.size))
          clear b9 HB
          go_wp2
          go_ret
          exact ⟨rfl, HB2.out⟩
        · have t2 : (255 < r) = False := eq_false h2
          by_cases h3 : k < 0
          · have t3 : (k < 0) = True := eq_true h3
            clear h3
            go_wp2_with fail
            refine (works_any _).mono ?_
            rintro e w9 ⟨rfl, b9⟩
            have HB2 := Lib.hid (HB.out.trans (b9.mono HB.out.size))
            clear b9 HB
            go_wp2
            go_ret
            exact ⟨rfl, HB2.out⟩
          · have t3 : (k < 0) = False := eq_false h3
            by_cases h4 : 255 < k
            · have t4 : (255 < k) = True := eq_true h4
              clear h4
              go_wp2_with fail
              refine (works_any _).mono ?_
              rintro e w9 ⟨rfl, b9⟩
              have HB2 := Lib.hid (HB.out.trans (b9.mono HB.out.size))
              clear b9 HB
              go_wp2
              go_ret
              exact ⟨rfl, HB2.out⟩
            · have t4 : (255 < k) = False := eq_false h4
              by_cases h5 : (b.length : Int) < k
              · have t5 : ((b.length : Int) < k) = True := eq_true h5
                clear h5
                go_wp2_with fail
                refine (works_any _).mono ?_
                rintro e w9 ⟨rfl, b9⟩
                have HB2 := Lib.hid (HB.out.trans (b9.mono HB.out.size))
                clear b9 HB
                go_wp2
                go_ret
                exact ⟨rfl, HB2.out⟩
              · have t5 : ((b.length : Int) < k) = False := eq_false h5
                by_cases h6 : 65535 < (b.length : Int) - k
                · have t6 : (65535 < (b.length : Int) - k) = True := eq_true h6
                  have t8 : IntKind.i64.wrap ((b.length : Int) - k) = (b.length : Int) - k := IntWalk.i64_in _ (by omega)
                  clear h6
                  go_wp2_with fail
                  refine (works_any _).mono ?_
                  rintro e w9 ⟨rfl, b9⟩
                  have HB2 := Lib.hid (HB.out.trans (b9.mono HB.out.size))
                  clear b9 HB
                  go_wp2
                  go_ret
                  exact ⟨rfl, HB2.out⟩
                · have t6 : (65535 < (b.length : Int) - k) = False := eq_false h6
                  exact absurd ⟨HOK.out, by omega, by omega, by omega, by omega, by omega, by omega⟩ HG.out
    · have HB := Lib.hid S1.below
      clear S1 hok HP H1 L K z
      go_wp2_with fail
      refine (works_any _).mono ?_
      rintro e w9 ⟨rfl, b9⟩
      have HB2 := Lib.hid (HB.out.trans (b9.mono HB.out.size))
      clear b9 HB
      go_wp2
      go_ret
      exact ⟨rfl, HB2.out⟩
end Go.Proofs.Ytmkndbledppniaa
