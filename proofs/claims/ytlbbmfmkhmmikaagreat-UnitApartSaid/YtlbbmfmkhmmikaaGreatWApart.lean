/- UnitApart: the walk. -/
import Derived.Test.YtlbbmfmkhmmikaaGreatApartL
import Derived.Test.YtlbbmfmkhmmikaaGreatView
import Derived.Test.YtlbbmfmkhmmikaaGreatDFloat
import Derived.Deep.CutRange
namespace Go.Proofs.YtlbbmfmkhmmikaaGreat
open Go.RowKit
section
variable {P : Program} {W w : World} {F : List SA} {t e : TypeId} {z : Value} {size bytes : Nat} {o : Oper} {a : Act} {ops : Array Oper} {K : Act → World → Prop} {Q : Exit → Act → World → Prop}
/-- 'make([]T, n)', a step. -/
theorem step_makeS {X : Prop} (hgd : o.guard = none) (l c : Operand) (ho : o.op = Op.makeSlice t l c) (E : Elem P t e z size bytes) (kl kc : IntKind) (n : Nat) (hl : a.eval l = .int kl (n : Int)) (hc : a.eval c = .int kc (n : Int))
    (hb : bytes * n ≤ 281474976710656) (hm : n ≤ maxLen) (S : SL W F w)
    (h : ∀ g w', SL W (rowS e size (.slice (some ⟨g, 0, none⟩) n n) n (madeCells z.cells (n * size)).toList :: F) w' → K (a.put o.dst (.slice (some ⟨g, 0, none⟩) n n)) w') : if Region.wanted o (yielded ops a.tmps) = true then Oper.wp P o a w K Q else X := by
  rw [if_pos (by simp [Region.wanted, hgd])]
  obtain ⟨i, hi, hz, hsi, hby⟩ := info_parts E.info
  obtain ⟨w', hrun, r1, r2⟩ := run_make_full (P := P) (w := w) w.heap.size t e i z size E.under hi hz hsi kl kc n (by rw [hby]; exact hb) hm (Nat.le_refl _)
  refine wp_known (.slice (some ⟨w.heap.size, 0, none⟩) n n) w' ?_ (h _ _ (S.made r1 ((Below.refl _ _).grown r2 (Nat.le_refl _) (by intro k hk; cases hk))))
  simp [execOp, ho, hl, hc, hrun, Result.andThen]
end
theorem blks_lit1 {w : World} {gb cd : Nat} {Ad : Option Addr} {l : List UInt8} (hc : ∀ o, w.cell? ⟨gb, o, none⟩ = #[Value.bool false, .slice Ad l.length cd, .bool false][o]?) (ha : At w w.heap.size Ad (Lib.byteCells l)) (h1 : l.length ≤ cd) (h2 : cd ≤ maxLen) : T.BlksAt w (some ⟨gb, 0, none⟩) [⟨l, false, false⟩] := by
  intro i b hb
  match i, hb with
  | 0, hb =>
    injection hb with hb; subst hb
    exact ⟨gb, 0, Ad, cd, rfl, hc 0, hc 1, hc 2, ha, h1, h2⟩
  | n + 1, hb => simp at hb
theorem recs_lit1 {w : World} {gb cd : Nat} {Ad : Option Addr} {l : List UInt8} (hc : ∀ o, w.cell? ⟨gb, o, none⟩ = #[Value.int .i64 1, .slice none 0 0, .slice Ad l.length cd, .bool false][o]?) (ha : At w w.heap.size Ad (Lib.byteCells l)) (h1 : l.length ≤ cd) (h2 : cd ≤ maxLen) : D.RecsAt w (some ⟨gb, 0, none⟩) [⟨1, [], l, false⟩] := fun i x hx => by
  cases i with
  | zero =>
    injection hx with hx; subst hx
    exact ⟨gb, 0, none, 0, Ad, cd, rfl, hc 0, hc 1, hc 2, hc 3, ⟨At.nil_, Nat.le_refl _, Nat.zero_le _⟩, ha, h1, h2⟩
  | succ i => simp at hx
theorem apart_add : U.addCs [] [zc] = [zc] := by kernel_rfl
theorem do_some {W w : World} {F : List SA} {x : Nat} {v : Value} {bs : List (Nat × Nat)} {s : ST} (addr op : Int) (l : List UInt8) (A : Option Addr) (c : Nat) {k : Nat} (hd : D.CardB W F A l c) (hz : l.length ≤ 1073741824) (ok : s.ok k) (hk : k ≤ 10000000) (S : SL W (setO x v bs s :: F) w) :
    Calls Tryz.prog 13 #[.pointer (some ⟨x, 0, none⟩), .int .i64 addr, .int .i64 op, .slice A l.length c] w fun e w' => ∃ q, e = .returned q ∧ SL W (setO x v bs (s.act addr op l).1 :: F) w' :=
  (act_any addr op A l c hd hz ok hk S).mono fun _ _ ⟨_, _, h, S⟩ => ⟨_, h, S.drop⟩
set_option maxRecDepth 100000 in
set_option maxHeartbeats 32000000 in
theorem walk_unitApart (w : World) (k ad op : Int) (dt : U.CardV) (n m : Int) (_wk : (Lit.int .u8 k).wf = true) (_wa : (Lit.int .i64 ad).wf = true) (_wo : (Lit.int .i64 op).wf = true) (_wn : (Lit.int .i64 n).wf = true) (_wm : (Lit.int .i64 m).wf = true) (g : U.CardV.good w w.heap.size dt) :
    Calls Tryz.prog 7 #[.agg #[.int .u8 k, .int .i64 ad, .int .i64 op, U.cardV dt, .int .i64 n, .int .i64 m]] w fun e w' => e = .returned (.bool true) ∧ Below w.heap.size w w' := by
  obtain ⟨Ad, l, cd⟩ := dt
  unfold U.cardV
  dsimp only
  have hg : D.CardAt w Ad l cd := g
  have HG := Lib.hid hg
  have hlm : l.length ≤ 9223372036854775807 := by have := hg.2; unfold maxLen at this; omega
  clear _wk _wa _wo _wn _wm g hg
  have HS := Lib.hid ((SL.start w).allocC #[.int .u8 k, .int .i64 ad, .int .i64 op, .slice Ad l.length cd, .int .i64 n, .int .i64 m] 62)
  obtain ⟨L, K, z⟩ := HS.out.look
  go_enter Tryz.func7, Tryz.ntmps7
  go_wp2_with fail
  refine (plant_any HS.out).mono ?_
  rintro e w1 ⟨x, v, bs, rfl, S1⟩
  have H1 := Lib.hid S1
  clear S1 HS L K z
  generalize w.heap.size = xb at *
  unfold ptrV
  go_wp2_with fail
  refine (works_any H1.out).mono ?_
  rintro e w2 ⟨rfl, S2⟩
  have H2 := Lib.hid S2
  clear S2 H1
  obtain ⟨L, K, z⟩ := H2.out.s1.look
  by_cases hl : 2100 < l.length
  · go_wp2
    go_ret
    exact ⟨rfl, H2.out.below⟩
  · have hl2 : l.length ≤ 1073741824 := by omega
    have hu : plantST.us[0]? = some (mkU cReader (.reader 0 0 0 [])) := rfl
    have hb := (set_open H2.out).1
    obtain ⟨tb, db, hp⟩ := bs_get hb hu
    have hgr : ∀ wx, SL w [setO x v bs plantST, cel xb #[.int .u8 k, .int .i64 ad, .int .i64 op, .slice Ad l.length cd, .int .i64 n, .int .i64 m] 62] wx → Calls Tryz.prog 29 #[.pointer (some ⟨x, 0, none⟩), .int .i64 12] wx fun e w' => e = .returned (ptrV db) ∧ w' = wx := fun wx Sx => by
      have h := getReader_any 12 (by decide) Sx
      rw [getP_some (show plantST.find 12 = some 0 from rfl) hp hu] at h
      exact h
    have HGR := Lib.hid hgr
    have HB := Lib.hid (And.intro hb hp)
    clear hgr hb hp
    unfold ptrV at HGR
    go_upto_region 6 with fail
    go_cut [] (fun wx => SL w [setO x v bs ap1, cel xb #[.int .u8 k, .int .i64 ad, .int .i64 op, .slice Ad l.length cd, .int .i64 n, .int .i64 m] 62] wx)
    case first =>
      refine D.wp_region_float (SL w [setO x v bs plantST, cel xb #[.int .u8 k, .int .i64 ad, .int .i64 op, .slice Ad l.length cd, .int .i64 n, .int .i64 m] 62]) [0] [] [2, 3] 1 [4] (by kernel_rfl) (by kernel_rfl) H2.out.drew (by intro c a d v w h; cases d <;> exact h) ?_
      simp only [pick, List.filterMap_cons, List.filterMap_nil, List.getElem?_cons_zero, List.getElem?_cons_succ]
      (repeat (refine wpPure_step (fun K hK => ?_); go_simp; refine hK _ ?_; clear hK K)); refine wpPure_nil ?_
      refine wpLoads_nil ?_
      have SX := Lib.hid H2.out.drew
      clear L K z
      refine D.floatP_cons ?_ ?_
      · simp only [pick, List.filterMap_cons, List.filterMap_nil, List.getElem?_cons_zero, List.getElem?_cons_succ]
        refine wpKeep_step ?_
        intro K hK
        go_simp
        refine (HGR.out _ SX.out).mono ?_
        rintro e w9 ⟨rfl, hw9⟩
        have hw9 := hw9.symm
        subst hw9
        refine hK _ _ SX.out ?_
        clear hK K
        refine wpKeep_step ?_
        intro K hK
        refine step_makeS rfl _ _ rfl U.bElem .i64 .i64 80 (by rfl) (by rfl) (by decide) (by decide) SX.out ?_
        intro gz w4 S4
        refine hK _ _ S4.drop ?_
        clear hK K SX
        have SX := Lib.hid S4
        clear S4
        refine wpKeep_step ?_
        intro K hK
        go_simp
        have S5 := SX.out.lit #[.slice (some ⟨gz, 0, none⟩) 80 80] 27 1 1 rfl (by decide)
        clear SX
        have SX := Lib.hid S5
        clear S5
        refine hK _ _ SX.out.drop.drop ?_
        clear hK K
        refine wpKeep_nil ?_
        have hmk : (madeCells (Value.int .u8 0).cells (80 * 1)).toList = Lib.byteCells zc := by kernel_rfl
        have SA : SL w (star [U.cardS (.slice (some ⟨gz, 0, none⟩) 80 80, zc)] :: rowS 27 1 (.slice (some ⟨w4.heap.size, 0, none⟩) 1 1) 1 [.slice (some ⟨gz, 0, none⟩) 80 80] :: setO x v bs plantST :: [cel xb #[.int .u8 k, .int .i64 ad, .int .i64 op, .slice Ad l.length cd, .int .i64 n, .int .i64 m] 62]) (w4.alloc (.cells #[.slice (some ⟨gz, 0, none⟩) 80 80] 27)) := by
          have h := SX.out.s1
          rw [hmk] at h
          exact SL.app (L := [U.cardS (.slice (some ⟨gz, 0, none⟩) 80 80, zc)]) h
        have SB := (dev_open HB.out.2 hu (SA.s2)).2
        have hr : U.DeckRd w (cel tb (oneCells db (mkU cReader (.reader 0 0 0 []))) 108 :: star ((List.zipWith oneS bs plantST.us).eraseIdx 0) :: cel x #[v, lastV bs plantST.last, .bool plantST.off] 103 :: rowS 99 1 v plantST.us.length (ptrs bs) :: star [U.cardS (.slice (some ⟨gz, 0, none⟩) 80 80, zc)] :: rowS 27 1 (.slice (some ⟨w4.heap.size, 0, none⟩) 1 1) 1 [.slice (some ⟨gz, 0, none⟩) 80 80] :: [cel xb #[.int .u8 k, .int .i64 ad, .int .i64 op, .slice Ad l.length cd, .int .i64 n, .int .i64 m] 62]) (some ⟨w4.heap.size, 0, none⟩) [zc] :=
          U.DeckRd.own (n := 1) (c := 1) (ps := [(.slice (some ⟨gz, 0, none⟩) 80 80, zc)]) fun w S => ⟨_, S.s4.s5⟩
        have HA := Lib.hid (U.radd_any db 0 0 0 [] [zc] _ 1 SB hr (by decide) (by decide))
        clear SA SB hr hmk SX
        go_wp2_with fail
        refine HA.out.mono ?_
        rintro e w6 ⟨rfl, S6⟩
        rw [apart_add] at S6
        have S7 : SL w (setO x v bs ap1 :: star [U.cardS (.slice (some ⟨gz, 0, none⟩) 80 80, zc)] :: rowS 27 1 (.slice (some ⟨w4.heap.size, 0, none⟩) 1 1) 1 [.slice (some ⟨gz, 0, none⟩) 80 80] :: [cel xb #[.int .u8 k, .int .i64 ad, .int .i64 op, .slice Ad l.length cd, .int .i64 n, .int .i64 m] 62]) w6 := dev_close (s := plantST) (d := .reader 0 0 0 [zc]) HB.out.1 HB.out.2 hu rfl S6
        have S8 := (S7.s1.drop).s1.drop
        clear S6 S7
        have H0 := Lib.hid S8
        clear S8
        go_wp2
        go_meet
        case rel => exact H0.out
      · simp only [pick, List.filterMap_cons, List.filterMap_nil, List.getElem?_cons_zero, List.getElem?_cons_succ]
        refine wpKeep_step ?_
        intro K hK
        refine step_makeS rfl _ _ rfl U.bElem .i64 .i64 80 (by rfl) (by rfl) (by decide) (by decide) SX.out ?_
        intro gz w4 S4
        refine hK _ _ S4.drop ?_
        clear hK K SX
        have SX := Lib.hid S4
        clear S4
        refine wpKeep_nil ?_
        refine D.floatP_cons ?_ ?_
        · simp only [pick, List.filterMap_cons, List.filterMap_nil, List.getElem?_cons_zero, List.getElem?_cons_succ]
          refine wpKeep_step ?_
          intro K hK
          go_simp
          refine (HGR.out _ SX.out.drop).mono ?_
          rintro e w9 ⟨rfl, hw9⟩
          have hw9 := hw9.symm
          subst hw9
          refine hK _ _ SX.out.drop ?_
          clear hK K
          refine wpKeep_step ?_
          intro K hK
          go_simp
          have S5 := SX.out.lit #[.slice (some ⟨gz, 0, none⟩) 80 80] 27 1 1 rfl (by decide)
          clear SX
          have SX := Lib.hid S5
          clear S5
          refine hK _ _ SX.out.drop.drop ?_
          clear hK K
          refine wpKeep_nil ?_
          have hmk : (madeCells (Value.int .u8 0).cells (80 * 1)).toList = Lib.byteCells zc := by kernel_rfl
          have SA : SL w (star [U.cardS (.slice (some ⟨gz, 0, none⟩) 80 80, zc)] :: rowS 27 1 (.slice (some ⟨w4.heap.size, 0, none⟩) 1 1) 1 [.slice (some ⟨gz, 0, none⟩) 80 80] :: setO x v bs plantST :: [cel xb #[.int .u8 k, .int .i64 ad, .int .i64 op, .slice Ad l.length cd, .int .i64 n, .int .i64 m] 62]) (w4.alloc (.cells #[.slice (some ⟨gz, 0, none⟩) 80 80] 27)) := by
            have h := SX.out.s1
            rw [hmk] at h
            exact SL.app (L := [U.cardS (.slice (some ⟨gz, 0, none⟩) 80 80, zc)]) h
          have SB := (dev_open HB.out.2 hu (SA.s2)).2
          have hr : U.DeckRd w (cel tb (oneCells db (mkU cReader (.reader 0 0 0 []))) 108 :: star ((List.zipWith oneS bs plantST.us).eraseIdx 0) :: cel x #[v, lastV bs plantST.last, .bool plantST.off] 103 :: rowS 99 1 v plantST.us.length (ptrs bs) :: star [U.cardS (.slice (some ⟨gz, 0, none⟩) 80 80, zc)] :: rowS 27 1 (.slice (some ⟨w4.heap.size, 0, none⟩) 1 1) 1 [.slice (some ⟨gz, 0, none⟩) 80 80] :: [cel xb #[.int .u8 k, .int .i64 ad, .int .i64 op, .slice Ad l.length cd, .int .i64 n, .int .i64 m] 62]) (some ⟨w4.heap.size, 0, none⟩) [zc] :=
            U.DeckRd.own (n := 1) (c := 1) (ps := [(.slice (some ⟨gz, 0, none⟩) 80 80, zc)]) fun w S => ⟨_, S.s4.s5⟩
          have HA := Lib.hid (U.radd_any db 0 0 0 [] [zc] _ 1 SB hr (by decide) (by decide))
          clear SA SB hr hmk SX
          go_wp2_with fail
          refine HA.out.mono ?_
          rintro e w6 ⟨rfl, S6⟩
          rw [apart_add] at S6
          have S7 : SL w (setO x v bs ap1 :: star [U.cardS (.slice (some ⟨gz, 0, none⟩) 80 80, zc)] :: rowS 27 1 (.slice (some ⟨w4.heap.size, 0, none⟩) 1 1) 1 [.slice (some ⟨gz, 0, none⟩) 80 80] :: [cel xb #[.int .u8 k, .int .i64 ad, .int .i64 op, .slice Ad l.length cd, .int .i64 n, .int .i64 m] 62]) w6 := dev_close (s := plantST) (d := .reader 0 0 0 [zc]) HB.out.1 HB.out.2 hu rfl S6
          have S8 := (S7.s1.drop).s1.drop
          clear S6 S7
          have H0 := Lib.hid S8
          clear S8
          go_wp2
          go_meet
          case rel => exact H0.out
        · simp only [pick, List.filterMap_cons, List.filterMap_nil, List.getElem?_cons_zero, List.getElem?_cons_succ]
          refine wpKeep_step ?_
          intro K hK
          go_simp
          have S5 := SX.out.lit #[.slice (some ⟨gz, 0, none⟩) 80 80] 27 1 1 rfl (by decide)
          clear SX
          have SX := Lib.hid S5
          clear S5
          refine hK _ _ SX.out.drop.drop ?_
          clear hK K
          refine wpKeep_nil ?_
          refine D.floatP_nil ?_
          simp only [pick, List.filterMap_cons, List.filterMap_nil, List.getElem?_cons_zero, List.getElem?_cons_succ]
          refine wpKeep_step ?_
          intro K hK
          go_simp
          refine (HGR.out _ SX.out.drop.drop).mono ?_
          rintro e w9 ⟨rfl, hw9⟩
          have hw9 := hw9.symm
          subst hw9
          refine hK _ _ SX.out.drop.drop ?_
          clear hK K
          refine wpKeep_nil ?_
          have hmk : (madeCells (Value.int .u8 0).cells (80 * 1)).toList = Lib.byteCells zc := by kernel_rfl
          have SA : SL w (star [U.cardS (.slice (some ⟨gz, 0, none⟩) 80 80, zc)] :: rowS 27 1 (.slice (some ⟨w4.heap.size, 0, none⟩) 1 1) 1 [.slice (some ⟨gz, 0, none⟩) 80 80] :: setO x v bs plantST :: [cel xb #[.int .u8 k, .int .i64 ad, .int .i64 op, .slice Ad l.length cd, .int .i64 n, .int .i64 m] 62]) (w4.alloc (.cells #[.slice (some ⟨gz, 0, none⟩) 80 80] 27)) := by
            have h := SX.out.s1
            rw [hmk] at h
            exact SL.app (L := [U.cardS (.slice (some ⟨gz, 0, none⟩) 80 80, zc)]) h
          have SB := (dev_open HB.out.2 hu (SA.s2)).2
          have hr : U.DeckRd w (cel tb (oneCells db (mkU cReader (.reader 0 0 0 []))) 108 :: star ((List.zipWith oneS bs plantST.us).eraseIdx 0) :: cel x #[v, lastV bs plantST.last, .bool plantST.off] 103 :: rowS 99 1 v plantST.us.length (ptrs bs) :: star [U.cardS (.slice (some ⟨gz, 0, none⟩) 80 80, zc)] :: rowS 27 1 (.slice (some ⟨w4.heap.size, 0, none⟩) 1 1) 1 [.slice (some ⟨gz, 0, none⟩) 80 80] :: [cel xb #[.int .u8 k, .int .i64 ad, .int .i64 op, .slice Ad l.length cd, .int .i64 n, .int .i64 m] 62]) (some ⟨w4.heap.size, 0, none⟩) [zc] :=
            U.DeckRd.own (n := 1) (c := 1) (ps := [(.slice (some ⟨gz, 0, none⟩) 80 80, zc)]) fun w S => ⟨_, S.s4.s5⟩
          have HA := Lib.hid (U.radd_any db 0 0 0 [] [zc] _ 1 SB hr (by decide) (by decide))
          clear SA SB hr hmk SX
          go_wp2_with fail
          refine HA.out.mono ?_
          rintro e w6 ⟨rfl, S6⟩
          rw [apart_add] at S6
          have S7 : SL w (setO x v bs ap1 :: star [U.cardS (.slice (some ⟨gz, 0, none⟩) 80 80, zc)] :: rowS 27 1 (.slice (some ⟨w4.heap.size, 0, none⟩) 1 1) 1 [.slice (some ⟨gz, 0, none⟩) 80 80] :: [cel xb #[.int .u8 k, .int .i64 ad, .int .i64 op, .slice Ad l.length cd, .int .i64 n, .int .i64 m] 62]) w6 := dev_close (s := plantST) (d := .reader 0 0 0 [zc]) HB.out.1 HB.out.2 hu rfl S6
          have S8 := (S7.s1.drop).s1.drop
          clear S6 S7
          have H0 := Lib.hid S8
          clear S8
          go_wp2
          go_meet
          case rel => exact H0.out
    case rest =>
      have H0 := Lib.hid hcut
      clear hcut H2 HGR L K z
      have HL := Lib.hid (H0.out.lit #[.int .u8 1] 5 1 1 rfl (by decide)).s1
      clear H0
      go_wp2_with fail
      refine (do_some (s := ap1) 13 1 [1] _ _ (cardB_head rfl) (by decide) ap1_ok (by decide) HL.out).mono ?_
      rintro e w1 ⟨q, rfl, S1⟩
      have H0 := Lib.hid (show SL w [setO x v bs ap2, cel xb #[.int .u8 k, .int .i64 ad, .int .i64 op, .slice Ad l.length cd, .int .i64 n, .int .i64 m] 62] w1 from S1.s1.drop)
      clear S1 HL
      have HL := Lib.hid (H0.out.lit #[.int .u8 193] 5 1 1 rfl (by decide)).s1
      clear H0
      go_wp2_with fail
      refine (do_some (s := ap2) 14 1 [193] _ _ (cardB_head rfl) (by decide) (ap1_ok.act 13 1 [1]) (by decide) HL.out).mono ?_
      rintro e w1 ⟨q, rfl, S1⟩
      have H0 := Lib.hid (show SL w [setO x v bs ap3, cel xb #[.int .u8 k, .int .i64 ad, .int .i64 op, .slice Ad l.length cd, .int .i64 n, .int .i64 m] 62] w1 from S1.s1.drop)
      clear S1 HL
      have HL := Lib.hid (H0.out.lit #[.int .u8 2] 5 1 1 rfl (by decide)).s1
      clear H0
      go_wp2_with fail
      refine (do_some (s := ap3) 384 1 [2] _ _ (cardB_head rfl) (by decide) ((ap1_ok.act 13 1 [1]).act 14 1 [193]) (by decide) HL.out).mono ?_
      rintro e w1 ⟨q, rfl, S1⟩
      have H0 := Lib.hid (show SL w [setO x v bs ap4, cel xb #[.int .u8 k, .int .i64 ad, .int .i64 op, .slice Ad l.length cd, .int .i64 n, .int .i64 m] 62] w1 from S1.s1.drop)
      clear S1 HL
      have HL := Lib.hid (H0.out.lit #[.int .u8 0, .int .u8 0, .int .u8 0, .int .u8 0, .int .u8 1, .int .u8 0, .int .u8 0, .int .u8 1, .int .u8 3] 5 1 9 rfl (by decide)).s1
      clear H0
      go_wp2_with fail
      refine (do_some (s := ap4) 400 29 [0, 0, 0, 0, 1, 0, 0, 1, 3] _ _ (cardB_head rfl) (by decide) (((ap1_ok.act 13 1 [1]).act 14 1 [193]).act 384 1 [2]) (by decide) HL.out).mono ?_
      rintro e w1 ⟨q, rfl, S1⟩
      have H0 := Lib.hid (show SL w [setO x v bs ap5, cel xb #[.int .u8 k, .int .i64 ad, .int .i64 op, .slice Ad l.length cd, .int .i64 n, .int .i64 m] 62] w1 from S1.s1.drop)
      clear S1 HL
      obtain ⟨L, K, z⟩ := H0.out.s1.look
      go_wp2_with fail
      refine (do_some (s := ap5) ad op l Ad cd (D.CardB.base HG.out) hl2 ap5_ok (by decide) H0.out).mono ?_
      rintro e w1 ⟨q, rfl, S1⟩
      have HAO := Lib.hid (apart_ok ad op l)
      generalize (ap5.act ad op l).1 = s at S1 HAO
      have hb := (set_open S1).1
      obtain ⟨ok, ⟨u0, se0, tk, st, cs0, f0, g0, d0, e0⟩, ⟨u1, se1, cs1, f1, g1, d1, e1⟩, ⟨u2, p2, f2, g2, d2, e2⟩, ⟨u3, n3, p3, f3, g3, d3, e3⟩, ⟨u4, d4, f4, g4, k4, e4⟩⟩ := HAO.out
      obtain ⟨b0, V0⟩ := reader_view (x := x) (v := v) ok.len f0 g0 d0 hb
      obtain ⟨b1, V1⟩ := punch_view (x := x) (v := v) ok f1 g1 d1 hb
      obtain ⟨b2, V2⟩ := printer_view (x := x) (v := v) ok (by decide) f2 g2 d2 hb
      obtain ⟨b3, V3⟩ := tape_view (x := x) (v := v) ok f3 g3 d3 hb
      obtain ⟨b4, V4⟩ := disk_view (x := x) (v := v) ok f4 g4 k4 hb
      have HV0 := Lib.hid V0
      have HV1 := Lib.hid V1
      have HV2 := Lib.hid V2
      have HV3 := Lib.hid V3
      have HV4 := Lib.hid V4
      have HE := Lib.hid (And.intro e0 (And.intro e1 (And.intro e2 (And.intro e3 e4))))
      have HTL := Lib.hid (show p3.bs.length ≤ 1048576 from by
        have o := (ok.us u3 (List.mem_of_getElem? g3)).dev
        rw [d3] at o
        have := o.2.1.fit.1
        omega)
      have HDK := Lib.hid (show d4.ok from by
        have o := (ok.us u4 (List.mem_of_getElem? g4)).dev
        rw [k4] at o
        exact o)
      have H1 := Lib.hid S1
      clear S1 HAO ok f0 g0 d0 e0 f1 g1 d1 e1 f2 g2 d2 e2 f3 g3 d3 e3 f4 g4 k4 e4 V0 V1 V2 V3 V4 hb H0 L K z
      obtain ⟨L, K, z⟩ := H1.out.s1.look
      go_wp2_with fail
      refine (HV4.out _ _ _ H1.out).1.mono ?_
      rintro e w2 ⟨rfl, rfl⟩
      go_wp2_with fail
      refine ((HV4.out _ _ _ H1.out).2 0).mono ?_
      rintro e w3 ⟨A3, c3, rfl, S3⟩
      have H3 := Lib.hid S3
      clear S3 H1 L K z
      obtain ⟨L, K, z⟩ := H3.out.s2.look
      have L1 : w3.cell? ⟨xb, 1, none⟩ = some (.int .i64 ad) := L 1
      clear L
      go_upto_region 13 with fail
      go_cut [88] (fun s88 wx => s88 = .bool false ∧ SL w [D.recsS (.slice A3 (D.trkOf d4 0).length c3) (D.trkOf d4 0), setO x v bs s, cel xb #[.int .u8 k, .int .i64 ad, .int .i64 op, .slice Ad l.length cd, .int .i64 n, .int .i64 m] 62] wx)
      case first =>
        by_cases h12 : ad = 12
        · subst h12
          have q1 := HE.out.2.1 (by decide)
          rw [q1] at HV1
          clear q1
          go_wp2_with fail
          refine (HV1.out _ _ _ H3.out.s1).1.mono ?_
          rintro e w2 ⟨rfl, rfl⟩
          go_wp2_with fail
          refine (HV1.out _ _ _ H3.out.s1).2.mono ?_
          rintro e w2 ⟨A2, c2, rfl, S2⟩
          have H4 := Lib.hid S2.drop.s1
          clear S2 H3 L1 K z
          obtain ⟨L, K, z⟩ := H4.out.s2.look
          have L1 : w2.cell? ⟨xb, 1, none⟩ = some (.int .i64 12) := L 1
          clear L
          have H3 := H4
          clear H4
          have q2 := HE.out.2.2.1 (by decide)
          rw [q2] at HV2
          clear q2
          go_wp2_with fail
          refine (HV2.out _ _ _ H3.out.s1).1.mono ?_
          rintro e w2 ⟨rfl, rfl⟩
          go_wp2_with fail
          refine (HV2.out _ _ _ H3.out.s1).2.mono ?_
          rintro e w2 ⟨A2, c2, rfl, S2⟩
          have H4 := Lib.hid S2.drop.s1
          clear S2 H3 L1 K z
          have H3 := H4
          clear H4
          go_wp2
          go_meet
          case rel => exact ⟨rfl, H3.out⟩
        · have t12 : (ad != 12) = true := by simpa using h12
          have q0 := HE.out.1 h12
          rw [q0.1, q0.2] at HV0
          clear q0
          go_wp2_with fail
          refine (HV0.out _ _ _ H3.out.s1).1.mono ?_
          rintro e w2 ⟨rfl, rfl⟩
          go_wp2_with fail
          refine (HV0.out _ _ _ H3.out.s1).2.1.mono ?_
          rintro e w2 ⟨rfl, rfl⟩
          go_wp2_with fail
          refine (HV0.out _ _ _ H3.out.s1).1.mono ?_
          rintro e w2 ⟨rfl, rfl⟩
          go_wp2_with fail
          refine (HV0.out _ _ _ H3.out.s1).2.2.mono ?_
          rintro e w2 ⟨rfl, rfl⟩
          by_cases h13 : ad = 13
          · subst h13
            have q2 := HE.out.2.2.1 (by decide)
            rw [q2] at HV2
            clear q2
            go_wp2_with fail
            refine (HV2.out _ _ _ H3.out.s1).1.mono ?_
            rintro e w2 ⟨rfl, rfl⟩
            go_wp2_with fail
            refine (HV2.out _ _ _ H3.out.s1).2.mono ?_
            rintro e w2 ⟨A2, c2, rfl, S2⟩
            have H4 := Lib.hid S2.drop.s1
            clear S2 H3 L1 K z
            have H3 := H4
            clear H4
            go_wp2
            go_meet
            case rel => exact ⟨rfl, H3.out⟩
          · have t13 : (ad != 13) = true := by simpa using h13
            have q1 := HE.out.2.1 (h13)
            rw [q1] at HV1
            clear q1
            go_wp2_with fail
            refine (HV1.out _ _ _ H3.out.s1).1.mono ?_
            rintro e w2 ⟨rfl, rfl⟩
            go_wp2_with fail
            refine (HV1.out _ _ _ H3.out.s1).2.mono ?_
            rintro e w2 ⟨A2, c2, rfl, S2⟩
            have H4 := Lib.hid S2.drop.s1
            clear S2 H3 L1 K z
            obtain ⟨L, K, z⟩ := H4.out.s2.look
            have L1 : w2.cell? ⟨xb, 1, none⟩ = some (.int .i64 ad) := L 1
            clear L
            have H3 := H4
            clear H4
            by_cases h14 : ad = 14
            · subst h14
              go_wp2
              go_meet
              case rel => exact ⟨rfl, H3.out⟩
            · have t14 : (ad != 14) = true := by simpa using h14
              have q2 := HE.out.2.2.1 (h14)
              rw [q2] at HV2
              clear q2
              go_wp2_with fail
              refine (HV2.out _ _ _ H3.out.s1).1.mono ?_
              rintro e w2 ⟨rfl, rfl⟩
              go_wp2_with fail
              refine (HV2.out _ _ _ H3.out.s1).2.mono ?_
              rintro e w2 ⟨A2, c2, rfl, S2⟩
              have H4 := Lib.hid S2.drop.s1
              clear S2 H3 L1 K z
              have H3 := H4
              clear H4
              go_wp2
              go_meet
              case rel => exact ⟨rfl, H3.out⟩
      case rest =>
        obtain ⟨rfl, S4⟩ := hcut
        clear H3 L1 K z HV0 HV1 HV2 HV4
        have S5 := (S4.lit #[.int .u8 2] 5 1 1 rfl (by decide)).allocC #[.bool false, .slice (some ⟨wc.heap.size, 0, none⟩) 1 1, .bool false] 33
        rw [World.size_alloc] at S5
        have H5 := Lib.hid S5
        clear S4 S5
        go_upto_region 16 with fail
        refine name_world (P := Code.wp _ _ _ _) ?_
        intro wd hwd
        have H6 := Lib.hid (SL.cast hwd H5.out)
        clear hwd H5
        generalize wc.heap.size = q1 at *
        have S7 := (H6.out.lit #[.int .u8 3] 5 1 1 rfl (by decide)).allocC #[.int .i64 1, .slice none 0 0, .slice (some ⟨wd.heap.size, 0, none⟩) 1 1, .bool false] 78
        rw [World.size_alloc] at S7
        have H7 := Lib.hid S7
        clear S7 H6
        go_upto_region 17 with fail
        refine name_world (P := Code.wp _ _ _ _) ?_
        intro we hwe
        have H8 := Lib.hid (SL.cast hwe H7.out).s5
        clear hwe H7
        generalize wd.heap.size = q2 at *
        obtain ⟨L, K, z⟩ := H8.out.drop.drop.drop.drop.drop.drop.look
        have L1 : we.cell? ⟨xb, 1, none⟩ = some (.int .i64 ad) := L 1
        clear L
        by_cases h384 : ad = 384
        · subst h384
          have q4 := HE.out.2.2.2.2 (by decide)
          have qt : D.trkOf d4 0 = [⟨1, [], [3], false⟩] := by unfold D.trkOf; rw [q4]; rfl
          have qi : D.trkIs d4 0 = true := by unfold D.trkIs; rw [q4]; rfl
          rw [qt] at H8
          rw [qt, qi]
          have hbl := recs_lit1 (l := [3]) H8.out.drop.look.1 H8.out.drop.drop.at_ (Nat.le_refl _) (by decide)
          have hbr := D.recsS_at H8.out.s5
          have HC := Lib.hid (recs_any A3 _ [⟨1, [], [3], false⟩] c3 1 _ hbr hbl (by decide) (by decide))
          clear q4 qt qi hbl hbr
          go_wp2_with fail
          refine HC.out.mono ?_
          rintro e w4 ⟨rfl, b4⟩
          have H10 := Lib.hid (H8.out.grow b4)
          clear b4 HC H8
          go_wp2
          go_ret
          exact ⟨rfl, H10.out.below⟩
        · have t384 : (ad == 384) = false := by simpa using h384
          by_cases h400 : ad = 400
          · subst h400
            have q3 := HE.out.2.2.2.1 (by decide)
            rw [q3] at HV3
            clear q3
            go_wp2_with fail
            refine (HV3.out _ _ _ H8.out).1.mono ?_
            rintro e w2 ⟨rfl, rfl⟩
            go_wp2_with fail
            refine (HV3.out _ _ _ H8.out).2.2.mono ?_
            rintro e w2 ⟨A2, c2, rfl, S2⟩
            have hbl := blks_lit1 (l := [2]) S2.drop.drop.drop.drop.look.1 S2.drop.drop.drop.drop.drop.at_ (Nat.le_refl _) (by decide)
            have hbr := T.blksS_at S2
            have HC := Lib.hid (blocks_any A2 _ [⟨[2], false, false⟩] c2 1 _ hbr hbl (by decide))
            have H9 := Lib.hid S2.drop
            clear S2 hbl hbr H8 L1 K z
            go_wp2_with fail
            refine HC.out.mono ?_
            rintro e w3 ⟨rfl, b3⟩
            have H8 := Lib.hid (H9.out.grow b3)
            clear b3 H9 HC
            obtain ⟨L, K, z⟩ := H8.out.drop.drop.drop.drop.drop.drop.look
            have L1 : w3.cell? ⟨xb, 1, none⟩ = some (.int .i64 400) := L 1
            clear L
            go_wp2
            go_ret
            exact ⟨rfl, H8.out.below⟩
          · have t400 : (ad == 400) = false := by simpa using h400
            have q3 := HE.out.2.2.2.1 (h384)
            rw [q3] at HV3
            clear q3
            go_wp2_with fail
            refine (HV3.out _ _ _ H8.out).1.mono ?_
            rintro e w2 ⟨rfl, rfl⟩
            go_wp2_with fail
            refine (HV3.out _ _ _ H8.out).2.2.mono ?_
            rintro e w2 ⟨A2, c2, rfl, S2⟩
            have hbl := blks_lit1 (l := [2]) S2.drop.drop.drop.drop.look.1 S2.drop.drop.drop.drop.drop.at_ (Nat.le_refl _) (by decide)
            have hbr := T.blksS_at S2
            have HC := Lib.hid (blocks_any A2 _ [⟨[2], false, false⟩] c2 1 _ hbr hbl (by decide))
            have H9 := Lib.hid S2.drop
            clear S2 hbl hbr H8 L1 K z
            go_wp2_with fail
            refine HC.out.mono ?_
            rintro e w3 ⟨rfl, b3⟩
            have H8 := Lib.hid (H9.out.grow b3)
            clear b3 H9 HC
            obtain ⟨L, K, z⟩ := H8.out.drop.drop.drop.drop.drop.drop.look
            have L1 : w3.cell? ⟨xb, 1, none⟩ = some (.int .i64 ad) := L 1
            clear L
            have q4 := HE.out.2.2.2.2 (h400)
            have qt : D.trkOf d4 0 = [⟨1, [], [3], false⟩] := by unfold D.trkOf; rw [q4]; rfl
            have qi : D.trkIs d4 0 = true := by unfold D.trkIs; rw [q4]; rfl
            rw [qt] at H8
            rw [qt, qi]
            have hbl := recs_lit1 (l := [3]) H8.out.drop.look.1 H8.out.drop.drop.at_ (Nat.le_refl _) (by decide)
            have hbr := D.recsS_at H8.out.s5
            have HC := Lib.hid (recs_any A3 _ [⟨1, [], [3], false⟩] c3 1 _ hbr hbl (by decide) (by decide))
            clear q4 qt qi hbl hbr
            go_wp2_with fail
            refine HC.out.mono ?_
            rintro e w4 ⟨rfl, b4⟩
            have H10 := Lib.hid (H8.out.grow b4)
            clear b4 HC H8
            go_wp2
            go_ret
            exact ⟨rfl, H10.out.below⟩
end Go.Proofs.YtlbbmfmkhmmikaaGreat
