/- forward and back of the reference. -/
import Derived.Test.YtbbokikjpabfkaaQPass
namespace Go.Proofs.Ytbbokikjpabfkaa
open Go.RowKit

theorem sn_passed (b : Blk) (rd rv : Bool) (se : Nat) : ∃ sn : Nat, (if (tpPassed b rd rv).2.1 = 14 then (8 : Int) else (se : Int)) = (sn : Int) ∧ ∀ bs pos ld la, snS ⟨bs, pos, ld, se, la⟩ (tpPassed b rd rv) = ⟨bs, pos, ld, sn, la⟩ := by
  obtain ⟨l, mk, bd⟩ := b
  cases mk
  · cases rd
    · exact ⟨se, rfl, fun _ _ _ _ => rfl⟩
    · cases bd
      · exact ⟨se, rfl, fun _ _ _ _ => rfl⟩
      · exact ⟨8, rfl, fun _ _ _ _ => rfl⟩
  · exact ⟨se, rfl, fun _ _ _ _ => rfl⟩
section
variable {W w w' : World} {F : List SA} {qb : Nat} {nm : ByteArray} {s : TP}
set_option maxHeartbeats 8000000 in
theorem qforward_any (rd : Bool) (S : SL W (qS qb nm s :: F) w) (hp : s.pos ≤ s.bs.length) (hf : Fit s.bs) (op : Int) (ho : (rd = true ∧ op = 2) ∨ (rd = false ∧ op = 55)) :
    Calls Try.prog 49 #[.pointer (some ⟨qb, 0, none⟩), .bool rd] w fun e w' => RetS W (qS qb nm (snS (tpMove s op).1 (tpMove s op).2) :: F) (tpMove s op).2 e w' := by
  obtain ⟨q, hq, S1⟩ := qS_open S
  have HQ := Lib.hid hq
  obtain ⟨qv, qvo, qwr, qoa, qobs⟩ := q
  dsimp only at S1
  obtain ⟨A, c, rfl, hc1, hc2⟩ := blksS_slice S1.s1
  obtain ⟨bs, pos, ld, se, la⟩ := s
  dsimp only [qcells] at *
  have H0 := Lib.hid S1
  have H1 := Lib.hid (S1.allocC #[.slice none 0 0, .int .i64 0, .int .i64 0] 31)
  obtain ⟨L0, K0, z0⟩ := S1.look
  have HF := Lib.hid hf
  have hl1 : bs.length ≤ 1048576 := hf.1
  clear S S1 hf hq
  have hop : op = 2 ∨ op = 55 := by
    rcases ho with h | h
    · exact Or.inl h.2
    · exact Or.inr h.2
  have hrd : (op == 2) = rd := by
    rcases ho with ⟨rfl, rfl⟩ | ⟨rfl, rfl⟩ <;> rfl
  by_cases h : pos = bs.length
  · have e1 : tpMove ⟨bs, pos, ld, se, la⟩ op = (⟨bs, pos, ld, se, la⟩, [], 14, 2) := by
      unfold tpMove
      rw [if_pos hop, List.getElem?_eq_none (by dsimp only; omega)]
    rw [e1]
    subst h
    clear e1
    have HC := Lib.hid (qcheckC 2 H1.out.drew.s1)
    go_enter Try.func49, Try.ntmps49
    go_wp2_with fail
    go_big_region
    go_wp2_with ((with_reducible refine HC.out.mono ?_); rintro e w2 ⟨rfl, S2⟩; have H2 := Lib.hid S2.s1; clear S2; obtain ⟨L2, K2, z2⟩ := H2.out.look)
    refine bodyPost_ret (v := .agg #[.slice none 0 0, .int .i64 14, .int .i64 2]) (by simp [results, Try.results49, go_sem, L2]) rfl ?_
    exact RetS.of (st := 14) (sn := 2) (qS_close (s := ⟨bs, bs.length, ld, 2, la⟩) (q := ⟨.slice A bs.length c, qvo, qwr, qoa, qobs⟩) HQ.out (H2.out.set3.drop))
  · obtain ⟨b, hb⟩ : ∃ b, bs[pos]? = some b := ⟨bs[pos]'(by omega), List.getElem?_eq_getElem (by omega)⟩
    have e1 : tpMove ⟨bs, pos, ld, se, la⟩ op = (⟨bs, pos + 1, ld, se, la⟩, tpPassed b rd false) := by
      unfold tpMove
      rw [if_pos hop, hrd]
      simp only [hb]
    rw [e1]
    obtain ⟨sn, hsn, hsn2⟩ := sn_passed b rd false se
    rw [hsn2]
    have hlt : pos < bs.length := by omega
    have hw : IntKind.i64.wrap (pos : Int) = (pos : Int) := by rw [IntKind.wrap_i64]; omega
    have hne : ((pos : Int) == (bs.length : Int)) = false := by rw [beq_eq_false_iff_ne]; omega
    have HB := Lib.hid hb
    have hbl := HF.out.2 b (List.mem_of_getElem? hb)
    obtain ⟨g, ps, A4, c4, rfl, hps, hpp, S0⟩ := blk_open H0.out.s1 hb
    obtain ⟨g4, g5, g6⟩ := blk_cells S0 hpp
    have zg : g < w.heap.size := World.block_lt_of_cell? _ _ g4
    dsimp only at g4 g5 g6
    have HP := Lib.hid (And.intro hps hpp)
    have H2 : Hid (SL W (cel qb #[.string nm, .slice (some ⟨g, 0, none⟩) bs.length c, .int .i64 ((pos : Int) + 1), .bool ld, .int .i64 (se : Int), .bool la.isSome, .bool qwr, qvo, .int .i64 qoa] 67 :: cel (w.heap.size + 1) #[.bool b.mark, .slice A4 b.data.length c4, .bool b.bad] 25 :: cel w.heap.size #[.slice none 0 0, .int .i64 0, .int .i64 0] 31 :: rowT 25 3 (.slice (some ⟨g, 0, none⟩) bs.length c) bs.length (ps.flatMap blkCells) :: star (ps.map datS) :: blksS qvo qobs :: F)
       ((((w.setCell ⟨qb, 2, none⟩ (.int .i64 ((pos : Int) + 1))).alloc (.cells #[.slice none 0 0, .int .i64 0, .int .i64 0] 31)).alloc (.cells #[.bool b.mark, .slice A4 b.data.length c4, .bool b.bad] 25)).drew.drew)) := Lib.hid (by
      have h := (((SL.set (off := 2) (v := .int .i64 ((pos : Int) + 1)) (cs' := #[.string nm, .slice (some ⟨g, 0, none⟩) bs.length c, .int .i64 ((pos : Int) + 1), .bool ld, .int .i64 (se : Int), .bool la.isSome, .bool qwr, qvo, .int .i64 qoa]) S0.s2 rfl).allocC #[.slice none 0 0, .int .i64 0, .int .i64 0] 31).allocC #[.bool b.mark, .slice A4 b.data.length c4, .bool b.bad] 25).drew.drew
      rw [World.size_alloc, World.size_setCell] at h
      exact h.s2)
    have HC := Lib.hid (qpassed_any A4 c4 b rd false H2.out (blk_rd HP.out.2 rfl).cons.cons.cons hbl)
    rw [hsn] at HC
    clear e1 hb hps hpp H0
    go_enter Try.func49, Try.ntmps49
    go_wp2_with fail
    go_big_region
    go_wp2_with fail
    go_big_region
    go_wp2_with ((with_reducible refine HC.out.mono ?_); rintro e w7 ⟨A7, c7, rfl, S7⟩; have HX := Lib.hid S7.s3; clear S7; obtain ⟨L7, K7, z7⟩ := HX.out.look)
    refine bodyPost_ret (by simp [results, Try.results49, go_sem, L7]; rfl) rfl ?_
    refine ⟨A7, c7, rfl, SL.s1 (qS_close (s := ⟨bs, pos + 1, ld, sn, la⟩) (q := ⟨.slice (some ⟨g, 0, none⟩) bs.length c, qvo, qwr, qoa, qobs⟩) HQ.out ?_)⟩
    exact SL.s1 (blk_close HP.out.1 rfl (HX.out.set3.drop.s2.drop.b4.s2.s2))
set_option maxHeartbeats 8000000 in
theorem qback_any (rd : Bool) (S : SL W (qS qb nm s :: F) w) (hp : s.pos ≤ s.bs.length) (hf : Fit s.bs) (op : Int) (ho : (rd = true ∧ op = 12) ∨ (rd = false ∧ op = 39)) :
    Calls Try.prog 50 #[.pointer (some ⟨qb, 0, none⟩), .bool rd] w fun e w' => RetS W (qS qb nm (snS (tpMove s op).1 (tpMove s op).2) :: F) (tpMove s op).2 e w' := by
  obtain ⟨q, hq, S1⟩ := qS_open S
  have HQ := Lib.hid hq
  obtain ⟨qv, qvo, qwr, qoa, qobs⟩ := q
  dsimp only at S1
  obtain ⟨A, c, rfl, hc1, hc2⟩ := blksS_slice S1.s1
  obtain ⟨bs, pos, ld, se, la⟩ := s
  dsimp only [qcells] at *
  have H0 := Lib.hid S1
  have H1 := Lib.hid (S1.allocC #[.slice none 0 0, .int .i64 0, .int .i64 0] 31)
  obtain ⟨L0, K0, z0⟩ := S1.look
  have HF := Lib.hid hf
  have hl1 : bs.length ≤ 1048576 := hf.1
  clear S S1 hf hq
  have hop1 : ¬ (op = 2 ∨ op = 55) := by omega
  have hop : op = 12 ∨ op = 39 := by
    rcases ho with h | h
    · exact Or.inl h.2
    · exact Or.inr h.2
  have hrd : (op == 12) = rd := by
    rcases ho with ⟨rfl, rfl⟩ | ⟨rfl, rfl⟩ <;> rfl
  by_cases h : pos = 0
  · have e1 : tpMove ⟨bs, pos, ld, se, la⟩ op = (⟨bs, pos, ld, se, la⟩, [], 14, 2) := by
      unfold tpMove
      rw [if_neg hop1, if_pos hop, if_pos h]
    rw [e1]
    subst h
    clear e1
    have HC := Lib.hid (qcheckC 2 H1.out.s1)
    go_enter Try.func50, Try.ntmps50
    go_wp2_with ((with_reducible refine HC.out.mono ?_); rintro e w2 ⟨rfl, S2⟩; have H2 := Lib.hid S2.s1; clear S2; obtain ⟨L2, K2, z2⟩ := H2.out.look)
    refine bodyPost_ret (v := .agg #[.slice none 0 0, .int .i64 14, .int .i64 2]) (by simp [results, Try.results50, go_sem, L2]) rfl ?_
    exact RetS.of (st := 14) (sn := 2) (qS_close (s := ⟨bs, 0, ld, 2, la⟩) (q := ⟨.slice A bs.length c, qvo, qwr, qoa, qobs⟩) HQ.out (H2.out.set3.drop))
  · obtain ⟨p, rfl⟩ : ∃ p, pos = p + 1 := ⟨pos - 1, by omega⟩
    obtain ⟨b, hb⟩ : ∃ b, bs[p]? = some b := ⟨bs[p]'(by omega), List.getElem?_eq_getElem (by omega)⟩
    have e1 : tpMove ⟨bs, p + 1, ld, se, la⟩ op = (⟨bs, p, ld, se, la⟩, tpPassed b rd true) := by
      unfold tpMove
      rw [if_neg hop1, if_pos hop, if_neg h, hrd]
      simp only [Nat.add_sub_cancel, hb]
    rw [e1]
    obtain ⟨sn, hsn, hsn2⟩ := sn_passed b rd true se
    rw [hsn2]
    have hlt : p < bs.length := by omega
    have hw : IntKind.i64.wrap (p : Int) = (p : Int) := by rw [IntKind.wrap_i64]; omega
    have hne : (((p + 1 : Nat) : Int) == 0) = false := by rw [beq_eq_false_iff_ne]; omega
    have hsub : ((p + 1 : Nat) : Int) - 1 = (p : Int) := by omega
    have HB := Lib.hid hb
    have hbl := HF.out.2 b (List.mem_of_getElem? hb)
    obtain ⟨g, ps, A4, c4, rfl, hps, hpp, S0⟩ := blk_open H0.out.s1 hb
    have HP := Lib.hid (And.intro hps hpp)
    have H2 : Hid (SL W (rowT 25 3 (.slice (some ⟨g, 0, none⟩) bs.length c) bs.length (ps.flatMap blkCells) :: star (ps.map datS) :: cel qb #[.string nm, .slice (some ⟨g, 0, none⟩) bs.length c, .int .i64 (p : Int), .bool ld, .int .i64 (se : Int), .bool la.isSome, .bool qwr, qvo, .int .i64 qoa] 67 :: cel w.heap.size #[.slice none 0 0, .int .i64 0, .int .i64 0] 31 :: blksS qvo qobs :: F)
       ((w.setCell ⟨qb, 2, none⟩ (.int .i64 (p : Int))).alloc (.cells #[.slice none 0 0, .int .i64 0, .int .i64 0] 31))) := Lib.hid (by
      have h := ((SL.set (off := 2) (v := .int .i64 (p : Int)) (cs' := #[.string nm, .slice (some ⟨g, 0, none⟩) bs.length c, .int .i64 (p : Int), .bool ld, .int .i64 (se : Int), .bool la.isSome, .bool qwr, qvo, .int .i64 qoa]) S0.s2 rfl).allocC #[.slice none 0 0, .int .i64 0, .int .i64 0] 31)
      rw [World.size_setCell] at h
      exact h.s1.s3.s3)
    clear e1 hb hps hpp H0 S0
    go_enter Try.func50, Try.ntmps50
    go_wp2_with fail
    refine name_world (P := Code.wp _ _ _ _) ?_
    intro wd hwd
    rw [← hwd] at H2
    clear hwd H1 L0 K0 z0
    generalize w.heap.size = xb at *
    refine wp_region_order (SL W _) [] [0, 1, 2, 3, 4, 5, 6, 7, 8, 9, 10, 11] [] [] [12, 13] (by kernel_rfl) (by kernel_rfl) H2.out.drew (by intro c a d v w h; cases d <;> exact h) ?_
    simp only [pick, List.filterMap_cons, List.filterMap_nil, List.getElem?_cons_zero, List.getElem?_cons_succ]
    (repeat (refine wpPure_step (fun K hK => ?_); go_simp; refine hK _ ?_; clear hK K)); refine wpPure_nil ?_
    (repeat (refine wpLoads_step (fun K hK => ?_); go_simp; first | (refine hK _ ?_; clear hK K) | (refine ⟨_, fun wx S => (by obtain ⟨f3, f4, f5⟩ := S.s2.look; obtain ⟨g3, g4, g5⟩ := blk_cells S HP.out.2; go_simp; rfl), hK _ ?_⟩; clear hK K)))
    refine wpLoads_nil (wpQuiet_nil ?_)
    intro wq hwq
    have H5 := Lib.hid hwq
    clear hwq H2
    refine wpKeep_nil ?_
    have HC := Lib.hid (qpassed_any A4 c4 b rd true H5.out.s2 (blk_rd HP.out.2 rfl).cons hbl)
    rw [hsn] at HC
    go_wp2_with ((with_reducible refine HC.out.mono ?_); rintro e w7 ⟨A7, c7, rfl, S7⟩; have HX := Lib.hid S7.s4; clear S7; obtain ⟨L7, K7, z7⟩ := HX.out.look)
    refine bodyPost_ret (by simp [results, Try.results50, go_sem, L7]; rfl) rfl ?_
    refine ⟨A7, c7, rfl, SL.s1 (qS_close (s := ⟨bs, p, ld, sn, la⟩) (q := ⟨.slice (some ⟨g, 0, none⟩) bs.length c, qvo, qwr, qoa, qobs⟩) HQ.out ?_)⟩
    exact SL.s1 (blk_close HP.out.1 rfl (HX.out.set3.drop.b4.s2.s2))
end
end Go.Proofs.Ytbbokikjpabfkaa
