/- TMove, TMoveB. -/
import Derived.Test.YtfhpaehfihnjaaaGreatTA
set_option maxRecDepth 100000
namespace Go.Proofs.YtfhpaehfihnjaaaGreat.T
open Go.RowKit
section
variable {W w w' : World} {F : List SA} {tb : Nat} {name : ByteArray} {s : TP}
theorem blk_open {A : Option Addr} {c i : Nat} {bs : List Blk} {b : Blk} (S : SL W (blksS (.slice A bs.length c) bs :: F) w) (hb : bs[i]? = some b) :
    ∃ (g : Nat) (ps : List BV) (A4 : Option Addr) (c4 : Nat), A = some ⟨g, 0, none⟩ ∧ ps.map Prod.snd = bs ∧ ps[i]? = some (.slice A4 b.data.length c4, b) ∧ SL W (rowT 66 3 (.slice (some ⟨g, 0, none⟩) bs.length c) bs.length (ps.flatMap blkCells) :: star (ps.map datS) :: F) w := by
  obtain ⟨ps, rfl, S1⟩ := blksS_open S
  rw [List.length_map] at S1
  rw [List.getElem?_map, Option.map_eq_some_iff] at hb
  obtain ⟨p, hp, rfl⟩ := hb
  obtain ⟨g, hA, _, _⟩ := S1.cellT (j := i * 3) (u := .bool p.2.mark) (by rw [show i * 3 = i * 3 + 0 by rfl, blkCells_get ps i 0 p hp (by omega)]; rfl)
  obtain ⟨A2, c2, e2, h1, h2, h3⟩ := datS_slice (S1.s1.take (i := i) (P := datS p) (by rw [List.getElem?_map, hp]; rfl))
  refine ⟨g, ps, A2, c2, hA, rfl, by rw [hp]; congr 1; exact Prod.ext e2 rfl, ?_⟩
  rw [List.length_map]
  rw [← hA]; exact S1
theorem blk_cells {g n c i : Nat} {ps : List BV} {p : BV} (S : SL W (rowT 66 3 (.slice (some ⟨g, 0, none⟩) n c) n (ps.flatMap blkCells) :: F) w) (hp : ps[i]? = some p) :
    w.cell? ⟨g, i * 3, none⟩ = some (.bool p.2.mark) ∧ w.cell? ⟨g, i * 3 + 1, none⟩ = some p.1 ∧ w.cell? ⟨g, i * 3 + 2, none⟩ = some (.bool p.2.bad) := by
  obtain ⟨g0, hA, _, k0⟩ := S.cellT (j := i * 3) (u := .bool p.2.mark) (by rw [show i * 3 = i * 3 + 0 by rfl, blkCells_get ps i 0 p hp (by omega)]; rfl)
  obtain ⟨g1, hA1, _, k1⟩ := S.cellT (j := i * 3 + 1) (u := p.1) (by rw [blkCells_get ps i 1 p hp (by omega)]; rfl)
  obtain ⟨g2, hA2, _, k2⟩ := S.cellT (j := i * 3 + 2) (u := .bool p.2.bad) (by rw [blkCells_get ps i 2 p hp (by omega)]; rfl)
  injection hA with hA; injection hA with hA; subst hA
  injection hA1 with hA1; injection hA1 with hA1; subst hA1
  injection hA2 with hA2; injection hA2 with hA2; subst hA2
  exact ⟨k0, k1, k2⟩
theorem blk_rd {i n c4 : Nat} {A4 : Option Addr} {ps : List BV} {b : Blk} (hp : ps[i]? = some (.slice A4 n c4, b)) (hn : n = b.data.length) : Rd W (star (ps.map datS) :: F) A4 (Lib.byteCells b.data) := fun w S => by
  have h := S.take (i := i) (P := datS (.slice A4 n c4, b)) (by rw [List.getElem?_map, hp]; rfl)
  subst hn
  exact SL.at_ (k := c4) h
theorem blk_close {v : Value} {n : Nat} {ps : List BV} {bs : List Blk} (hps : ps.map Prod.snd = bs) (hn : n = bs.length) (S : SL W (rowT 66 3 v n (ps.flatMap blkCells) :: star (ps.map datS) :: F) w) : SL W (blksS v bs :: F) w := by
  subst hps
  rw [List.length_map] at hn
  subst hn
  exact blksS_close S
set_option maxHeartbeats 4000000 in
theorem move_fwd (op : Int) (hop : op = 2 ∨ op = 55) (S : SL W (tapeS tb name s :: F) w) (hp : s.pos ≤ s.bs.length) (hf : Fit s.bs) :
    Calls Tryz.prog 183 #[.pointer (some ⟨tb, 0, none⟩), .int .i64 op] w fun e w' => RetS W (tapeS tb name (tpMove s op).1 :: F) (tpMove s op).2 e w' := by
  have HD := Lib.hid (check_any 2)
  obtain ⟨v, lp, S1⟩ := tapeS_open S
  obtain ⟨A, c, rfl, hc1, hc2⟩ := blksS_slice S1.s1
  have H0 := Lib.hid S1
  have H1 := Lib.hid (S1.allocC #[.slice none 0 0, .int .i64 0, .int .i64 0] 55)
  obtain ⟨L0, K0, z0⟩ := S1.look
  have HF := Lib.hid hf
  have hl1 : s.bs.length ≤ 1048576 := hf.1
  clear S S1 hf
  obtain ⟨bs, pos, ld, se, la⟩ := s
  dsimp only at *
  by_cases h : pos = bs.length
  · have e1 : tpMove ⟨bs, pos, ld, se, la⟩ op = (⟨bs, pos, ld, se, la⟩, [], 14, 2) := by
      unfold tpMove
      rw [if_pos hop, List.getElem?_eq_none (by dsimp only; omega)]
    rw [e1]
    subst h
    clear e1
    rcases hop with rfl | rfl
    all_goals
      go_enter Tryz.func183, Tryz.ntmps183
      go_wp2_with fail
      go_big_region
      go_wp2_with (refine (HD.out _).mono ?_; rintro e w2 ⟨rfl, b2⟩; have H2 := Lib.hid (H1.out.drew.grow b2); clear b2; obtain ⟨L2, K2, z2⟩ := H2.out.look)
      refine bodyPost_ret (v := .agg #[.slice none 0 0, .int .i64 14, .int .i64 2]) (by simp [results, Tryz.results183, go_sem, L2]) rfl ?_
      exact RetS.of (st := 14) (sn := 2) (tapeS_close (s := ⟨bs, bs.length, ld, se, la⟩) (H2.out.set3.drop))
  · obtain ⟨b, hb⟩ : ∃ b, bs[pos]? = some b := ⟨bs[pos]'(by omega), List.getElem?_eq_getElem (by omega)⟩
    have e1 : tpMove ⟨bs, pos, ld, se, la⟩ op = (⟨bs, pos + 1, ld, se, la⟩, tpPassed b (op == 2) false) := by
      unfold tpMove
      rw [if_pos hop]
      simp only [hb]
    rw [e1]
    have hlt : pos < bs.length := by omega
    have hw : IntKind.i64.wrap (pos : Int) = (pos : Int) := by rw [IntKind.wrap_i64]; omega
    have hne : ((pos : Int) == (bs.length : Int)) = false := by rw [beq_eq_false_iff_ne]; omega
    have HB := Lib.hid hb
    have hbl := HF.out.2 b (List.mem_of_getElem? hb)
    obtain ⟨g, ps, A4, c4, rfl, hps, hpp, S0⟩ := blk_open H0.out.s1 hb
    have H2 : Hid (SL W (cel w.heap.size #[.slice none 0 0, .int .i64 0, .int .i64 0] 55 :: cel tb #[.string name, .slice (some ⟨g, 0, none⟩) bs.length c, .int .i64 ((pos : Int) + 1), .bool ld, .int .u8 (se : Int), .pointer lp] 126 :: rowT 66 3 (.slice (some ⟨g, 0, none⟩) bs.length c) bs.length (ps.flatMap blkCells) :: star (ps.map datS) :: lastS lp la :: F)
       ((w.setCell ⟨tb, 2, none⟩ (.int .i64 ((pos : Int) + 1))).alloc (.cells #[.slice none 0 0, .int .i64 0, .int .i64 0] 55)).drew) := Lib.hid (by
      have h := (SL.set (off := 2) (v := .int .i64 ((pos : Int) + 1)) (cs' := #[.string name, .slice (some ⟨g, 0, none⟩) bs.length c, .int .i64 ((pos : Int) + 1), .bool ld, .int .u8 (se : Int), .pointer lp]) S0.s2 rfl).allocC #[.slice none 0 0, .int .i64 0, .int .i64 0] 55
      rw [World.size_setCell] at h
      exact h.drew)
    have HP := Lib.hid (And.intro hps hpp)
    clear e1 hb hps hpp S0 H0
    rcases hop with rfl | rfl
    all_goals
      simp only [show ((2 : Int) == 2) = true from rfl, show ((55 : Int) == 2) = false from rfl]
      go_enter Tryz.func183, Tryz.ntmps183
      go_wp2_with fail
      go_big_region
      go_wp2_with fail
      refine name_world (P := Code.wp _ _ _ _) ?_
      intro wd hwd
      rw [← hwd] at H2
      have H3 := Lib.hid H2.out.s2
      clear hwd H2 H1 L0 K0 z0
      generalize w.heap.size = xb at *
      refine wp_region_order (SL W _) [] [0, 1, 2, 3, 4, 5, 6, 7, 8, 9, 10, 11, 12] [] [13] [14] (by kernel_rfl) (by kernel_rfl) H3.out.drew (by intro c a d v w h; cases d <;> exact h) ?_
      simp only [pick, List.filterMap_cons, List.filterMap_nil, List.getElem?_cons_zero, List.getElem?_cons_succ]; (repeat (refine wpPure_step (fun K hK => ?_); go_simp; refine hK _ ?_; clear hK K)); refine wpPure_nil ?_; (repeat (refine wpLoads_step (fun K hK => ?_); go_simp; first | (refine hK _ ?_; clear hK K) | (refine ⟨_, fun wx S => (by obtain ⟨f3, f4, f5⟩ := S.s2.look; obtain ⟨g3, g4, g5⟩ := blk_cells S HP.out.2; go_simp; rfl), hK _ ?_⟩; clear hK K))); refine wpLoads_nil (wpQuiet_nil ?_); intro wq hwq; have H5 := Lib.hid hwq; clear hwq H3; (refine wpKeep_step ?_; intro K hK; go_simp); refine (passed_any A4 c4 b _ false H5.out (blk_rd HP.out.2 rfl).cons.cons.cons hbl).mono ?_; rintro e w7 ⟨A7, c7, rfl, S7⟩; have H7 := Lib.hid S7; clear S7 H5; refine hK _ _ H7.out.drop ?_; clear hK K; refine wpKeep_nil ?_; have HX := Lib.hid H7.out.s2; obtain ⟨L7, K7, z7⟩ := HX.out.look; clear H7; go_wp2; refine bodyPost_ret (by simp [results, Tryz.results183, go_sem, L7]; rfl) rfl ?_; exact ⟨A7, c7, rfl, SL.s1 (tapeS_close (s := ⟨bs, pos + 1, ld, se, la⟩) (SL.s1 (blk_close HP.out.1 rfl HX.out.set3.drop.b4.s2.s1)))⟩
end
end Go.Proofs.YtfhpaehfihnjaaaGreat.T
namespace Go.Proofs.YtfhpaehfihnjaaaGreat.T
open Go.RowKit
section
variable {W w w' : World} {F : List SA} {tb : Nat} {name : ByteArray} {s : TP}
set_option maxHeartbeats 4000000 in
theorem move_back (op : Int) (hop : op = 12 ∨ op = 39) (S : SL W (tapeS tb name s :: F) w) (hp : s.pos ≤ s.bs.length) (hf : Fit s.bs) :
    Calls Tryz.prog 183 #[.pointer (some ⟨tb, 0, none⟩), .int .i64 op] w fun e w' => RetS W (tapeS tb name (tpMove s op).1 :: F) (tpMove s op).2 e w' := by
  have HD := Lib.hid (check_any 2)
  obtain ⟨v, lp, S1⟩ := tapeS_open S
  obtain ⟨A, c, rfl, hc1, hc2⟩ := blksS_slice S1.s1
  have H0 := Lib.hid S1
  have H1 := Lib.hid (S1.allocC #[.slice none 0 0, .int .i64 0, .int .i64 0] 55)
  obtain ⟨L0, K0, z0⟩ := S1.look
  have HF := Lib.hid hf
  have hl1 : s.bs.length ≤ 1048576 := hf.1
  clear S S1 hf
  obtain ⟨bs, pos, ld, se, la⟩ := s
  dsimp only at *
  rcases pos with _ | pos
  · have e1 : tpMove ⟨bs, 0, ld, se, la⟩ op = (⟨bs, 0, ld, se, la⟩, [], 14, 2) := by
      unfold tpMove
      rw [if_neg (by rcases hop with rfl | rfl <;> decide), if_pos hop, if_pos rfl]
    rw [e1]
    clear e1
    rcases hop with rfl | rfl
    all_goals
      go_enter Tryz.func183, Tryz.ntmps183
      go_wp2_with (refine (HD.out _).mono ?_; rintro e w2 ⟨rfl, b2⟩; have H2 := Lib.hid (H1.out.grow b2); clear b2; obtain ⟨L2, K2, z2⟩ := H2.out.look)
      refine bodyPost_ret (v := .agg #[.slice none 0 0, .int .i64 14, .int .i64 2]) (by simp [results, Tryz.results183, go_sem, L2]) rfl ?_
      exact RetS.of (st := 14) (sn := 2) (tapeS_close (s := ⟨bs, 0, ld, se, la⟩) (H2.out.set3.drop))
  · obtain ⟨b, hb⟩ : ∃ b, bs[pos]? = some b := ⟨bs[pos]'(by omega), List.getElem?_eq_getElem (by omega)⟩
    have e1 : tpMove ⟨bs, pos + 1, ld, se, la⟩ op = (⟨bs, pos, ld, se, la⟩, tpPassed b (op == 12) true) := by
      unfold tpMove
      rw [if_neg (by rcases hop with rfl | rfl <;> decide), if_pos hop, if_neg (by simp)]
      simp only [Nat.add_sub_cancel, hb]
    rw [e1]
    have hlt : pos < bs.length := by omega
    have hw : IntKind.i64.wrap (pos : Int) = (pos : Int) := by rw [IntKind.wrap_i64]; omega
    have hne : (((pos + 1 : Nat) : Int) == 0) = false := by rw [beq_eq_false_iff_ne]; omega
    have hne2 : ((pos : Int) + 1 == 0) = false := by rw [beq_eq_false_iff_ne]; omega
    have HB := Lib.hid hb
    have hbl := HF.out.2 b (List.mem_of_getElem? hb)
    obtain ⟨g, ps, A4, c4, rfl, hps, hpp, S0⟩ := blk_open H0.out.s1 hb
    have H2 : Hid (SL W (cel w.heap.size #[.slice none 0 0, .int .i64 0, .int .i64 0] 55 :: cel tb #[.string name, .slice (some ⟨g, 0, none⟩) bs.length c, .int .i64 (pos : Int), .bool ld, .int .u8 (se : Int), .pointer lp] 126 :: rowT 66 3 (.slice (some ⟨g, 0, none⟩) bs.length c) bs.length (ps.flatMap blkCells) :: star (ps.map datS) :: lastS lp la :: F)
       ((w.setCell ⟨tb, 2, none⟩ (.int .i64 (pos : Int))).alloc (.cells #[.slice none 0 0, .int .i64 0, .int .i64 0] 55))) := Lib.hid (by
      have h := (SL.set (off := 2) (v := .int .i64 (pos : Int)) (cs' := #[.string name, .slice (some ⟨g, 0, none⟩) bs.length c, .int .i64 (pos : Int), .bool ld, .int .u8 (se : Int), .pointer lp]) S0.s2 rfl).allocC #[.slice none 0 0, .int .i64 0, .int .i64 0] 55
      rw [World.size_setCell] at h
      exact h)
    have HP := Lib.hid (And.intro hps hpp)
    clear e1 hb hps hpp S0 H0
    rcases hop with rfl | rfl
    all_goals
      simp only [show ((12 : Int) == 12) = true from rfl, show ((39 : Int) == 12) = false from rfl]
      go_enter Tryz.func183, Tryz.ntmps183
      go_wp2_with fail
      refine name_world (P := Code.wp _ _ _ _) ?_
      intro wd hwd
      rw [← hwd] at H2
      have H3 := Lib.hid H2.out.s2
      clear hwd H2 H1 L0 K0 z0
      generalize w.heap.size = xb at *
      refine wp_region_order (SL W _) [] [0, 1, 2, 3, 4, 5, 6, 7, 8, 9, 10, 11] [] [12] [13] (by kernel_rfl) (by kernel_rfl) H3.out.drew (by intro c a d v w h; cases d <;> exact h) ?_
      simp only [pick, List.filterMap_cons, List.filterMap_nil, List.getElem?_cons_zero, List.getElem?_cons_succ]; (repeat (refine wpPure_step (fun K hK => ?_); go_simp; refine hK _ ?_; clear hK K)); refine wpPure_nil ?_; (repeat (refine wpLoads_step (fun K hK => ?_); go_simp; first | (refine hK _ ?_; clear hK K) | (refine ⟨_, fun wx S => (by obtain ⟨f3, f4, f5⟩ := S.s2.look; obtain ⟨g3, g4, g5⟩ := blk_cells S HP.out.2; go_simp; rfl), hK _ ?_⟩; clear hK K))); refine wpLoads_nil (wpQuiet_nil ?_); intro wq hwq; have H5 := Lib.hid hwq; clear hwq H3; (refine wpKeep_step ?_; intro K hK; go_simp); refine (passed_any A4 c4 b _ true H5.out (blk_rd HP.out.2 rfl).cons.cons.cons hbl).mono ?_; rintro e w7 ⟨A7, c7, rfl, S7⟩; have H7 := Lib.hid S7; clear S7 H5; refine hK _ _ H7.out.drop ?_; clear hK K; refine wpKeep_nil ?_; have HX := Lib.hid H7.out.s2; obtain ⟨L7, K7, z7⟩ := HX.out.look; clear H7; go_wp2; refine bodyPost_ret (by simp [results, Tryz.results183, go_sem, L7]; rfl) rfl ?_; exact ⟨A7, c7, rfl, SL.s1 (tapeS_close (s := ⟨bs, pos, ld, se, la⟩) (SL.s1 (blk_close HP.out.1 rfl HX.out.set3.drop.b4.s2.s1)))⟩
set_option maxHeartbeats 4000000 in
theorem move_ffile (S : SL W (tapeS tb name s :: F) w) (hp : s.pos ≤ s.bs.length) (hf : Fit s.bs) :
    Calls Tryz.prog 183 #[.pointer (some ⟨tb, 0, none⟩), .int .i64 63] w fun e w' => RetS W (tapeS tb name (tpMove s 63).1 :: F) (tpMove s 63).2 e w' := by
  have HD := Lib.hid (check_any 2)
  have HM := Lib.hid mark_any
  obtain ⟨v, lp, S1⟩ := tapeS_open S
  obtain ⟨A, c, rfl, hc1, hc2⟩ := blksS_slice S1.s1
  have H1 := Lib.hid (S1.allocC #[.slice none 0 0, .int .i64 0, .int .i64 0] 55).s1
  have HF := Lib.hid hf
  have hl1 : s.bs.length ≤ 1048576 := hf.1
  clear S S1 hf
  obtain ⟨bs, pos, ld, se, la⟩ := s
  dsimp only at *
  generalize hr : tpMove ⟨bs, pos, ld, se, la⟩ 63 = r
  have HR := Lib.hid hr
  clear hr
  go_enter Tryz.func183, Tryz.ntmps183
  go_wp2_with fail
  refine wp_region_quiet (C := SL W _) (by kernel_rfl) (by kernel_rfl) H1.out.drew ?_
  have hd : (bs.drop pos).length = bs.length - pos := List.length_drop
  have hlp : (bs.drop pos).length ≤ 1048576 := by omega
  repeat (refine wpQuiet_step (fun K hK => ?_); go_simp; first | (refine hK _ ?_; clear hK K) | (refine ⟨_, fun _ _ => rfl, hK _ ?_⟩; clear hK K) | (refine ⟨_, fun wx S => (by obtain ⟨f3, f4, f5⟩ := S.look; go_simp; rfl), hK _ ?_⟩; clear hK K) | (rw [← hd]; refine ⟨_, fun wx hx => idx_any _ (bs.drop pos) (c - pos) hx (fun w2 S2 => (blksS_at S2.s2).slice pos hc1) hlp, hK _ ?_⟩; clear hK K))
  refine wpQuiet_nil ?_
  intro wq hwq
  generalize (if c = pos then A else Option.map (fun x => x.add (pos * 3)) A) = A0
  have H2 := Lib.hid hwq
  clear hwq H1
  generalize w.heap.size = xb at *
  obtain ⟨L, K, z⟩ := H2.out.look
  obtain ⟨g3, g4, g5⟩ := H2.out.s1.look
  have hnb := H2.out.cne
  cases hx : (bs.drop pos).findIdx? (·.mark) with
  | none =>
    have e1 : markAt (bs.drop pos) = -1 := by unfold markAt; rw [hx]
    have e2 : tpMove ⟨bs, pos, ld, se, la⟩ 63 = (⟨bs, bs.length, ld, se, la⟩, [], 14, 2) := by
      unfold tpMove
      rw [if_neg (by decide), if_neg (by decide), if_pos rfl]
      simp only [hx]
    have E2 := Lib.hid e2
    rw [e1]
    clear e1 e2 hx
    have H3 := Lib.hid (H2.out.set (off := 2) (v := .int .i64 (bs.length : Int)) (cs' := #[.string name, .slice A bs.length c, .int .i64 (bs.length : Int), .bool ld, .int .u8 (se : Int), .pointer lp]) rfl)
    go_wp2_with (refine (HD.out _).mono ?_; rintro e w4 ⟨rfl, b4⟩; have H4 := Lib.hid (H3.out.grow b4).s1; clear b4 g3 g4 g5 L K z; obtain ⟨g3, g4, g5⟩ := H4.out.look)
    refine bodyPost_ret (v := .agg #[.slice none 0 0, .int .i64 14, .int .i64 2]) (by simp [results, Tryz.results183, go_sem, g3]) rfl ?_
    rw [← HR.out, E2.out]
    exact RetS.of (st := 14) (sn := 2) (tapeS_close (s := ⟨bs, bs.length, ld, se, la⟩) (H4.out.set3.drop))
  | some n =>
    have e1 : markAt (bs.drop pos) = (n : Int) := by unfold markAt; rw [hx]
    have hn : n < bs.length - pos := by
      rw [List.findIdx?_eq_some_iff_getElem] at hx
      obtain ⟨h, _⟩ := hx
      rw [← hd]; exact h
    have e2 : tpMove ⟨bs, pos, ld, se, la⟩ 63 = (⟨bs, pos + n + 1, ld, se, la⟩, [], 13, 0) := by
      unfold tpMove
      rw [if_neg (by decide), if_neg (by decide), if_pos rfl]
      simp only [hx]
    have E2 := Lib.hid e2
    rw [e1]
    clear e1 e2 hx
    have e3 : (pos : Int) + ((n : Int) + 1) = ((pos + n + 1 : Nat) : Int) := by omega
    have H3 := Lib.hid (H2.out.set (off := 2) (v := .int .i64 ((pos : Int) + ((n : Int) + 1))) (cs' := #[.string name, .slice A bs.length c, .int .i64 ((pos : Int) + ((n : Int) + 1)), .bool ld, .int .u8 (se : Int), .pointer lp]) rfl)
    go_wp2_with (refine (HM.out _).mono ?_; rintro e w4 ⟨rfl, b4⟩; have H4 := Lib.hid (H3.out.grow b4).s1; clear b4 g3 g4 g5 L K z; obtain ⟨g3, g4, g5⟩ := H4.out.look)
    refine bodyPost_ret (v := .agg #[.slice none 0 0, .int .i64 13, .int .i64 0]) (by simp [results, Tryz.results183, go_sem, g3]) rfl ?_
    have h5 := (H4.out.set3 (u0 := .slice none 0 0) (u1 := .int .i64 13) (u2 := .int .i64 0)).drop
    rw [e3] at h5
    rw [← HR.out, E2.out]
    exact RetS.of (st := 13) (sn := 0) (tapeS_close (s := ⟨bs, pos + n + 1, ld, se, la⟩) h5)
theorem backTo_skip (bs : List Blk) (k : Nat) (b : Blk) (hb : bs[k]? = some b) (hm : b.mark = false) : backTo bs (k + 1) = backTo bs k := by
  simp [backTo, hb, hm]
theorem backTo_stop (bs : List Blk) (k : Nat) (b : Blk) (hb : bs[k]? = some b) (hm : b.mark = true) : backTo bs (k + 1) = some k := by
  simp [backTo, hb, hm]
set_option maxHeartbeats 4000000 in
theorem move_bfile (S : SL W (tapeS tb name s :: F) w) (hp : s.pos ≤ s.bs.length) (hf : Fit s.bs) :
    Calls Tryz.prog 183 #[.pointer (some ⟨tb, 0, none⟩), .int .i64 47] w fun e w' => RetS W (tapeS tb name (tpMove s 47).1 :: F) (tpMove s 47).2 e w' := by
  have HE := Lib.hid done_any
  have HM := Lib.hid mark_any
  obtain ⟨v, lp, S1⟩ := tapeS_open S
  obtain ⟨A, c, rfl, hc1, hc2⟩ := blksS_slice S1.s1
  have H1 := Lib.hid (S1.allocC #[.slice none 0 0, .int .i64 0, .int .i64 0] 55).s1
  have HF := Lib.hid hf
  have hl1 : s.bs.length ≤ 1048576 := hf.1
  clear S S1 hf
  obtain ⟨bs, pos, ld, se, la⟩ := s
  dsimp only at *
  have e0 : tpMove ⟨bs, pos, ld, se, la⟩ 47 = (match backTo bs pos with | none => (⟨bs, 0, ld, se, la⟩, [], 12, 0) | some k => (⟨bs, k, ld, se, la⟩, [], 13, 0)) := by
    unfold tpMove
    rw [if_neg (by decide), if_neg (by decide), if_neg (by decide)]
    dsimp only
    cases backTo bs pos <;> rfl
  rw [e0]
  generalize hr : (match backTo bs pos with | none => ((⟨bs, 0, ld, se, la⟩ : TP), (([], 12, 0) : Rep)) | some k => (⟨bs, k, ld, se, la⟩, [], 13, 0)) = r
  have HR := Lib.hid hr
  clear hr e0
  go_enter Tryz.func183, Tryz.ntmps183
  go_wp2_with fail
  refine name_world (P := Code.wp _ _ _ _) ?_
  intro wd hwd
  rw [← hwd] at H1
  clear hwd
  generalize w.heap.size = xb at *
  go_loopg [] pos (fun g wr => ∃ k : Nat, k = g ∧ k ≤ pos ∧ backTo bs k = backTo bs pos ∧ SL W (cel tb #[.string name, .slice A bs.length c, .int .i64 (k : Int), .bool ld, .int .u8 (se : Int), .pointer lp] 126 :: cel xb #[.slice none 0 0, .int .i64 0, .int .i64 0] 55 :: blksS (.slice A bs.length c) bs :: lastS lp la :: F) wr)
  case atStart => exact ⟨pos, rfl, Nat.le_refl _, rfl, H1.out⟩
  case round =>
    obtain ⟨k, rfl, hk, hb0, S1⟩ := hrel
    have H2 := Lib.hid S1
    have HB0 := Lib.hid hb0
    clear S1 H1 hb0
    rcases k with _ | j
    · obtain ⟨L, K, z⟩ := H2.out.look
      go_wp2_with (refine (HE.out none 0 0 _).mono ?_; rintro e w4 ⟨rfl, b4⟩; have H4 := Lib.hid (H2.out.grow b4).s1; clear b4 L K z; obtain ⟨g3, g4, g5⟩ := H4.out.look)
      refine bodyPost_ret (v := .agg #[.slice none 0 0, .int .i64 12, .int .i64 0]) (by simp [results, Tryz.results183, go_sem, g3]) rfl ?_
      have e3 : backTo bs pos = none := by rw [← HB0.out]; rfl
      rw [← HR.out, e3]
      exact RetS.of (st := 12) (sn := 0) (tapeS_close (s := ⟨bs, 0, ld, se, la⟩) (H4.out.set3.drop))
    · obtain ⟨b, hb⟩ : ∃ b, bs[j]? = some b := ⟨bs[j]'(by omega), List.getElem?_eq_getElem (by omega)⟩
      have hlt : j < bs.length := by omega
      have hgt : decide (((j + 1 : Nat) : Int) > 0) = true := by simp
      obtain ⟨L, K, z⟩ := H2.out.look
      obtain ⟨g, ps, A4, c4, rfl, hps, hpp, S0⟩ := blk_open H2.out.s2 hb
      have HB := Lib.hid hb
      have HP := Lib.hid (And.intro hps hpp)
      have H3 := Lib.hid (SL.set (off := 2) (v := .int .i64 (j : Int)) (cs' := #[.string name, .slice (some ⟨g, 0, none⟩) bs.length c, .int .i64 (j : Int), .bool ld, .int .u8 (se : Int), .pointer lp]) S0.s2 rfl).s1
      clear S0 hps hpp hb
      go_upto_region 23 with fail
      refine name_world (P := Code.wp _ _ _ _) ?_
      intro wq hwq
      rw [← hwq] at H3
      clear hwq L K z
      obtain ⟨k0, k1, k2⟩ := blk_cells H3.out HP.out.2
      obtain ⟨L, K, z⟩ := H3.out.s1.look
      obtain ⟨L8, K8, z8⟩ := H3.out.s3.look
      go_big_region
      go_wp2_with (refine (HM.out _).mono ?_; rintro e w4 ⟨rfl, b4⟩; have H4 := Lib.hid (H3.out.drew.grow b4).s3; clear b4 L K z L8 K8 z8 k0 k1 k2; obtain ⟨g3, g4, g5⟩ := H4.out.look)
      · rename_i hmk
        refine bodyPost_ret (v := .agg #[.slice none 0 0, .int .i64 13, .int .i64 0]) (by simp [results, Tryz.results183, go_sem, g3]) rfl ?_
        have e3 : backTo bs pos = some j := by rw [← HB0.out]; exact backTo_stop bs j b HB.out hmk
        rw [← HR.out, e3]
        have h5 := (H4.out.set3 (u0 := .slice none 0 0) (u1 := .int .i64 13) (u2 := .int .i64 0)).drop
        exact RetS.of (st := 13) (sn := 0) (tapeS_close (s := ⟨bs, j, ld, se, la⟩) (SL.s1 (blk_close HP.out.1 rfl h5.s2.s1)))
      · rename_i hmk
        go_roundg j
        case measure => omega
        case rel => exact ⟨j, rfl, by omega, by rw [← HB0.out]; exact (backTo_skip bs j b HB.out hmk).symm, (blk_close HP.out.1 rfl (H3.out.drew.s2.s1)).s1.s2.s1⟩
theorem move_any (op : Int) (hop : op = 2 ∨ op = 55 ∨ op = 12 ∨ op = 39 ∨ op = 63 ∨ op = 47) (S : SL W (tapeS tb name s :: F) w) (hp : s.pos ≤ s.bs.length) (hf : Fit s.bs) :
    Calls Tryz.prog 183 #[.pointer (some ⟨tb, 0, none⟩), .int .i64 op] w fun e w' => RetS W (tapeS tb name (tpMove s op).1 :: F) (tpMove s op).2 e w' := by
  rcases hop with h | h | h | h | rfl | rfl
  · exact move_fwd op (Or.inl h) S hp hf
  · exact move_fwd op (Or.inr h) S hp hf
  · exact move_back op (Or.inl h) S hp hf
  · exact move_back op (Or.inr h) S hp hf
  · exact move_ffile S hp hf
  · exact move_bfile S hp hf
end
end Go.Proofs.YtfhpaehfihnjaaaGreat.T
