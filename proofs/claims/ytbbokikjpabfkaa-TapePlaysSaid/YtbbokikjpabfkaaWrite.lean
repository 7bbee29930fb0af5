/- write. -/
import Derived.Test.YtbbokikjpabfkaaCut
namespace Go.Proofs.Ytbbokikjpabfkaa
open Go.RowKit

theorem Fit.take {bs : List Blk} (h : Fit bs) (k : Nat) : Fit (bs.take k) := ⟨by have := h.1; rw [List.length_take]; omega, fun b hb => h.2 b (List.mem_of_mem_take hb)⟩
section
variable {W w w' : World} {F : List SA} {tb : Nat} {name : ByteArray} {s : TP}
/-- A push onto the blocks. -/
theorem blksS_push {ps : List BV} {A' : Option Addr} {c' : Nat} {p : BV} (S : SL W (rowT 25 3 (.slice A' (ps.length + 1) c') (ps.length + 1) (ps.flatMap blkCells ++ blkCells p) :: datS p :: star (ps.map datS) :: F) w) :
    SL W (blksS (.slice A' (ps.length + 1) c') (ps.map Prod.snd ++ [p.2]) :: F) w := by
  have h := (SL.snoc (P := datS p) S.s2.s2).s1
  have e : (ps ++ [p]).length = ps.length + 1 := by simp
  have h2 := blksS_close (v := .slice A' (ps.length + 1) c') (ps := ps ++ [p]) (F := F) (w := w) (W := W) (by
    rw [e, List.flatMap_append, List.map_append]
    simpa using h)
  rw [List.map_append] at h2
  exact h2
set_option maxHeartbeats 4000000 in
theorem write_any (b : Blk) (A : Option Addr) (c : Nat) (S : SL W (datS (.slice A b.data.length c, b) :: tapeS tb name s :: F) w) (hp : s.pos ≤ s.bs.length) (hf : Fit s.bs) (h40 : s.bs.length ≤ 4096) :
    Calls Try.prog 41 #[.pointer (some ⟨tb, 0, none⟩), .agg #[.bool b.mark, .slice A b.data.length c, .bool b.bad]] w fun e w' => RetS W (tapeS tb name (tpWrite s b).1 :: F) (tpWrite s b).2 e w' := by
  have HD := Lib.hid (check_any 1)
  have HE := Lib.hid done_any
  have H1 : Hid (SL W (cel (w.heap.size + 1) #[.slice none 0 0, .int .i64 0, .int .i64 0] 31 :: cel w.heap.size #[.bool b.mark, .slice A b.data.length c, .bool b.bad] 25 :: datS (.slice A b.data.length c, b) :: tapeS tb name s :: F) ((w.alloc (.cells #[.bool b.mark, .slice A b.data.length c, .bool b.bad] 25)).alloc (.cells #[.slice none 0 0, .int .i64 0, .int .i64 0] 31))) :=
    Lib.hid (by
      have h := (S.allocC #[.bool b.mark, .slice A b.data.length c, .bool b.bad] 25).allocC #[.slice none 0 0, .int .i64 0, .int .i64 0] 31
      rw [World.size_alloc] at h
      exact h)
  have HF := Lib.hid hf
  obtain ⟨v0, lp, S1⟩ := tapeS_open S.s1
  obtain ⟨L0, K0, z0⟩ := S1.look
  clear S S1 hf
  generalize hl : b.data.length = dl at *
  obtain ⟨bs, pos, ld, se, la⟩ := s
  dsimp only at *
  by_cases h : pos = 4096
  · subst h
    go_enter Try.func41, Try.ntmps41
    go_wp2_with (refine (HD.out _).mono ?_; rintro e w2 ⟨rfl, b2⟩; have H2 := Lib.hid (H1.out.grow b2); clear b2; obtain ⟨L2, K2, z2⟩ := H2.out.look)
    refine bodyPost_ret (v := .agg #[.slice none 0 0, .int .i64 14, .int .i64 1]) (by simp [results, Try.results41, go_sem, L2]) rfl ?_
    exact RetS.of (st := 14) (sn := 1) (H2.out.set3.drop.drop.drop)
  · go_enter Try.func41, Try.ntmps41
    have hn : ((pos : Int) == 4096) = false := by
      rw [beq_eq_false_iff_ne]; omega
    go_wp2_with fail
    refine (cut_any (!b.mark) H1.out.s3 hp HF.out).mono ?_
    rintro e w2 ⟨rfl, S2⟩
    have H2 := Lib.hid S2
    clear S2 H1
    obtain ⟨v2, lp2, S3⟩ := tapeS_open H2.out
    obtain ⟨A2, c2, rfl, _, _⟩ := blksS_slice S3.s1
    obtain ⟨ps, hps, S4⟩ := blksS_open S3.s1
    have hpl : ps.length = pos := by
      have := congrArg List.length hps
      simp [tpCut] at this
      omega
    clear S3 H2 L0 K0 z0
    subst hpl
    have e1 : (List.take ps.length bs).length = ps.length := by rw [List.length_take]; omega
    have hl1 : bs.length ≤ 1048576 := HF.out.1
    simp only [tpCut, e1] at S4
    have H4 := Lib.hid S4
    have HP := Lib.hid hps
    clear S4 hps HF
    go_wp2_with fail
    refine wp_region_order (SL W _) [0] [1, 2, 3, 4, 5] [] [6] [7, 8, 9, 10] (by kernel_rfl) (by kernel_rfl) H4.out.drew (by intro c a d v w h; cases d <;> exact h) ?_
    simp only [pick, List.filterMap_cons, List.filterMap_nil, List.getElem?_cons_zero, List.getElem?_cons_succ]
    (repeat (refine wpPure_step (fun K hK => ?_); go_simp; refine hK _ ?_; clear hK K)); refine wpPure_nil ?_
    repeat (refine wpLoads_step (fun K hK => ?_); go_simp; first | (refine hK _ ?_; clear hK K) | (refine ⟨_, fun wx S => (by obtain ⟨f3, f4, f5⟩ := S.s2.look; obtain ⟨g3, g4, g5⟩ := S.s5.look; go_simp; rfl), hK _ ?_⟩; clear hK K))
    refine wpLoads_nil (wpQuiet_nil ?_)
    intro wq hwq
    have H5 := Lib.hid hwq
    clear hwq H4
    (refine wpKeep_step ?_; intro K hK; go_simp)
    refine hK _ _ (H5.out.alloc _).drop ?_
    clear hK K
    refine wpKeep_nil ?_
    refine wpList_pushT rfl _ _ _ rfl blkElem wq [.bool b.mark, .slice A dl c, .bool b.bad] 1 rfl rfl (by simp [Value.oneCell']) _ ps.length _ rfl rfl H5.out (by unfold maxLen; omega) (by omega) ?_
    intro A6 c6 w6 S6
    have H6 := Lib.hid S6
    clear S6 H5
    have H7 := Lib.hid ((SL.set (off := 1) (v := .slice A6 (ps.length + 1) c6) (cs' := #[.string name, .slice A6 (ps.length + 1) c6, .int .i64 (ps.length : Int), .bool ld, .int .u8 (se : Int), .pointer lp2]) H6.out.s2 rfl).set (off := 2) (v := .int .i64 ((ps.length : Int) + 1)) (cs' := #[.string name, .slice A6 (ps.length + 1) c6, .int .i64 ((ps.length : Int) + 1), .bool ld, .int .u8 (se : Int), .pointer lp2]) rfl)
    obtain ⟨f3, f4, f5⟩ := H6.out.s2.look
    obtain ⟨g3, g4, g5⟩ := H6.out.s4.look
    have hne := (H6.out.s4.s3).cne
    go_wp2_with (refine (HE.out none 0 0 _).mono ?_; rintro e w7 ⟨rfl, b7⟩; have H8 := Lib.hid (H7.out.grow b7).s4; clear b7 g3 g4 g5; obtain ⟨g3, g4, g5⟩ := H8.out.look)
    refine bodyPost_ret (v := .agg #[.slice none 0 0, .int .i64 12, .int .i64 0]) (by simp [results, Try.results41, go_sem, g3]) rfl ?_
    have h9 := H8.out.set3 (u0 := .slice none 0 0) (u1 := .int .i64 12) (u2 := .int .i64 0)
    have h10 := blksS_push (p := (.slice A dl c, b)) (h9.drop.s4.drop.s4.s3.s1.s3)
    rw [HP.out] at h10
    have e2 : tpWrite ⟨bs, ps.length, ld, se, la⟩ b = (⟨bs.take ps.length ++ [b], ps.length + 1, ld, se, some (ps.length, bs.drop ps.length, !b.mark)⟩, [], 12, 0) := by
      unfold tpWrite
      rw [if_neg h]
      rfl
    rw [e2]
    exact RetS.of (st := 12) (sn := 0) (tapeS_close (s := ⟨bs.take ps.length ++ [b], ps.length + 1, ld, se, some (ps.length, bs.drop ps.length, !b.mark)⟩) h10.s1)
end
end Go.Proofs.Ytbbokikjpabfkaa
