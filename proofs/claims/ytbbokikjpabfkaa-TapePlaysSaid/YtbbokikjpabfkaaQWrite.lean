/- write of the reference. -/
import Derived.Test.YtbbokikjpabfkaaQCut
namespace Go.Proofs.Ytbbokikjpabfkaa
open Go.RowKit

section
variable {W w w' : World} {F : List SA} {qb : Nat} {nm : ByteArray} {s : TP}
theorem qcheck_at (n : Nat) (k : Int) (hk : k = n) (S : SL W (qS qb nm s :: F) w) : Calls Try.prog 45 #[.pointer (some ⟨qb, 0, none⟩), .int .i64 k] w fun e w' => e = .returned (.agg #[.slice none 0 0, .int .i64 14, .int .i64 k]) ∧ SL W (qS qb nm { s with sense := n } :: F) w' := by
  subst hk
  exact qcheck_any n S
set_option maxHeartbeats 8000000 in
theorem qwrite_any (b : Blk) (A : Option Addr) (c : Nat) (S : SL W (datS (.slice A b.data.length c, b) :: qS qb nm s :: F) w) (hp : s.pos ≤ s.bs.length) (hf : Fit s.bs) (h40 : s.bs.length ≤ 4096) :
    Calls Try.prog 47 #[.pointer (some ⟨qb, 0, none⟩), .agg #[.bool b.mark, .slice A b.data.length c, .bool b.bad]] w fun e w' => RetS W (qS qb nm (snS (tpWrite s b).1 (tpWrite s b).2) :: F) (tpWrite s b).2 e w' := by
  have HE := Lib.hid qfine_any
  have H1 : Hid (SL W (cel (w.heap.size + 1) #[.slice none 0 0, .int .i64 0, .int .i64 0] 31 :: cel w.heap.size #[.bool b.mark, .slice A b.data.length c, .bool b.bad] 25 :: datS (.slice A b.data.length c, b) :: qS qb nm s :: F) ((w.alloc (.cells #[.bool b.mark, .slice A b.data.length c, .bool b.bad] 25)).alloc (.cells #[.slice none 0 0, .int .i64 0, .int .i64 0] 31))) :=
    Lib.hid (by
      have h := (S.allocC #[.bool b.mark, .slice A b.data.length c, .bool b.bad] 25).allocC #[.slice none 0 0, .int .i64 0, .int .i64 0] 31
      rw [World.size_alloc] at h
      exact h)
  have HF := Lib.hid hf
  have HC := Lib.hid (qcheck_at 1 1 rfl H1.out.s3)
  obtain ⟨q, _, S1⟩ := qS_open S.s1
  obtain ⟨L0, K0, z0⟩ := S1.look
  clear S S1 hf
  generalize hl : b.data.length = dl at *
  obtain ⟨bs, pos, ld, se, la⟩ := s
  dsimp only [qcells] at *
  by_cases h : pos = 4096
  · subst h
    have e2 : tpWrite ⟨bs, 4096, ld, se, la⟩ b = (⟨bs, 4096, ld, se, la⟩, [], 14, 1) := by unfold tpWrite; rw [if_pos rfl]
    rw [e2]
    go_enter Try.func47, Try.ntmps47
    go_wp2_with ((with_reducible refine HC.out.mono ?_); rintro e w2 ⟨rfl, S2⟩; have H2 := Lib.hid S2.s1; clear S2; obtain ⟨L2, K2, z2⟩ := H2.out.look)
    refine bodyPost_ret (v := .agg #[.slice none 0 0, .int .i64 14, .int .i64 1]) (by simp [results, Try.results47, go_sem, L2]) rfl ?_
    exact RetS.of (st := 14) (sn := 1) (H2.out.set3.drop.s1.drop.s1.drop)
  · have e2 : tpWrite ⟨bs, pos, ld, se, la⟩ b = (⟨bs.take pos ++ [b], pos + 1, ld, se, some (pos, bs.drop pos, !b.mark)⟩, [], 12, 0) := by
      unfold tpWrite
      rw [if_neg h]
      rfl
    rw [e2]
    have hn : ((pos : Int) == 4096) = false := by
      rw [beq_eq_false_iff_ne]; omega
    go_enter Try.func47, Try.ntmps47
    go_wp2_with fail
    refine (qcut_any H1.out.s3 hp HF.out).mono ?_
    rintro e w2 ⟨rfl, S2⟩
    obtain ⟨q2, hq2, S3⟩ := qS_open S2
    obtain ⟨hq3, hq4, hq5⟩ := hq2 pos (bs.drop pos) false rfl
    obtain ⟨qv, qvo, qwr, qoa, qobs⟩ := q2
    dsimp only [qcells, tpCut] at S3 hq3 hq4 hq5
    subst hq3; subst hq4
    obtain ⟨A2, c2, rfl, _, _⟩ := blksS_slice S3.s1
    obtain ⟨Ao, co, rfl, _, _⟩ := blksS_slice S3.s2
    obtain ⟨ps, hps, S4⟩ := blksS_open S3.s1
    have hpl : ps.length = pos := by
      have := congrArg List.length hps
      simp at this
      omega
    clear S3 S2 L0 K0 z0 H1 HC
    subst hpl
    have e1 : (List.take ps.length bs).length = ps.length := by rw [List.length_take]; omega
    have hl1 : bs.length ≤ 1048576 := HF.out.1
    have hqo : qobs = bs := by rw [hq5, List.take_take, Nat.min_self, List.take_append_drop]
    subst hqo
    simp only [e1] at S4
    -- [rowT, star, cel qb, blksS old, res, box, datS, F]
    have H4 := Lib.hid S4
    have HP := Lib.hid hps
    clear S4 hps HF hq5
    obtain ⟨L, K, z⟩ := H4.out.s2.look
    obtain ⟨L3, K3, z3⟩ := H4.out.s5.look
    have H5 := Lib.hid (SL.set (off := 6) (v := .bool (!b.mark)) (cs' := #[.string nm, .slice A2 ps.length c2, .int .i64 (ps.length : Int), .bool ld, .int .i64 (se : Int), .bool true, .bool (!b.mark), .slice Ao qobs.length co, .int .i64 (ps.length : Int)]) H4.out.s2 rfl).s2.s2
    go_wp2_with fail
    refine name_world (P := Code.wp _ _ _ _) ?_
    intro we hwe
    rw [← hwe] at H5
    clear hwe H4 L K z L3 K3 z3
    refine wp_region_order (SL W _) [0] [1, 2, 3, 4, 5] [] [6] [7, 8, 9, 10] (by kernel_rfl) (by kernel_rfl) H5.out.drew (by intro c a d v w h; cases d <;> exact h) ?_
    simp only [pick, List.filterMap_cons, List.filterMap_nil, List.getElem?_cons_zero, List.getElem?_cons_succ]
    (repeat (refine wpPure_step (fun K hK => ?_); go_simp; refine hK _ ?_; clear hK K)); refine wpPure_nil ?_
    repeat (refine wpLoads_step (fun K hK => ?_); go_simp; first | (refine hK _ ?_; clear hK K) | (refine ⟨_, fun wx S => (by obtain ⟨f3, f4, f5⟩ := S.s2.look; obtain ⟨g3, g4, g5⟩ := S.s5.look; go_simp; rfl), hK _ ?_⟩; clear hK K))
    refine wpLoads_nil (wpQuiet_nil ?_)
    intro wq hwq
    have H6 := Lib.hid hwq
    clear hwq H5
    (refine wpKeep_step ?_; intro K hK; go_simp)
    refine hK _ _ (H6.out.alloc _).drop ?_
    clear hK K
    refine wpKeep_nil ?_
    refine wpList_pushT rfl _ _ _ rfl blkElem wq [.bool b.mark, .slice A dl c, .bool b.bad] 1 rfl rfl (by simp [Value.oneCell']) _ ps.length _ rfl rfl H6.out (by unfold maxLen; omega) (by omega) ?_
    intro A6 c6 w6 S6
    have H7 := Lib.hid S6
    clear S6 H6
    have H8 := Lib.hid ((SL.set (off := 1) (v := .slice A6 (ps.length + 1) c6) (cs' := #[.string nm, .slice A6 (ps.length + 1) c6, .int .i64 (ps.length : Int), .bool ld, .int .i64 (se : Int), .bool true, .bool (!b.mark), .slice Ao qobs.length co, .int .i64 (ps.length : Int)]) H7.out.s2 rfl).set (off := 2) (v := .int .i64 ((ps.length : Int) + 1)) (cs' := #[.string nm, .slice A6 (ps.length + 1) c6, .int .i64 ((ps.length : Int) + 1), .bool ld, .int .i64 (se : Int), .bool true, .bool (!b.mark), .slice Ao qobs.length co, .int .i64 (ps.length : Int)]) rfl)
    obtain ⟨f3, f4, f5⟩ := H7.out.s2.look
    obtain ⟨g3, g4, g5⟩ := H7.out.s4.look
    have hne := (H7.out.s4.s3).cne
    go_wp2_with ((with_reducible refine (HE.out none 0 0 _).mono ?_); rintro e w7 ⟨rfl, b7⟩; have H9 := Lib.hid (H8.out.grow b7).s4; clear b7 g3 g4 g5; obtain ⟨g3, g4, g5⟩ := H9.out.look)
    refine bodyPost_ret (v := .agg #[.slice none 0 0, .int .i64 12, .int .i64 0]) (by simp [results, Try.results47, go_sem, g3]) rfl ?_
    have h9 := H9.out.set3 (u0 := .slice none 0 0) (u1 := .int .i64 12) (u2 := .int .i64 0)
    have h10 := blksS_push (p := (.slice A dl c, b)) (h9.drop.s4.drop.s4.s3.s1.s3)
    rw [HP.out] at h10
    refine RetS.of (st := 12) (sn := 0) (qS_close (s := ⟨qobs.take ps.length ++ [b], ps.length + 1, ld, se, some (ps.length, qobs.drop ps.length, !b.mark)⟩) (q := ⟨.slice A6 (ps.length + 1) c6, .slice Ao qobs.length co, !b.mark, (ps.length : Int), qobs⟩) ?_ h10.s1)
    intro a old blk e
    simp only [Option.some.injEq, Prod.mk.injEq] at e
    obtain ⟨rfl, rfl, rfl⟩ := e
    refine ⟨rfl, rfl, ?_⟩
    have e3 : ((qobs.take ps.length ++ [b]).take ps.length) = qobs.take ps.length := by
      rw [List.take_append_of_le_length (by omega), List.take_take, Nat.min_self]
    dsimp only
    rw [e3, List.take_append_drop]
end
end Go.Proofs.Ytbbokikjpabfkaa
