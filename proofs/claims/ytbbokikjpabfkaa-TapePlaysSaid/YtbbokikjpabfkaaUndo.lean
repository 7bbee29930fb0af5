/- The tape unit: Undo. -/
import Derived.Test.YtbbokikjpabfkaaDo
namespace Go.Proofs.Ytbbokikjpabfkaa
open Go.RowKit

section
variable {W w w' : World} {F : List SA} {tb : Nat} {name : ByteArray} {s : TP}
theorem rowT_at {e : TypeId} {size n c : Nat} {A : Option Addr} {xs : List Value} (S : SL W (rowT e size (.slice A n c) n xs :: F) w) : At w w.heap.size A xs := fun hx => by
  obtain ⟨u, hu⟩ : ∃ u, xs[0]? = some u := ⟨_, List.getElem?_eq_getElem (List.length_pos_iff.2 hx)⟩
  rcases S.rowTo with ⟨_, _, rfl⟩ | ⟨g, cap, cur, hv, _, _, _, _, _, _, S'⟩
  · exact absurd rfl hx
  · injection hv with hA _ _
    refine ⟨g, 0, hA, S'.look.2.2, fun j u hj => ?_⟩
    obtain ⟨b, hb, _, h⟩ := S.cellT hj
    rw [hA] at hb
    injection hb with hb; injection hb with hb; subst hb
    rw [Nat.zero_add]; exact h
theorem dats_one {ps : List BV} (S : SL W (star (ps.map datS) :: F) w) : ∀ u ∈ ps.flatMap blkCells, u.oneCell' = true := by
  intro u hu
  obtain ⟨p, hp, hu⟩ := List.mem_flatMap.1 hu
  obtain ⟨i, hi, rfl⟩ := List.getElem_of_mem hp
  obtain ⟨A, c, e, _⟩ := datS_slice (S.take (i := i) (P := datS ps[i]) (by simp [hi]))
  simp only [blkCells, List.mem_cons, List.not_mem_nil, or_false] at hu
  rcases hu with rfl | rfl | rfl
  · rfl
  · rw [e]; rfl
  · rfl
theorem blk_len (ps : List BV) : (ps.flatMap blkCells).length = ps.length * 3 := by
  induction ps with
  | nil => rfl
  | cons p ps ih => simp [blkCells, ih]; omega
theorem SL.joins {L M r : List SA} (S : SL W (star L :: star M :: r) w) : SL W (star (L ++ M) :: r) w := by
  have h1 : SL W (star M :: (L ++ r)) w := S.spill.perm List.perm_middle
  have h2 : SL W ((L ++ M) ++ r) w := h1.spill.perm (by
    rw [← List.append_assoc]
    exact (List.perm_append_comm).append_right r)
  exact h2.app
set_option maxHeartbeats 4000000 in
theorem undo_zero {a : Nat} {old : List Blk} {blk : Bool} (h : s.last = some (a, old, blk)) (S : SL W (tapeS tb name s :: F) w) :
    Calls Try.prog 21 #[.pointer (some ⟨tb, 0, none⟩), .int .i64 0] w fun e w' => e = .returned (.bool true) ∧ SL W (tapeS tb name { s with last := none } :: F) w' := by
  obtain ⟨v, lp, S1⟩ := tapeS_open S
  rw [h] at S1
  obtain ⟨lb, v2, rfl, S2⟩ := lastS_open S1.s2
  obtain ⟨L, K, z⟩ := S1.look
  have H1 := Lib.hid (SL.set (off := 5) (v := .pointer none) (cs' := #[.string name, v, .int .i64 (s.pos : Int), .bool s.loaded, .int .u8 (s.sense : Int), .pointer none]) S1 rfl)
  clear S S1 S2
  go_enter Try.func21, Try.ntmps21
  go_wp2
  go_ret
  exact ⟨rfl, tapeS_close (s := { s with last := none }) (lastS_none H1.out.s2.drop).b2⟩
set_option maxHeartbeats 4000000 in
theorem undo_old (how : Int) {a : Nat} {old : List Blk} {blk : Bool} (h : s.last = some (a, old, blk)) (hh : how = 1 ∨ how = 2 ∧ blk = false) (S : SL W (tapeS tb name s :: F) w) (ok : s.ok) :
    Calls Try.prog 21 #[.pointer (some ⟨tb, 0, none⟩), .int .i64 how] w fun e w' => e = .returned (.bool true) ∧ SL W (tapeS tb name { s with last := none, bs := s.bs.take a ++ old, pos := a } :: F) w' := by
  obtain ⟨hl1, hl2, _, _⟩ := ok.last a old blk h
  have hl3 := ok.len
  obtain ⟨v, lp, S1⟩ := tapeS_open S
  obtain ⟨A, c, rfl, hc1, hc2⟩ := blksS_slice S1.s1
  rw [h] at S1
  obtain ⟨lb, v2, rfl, S2⟩ := lastS_open S1.s2
  obtain ⟨A2, c2, rfl, hd1, hd2⟩ := blksS_slice S2.s1
  obtain ⟨L, K, z⟩ := S1.look
  obtain ⟨L2, K2, z2⟩ := S2.look
  have hne := S2.s2.cne
  have H1 := Lib.hid (SL.set (off := 5) (v := .pointer none) (cs' := #[.string name, .slice A s.bs.length c, .int .i64 (s.pos : Int), .bool s.loaded, .int .u8 (s.sense : Int), .pointer none]) S2.s2 rfl)
  clear S S1 S2 ok h
  obtain ⟨bs, pos, ld, se, la⟩ := s
  dsimp only at *
  have hgt : decide (how > 0) = true := by simp; omega
  have h0 : decide (how < 0) = false := by simp; omega
  have h2 : decide (how > 2) = false := by simp; omega
  have h2' : decide (2 < how) = false := by simp; omega
  go_enter Try.func21, Try.ntmps21
  rcases hh with rfl | ⟨rfl, rfl⟩
  all_goals
    go_wp2_with fail
    refine name_world (P := Code.wp _ _ _ _) ?_
    intro wd hwd
    rw [← hwd] at H1
    clear hwd L K z L2 K2 z2
    obtain ⟨ps, hps, S3⟩ := blksS_open (blksS_cut H1.out.s3 hl1)
    obtain ⟨qs, hqs, S4⟩ := blksS_open S3.s4
    have hpl : ps.length = a := by have := congrArg List.length hps; simp at this; omega
    have hql : qs.length = old.length := by have := congrArg List.length hqs; simpa using this
    rw [hpl, hql] at S4
    have H3 := Lib.hid S4.s2
    have HP := Lib.hid (And.intro hps (And.intro hqs (And.intro hpl hql)))
    clear S3 S4 H1 hps hqs hpl hql
    have hac : a ≤ c := by omega
    refine wp_region_order (SL W _) [0] [1, 2, 3, 4, 5, 6, 7, 8, 9, 10, 11, 12, 13, 14, 15, 16, 17] [] [] [18, 19, 20, 21] (by kernel_rfl) (by kernel_rfl) H3.out.drew (by intro c a d v w h; cases d <;> exact h) ?_
    simp only [pick, List.filterMap_cons, List.filterMap_nil, List.getElem?_cons_zero, List.getElem?_cons_succ]
    (repeat (refine wpPure_step (fun K hK => ?_); go_simp; refine hK _ ?_; clear hK K)); refine wpPure_nil ?_
    (repeat (refine wpLoads_step (fun K hK => ?_); go_simp; first | (refine hK _ ?_; clear hK K) | (refine ⟨_, fun wx S => (by obtain ⟨f3, f4, f5⟩ := S.s4.look; obtain ⟨g3, g4, g5⟩ := S.s5.look; go_simp; rfl), hK _ ?_⟩; clear hK K)))
    refine wpLoads_nil (wpQuiet_nil ?_)
    intro wq hwq
    have H5 := Lib.hid hwq
    clear hwq H3
    refine wpKeep_nil ?_
    refine wpList_appT rfl _ _ _ rfl blkElem _ a _ rfl H5.out wq.heap.size A2 old.length c2 (qs.flatMap blkCells) rfl (rowT_at H5.out.s1) (by rw [blk_len, HP.out.2.2.2]) (dats_one H5.out.s2) (by unfold maxLen; omega) (by omega) ?_
    intro A6 c6 w6 S6
    have H6 := Lib.hid S6
    clear S6 H5
    obtain ⟨f3, f4, f5⟩ := H6.out.s4.look
    obtain ⟨g3, g4, g5⟩ := H6.out.s5.look
    go_wp2
    go_ret
    refine ⟨rfl, ?_⟩
    have h7 := SL.set (off := 2) (v := .int .i64 (a : Int)) (cs' := #[.string name, .slice A6 (a + old.length) c6, .int .i64 (a : Int), .bool ld, .int .u8 (se : Int), .pointer none]) (SL.set (off := 1) (v := .slice A6 (a + old.length) c6) (cs' := #[.string name, .slice A6 (a + old.length) c6, .int .i64 (pos : Int), .bool ld, .int .u8 (se : Int), .pointer none]) H6.out.s4 rfl) rfl
    have h8 := (h7.s5.drop.s2.drop.s3.s3.s1).joins.s2
    have h9 := blk_close (bs := List.take a bs ++ old) (ps := ps ++ qs) (v := .slice A6 (a + old.length) c6) (n := a + old.length) (by rw [List.map_append, HP.out.1, HP.out.2.1]) (by simp; omega) (by rw [List.flatMap_append, List.map_append]; exact h8)
    exact tapeS_close (s := ⟨List.take a bs ++ old, a, ld, se, none⟩) (lastS_none h9.s1).b2
theorem blk_modify (ps : List BV) (i : Nat) (v : Value) (b : Blk) (h : ps[i]? = some (v, b)) : (ps.set i (v, { b with bad := true })).map Prod.snd = (ps.map Prod.snd).modify i fun b => { b with bad := true } := by
  have hl : i < ps.length := by rw [List.getElem?_eq_some_iff] at h; exact h.1
  rw [List.map_set]
  apply List.ext_getElem?
  intro j
  rw [List.getElem?_set, List.getElem?_modify]
  by_cases hij : i = j
  · subst hij
    rw [List.getElem?_eq_getElem hl] at h
    injection h with h
    simp [h, hl]
  · simp [hij]
theorem dats_set (ps : List BV) (i : Nat) (v : Value) (b : Blk) (h : ps[i]? = some (v, b)) : (ps.set i (v, { b with bad := true })).map datS = ps.map datS := by
  have hl : i < ps.length := by rw [List.getElem?_eq_some_iff] at h; exact h.1
  rw [List.map_set]
  apply List.ext_getElem?
  intro j
  rw [List.getElem?_set]
  by_cases hij : i = j
  · subst hij
    rw [if_pos rfl, if_pos (by simpa using hl), List.getElem?_map, h]
    rfl
  · rw [if_neg hij]
theorem rowT_set {e : TypeId} {size n c g j : Nat} {xs : List Value} (S : SL W (rowT e size (.slice (some ⟨g, 0, none⟩) n c) n xs :: F) w) (u : Value) : (∀ o, w.frozen? ⟨g, o, none⟩ = false) ∧ SL W (rowT e size (.slice (some ⟨g, 0, none⟩) n c) n (xs.set j u) :: F) (w.setCell ⟨g, j, none⟩ u) := by
  rcases S.rowTo with ⟨hv, _⟩ | ⟨g', cap, cur, hv, h1, h2, h3, h4, h5, h6, S'⟩
  · cases hv
  · injection hv with hA _ hc
    injection hA with hA; injection hA with hA
    subst hA; subst hc
    refine ⟨S'.look.2.1, SL.head (S'.set (off := j) (v := u) rfl) (rowT_pts (by simpa using h6) h1 h2 (by simpa using h3) (by simpa using h4) ?_)⟩
    rw [Array.toList_setIfInBounds, List.take_set, h5]
theorem blk_setc (ps : List BV) (i : Nat) (v : Value) (b : Blk) (h : ps[i]? = some (v, b)) : (ps.flatMap blkCells).set (i * 3 + 2) (.bool true) = (ps.set i (v, { b with bad := true })).flatMap blkCells := by
  induction ps generalizing i with
  | nil => simp at h
  | cons p ps ih =>
    cases i with
    | zero =>
      simp at h; subst h
      simp [blkCells]
    | succ i =>
      simp only [List.set_cons_succ, List.flatMap_cons]
      rw [List.set_append_right _ _ (by simp [blkCells]; omega), show (i + 1) * 3 + 2 - (blkCells p).length = i * 3 + 2 by simp [blkCells]; omega, ih i (by simpa using h)]
set_option maxHeartbeats 4000000 in
theorem undo_bad {a : Nat} {old : List Blk} (h : s.last = some (a, old, true)) (S : SL W (tapeS tb name s :: F) w) (ok : s.ok) :
    Calls Try.prog 21 #[.pointer (some ⟨tb, 0, none⟩), .int .i64 2] w fun e w' => e = .returned (.bool true) ∧ SL W (tapeS tb name { s with last := none, bs := s.bs.modify a fun b => { b with bad := true } } :: F) w' := by
  obtain ⟨hl1, hl2, hl0, _⟩ := ok.last a old true h
  have hlt := hl0 rfl
  have hl3 := ok.len
  obtain ⟨v, lp, S1⟩ := tapeS_open S
  obtain ⟨A, c, rfl, hc1, hc2⟩ := blksS_slice S1.s1
  rw [h] at S1
  obtain ⟨lb, v2, rfl, S2⟩ := lastS_open S1.s2
  obtain ⟨A2, c2, rfl, hd1, hd2⟩ := blksS_slice S2.s1
  obtain ⟨L, K, z⟩ := S1.look
  obtain ⟨L2, K2, z2⟩ := S2.look
  have hne := S2.s2.cne
  have H1 := Lib.hid (SL.set (off := 5) (v := .pointer none) (cs' := #[.string name, .slice A s.bs.length c, .int .i64 (s.pos : Int), .bool s.loaded, .int .u8 (s.sense : Int), .pointer none]) S2.s2 rfl)
  clear S S1 S2 ok h hl0
  obtain ⟨bs, pos, ld, se, la⟩ := s
  dsimp only at *
  obtain ⟨b, hb⟩ : ∃ b, bs[a]? = some b := ⟨bs[a], List.getElem?_eq_getElem hlt⟩
  obtain ⟨g, ps, A4, c4, rfl, hps, hpp, S0⟩ := blk_open H1.out.s3 hb
  have H2 := Lib.hid S0
  have HP := Lib.hid (And.intro hps hpp)
  clear S0 H1 hps hpp hb
  go_enter Try.func21, Try.ntmps21
  go_wp2_with fail
  refine name_world (P := Code.wp _ _ _ _) ?_
  intro wd hwd
  rw [← hwd] at H2
  clear hwd L K z L2 K2 z2
  obtain ⟨f3, f4, f5⟩ := H2.out.s2.look
  obtain ⟨g3, g4, g5⟩ := H2.out.s3.look
  obtain ⟨k0, k1, k2⟩ := blk_cells H2.out HP.out.2
  obtain ⟨k3, S3⟩ := rowT_set (j := a * 3 + 2) H2.out (.bool true)
  have k4 : wd.frozen? ⟨g, a * 3 + 2, none⟩ = false := k3 _
  have H3 := Lib.hid S3.drew
  clear S3 k3
  go_big_region
  go_wp2
  go_ret
  refine ⟨rfl, ?_⟩
  have h3 := H3.out
  rw [blk_setc ps a _ b HP.out.2] at h3
  have h4 := h3.s1
  rw [← dats_set ps a _ b HP.out.2] at h4
  have h9 := blk_close (bs := bs.modify a fun b => { b with bad := true }) (by rw [blk_modify ps a _ b HP.out.2, HP.out.1]) (by simp) h4.s1
  exact tapeS_close (s := ⟨bs.modify a fun b => { b with bad := true }, pos, ld, se, none⟩) (lastS_none h9.s1.s2.drop.s2.drop).b2
theorem undo_any (how : Int) (S : SL W (tapeS tb name s :: F) w) (ok : s.ok) :
    Calls Try.prog 21 #[.pointer (some ⟨tb, 0, none⟩), .int .i64 how] w fun e w' => e = .returned (.bool (tpUndo s how).2) ∧ SL W (tapeS tb name (tpUndo s how).1 :: F) w' := by
  unfold tpUndo
  cases h : s.last with
  | none => exact undo_false how (Or.inr (Or.inr h)) S
  | some p =>
    obtain ⟨a, old, blk⟩ := p
    dsimp only
    by_cases h0 : how < 0 ∨ 2 < how
    · rw [if_pos h0]
      exact undo_false how (h0.elim Or.inl fun h => Or.inr (Or.inl h)) S
    · rw [if_neg h0]
      by_cases h2 : how = 2 ∧ blk = true
      · rw [if_pos h2]
        obtain ⟨rfl, rfl⟩ := h2
        exact undo_bad h S ok
      · rw [if_neg h2]
        by_cases h1 : 0 < how
        · rw [if_pos h1]
          refine undo_old how h ?_ S ok
          by_cases e : how = 2
          · refine Or.inr ⟨e, ?_⟩
            cases blk with
            | false => rfl
            | true => exact absurd ⟨e, rfl⟩ h2
          · left; omega
        · rw [if_neg h1]
          obtain rfl : how = 0 := by omega
          exact undo_zero h S
theorem undo_ok (s : TP) (how : Int) (ok : s.ok) : (tpUndo s how).1.ok := by
  unfold tpUndo
  cases h : s.last with
  | none => exact ok
  | some p =>
    obtain ⟨a, old, blk⟩ := p
    obtain ⟨h1, h2, h3, h4⟩ := ok.last a old blk h
    dsimp only
    split
    · exact ok
    · split
      · refine ⟨by simpa using ok.pos, by simpa using ok.len, fun b hb => ?_, ok.sense, fun a o b e => by cases e⟩
        obtain ⟨j, hj, rfl⟩ := List.getElem_of_mem hb
        have hj' : j < s.bs.length := by simpa using hj
        have := ok.data s.bs[j] (List.getElem_mem hj')
        rw [List.getElem_modify]
        split
        · exact this
        · exact this
      · split
        · refine ⟨by simp; omega, by simp; omega, fun b hb => ?_, ok.sense, fun a o b e => by cases e⟩
          simp only [List.mem_append] at hb
          exact hb.elim (fun h => ok.data b (List.mem_of_mem_take h)) (h4 b)
        · exact ⟨ok.pos, ok.len, ok.data, ok.sense, fun a o b e => by cases e⟩
theorem power_ok (s : TP) (ok : s.ok) : (tpPower s).ok := ⟨Nat.zero_le _, ok.len, ok.data, by simp [tpPower], fun a o b e => by cases e⟩
end
end Go.Proofs.Ytbbokikjpabfkaa
