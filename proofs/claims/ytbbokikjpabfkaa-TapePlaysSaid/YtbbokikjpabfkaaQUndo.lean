/- Do and Undo of the reference. -/
import Derived.Test.YtbbokikjpabfkaaQDoC
namespace Go.Proofs.Ytbbokikjpabfkaa
open Go.RowKit

/-- A written block is the last. -/
def TP.tip (s : TP) : Prop := ∀ a old, s.last = some (a, old, true) → a + 1 = s.bs.length
theorem move_last (s : TP) (op : Int) : (tpMove s op).1.last = s.last ∧ (tpMove s op).1.bs = s.bs := by
  unfold tpMove
  repeat' split
  all_goals exact ⟨rfl, rfl⟩
theorem do_tip (s : TP) (op : Int) (l : List UInt8) (ok : s.ok) : (tpDo s op l).1.tip := by
  have hp := ok.pos
  have h : ∀ t : TP, t.last = none → t.tip := fun t e a o e2 => by rw [e] at e2; cases e2
  have hs : ∀ (t : TP) (r : Rep), t.tip → (if r.2.1 = 14 then { t with sense := r.2.2 } else t).tip := fun t r e => by
    split
    · exact e
    · exact e
  have hw : ∀ b, (tpWrite { s with last := none } b).1.tip := fun b => by
    unfold tpWrite
    split
    · exact h _ rfl
    · intro a o e
      simp only [tpCut, Option.some.injEq, Prod.mk.injEq] at e
      obtain ⟨rfl, rfl, _⟩ := e
      simp
      omega
  have hc : (tpCut { s with last := none } false).tip := fun a o e => by
    simp [tpCut] at e
  unfold tpDo
  dsimp only
  refine hs _ _ ?_
  unfold tpPerform
  repeat' split
  all_goals first | exact h _ rfl | exact hw _ | exact hc | exact h _ (move_last _ _).1
theorem undo_tip (s : TP) (how : Int) (t : s.tip) : (tpUndo s how).1.tip := by
  have h : ∀ t : TP, t.last = none → t.tip := fun t e a o e2 => by rw [e] at e2; cases e2
  unfold tpUndo
  repeat' split
  all_goals first | exact h _ rfl | exact t
theorem power_tip (s : TP) : (tpPower s).tip := fun a o e => by cases e
section
variable {W w w' : World} {F : List SA} {qb : Nat} {nm : ByteArray} {s : TP}
theorem qdo_any (op : Int) (A : Option Addr) (l : List UInt8) (c : Nat) (ok : s.ok) (S : SL W (qS qb nm s :: F) w) (hr : Rd W F A (Lib.byteCells l)) (hz : l.length ≤ 1073741824) :
    Calls Try.prog 37 #[.pointer (some ⟨qb, 0, none⟩), .int .i64 op, .slice A l.length c] w fun e w' => RetS W (qS qb nm (tpDo s op l).1 :: F) (tpDo s op l).2 e w' := by
  have e : tpDo s op l = (snS (tpPerform { s with last := none } op l).1 (tpPerform { s with last := none } op l).2, (tpPerform { s with last := none } op l).2) := rfl
  rw [e]
  clear e
  unfold tpPerform
  by_cases h3 : op = 3
  · subst h3; rw [if_pos rfl]; exact qdo_nop A l.length c S
  rw [if_neg h3]
  by_cases h4 : op = 4
  · subst h4; rw [if_pos rfl]; exact qdo_sense A l.length c ok.sense S
  rw [if_neg h4]
  by_cases hk : op ∉ [1, 2, 7, 12, 15, 23, 31, 39, 47, 55, 63]
  · rw [if_pos hk]
    exact qdo_rej op A l.length c (by simp only [List.mem_cons, List.not_mem_nil, or_false] at hk ⊢; omega) S
  rw [if_neg hk]
  have hk := Decidable.not_not.1 hk
  cases hl : s.loaded with
  | false => rw [if_pos (by simp)]; have h := qdo_off op A l.length c hk hl S; rw [hl] at h; exact h
  | true =>
    rw [if_neg (by simp)]
    by_cases h1 : op = 1
    · subst h1
      rw [if_pos rfl]
      by_cases hn : l.length < 1 ∨ 1024 < l.length
      · rw [if_pos hn]; have h := qdo_long A l.length c hn hz hl S; rw [hl] at h; exact h
      · rw [if_neg hn]; have h := qdo_write A l c (by omega) (by omega) hl S hr ok.pos ok.fit ok.len; rw [hl] at h; exact h
    rw [if_neg h1]
    by_cases h31 : op = 31
    · subst h31; rw [if_pos rfl]; have h := qdo_mark A l.length c hl S ok.pos ok.fit ok.len; rw [hl] at h; exact h
    rw [if_neg h31]
    by_cases h23 : op = 23
    · subst h23; rw [if_pos rfl]; have h := qdo_erase A l.length c hl S ok.pos ok.fit; rw [hl] at h; exact h
    rw [if_neg h23]
    by_cases h7 : op = 7
    · subst h7; rw [if_pos rfl]; exact qdo_rew (s := s) A l.length c hl S
    rw [if_neg h7]
    by_cases h15 : op = 15
    · subst h15; rw [if_pos rfl]; exact qdo_unl (s := s) A l.length c hl S
    rw [if_neg h15]
    by_cases h63 : op = 63
    · subst h63; have h := qdo_ffile A l.length c hl S ok.pos ok.fit; rw [hl] at h; exact h
    by_cases h47 : op = 47
    · subst h47; have h := qdo_bfile A l.length c hl S ok.pos ok.fit; rw [hl] at h; exact h
    have h := qdo_move op (by simp only [List.mem_cons, List.not_mem_nil, or_false] at hk; omega) A l.length c hl S ok.pos ok.fit
    rw [hl] at h
    exact h
set_option maxHeartbeats 4000000 in
theorem qundo_false (how : Int) (h : how < 0 ∨ 2 < how ∨ s.last = none) (S : SL W (qS qb nm s :: F) w) :
    Calls Try.prog 35 #[.pointer (some ⟨qb, 0, none⟩), .int .i64 how] w fun e w' => e = .returned (.bool false) ∧ SL W (qS qb nm s :: F) w' := by
  have HS := Lib.hid S
  obtain ⟨q, hq, S1⟩ := qS_open S
  obtain ⟨L, K, z⟩ := S1.look
  dsimp only [qcells] at L
  clear S S1 hq
  by_cases h0 : how < 0
  · go_enter Try.func35, Try.ntmps35
    go_wp2
    go_ret
    exact ⟨rfl, HS.out⟩
  · by_cases h2 : 2 < how
    · go_enter Try.func35, Try.ntmps35
      go_wp2
      go_ret
      exact ⟨rfl, HS.out⟩
    · have h3 : s.last = none := by
        rcases h with h | h | h
        · exact absurd h h0
        · exact absurd h h2
        · exact h
      rw [h3] at L
      have h2' : ¬ how > 2 := h2
      go_enter Try.func35, Try.ntmps35
      go_wp2
      go_ret
      exact ⟨rfl, HS.out⟩
set_option maxHeartbeats 4000000 in
theorem qundo_zero {a : Nat} {old : List Blk} {blk : Bool} (h : s.last = some (a, old, blk)) (S : SL W (qS qb nm s :: F) w) :
    Calls Try.prog 35 #[.pointer (some ⟨qb, 0, none⟩), .int .i64 0] w fun e w' => e = .returned (.bool true) ∧ SL W (qS qb nm { s with last := none } :: F) w' := by
  obtain ⟨q, hq, S1⟩ := qS_open S
  obtain ⟨L, K, z⟩ := S1.look
  have H1 := Lib.hid (SL.set (off := 5) (v := .bool false) (cs' := qcells nm { s with last := none } q) S1 rfl)
  dsimp only [qcells] at L
  rw [h] at L
  clear S S1
  go_enter Try.func35, Try.ntmps35
  go_wp2
  go_ret
  exact ⟨rfl, qS_close (s := { s with last := none }) (fits_none rfl) H1.out⟩
set_option maxHeartbeats 4000000 in
theorem qundo_old (how : Int) {a : Nat} {old : List Blk} {blk : Bool} (h : s.last = some (a, old, blk)) (hh : how = 1 ∨ how = 2 ∧ blk = false) (S : SL W (qS qb nm s :: F) w) (ok : s.ok) :
    Calls Try.prog 35 #[.pointer (some ⟨qb, 0, none⟩), .int .i64 how] w fun e w' => e = .returned (.bool true) ∧ SL W (qS qb nm { s with last := none, bs := s.bs.take a ++ old, pos := a } :: F) w' := by
  obtain ⟨hl1, hl2, _, hl5⟩ := ok.last a old blk h
  have hl3 := ok.len
  obtain ⟨q, hq, S1⟩ := qS_open S
  obtain ⟨hq1, hq2, hq3⟩ := hq a old blk h
  obtain ⟨qv, qvo, qwr, qoa, qobs⟩ := q
  dsimp only at S1 hq1 hq2 hq3
  obtain ⟨A, c, rfl, hc1, hc2⟩ := blksS_slice S1.s1
  obtain ⟨A2, c2, rfl, hd1, hd2⟩ := blksS_slice S1.s2
  have hfo : Fit qobs := by
    rw [hq3]
    refine ⟨by simp; omega, fun b hb => ?_⟩
    rcases List.mem_append.1 hb with hb | hb
    · have := ok.data b (List.mem_of_mem_take hb); omega
    · have := hl5 b hb; omega
  obtain ⟨bs, pos, ld, se, la⟩ := s
  dsimp only [qcells] at *
  subst h
  subst hq1
  subst hq2
  obtain ⟨L, K, z⟩ := S1.look
  have H1 := Lib.hid (SL.set (off := 5) (v := .bool false) (cs' := #[.string nm, .slice A bs.length c, .int .i64 (pos : Int), .bool ld, .int .i64 (se : Int), .bool false, .bool qwr, .slice A2 qobs.length c2, .int .i64 (a : Int)]) S1 rfl)
  have HF := Lib.hid hfo
  have HQ := Lib.hid hq3
  clear S S1 ok hq hfo hl5 hq3
  have hgt : decide (how > 0) = true := by simp; omega
  have h0 : decide (how < 0) = false := by simp; omega
  have h2 : decide (how > 2) = false := by simp; omega
  have h2' : decide (2 < how) = false := by simp; omega
  go_enter Try.func35, Try.ntmps35
  rcases hh with rfl | ⟨rfl, rfl⟩
  all_goals
    go_wp2_with fail
    refine name_world (P := Code.wp _ _ _ _) ?_
    intro wd hwd
    rw [← hwd] at H1
    clear hwd L K z
    refine wp_region_order (SL W _) [0, 1, 2, 3, 4, 7, 8, 9] [5, 10] [] [6] [11, 12, 13, 14, 15, 16] (by kernel_rfl) (by kernel_rfl) H1.out.drew (by intro c a d v w h; cases d <;> exact h) ?_
    simp only [pick, List.filterMap_cons, List.filterMap_nil, List.getElem?_cons_zero, List.getElem?_cons_succ]
    (repeat (refine wpPure_step (fun K hK => ?_); go_simp; refine hK _ ?_; clear hK K)); refine wpPure_nil ?_
    (repeat (refine wpLoads_step (fun K hK => ?_); go_simp; first | (refine hK _ ?_; clear hK K) | (refine ⟨_, fun wx S => (by obtain ⟨f3, f4, f5⟩ := S.look; go_simp; rfl), hK _ ?_⟩; clear hK K)))
    refine wpLoads_nil (wpQuiet_nil ?_)
    intro wq hwq
    have H2 := Lib.hid hwq
    clear hwq H1
    (refine wpKeep_step ?_; intro K hK; go_simp)
    refine (rcopy_any A2 qobs c2 H2.out (fun w2 S2 => blksS_at S2.s2) HF.out).mono ?_
    rintro e w3 ⟨v3, rfl, S3⟩
    obtain ⟨A3, c3, rfl, _, _⟩ := blksS_slice S3
    have H3 := Lib.hid S3
    clear S3 H2
    refine hK _ _ H3.out.drop ?_
    clear hK K
    refine wpKeep_nil ?_
    have H4 := Lib.hid (SL.set (off := 2) (v := .int .i64 (a : Int)) (cs' := #[.string nm, .slice A3 qobs.length c3, .int .i64 (a : Int), .bool ld, .int .i64 (se : Int), .bool false, .bool _, .slice A2 qobs.length c2, .int .i64 (a : Int)]) (SL.set (off := 1) (v := .slice A3 qobs.length c3) (cs' := #[.string nm, .slice A3 qobs.length c3, .int .i64 (pos : Int), .bool ld, .int .i64 (se : Int), .bool false, .bool _, .slice A2 qobs.length c2, .int .i64 (a : Int)]) H3.out.s1 rfl) rfl)
    obtain ⟨L, K, z⟩ := H3.out.s1.look
    go_wp2
    go_ret
    refine ⟨rfl, ?_⟩
    rw [← HQ.out]
    exact qS_close (s := ⟨qobs, a, ld, se, none⟩) (q := ⟨.slice A3 qobs.length c3, .slice A2 qobs.length c2, _, (a : Int), qobs⟩) (fits_none rfl) H4.out.s2.drop
set_option maxHeartbeats 4000000 in
theorem qundo_bad {a : Nat} {old : List Blk} (h : s.last = some (a, old, true)) (S : SL W (qS qb nm s :: F) w) (ok : s.ok) (ht : s.tip) :
    Calls Try.prog 35 #[.pointer (some ⟨qb, 0, none⟩), .int .i64 2] w fun e w' => e = .returned (.bool true) ∧ SL W (qS qb nm { s with last := none, bs := s.bs.modify a fun b => { b with bad := true } } :: F) w' := by
  have hl4 := ht a old h
  have hl3 := ok.len
  obtain ⟨q, hq, S1⟩ := qS_open S
  obtain ⟨hq1, hq2, hq3⟩ := hq a old true h
  obtain ⟨qv, qvo, qwr, qoa, qobs⟩ := q
  dsimp only at S1 hq1 hq2 hq3
  obtain ⟨A, c, rfl, hc1, hc2⟩ := blksS_slice S1.s1
  obtain ⟨bs, pos, ld, se, la⟩ := s
  dsimp only [qcells] at *
  subst h
  subst hq1
  obtain ⟨L, K, z⟩ := S1.look
  have H1 := Lib.hid (SL.set (off := 5) (v := .bool false) (cs' := #[.string nm, .slice A bs.length c, .int .i64 (pos : Int), .bool ld, .int .i64 (se : Int), .bool false, .bool true, qvo, .int .i64 qoa]) S1 rfl)
  clear S S1 ok hq hq2 hq3 ht
  have hlt : a < bs.length := by omega
  obtain ⟨b, hb⟩ : ∃ b, bs[a]? = some b := ⟨bs[a], List.getElem?_eq_getElem hlt⟩
  obtain ⟨g, ps, A4, c4, rfl, hps, hpp, S0⟩ := blk_open H1.out.s1 hb
  have H2 := Lib.hid S0
  have HP := Lib.hid (And.intro hps hpp)
  clear S0 H1 hps hpp hb
  go_enter Try.func35, Try.ntmps35
  go_wp2_with fail
  refine name_world (P := Code.wp _ _ _ _) ?_
  intro wd hwd
  rw [← hwd] at H2
  clear hwd L K z
  obtain ⟨f3, f4, f5⟩ := H2.out.s2.look
  obtain ⟨k0, k1, k2⟩ := blk_cells H2.out HP.out.2
  obtain ⟨k3, S3⟩ := rowT_set (j := a * 3 + 2) H2.out (.bool true)
  have k4 : wd.frozen? ⟨g, a * 3 + 2, none⟩ = false := k3 _
  have hsub : (bs.length : Int) - 1 = (a : Int) := by omega
  have H3 := Lib.hid S3.drew
  clear S3 k3
  go_big_region
  go_wp2
  go_ret
  refine ⟨rfl, ?_⟩
  have h3 := H3.out
  rw [blk_setc ps a _ b HP.out.2] at h3
  have h4 := h3.s1
  rw [← dats_set ps a _ b HP.out.2] at h4
  have h9 := blk_close (bs := bs.modify a fun b => { b with bad := true }) (by rw [blk_modify ps a _ b HP.out.2, HP.out.1]) (by simp) h4.s1
  exact qS_close (s := ⟨bs.modify a fun b => { b with bad := true }, pos, ld, se, none⟩) (q := ⟨_, qvo, true, qoa, qobs⟩) (fits_none rfl) h9.s1
theorem qundo_any (how : Int) (S : SL W (qS qb nm s :: F) w) (ok : s.ok) (ht : s.tip) :
    Calls Try.prog 35 #[.pointer (some ⟨qb, 0, none⟩), .int .i64 how] w fun e w' => e = .returned (.bool (tpUndo s how).2) ∧ SL W (qS qb nm (tpUndo s how).1 :: F) w' := by
  unfold tpUndo
  cases h : s.last with
  | none => exact qundo_false how (Or.inr (Or.inr h)) S
  | some p =>
    obtain ⟨a, old, blk⟩ := p
    dsimp only
    by_cases h0 : how < 0 ∨ 2 < how
    · rw [if_pos h0]
      exact qundo_false how (h0.elim Or.inl fun h => Or.inr (Or.inl h)) S
    · rw [if_neg h0]
      by_cases h2 : how = 2 ∧ blk = true
      · rw [if_pos h2]
        obtain ⟨rfl, rfl⟩ := h2
        exact qundo_bad h S ok ht
      · rw [if_neg h2]
        by_cases h1 : 0 < how
        · rw [if_pos h1]
          refine qundo_old how h ?_ S ok
          by_cases e : how = 1
          · exact Or.inl e
          · refine Or.inr ⟨by omega, ?_⟩
            cases blk
            · rfl
            · exact absurd ⟨by omega, rfl⟩ h2
        · rw [if_neg h1]
          obtain rfl : how = 0 := by omega
          exact qundo_zero h S
end
end Go.Proofs.Ytbbokikjpabfkaa
