/- The tape unit: Do and Undo. -/
import Derived.Test.YtbbokikjpabfkaaPerfC
namespace Go.Proofs.Ytbbokikjpabfkaa
open Go.RowKit

/-- What holds of every unit that New returned. -/
structure TP.ok (s : TP) : Prop where
  pos : s.pos ≤ s.bs.length
  len : s.bs.length ≤ 4096
  data : ∀ b ∈ s.bs, b.data.length ≤ 1024
  sense : s.sense < 256
  last : ∀ a old blk, s.last = some (a, old, blk) → a ≤ s.bs.length ∧ a + old.length ≤ 4096 ∧ (blk = true → a < s.bs.length) ∧ ∀ b ∈ old, b.data.length ≤ 1024
theorem TP.ok.fit {s : TP} (h : s.ok) : Fit s.bs := ⟨by have := h.len; omega, fun b hb => by have := h.data b hb; omega⟩
theorem TP.ok.off {s : TP} (h : s.ok) : ({ s with last := none } : TP).ok := ⟨h.pos, h.len, h.data, h.sense, fun a o b e => by cases e⟩
section
variable {W w w' : World} {F : List SA} {tb : Nat} {name : ByteArray} {s : TP}
theorem perform_any (op : Int) (A : Option Addr) (l : List UInt8) (c : Nat) (ok : s.ok) (S : SL W (tapeS tb name s :: F) w) (hr : Rd W (tapeS tb name s :: F) A (Lib.byteCells l)) (hz : l.length ≤ 1073741824) :
    Calls Try.prog 32 #[.pointer (some ⟨tb, 0, none⟩), .int .i64 op, .slice A l.length c] w fun e w' => RetS W (tapeS tb name (tpPerform s op l).1 :: F) (tpPerform s op l).2 e w' := by
  unfold tpPerform
  by_cases h3 : op = 3
  · subst h3; rw [if_pos rfl]; exact perf_nop A l.length c S
  rw [if_neg h3]
  by_cases h4 : op = 4
  · subst h4; rw [if_pos rfl]; exact perf_sense A l.length c ok.sense S
  rw [if_neg h4]
  by_cases hk : op ∉ [1, 2, 7, 12, 15, 23, 31, 39, 47, 55, 63]
  · rw [if_pos hk]
    exact perf_rej op A l.length c (by simp only [List.mem_cons, List.not_mem_nil, or_false] at hk ⊢; omega) S
  rw [if_neg hk]
  have hk := Decidable.not_not.1 hk
  cases hl : s.loaded with
  | false => rw [if_pos (by simp)]; exact perf_off op A l.length c hk hl S
  | true =>
    rw [if_neg (by simp)]
    by_cases h1 : op = 1
    · subst h1
      rw [if_pos rfl]
      by_cases hn : l.length < 1 ∨ 1024 < l.length
      · rw [if_pos hn]; exact perf_long A l.length c hn hz hl S
      · rw [if_neg hn]; exact perf_write A l c (by omega) (by omega) hl S hr ok.pos ok.fit ok.len
    rw [if_neg h1]
    by_cases h31 : op = 31
    · subst h31; rw [if_pos rfl]; exact perf_mark A l.length c hl S ok.pos ok.fit ok.len
    rw [if_neg h31]
    by_cases h23 : op = 23
    · subst h23; rw [if_pos rfl]; exact perf_erase A l.length c hl S ok.pos ok.fit
    rw [if_neg h23]
    by_cases h7 : op = 7
    · subst h7; rw [if_pos rfl]; have h := perf_rew A l.length c hl S; rw [hl] at h; exact h
    rw [if_neg h7]
    by_cases h15 : op = 15
    · subst h15; rw [if_pos rfl]; exact perf_unl A l.length c hl S
    rw [if_neg h15]
    exact perf_move op A l.length c (by simp only [List.mem_cons, List.not_mem_nil, or_false] at hk; omega) hl S ok.pos ok.fit
/-- What a result may look like. -/
def RepOk (r : Rep) : Prop := (r.2.1 = 12 ∨ r.2.1 = 13 ∨ r.2.1 = 14) ∧ r.2.2 < 256 ∧ r.1.length ≤ 1024
theorem passed_ok (b : Blk) (x y : Bool) (h : b.data.length ≤ 1024) : RepOk (tpPassed b x y) := by
  unfold tpPassed
  repeat' split
  all_goals first | (simp [RepOk]; done) | (simp [RepOk]; exact h) | simp [RepOk, h]
theorem write_ok (s : TP) (b : Blk) (ok : s.ok) (h : b.data.length ≤ 1024) : (tpWrite s b).1.ok ∧ RepOk (tpWrite s b).2 := by
  unfold tpWrite
  split
  · exact ⟨ok, by simp [RepOk]⟩
  · refine ⟨⟨?_, ?_, ?_, ok.sense, ?_⟩, by simp [RepOk]⟩
    · have := ok.pos; simp; omega
    · have := ok.pos; have := ok.len; simp [tpCut]; omega
    · intro c hc
      simp only [List.mem_append, List.mem_singleton] at hc
      rcases hc with hc | rfl
      · exact ok.data c (List.mem_of_mem_take hc)
      · exact h
    · intro a old blk e
      simp only [tpCut, Option.some.injEq, Prod.mk.injEq] at e
      obtain ⟨rfl, rfl, rfl⟩ := e
      have := ok.pos; have := ok.len
      exact ⟨by simp; omega, by simp; omega, by intro; simp; omega, fun b hb => ok.data b (List.mem_of_mem_drop hb)⟩
theorem cut_ok (s : TP) (k : Bool) (hk : k = false) (ok : s.ok) : (tpCut s k).ok := by
  subst hk
  refine ⟨?_, ?_, fun c hc => ok.data c (List.mem_of_mem_take hc), ok.sense, ?_⟩
  · have := ok.pos; simp [tpCut]; omega
  · have := ok.len; simp [tpCut]; omega
  · intro a old blk e
    simp only [tpCut, Option.some.injEq, Prod.mk.injEq] at e
    obtain ⟨rfl, rfl, rfl⟩ := e
    have := ok.pos; have := ok.len
    exact ⟨by simp [tpCut]; omega, by simp; omega, (fun h => by cases h), fun b hb => ok.data b (List.mem_of_mem_drop hb)⟩
theorem backTo_lt (bs : List Blk) : ∀ (n k : Nat), backTo bs n = some k → k < n
  | 0, k, h => by simp [backTo] at h
  | n + 1, k, h => by
    unfold backTo at h
    split at h
    · split at h
      · injection h with h; omega
      · have := backTo_lt bs n k h; omega
    · have := backTo_lt bs n k h; omega
theorem TP.ok.at {s : TP} (ok : s.ok) {k : Nat} (h : k ≤ s.bs.length) : ({ s with pos := k } : TP).ok := ⟨h, ok.len, ok.data, ok.sense, ok.last⟩
theorem move_ok (s : TP) (op : Int) (ok : s.ok) : (tpMove s op).1.ok ∧ RepOk (tpMove s op).2 := by
  have hp := ok.pos
  unfold tpMove
  split
  · cases hb : s.bs[s.pos]? with
    | none => exact ⟨ok, by simp [RepOk]⟩
    | some b =>
      have h : s.pos < s.bs.length := by rw [List.getElem?_eq_some_iff] at hb; exact hb.1
      exact ⟨ok.at (by omega), passed_ok _ _ _ (ok.data b (List.mem_of_getElem? hb))⟩
  · split
    · split
      · exact ⟨ok, by simp [RepOk]⟩
      · cases hb : s.bs[s.pos - 1]? with
        | none => exact ⟨ok, by simp [RepOk]⟩
        | some b => exact ⟨ok.at (by omega), passed_ok _ _ _ (ok.data b (List.mem_of_getElem? hb))⟩
    · split
      · cases hf : (s.bs.drop s.pos).findIdx? (·.mark) with
        | none => exact ⟨ok.at (Nat.le_refl _), by simp [RepOk]⟩
        | some n =>
          have h : n < (s.bs.drop s.pos).length := by
            rw [List.findIdx?_eq_some_iff_getElem] at hf; exact hf.1
          rw [List.length_drop] at h
          exact ⟨ok.at (by omega), by simp [RepOk]⟩
      · cases hb : backTo s.bs s.pos with
        | none => exact ⟨ok.at (Nat.zero_le _), by simp [RepOk]⟩
        | some k =>
          have := backTo_lt _ _ _ hb
          exact ⟨ok.at (by omega), by simp [RepOk]⟩
theorem perform_ok (s : TP) (op : Int) (l : List UInt8) (ok : s.ok) : (tpPerform s op l).1.ok ∧ RepOk (tpPerform s op l).2 := by
  unfold tpPerform
  split
  · exact ⟨ok, by simp [RepOk]⟩
  split
  · exact ⟨ok, by simp [RepOk]⟩
  split
  · exact ⟨ok, by simp [RepOk]⟩
  split
  · exact ⟨ok, by simp [RepOk]⟩
  split
  · split
    · exact ⟨ok, by simp [RepOk]⟩
    · rename_i h
      exact write_ok s _ ok (by dsimp only; omega)
  split
  · exact write_ok s _ ok (by simp)
  split
  · exact ⟨cut_ok s false rfl ok, by simp [RepOk]⟩
  split
  · exact ⟨ok.at (Nat.zero_le _), by simp [RepOk]⟩
  split
  · exact ⟨⟨Nat.zero_le _, ok.len, ok.data, ok.sense, ok.last⟩, by simp [RepOk]⟩
  · exact move_ok s op ok
theorem do_ok (s : TP) (op : Int) (l : List UInt8) (ok : s.ok) : (tpDo s op l).1.ok ∧ RepOk (tpDo s op l).2 := by
  obtain ⟨h1, h2⟩ := perform_ok _ op l ok.off
  unfold tpDo
  dsimp only
  split
  · exact ⟨⟨h1.pos, h1.len, h1.data, h2.2.1, h1.last⟩, h2⟩
  · exact ⟨h1, h2⟩
set_option maxHeartbeats 8000000 in
theorem do_any (op : Int) (A : Option Addr) (l : List UInt8) (c : Nat) (hn : name.toList.isEmpty = false) (ok : s.ok) (S : SL W (tapeS tb name s :: F) w) (hr : Rd W F A (Lib.byteCells l)) (hz : l.length ≤ 1073741824) :
    Calls Try.prog 11 #[.pointer (some ⟨tb, 0, none⟩), .int .i64 op, .slice A l.length c] w fun e w' => RetS W (tapeS tb name (tpDo s op l).1 :: F) (tpDo s op l).2 e w' := by
  have HN := Lib.hid (fun (w2 : World) (S2 : SL W (tapeS tb name s :: cel w.heap.size #[.slice none 0 0, .int .i64 0, .int .i64 0] 31 :: F) w2) => mounted_yes hn S2)
  obtain ⟨v, lp, S1⟩ := tapeS_open S
  obtain ⟨L, K, z⟩ := S1.look
  have H0 := Lib.hid (resS S).s1
  have H1 : Hid (SL W (tapeS tb name { s with last := none } :: cel w.heap.size #[.slice none 0 0, .int .i64 0, .int .i64 0] 31 :: F) ((w.setCell ⟨tb, 5, none⟩ (.pointer none)).alloc (.cells #[.slice none 0 0, .int .i64 0, .int .i64 0] 31))) := Lib.hid (by
    have h := resS (SL.set (off := 5) (v := .pointer none) (cs' := #[.string name, v, .int .i64 (s.pos : Int), .bool s.loaded, .int .u8 (s.sense : Int), .pointer none]) S1 rfl)
    rw [World.size_setCell] at h
    exact (tapeS_close (s := { s with last := none }) ((lastS_none h.s3.drop).s3.s3)))
  have HP := Lib.hid (perform_any op A l c ok.off H1.out hr.cons.cons hz)
  obtain ⟨_, hst, hsn, _⟩ := perform_ok _ op l ok.off
  clear S S1 ok
  unfold tpDo
  dsimp only
  generalize tpPerform { s with last := none } op l = r at HP hst hsn ⊢
  obtain ⟨s2, rd, st, sn⟩ := r
  dsimp only at *
  have hw : IntKind.u8.wrap (sn : Int) = (sn : Int) := by rw [IntKind.wrap_u8]; omega
  rcases hst with rfl | rfl | rfl
  · have hb : (bits BinOp.and IntKind.i64 12 2 != 0) = false := by kernel_rfl
    rw [if_neg (by decide)]
    go_enter Try.func11, Try.ntmps11
    go_wp2_with (first
      | (refine (HN.out _ H0.out).mono ?_; rintro e w2 ⟨rfl, rfl⟩)
      | (refine HP.out.mono ?_; rintro e w4 ⟨A4, c4, rfl, S4⟩; have H4 := Lib.hid S4.s2; clear S4; obtain ⟨g3, g4, g5⟩ := H4.out.look))
    have H9 := Lib.hid ((H4.out.set3 (u0 := .slice A4 rd.length c4) (u1 := .int .i64 12) (u2 := .int .i64 (sn : Int))).allocC #[.slice A4 rd.length c4, .int .i64 12, .int .i64 (sn : Int)] 31).s1
    obtain ⟨e3, e4, e5⟩ := H9.out.look
    refine bodyPost_ret (v := .agg #[.slice A4 rd.length c4, .int .i64 12, .int .i64 (sn : Int)]) (by simp [results, Try.results11, go_sem, e3]) rfl ?_
    exact ⟨A4, c4, rfl, H9.out.drop.drop⟩
  · have hb : (bits BinOp.and IntKind.i64 13 2 != 0) = false := by kernel_rfl
    rw [if_neg (by decide)]
    go_enter Try.func11, Try.ntmps11
    go_wp2_with (first
      | (refine (HN.out _ H0.out).mono ?_; rintro e w2 ⟨rfl, rfl⟩)
      | (refine HP.out.mono ?_; rintro e w4 ⟨A4, c4, rfl, S4⟩; have H4 := Lib.hid S4.s2; clear S4; obtain ⟨g3, g4, g5⟩ := H4.out.look))
    have H9 := Lib.hid ((H4.out.set3 (u0 := .slice A4 rd.length c4) (u1 := .int .i64 13) (u2 := .int .i64 (sn : Int))).allocC #[.slice A4 rd.length c4, .int .i64 13, .int .i64 (sn : Int)] 31).s1
    obtain ⟨e3, e4, e5⟩ := H9.out.look
    refine bodyPost_ret (v := .agg #[.slice A4 rd.length c4, .int .i64 13, .int .i64 (sn : Int)]) (by simp [results, Try.results11, go_sem, e3]) rfl ?_
    exact ⟨A4, c4, rfl, H9.out.drop.drop⟩
  · have hb : (bits BinOp.and IntKind.i64 14 2 != 0) = true := by kernel_rfl
    rw [if_pos rfl]
    go_enter Try.func11, Try.ntmps11
    go_wp2_with (first
      | (refine (HN.out _ H0.out).mono ?_; rintro e w2 ⟨rfl, rfl⟩)
      | (refine HP.out.mono ?_; rintro e w4 ⟨A4, c4, rfl, S4⟩; obtain ⟨v4, lp4, S5⟩ := tapeS_open S4.s1; have H4 := Lib.hid S5.s4; clear S4 S5; obtain ⟨g3, g4, g5⟩ := H4.out.look; obtain ⟨L4, K4, z4⟩ := H4.out.s1.look; have hne := H4.out.cne))
    have H9 := Lib.hid (((SL.set (off := 4) (v := .int .u8 (sn : Int)) (cs' := #[.string name, v4, .int .i64 (s2.pos : Int), .bool s2.loaded, .int .u8 (sn : Int), .pointer lp4]) H4.out.s1 rfl).s1.set3 (u0 := .slice A4 rd.length c4) (u1 := .int .i64 14) (u2 := .int .i64 (sn : Int))).allocC #[.slice A4 rd.length c4, .int .i64 14, .int .i64 (sn : Int)] 31).s1
    obtain ⟨e3, e4, e5⟩ := H9.out.look
    refine bodyPost_ret (v := .agg #[.slice A4 rd.length c4, .int .i64 14, .int .i64 (sn : Int)]) (by simp [results, Try.results11, go_sem, e3]) rfl ?_
    exact ⟨A4, c4, rfl, (tapeS_close (s := { s2 with sense := sn }) H9.out.drop.drop).s1⟩
set_option maxHeartbeats 4000000 in
theorem undo_false (how : Int) (h : how < 0 ∨ 2 < how ∨ s.last = none) (S : SL W (tapeS tb name s :: F) w) :
    Calls Try.prog 21 #[.pointer (some ⟨tb, 0, none⟩), .int .i64 how] w fun e w' => e = .returned (.bool false) ∧ SL W (tapeS tb name s :: F) w' := by
  have HS := Lib.hid S
  obtain ⟨v, lp, S1⟩ := tapeS_open S
  obtain ⟨L, K, z⟩ := S1.look
  by_cases h1 : how < 0
  · have g1 : decide (how < 0) = true := by simp [h1]
    clear S S1
    go_enter Try.func21, Try.ntmps21
    go_wp2
    go_ret
    exact ⟨rfl, HS.out⟩
  · by_cases h2 : 2 < how
    · clear S S1
      go_enter Try.func21, Try.ntmps21
      go_wp2
      go_ret
      exact ⟨rfl, HS.out⟩
    · have h3 : s.last = none := h.elim (fun h => absurd h h1) fun h => h.elim (fun h => absurd h h2) id
      rw [h3] at S1
      have := lastS_of_none S1.s2
      subst this
      clear S S1
      go_enter Try.func21, Try.ntmps21
      go_wp2
      go_ret
      exact ⟨rfl, HS.out⟩
end
end Go.Proofs.Ytbbokikjpabfkaa
