/- TDo, TTip, TUndo, TSerial, TNew. -/
import Derived.Test.YtfhpaehfihnjaaaGreatTC
import Derived.Laws.RangeAny
set_option maxRecDepth 100000
namespace Go.Proofs.YtfhpaehfihnjaaaGreat.T
open Go.RowKit
structure TP.ok (s : TP) : Prop where
  pos : s.pos ≤ s.bs.length
  len : s.bs.length ≤ 4096
  data : ∀ b ∈ s.bs, b.data.length ≤ 1024
  sense : s.sense < 256
  last : ∀ a old blk, s.last = some (a, old, blk) → a ≤ s.bs.length ∧ a + old.length ≤ 4096 ∧ (blk = true → a < s.bs.length) ∧ ∀ b ∈ old, b.data.length ≤ 1024
theorem TP.ok.fit {s : TP} (h : s.ok) : Fit s.bs := ⟨by have := h.len; omega, fun b hb => by have := h.data b hb; omega⟩
theorem TP.ok.off {s : TP} (h : s.ok) : ({ s with last := none } : TP).ok := ⟨h.pos, h.len, h.data, h.sense, fun a o b e => by cases e⟩
section
variable {W w w' : World} {F : List SA} {tb : Nat} {name : ByteArray} {s : TP}
theorem perform_any (op : Int) (A : Option Addr) (l : List UInt8) (c : Nat) (ok : s.ok) (S : SL W (tapeS tb name s :: F) w) (hr : Rd W (tapeS tb name s :: F) A (Lib.byteCells l)) (hz : l.length ≤ 1073741824) :
    Calls Tryz.prog 179 #[.pointer (some ⟨tb, 0, none⟩), .int .i64 op, .slice A l.length c] w fun e w' => RetS W (tapeS tb name (tpPerform s op l).1 :: F) (tpPerform s op l).2 e w' := by
  unfold tpPerform
  by_cases h3 : op = 3
  · subst h3; rw [if_pos rfl]; exact perf_nop A l.length c S
  rw [if_neg h3]
  by_cases h4 : op = 4
  · subst h4; rw [if_pos rfl]; exact perf_sense A l.length c ok.sense S
  rw [if_neg h4]
  by_cases hk : op ∉ [1, 2, 7, 12, 15, 23, 31, 39, 47, 55, 63]
  · rw [if_pos hk]
    exact perf_rej op A l.length c (by simp only [List.mem_cons, List.not_mem_nil, or_false] at hk ⊢; omega) S
  rw [if_neg hk]
  have hk := Decidable.not_not.1 hk
  cases hl : s.loaded with
  | false => rw [if_pos (by simp)]; exact perf_off op A l.length c hk hl S
  | true =>
    rw [if_neg (by simp)]
    by_cases h1 : op = 1
    · subst h1
      rw [if_pos rfl]
      by_cases hn : l.length < 1 ∨ 1024 < l.length
      · rw [if_pos hn]; exact perf_long A l.length c hn hz hl S
      · rw [if_neg hn]; exact perf_write A l c (by omega) (by omega) hl S hr ok.pos ok.fit ok.len
    rw [if_neg h1]
    by_cases h31 : op = 31
    · subst h31; rw [if_pos rfl]; exact perf_mark A l.length c hl S ok.pos ok.fit ok.len
    rw [if_neg h31]
    by_cases h23 : op = 23
    · subst h23; rw [if_pos rfl]; exact perf_erase A l.length c hl S ok.pos ok.fit
    rw [if_neg h23]
    by_cases h7 : op = 7
    · subst h7; rw [if_pos rfl]; have h := perf_rew A l.length c hl S; rw [hl] at h; exact h
    rw [if_neg h7]
    by_cases h15 : op = 15
    · subst h15; rw [if_pos rfl]; exact perf_unl A l.length c hl S
    rw [if_neg h15]
    exact perf_move op A l.length c (by simp only [List.mem_cons, List.not_mem_nil, or_false] at hk; omega) hl S ok.pos ok.fit
def RepOk (r : Rep) : Prop := (r.2.1 = 12 ∨ r.2.1 = 13 ∨ r.2.1 = 14) ∧ r.2.2 < 256 ∧ r.1.length ≤ 1024
theorem passed_ok (b : Blk) (x y : Bool) (h : b.data.length ≤ 1024) : RepOk (tpPassed b x y) := by
  unfold tpPassed
  repeat' split
  all_goals first | (simp [RepOk]; done) | (simp [RepOk]; exact h) | simp [RepOk, h]
theorem write_ok (s : TP) (b : Blk) (ok : s.ok) (h : b.data.length ≤ 1024) : (tpWrite s b).1.ok ∧ RepOk (tpWrite s b).2 := by
  unfold tpWrite
  split
  · exact ⟨ok, by simp [RepOk]⟩
  · refine ⟨⟨?_, ?_, ?_, ok.sense, ?_⟩, by simp [RepOk]⟩
    · have := ok.pos; simp; omega
    · have := ok.pos; have := ok.len; simp [tpCut]; omega
    · intro c hc
      simp only [List.mem_append, List.mem_singleton] at hc
      rcases hc with hc | rfl
      · exact ok.data c (List.mem_of_mem_take hc)
      · exact h
    · intro a old blk e
      simp only [tpCut, Option.some.injEq, Prod.mk.injEq] at e
      obtain ⟨rfl, rfl, rfl⟩ := e
      have := ok.pos; have := ok.len
      exact ⟨by simp; omega, by simp; omega, by intro; simp; omega, fun b hb => ok.data b (List.mem_of_mem_drop hb)⟩
theorem cut_ok (s : TP) (k : Bool) (hk : k = false) (ok : s.ok) : (tpCut s k).ok := by
  subst hk
  refine ⟨?_, ?_, fun c hc => ok.data c (List.mem_of_mem_take hc), ok.sense, ?_⟩
  · have := ok.pos; simp [tpCut]; omega
  · have := ok.len; simp [tpCut]; omega
  · intro a old blk e
    simp only [tpCut, Option.some.injEq, Prod.mk.injEq] at e
    obtain ⟨rfl, rfl, rfl⟩ := e
    have := ok.pos; have := ok.len
    exact ⟨by simp [tpCut]; omega, by simp; omega, (fun h => by cases h), fun b hb => ok.data b (List.mem_of_mem_drop hb)⟩
theorem backTo_lt (bs : List Blk) : ∀ (n k : Nat), backTo bs n = some k → k < n
  | 0, k, h => by simp [backTo] at h
  | n + 1, k, h => by
    unfold backTo at h
    split at h
    · split at h
      · injection h with h; omega
      · have := backTo_lt bs n k h; omega
    · have := backTo_lt bs n k h; omega
theorem TP.ok.at {s : TP} (ok : s.ok) {k : Nat} (h : k ≤ s.bs.length) : ({ s with pos := k } : TP).ok := ⟨h, ok.len, ok.data, ok.sense, ok.last⟩
theorem move_ok (s : TP) (op : Int) (ok : s.ok) : (tpMove s op).1.ok ∧ RepOk (tpMove s op).2 := by
  have hp := ok.pos
  unfold tpMove
  split
  · cases hb : s.bs[s.pos]? with
    | none => exact ⟨ok, by simp [RepOk]⟩
    | some b =>
      have h : s.pos < s.bs.length := by rw [List.getElem?_eq_some_iff] at hb; exact hb.1
      exact ⟨ok.at (by omega), passed_ok _ _ _ (ok.data b (List.mem_of_getElem? hb))⟩
  · split
    · split
      · exact ⟨ok, by simp [RepOk]⟩
      · cases hb : s.bs[s.pos - 1]? with
        | none => exact ⟨ok, by simp [RepOk]⟩
        | some b => exact ⟨ok.at (by omega), passed_ok _ _ _ (ok.data b (List.mem_of_getElem? hb))⟩
    · split
      · cases hf : (s.bs.drop s.pos).findIdx? (·.mark) with
        | none => exact ⟨ok.at (Nat.le_refl _), by simp [RepOk]⟩
        | some n =>
          have h : n < (s.bs.drop s.pos).length := by
            rw [List.findIdx?_eq_some_iff_getElem] at hf; exact hf.1
          rw [List.length_drop] at h
          exact ⟨ok.at (by omega), by simp [RepOk]⟩
      · cases hb : backTo s.bs s.pos with
        | none => exact ⟨ok.at (Nat.zero_le _), by simp [RepOk]⟩
        | some k =>
          have := backTo_lt _ _ _ hb
          exact ⟨ok.at (by omega), by simp [RepOk]⟩
theorem perform_ok (s : TP) (op : Int) (l : List UInt8) (ok : s.ok) : (tpPerform s op l).1.ok ∧ RepOk (tpPerform s op l).2 := by
  unfold tpPerform
  split
  · exact ⟨ok, by simp [RepOk]⟩
  split
  · exact ⟨ok, by simp [RepOk]⟩
  split
  · exact ⟨ok, by simp [RepOk]⟩
  split
  · exact ⟨ok, by simp [RepOk]⟩
  split
  · split
    · exact ⟨ok, by simp [RepOk]⟩
    · rename_i h
      exact write_ok s _ ok (by dsimp only; omega)
  split
  · exact write_ok s _ ok (by simp)
  split
  · exact ⟨cut_ok s false rfl ok, by simp [RepOk]⟩
  split
  · exact ⟨ok.at (Nat.zero_le _), by simp [RepOk]⟩
  split
  · exact ⟨⟨Nat.zero_le _, ok.len, ok.data, ok.sense, ok.last⟩, by simp [RepOk]⟩
  · exact move_ok s op ok
theorem do_ok (s : TP) (op : Int) (l : List UInt8) (ok : s.ok) : (tpDo s op l).1.ok ∧ RepOk (tpDo s op l).2 := by
  obtain ⟨h1, h2⟩ := perform_ok _ op l ok.off
  unfold tpDo
  dsimp only
  split
  · exact ⟨⟨h1.pos, h1.len, h1.data, h2.2.1, h1.last⟩, h2⟩
  · exact ⟨h1, h2⟩
set_option maxHeartbeats 8000000 in
theorem do_any (op : Int) (A : Option Addr) (l : List UInt8) (c : Nat) (hn : name.toList.isEmpty = false) (ok : s.ok) (S : SL W (tapeS tb name s :: F) w) (hr : Rd W F A (Lib.byteCells l)) (hz : l.length ≤ 1073741824) :
    Calls Tryz.prog 174 #[.pointer (some ⟨tb, 0, none⟩), .int .i64 op, .slice A l.length c] w fun e w' => RetS W (tapeS tb name (tpDo s op l).1 :: F) (tpDo s op l).2 e w' := by
  have HN := Lib.hid (fun (w2 : World) (S2 : SL W (tapeS tb name s :: cel w.heap.size #[.slice none 0 0, .int .i64 0, .int .i64 0] 55 :: F) w2) => mounted_yes hn S2)
  obtain ⟨v, lp, S1⟩ := tapeS_open S
  obtain ⟨L, K, z⟩ := S1.look
  have H0 := Lib.hid (resS S).s1
  have H1 : Hid (SL W (tapeS tb name { s with last := none } :: cel w.heap.size #[.slice none 0 0, .int .i64 0, .int .i64 0] 55 :: F) ((w.setCell ⟨tb, 5, none⟩ (.pointer none)).alloc (.cells #[.slice none 0 0, .int .i64 0, .int .i64 0] 55))) := Lib.hid (by
    have h := resS (SL.set (off := 5) (v := .pointer none) (cs' := #[.string name, v, .int .i64 (s.pos : Int), .bool s.loaded, .int .u8 (s.sense : Int), .pointer none]) S1 rfl)
    rw [World.size_setCell] at h
    exact (tapeS_close (s := { s with last := none }) ((lastS_none h.s3.drop).s3.s3)))
  have HP := Lib.hid (perform_any op A l c ok.off H1.out hr.cons.cons hz)
  obtain ⟨_, hst, hsn, _⟩ := perform_ok _ op l ok.off
  clear S S1 ok
  unfold tpDo
  dsimp only
  generalize tpPerform { s with last := none } op l = r at HP hst hsn ⊢
  obtain ⟨s2, rd, st, sn⟩ := r
  dsimp only at *
  have hw : IntKind.u8.wrap (sn : Int) = (sn : Int) := by rw [IntKind.wrap_u8]; omega
  rcases hst with rfl | rfl | rfl
  · have hb : (bits BinOp.and IntKind.i64 12 2 != 0) = false := by kernel_rfl
    rw [if_neg (by decide)]
    go_enter Tryz.func174, Tryz.ntmps174
    go_wp2_with (first
      | (refine (HN.out _ H0.out).mono ?_; rintro e w2 ⟨rfl, rfl⟩)
      | (refine HP.out.mono ?_; rintro e w4 ⟨A4, c4, rfl, S4⟩; have H4 := Lib.hid S4.s2; clear S4; obtain ⟨g3, g4, g5⟩ := H4.out.look))
    have H9 := Lib.hid ((H4.out.set3 (u0 := .slice A4 rd.length c4) (u1 := .int .i64 12) (u2 := .int .i64 (sn : Int))).allocC #[.slice A4 rd.length c4, .int .i64 12, .int .i64 (sn : Int)] 55).s1
    obtain ⟨e3, e4, e5⟩ := H9.out.look
    refine bodyPost_ret (v := .agg #[.slice A4 rd.length c4, .int .i64 12, .int .i64 (sn : Int)]) (by simp [results, Tryz.results174, go_sem, e3]) rfl ?_
    exact ⟨A4, c4, rfl, H9.out.drop.drop⟩
  · have hb : (bits BinOp.and IntKind.i64 13 2 != 0) = false := by kernel_rfl
    rw [if_neg (by decide)]
    go_enter Tryz.func174, Tryz.ntmps174
    go_wp2_with (first
      | (refine (HN.out _ H0.out).mono ?_; rintro e w2 ⟨rfl, rfl⟩)
      | (refine HP.out.mono ?_; rintro e w4 ⟨A4, c4, rfl, S4⟩; have H4 := Lib.hid S4.s2; clear S4; obtain ⟨g3, g4, g5⟩ := H4.out.look))
    have H9 := Lib.hid ((H4.out.set3 (u0 := .slice A4 rd.length c4) (u1 := .int .i64 13) (u2 := .int .i64 (sn : Int))).allocC #[.slice A4 rd.length c4, .int .i64 13, .int .i64 (sn : Int)] 55).s1
    obtain ⟨e3, e4, e5⟩ := H9.out.look
    refine bodyPost_ret (v := .agg #[.slice A4 rd.length c4, .int .i64 13, .int .i64 (sn : Int)]) (by simp [results, Tryz.results174, go_sem, e3]) rfl ?_
    exact ⟨A4, c4, rfl, H9.out.drop.drop⟩
  · have hb : (bits BinOp.and IntKind.i64 14 2 != 0) = true := by kernel_rfl
    rw [if_pos rfl]
    go_enter Tryz.func174, Tryz.ntmps174
    go_wp2_with (first
      | (refine (HN.out _ H0.out).mono ?_; rintro e w2 ⟨rfl, rfl⟩)
      | (refine HP.out.mono ?_; rintro e w4 ⟨A4, c4, rfl, S4⟩; obtain ⟨v4, lp4, S5⟩ := tapeS_open S4.s1; have H4 := Lib.hid S5.s4; clear S4 S5; obtain ⟨g3, g4, g5⟩ := H4.out.look; obtain ⟨L4, K4, z4⟩ := H4.out.s1.look; have hne := H4.out.cne))
    have H9 := Lib.hid (((SL.set (off := 4) (v := .int .u8 (sn : Int)) (cs' := #[.string name, v4, .int .i64 (s2.pos : Int), .bool s2.loaded, .int .u8 (sn : Int), .pointer lp4]) H4.out.s1 rfl).s1.set3 (u0 := .slice A4 rd.length c4) (u1 := .int .i64 14) (u2 := .int .i64 (sn : Int))).allocC #[.slice A4 rd.length c4, .int .i64 14, .int .i64 (sn : Int)] 55).s1
    obtain ⟨e3, e4, e5⟩ := H9.out.look
    refine bodyPost_ret (v := .agg #[.slice A4 rd.length c4, .int .i64 14, .int .i64 (sn : Int)]) (by simp [results, Tryz.results174, go_sem, e3]) rfl ?_
    exact ⟨A4, c4, rfl, (tapeS_close (s := { s2 with sense := sn }) H9.out.drop.drop).s1⟩
set_option maxHeartbeats 4000000 in
theorem undo_false (how : Int) (h : how < 0 ∨ 2 < how ∨ s.last = none) (S : SL W (tapeS tb name s :: F) w) :
    Calls Tryz.prog 176 #[.pointer (some ⟨tb, 0, none⟩), .int .i64 how] w fun e w' => e = .returned (.bool false) ∧ SL W (tapeS tb name s :: F) w' := by
  have HS := Lib.hid S
  obtain ⟨v, lp, S1⟩ := tapeS_open S
  obtain ⟨L, K, z⟩ := S1.look
  by_cases h1 : how < 0
  · have g1 : decide (how < 0) = true := by simp [h1]
    clear S S1
    go_enter Tryz.func176, Tryz.ntmps176
    go_wp2
    go_ret
    exact ⟨rfl, HS.out⟩
  · by_cases h2 : 2 < how
    · clear S S1
      go_enter Tryz.func176, Tryz.ntmps176
      go_wp2
      go_ret
      exact ⟨rfl, HS.out⟩
    · have h3 : s.last = none := h.elim (fun h => absurd h h1) fun h => h.elim (fun h => absurd h h2) id
      rw [h3] at S1
      have := lastS_of_none S1.s2
      subst this
      clear S S1
      go_enter Tryz.func176, Tryz.ntmps176
      go_wp2
      go_ret
      exact ⟨rfl, HS.out⟩
end
end Go.Proofs.YtfhpaehfihnjaaaGreat.T
namespace Go.Proofs.YtfhpaehfihnjaaaGreat.T
open Go.RowKit
def TP.tip (s : TP) : Prop := ∀ a old, s.last = some (a, old, true) → a + 1 = s.bs.length
theorem move_last (s : TP) (op : Int) : (tpMove s op).1.last = s.last ∧ (tpMove s op).1.bs = s.bs := by
  unfold tpMove
  repeat' split
  all_goals exact ⟨rfl, rfl⟩
theorem do_tip (s : TP) (op : Int) (l : List UInt8) (ok : s.ok) : (tpDo s op l).1.tip := by
  have hp := ok.pos
  have h : ∀ t : TP, t.last = none → t.tip := fun t e a o e2 => by rw [e] at e2; cases e2
  have hs : ∀ (t : TP) (r : Rep), t.tip → (if r.2.1 = 14 then { t with sense := r.2.2 } else t).tip := fun t r e => by
    split
    · exact e
    · exact e
  have hw : ∀ b, (tpWrite { s with last := none } b).1.tip := fun b => by
    unfold tpWrite
    split
    · exact h _ rfl
    · intro a o e
      simp only [tpCut, Option.some.injEq, Prod.mk.injEq] at e
      obtain ⟨rfl, rfl, _⟩ := e
      simp
      omega
  have hc : (tpCut { s with last := none } false).tip := fun a o e => by
    simp [tpCut] at e
  unfold tpDo
  dsimp only
  refine hs _ _ ?_
  unfold tpPerform
  repeat' split
  all_goals first | exact h _ rfl | exact hw _ | exact hc | exact h _ (move_last _ _).1
theorem undo_tip (s : TP) (how : Int) (t : s.tip) : (tpUndo s how).1.tip := by
  have h : ∀ t : TP, t.last = none → t.tip := fun t e a o e2 => by rw [e] at e2; cases e2
  unfold tpUndo
  repeat' split
  all_goals first | exact h _ rfl | exact t
theorem power_tip (s : TP) : (tpPower s).tip := fun a o e => by cases e
end Go.Proofs.YtfhpaehfihnjaaaGreat.T
namespace Go.Proofs.YtfhpaehfihnjaaaGreat.T
open Go.RowKit
section
variable {W w w' : World} {F : List SA} {tb : Nat} {name : ByteArray} {s : TP}
theorem rowT_at {e : TypeId} {size n c : Nat} {A : Option Addr} {xs : List Value} (S : SL W (rowT e size (.slice A n c) n xs :: F) w) : At w w.heap.size A xs := fun hx => by
  obtain ⟨u, hu⟩ : ∃ u, xs[0]? = some u := ⟨_, List.getElem?_eq_getElem (List.length_pos_iff.2 hx)⟩
  rcases S.rowTo with ⟨_, _, rfl⟩ | ⟨g, cap, cur, hv, _, _, _, _, _, _, S'⟩
  · exact absurd rfl hx
  · injection hv with hA _ _
    refine ⟨g, 0, hA, S'.look.2.2, fun j u hj => ?_⟩
    obtain ⟨b, hb, _, h⟩ := S.cellT hj
    rw [hA] at hb
    injection hb with hb; injection hb with hb; subst hb
    rw [Nat.zero_add]; exact h
theorem dats_one {ps : List BV} (S : SL W (star (ps.map datS) :: F) w) : ∀ u ∈ ps.flatMap blkCells, u.oneCell' = true := by
  intro u hu
  obtain ⟨p, hp, hu⟩ := List.mem_flatMap.1 hu
  obtain ⟨i, hi, rfl⟩ := List.getElem_of_mem hp
  obtain ⟨A, c, e, _⟩ := datS_slice (S.take (i := i) (P := datS ps[i]) (by simp [hi]))
  simp only [blkCells, List.mem_cons, List.not_mem_nil, or_false] at hu
  rcases hu with rfl | rfl | rfl
  · rfl
  · rw [e]; rfl
  · rfl
theorem blk_len (ps : List BV) : (ps.flatMap blkCells).length = ps.length * 3 := by
  induction ps with
  | nil => rfl
  | cons p ps ih => simp [blkCells, ih]; omega
theorem _root_.Go.Proofs.YtfhpaehfihnjaaaGreat.SL.joins {L M r : List SA} (S : SL W (star L :: star M :: r) w) : SL W (star (L ++ M) :: r) w := by
  have h1 : SL W (star M :: (L ++ r)) w := S.spill.perm List.perm_middle
  have h2 : SL W ((L ++ M) ++ r) w := h1.spill.perm (by
    rw [← List.append_assoc]
    exact (List.perm_append_comm).append_right r)
  exact h2.app
set_option maxHeartbeats 4000000 in
theorem undo_zero {a : Nat} {old : List Blk} {blk : Bool} (h : s.last = some (a, old, blk)) (S : SL W (tapeS tb name s :: F) w) :
    Calls Tryz.prog 176 #[.pointer (some ⟨tb, 0, none⟩), .int .i64 0] w fun e w' => e = .returned (.bool true) ∧ SL W (tapeS tb name { s with last := none } :: F) w' := by
  obtain ⟨v, lp, S1⟩ := tapeS_open S
  rw [h] at S1
  obtain ⟨lb, v2, rfl, S2⟩ := lastS_open S1.s2
  obtain ⟨L, K, z⟩ := S1.look
  have H1 := Lib.hid (SL.set (off := 5) (v := .pointer none) (cs' := #[.string name, v, .int .i64 (s.pos : Int), .bool s.loaded, .int .u8 (s.sense : Int), .pointer none]) S1 rfl)
  clear S S1 S2
  go_enter Tryz.func176, Tryz.ntmps176
  go_wp2
  go_ret
  exact ⟨rfl, tapeS_close (s := { s with last := none }) (lastS_none H1.out.s2.drop).b2⟩
set_option maxHeartbeats 4000000 in
theorem undo_old (how : Int) {a : Nat} {old : List Blk} {blk : Bool} (h : s.last = some (a, old, blk)) (hh : how = 1 ∨ how = 2 ∧ blk = false) (S : SL W (tapeS tb name s :: F) w) (ok : s.ok) :
    Calls Tryz.prog 176 #[.pointer (some ⟨tb, 0, none⟩), .int .i64 how] w fun e w' => e = .returned (.bool true) ∧ SL W (tapeS tb name { s with last := none, bs := s.bs.take a ++ old, pos := a } :: F) w' := by
  obtain ⟨hl1, hl2, _, _⟩ := ok.last a old blk h
  have hl3 := ok.len
  obtain ⟨v, lp, S1⟩ := tapeS_open S
  obtain ⟨A, c, rfl, hc1, hc2⟩ := blksS_slice S1.s1
  rw [h] at S1
  obtain ⟨lb, v2, rfl, S2⟩ := lastS_open S1.s2
  obtain ⟨A2, c2, rfl, hd1, hd2⟩ := blksS_slice S2.s1
  obtain ⟨L, K, z⟩ := S1.look
  obtain ⟨L2, K2, z2⟩ := S2.look
  have hne := S2.s2.cne
  have H1 := Lib.hid (SL.set (off := 5) (v := .pointer none) (cs' := #[.string name, .slice A s.bs.length c, .int .i64 (s.pos : Int), .bool s.loaded, .int .u8 (s.sense : Int), .pointer none]) S2.s2 rfl)
  clear S S1 S2 ok h
  obtain ⟨bs, pos, ld, se, la⟩ := s
  dsimp only at *
  have hgt : decide (how > 0) = true := by simp; omega
  have h0 : decide (how < 0) = false := by simp; omega
  have h2 : decide (how > 2) = false := by simp; omega
  have h2' : decide (2 < how) = false := by simp; omega
  go_enter Tryz.func176, Tryz.ntmps176
  rcases hh with rfl | ⟨rfl, rfl⟩
  all_goals
    go_wp2_with fail
    refine name_world (P := Code.wp _ _ _ _) ?_
    intro wd hwd
    rw [← hwd] at H1
    clear hwd L K z L2 K2 z2
    obtain ⟨ps, hps, S3⟩ := blksS_open (blksS_cut H1.out.s3 hl1)
    obtain ⟨qs, hqs, S4⟩ := blksS_open S3.s4
    have hpl : ps.length = a := by have := congrArg List.length hps; simp at this; omega
    have hql : qs.length = old.length := by have := congrArg List.length hqs; simpa using this
    rw [hpl, hql] at S4
    have H3 := Lib.hid S4.s2
    have HP := Lib.hid (And.intro hps (And.intro hqs (And.intro hpl hql)))
    clear S3 S4 H1 hps hqs hpl hql
    have hac : a ≤ c := by omega
    refine wp_region_order (SL W _) [0] [1, 2, 3, 4, 5, 6, 7, 8, 9, 10, 11, 12, 13, 14, 15, 16, 17] [] [] [18, 19, 20, 21] (by kernel_rfl) (by kernel_rfl) H3.out.drew (by intro c a d v w h; cases d <;> exact h) ?_
    simp only [pick, List.filterMap_cons, List.filterMap_nil, List.getElem?_cons_zero, List.getElem?_cons_succ]
    (repeat (refine wpPure_step (fun K hK => ?_); go_simp; refine hK _ ?_; clear hK K)); refine wpPure_nil ?_
    (repeat (refine wpLoads_step (fun K hK => ?_); go_simp; first | (refine hK _ ?_; clear hK K) | (refine ⟨_, fun wx S => (by obtain ⟨f3, f4, f5⟩ := S.s4.look; obtain ⟨g3, g4, g5⟩ := S.s5.look; go_simp; rfl), hK _ ?_⟩; clear hK K)))
    refine wpLoads_nil (wpQuiet_nil ?_)
    intro wq hwq
    have H5 := Lib.hid hwq
    clear hwq H3
    refine wpKeep_nil ?_
    refine wpList_appT rfl _ _ _ rfl blkElem _ a _ rfl H5.out wq.heap.size A2 old.length c2 (qs.flatMap blkCells) rfl (rowT_at H5.out.s1) (by rw [blk_len, HP.out.2.2.2]) (dats_one H5.out.s2) (by unfold maxLen; omega) (by omega) ?_
    intro A6 c6 w6 S6
    have H6 := Lib.hid S6
    clear S6 H5
    obtain ⟨f3, f4, f5⟩ := H6.out.s4.look
    obtain ⟨g3, g4, g5⟩ := H6.out.s5.look
    go_wp2
    go_ret
    refine ⟨rfl, ?_⟩
    have h7 := SL.set (off := 2) (v := .int .i64 (a : Int)) (cs' := #[.string name, .slice A6 (a + old.length) c6, .int .i64 (a : Int), .bool ld, .int .u8 (se : Int), .pointer none]) (SL.set (off := 1) (v := .slice A6 (a + old.length) c6) (cs' := #[.string name, .slice A6 (a + old.length) c6, .int .i64 (pos : Int), .bool ld, .int .u8 (se : Int), .pointer none]) H6.out.s4 rfl) rfl
    have h8 := (h7.s5.drop.s2.drop.s3.s3.s1).joins.s2
    have h9 := blk_close (bs := List.take a bs ++ old) (ps := ps ++ qs) (v := .slice A6 (a + old.length) c6) (n := a + old.length) (by rw [List.map_append, HP.out.1, HP.out.2.1]) (by simp; omega) (by rw [List.flatMap_append, List.map_append]; exact h8)
    exact tapeS_close (s := ⟨List.take a bs ++ old, a, ld, se, none⟩) (lastS_none h9.s1).b2
theorem blk_modify (ps : List BV) (i : Nat) (v : Value) (b : Blk) (h : ps[i]? = some (v, b)) : (ps.set i (v, { b with bad := true })).map Prod.snd = (ps.map Prod.snd).modify i fun b => { b with bad := true } := by
  have hl : i < ps.length := by rw [List.getElem?_eq_some_iff] at h; exact h.1
  rw [List.map_set]
  apply List.ext_getElem?
  intro j
  rw [List.getElem?_set, List.getElem?_modify]
  by_cases hij : i = j
  · subst hij
    rw [List.getElem?_eq_getElem hl] at h
    injection h with h
    simp [h, hl]
  · simp [hij]
theorem dats_set (ps : List BV) (i : Nat) (v : Value) (b : Blk) (h : ps[i]? = some (v, b)) : (ps.set i (v, { b with bad := true })).map datS = ps.map datS := by
  have hl : i < ps.length := by rw [List.getElem?_eq_some_iff] at h; exact h.1
  rw [List.map_set]
  apply List.ext_getElem?
  intro j
  rw [List.getElem?_set]
  by_cases hij : i = j
  · subst hij
    rw [if_pos rfl, if_pos (by simpa using hl), List.getElem?_map, h]
    rfl
  · rw [if_neg hij]
theorem rowT_set {e : TypeId} {size n c g j : Nat} {xs : List Value} (S : SL W (rowT e size (.slice (some ⟨g, 0, none⟩) n c) n xs :: F) w) (u : Value) : (∀ o, w.frozen? ⟨g, o, none⟩ = false) ∧ SL W (rowT e size (.slice (some ⟨g, 0, none⟩) n c) n (xs.set j u) :: F) (w.setCell ⟨g, j, none⟩ u) := by
  rcases S.rowTo with ⟨hv, _⟩ | ⟨g', cap, cur, hv, h1, h2, h3, h4, h5, h6, S'⟩
  · cases hv
  · injection hv with hA _ hc
    injection hA with hA; injection hA with hA
    subst hA; subst hc
    refine ⟨S'.look.2.1, SL.head (S'.set (off := j) (v := u) rfl) (rowT_pts (by simpa using h6) h1 h2 (by simpa using h3) (by simpa using h4) ?_)⟩
    rw [Array.toList_setIfInBounds, List.take_set, h5]
theorem blk_setc (ps : List BV) (i : Nat) (v : Value) (b : Blk) (h : ps[i]? = some (v, b)) : (ps.flatMap blkCells).set (i * 3 + 2) (.bool true) = (ps.set i (v, { b with bad := true })).flatMap blkCells := by
  induction ps generalizing i with
  | nil => simp at h
  | cons p ps ih =>
    cases i with
    | zero =>
      simp at h; subst h
      simp [blkCells]
    | succ i =>
      simp only [List.set_cons_succ, List.flatMap_cons]
      rw [List.set_append_right _ _ (by simp [blkCells]; omega), show (i + 1) * 3 + 2 - (blkCells p).length = i * 3 + 2 by simp [blkCells]; omega, ih i (by simpa using h)]
set_option maxHeartbeats 4000000 in
theorem undo_bad {a : Nat} {old : List Blk} (h : s.last = some (a, old, true)) (S : SL W (tapeS tb name s :: F) w) (ok : s.ok) :
    Calls Tryz.prog 176 #[.pointer (some ⟨tb, 0, none⟩), .int .i64 2] w fun e w' => e = .returned (.bool true) ∧ SL W (tapeS tb name { s with last := none, bs := s.bs.modify a fun b => { b with bad := true } } :: F) w' := by
  obtain ⟨hl1, hl2, hl0, _⟩ := ok.last a old true h
  have hlt := hl0 rfl
  have hl3 := ok.len
  obtain ⟨v, lp, S1⟩ := tapeS_open S
  obtain ⟨A, c, rfl, hc1, hc2⟩ := blksS_slice S1.s1
  rw [h] at S1
  obtain ⟨lb, v2, rfl, S2⟩ := lastS_open S1.s2
  obtain ⟨A2, c2, rfl, hd1, hd2⟩ := blksS_slice S2.s1
  obtain ⟨L, K, z⟩ := S1.look
  obtain ⟨L2, K2, z2⟩ := S2.look
  have hne := S2.s2.cne
  have H1 := Lib.hid (SL.set (off := 5) (v := .pointer none) (cs' := #[.string name, .slice A s.bs.length c, .int .i64 (s.pos : Int), .bool s.loaded, .int .u8 (s.sense : Int), .pointer none]) S2.s2 rfl)
  clear S S1 S2 ok h hl0
  obtain ⟨bs, pos, ld, se, la⟩ := s
  dsimp only at *
  obtain ⟨b, hb⟩ : ∃ b, bs[a]? = some b := ⟨bs[a], List.getElem?_eq_getElem hlt⟩
  obtain ⟨g, ps, A4, c4, rfl, hps, hpp, S0⟩ := blk_open H1.out.s3 hb
  have H2 := Lib.hid S0
  have HP := Lib.hid (And.intro hps hpp)
  clear S0 H1 hps hpp hb
  go_enter Tryz.func176, Tryz.ntmps176
  go_wp2_with fail
  refine name_world (P := Code.wp _ _ _ _) ?_
  intro wd hwd
  rw [← hwd] at H2
  clear hwd L K z L2 K2 z2
  obtain ⟨f3, f4, f5⟩ := H2.out.s2.look
  obtain ⟨g3, g4, g5⟩ := H2.out.s3.look
  obtain ⟨k0, k1, k2⟩ := blk_cells H2.out HP.out.2
  obtain ⟨k3, S3⟩ := rowT_set (j := a * 3 + 2) H2.out (.bool true)
  have k4 : wd.frozen? ⟨g, a * 3 + 2, none⟩ = false := k3 _
  have H3 := Lib.hid S3.drew
  clear S3 k3
  go_big_region
  go_wp2
  go_ret
  refine ⟨rfl, ?_⟩
  have h3 := H3.out
  rw [blk_setc ps a _ b HP.out.2] at h3
  have h4 := h3.s1
  rw [← dats_set ps a _ b HP.out.2] at h4
  have h9 := blk_close (bs := bs.modify a fun b => { b with bad := true }) (by rw [blk_modify ps a _ b HP.out.2, HP.out.1]) (by simp) h4.s1
  exact tapeS_close (s := ⟨bs.modify a fun b => { b with bad := true }, pos, ld, se, none⟩) (lastS_none h9.s1.s2.drop.s2.drop).b2
theorem undo_any (how : Int) (S : SL W (tapeS tb name s :: F) w) (ok : s.ok) :
    Calls Tryz.prog 176 #[.pointer (some ⟨tb, 0, none⟩), .int .i64 how] w fun e w' => e = .returned (.bool (tpUndo s how).2) ∧ SL W (tapeS tb name (tpUndo s how).1 :: F) w' := by
  unfold tpUndo
  cases h : s.last with
  | none => exact undo_false how (Or.inr (Or.inr h)) S
  | some p =>
    obtain ⟨a, old, blk⟩ := p
    dsimp only
    by_cases h0 : how < 0 ∨ 2 < how
    · rw [if_pos h0]
      exact undo_false how (h0.elim Or.inl fun h => Or.inr (Or.inl h)) S
    · rw [if_neg h0]
      by_cases h2 : how = 2 ∧ blk = true
      · rw [if_pos h2]
        obtain ⟨rfl, rfl⟩ := h2
        exact undo_bad h S ok
      · rw [if_neg h2]
        by_cases h1 : 0 < how
        · rw [if_pos h1]
          refine undo_old how h ?_ S ok
          by_cases e : how = 2
          · refine Or.inr ⟨e, ?_⟩
            cases blk with
            | false => rfl
            | true => exact absurd ⟨e, rfl⟩ h2
          · left; omega
        · rw [if_neg h1]
          obtain rfl : how = 0 := by omega
          exact undo_zero h S
theorem undo_ok (s : TP) (how : Int) (ok : s.ok) : (tpUndo s how).1.ok := by
  unfold tpUndo
  cases h : s.last with
  | none => exact ok
  | some p =>
    obtain ⟨a, old, blk⟩ := p
    obtain ⟨h1, h2, h3, h4⟩ := ok.last a old blk h
    dsimp only
    split
    · exact ok
    · split
      · refine ⟨by simpa using ok.pos, by simpa using ok.len, fun b hb => ?_, ok.sense, fun a o b e => by cases e⟩
        obtain ⟨j, hj, rfl⟩ := List.getElem_of_mem hb
        have hj' : j < s.bs.length := by simpa using hj
        have := ok.data s.bs[j] (List.getElem_mem hj')
        rw [List.getElem_modify]
        split
        · exact this
        · exact this
      · split
        · refine ⟨by simp; omega, by simp; omega, fun b hb => ?_, ok.sense, fun a o b e => by cases e⟩
          simp only [List.mem_append] at hb
          exact hb.elim (fun h => ok.data b (List.mem_of_mem_take h)) (h4 b)
        · exact ⟨ok.pos, ok.len, ok.data, ok.sense, fun a o b e => by cases e⟩
theorem power_ok (s : TP) (ok : s.ok) : (tpPower s).ok := ⟨Nat.zero_le _, ok.len, ok.data, by simp [tpPower], fun a o b e => by cases e⟩
end
end Go.Proofs.YtfhpaehfihnjaaaGreat.T
namespace Go.Proofs.YtfhpaehfihnjaaaGreat.T
open Go.RowKit
def serB (b : UInt8) : Prop := (65 ≤ b.toNat ∧ b.toNat ≤ 90) ∨ (48 ≤ b.toNat ∧ b.toNat ≤ 57)
instance (b : UInt8) : Decidable (serB b) := inferInstanceAs (Decidable (_ ∨ _))
def serOk (s : ByteArray) : Bool := decide (∀ k (h : k < s.size), serB (s[k]'h)) && (decide (1 ≤ s.size) && decide (s.size ≤ 6))
section
variable {W w w' : World} {F : List SA}
set_option maxHeartbeats 4000000 in
theorem isserial_any (s : ByteArray) (w : World) (hz : s.size ≤ 140737488355328) : Calls Tryz.prog 80 #[.string s] w fun e w' => e = .returned (.bool (serOk s)) ∧ Below w.heap.size w w' := by
  go_enter Tryz.func80, Tryz.ntmps80
  go_wp2
  go_loopw [] (fun wr => ∃ k : Nat, k ≤ s.size ∧ (∀ j (h : j < s.size), j < k → serB (s[j]'h)) ∧ wr = w.iter s k) (fun wr => s.size - wr.iterPos w.heap.size)
  case atStart => exact ⟨0, Nat.zero_le _, fun j h hj => by omega, rfl⟩
  case round =>
    obtain ⟨k, hk, hall, rfl⟩ := hrel
    have HA := Lib.hid hall
    clear hall
    by_cases hlt : k < s.size
    · by_cases ha : (s[k]'hlt).toNat < 128
      · have hnx := fun ty => run_next_ascii (P := Tryz.prog) w s k ty hlt ha
        by_cases hin : serB (s[k]'hlt)
        · have HI := Lib.hid hin
          unfold serB at hin
          generalize (s[k]'hlt).toNat = z at hin ha hnx
          have t1 : decide ((z : Int) < 48) = false := by simp; omega
          have t2 : decide ((z : Int) > 90) = false := by simp; omega
          by_cases h65 : 65 ≤ z
          · have t3 : decide ((z : Int) < 65) = false := by simp; omega
            have h90 : z ≤ 90 := by omega
            clear hin
            go_wp2
            go_roundw
            case rel =>
              refine ⟨k + 1, by omega, fun j h hj => ?_, rfl⟩
              by_cases e : j = k
              · subst e; exact HI.out
              · exact HA.out j h (by omega)
            case measure => simp; omega
          · have h57 : z ≤ 57 := by omega
            have h48 : 48 ≤ z := by omega
            have t3 : decide ((z : Int) < 65) = true := by simp; omega
            clear hin
            go_wp2
            go_roundw
            case rel =>
              refine ⟨k + 1, by omega, fun j h hj => ?_, rfl⟩
              by_cases e : j = k
              · subst e; exact HI.out
              · exact HA.out j h (by omega)
            case measure => simp; omega
        · have e1 : serOk s = false := by
            unfold serOk
            rw [decide_eq_false (fun h => hin (h k hlt))]
            rfl
          have E1 := Lib.hid e1
          clear e1
          unfold serB at hin
          generalize (s[k]'hlt).toNat = z at hin ha hnx
          have h1 : (z < 48 ∨ 57 < z) ∧ (z < 65 ∨ 90 < z) := by omega
          clear hin
          obtain ⟨h1 | h1, h2 | h2⟩ := h1
          all_goals
            go_wp2
            all_goals
              go_ret
              exact ⟨by rw [E1.out]; rfl, (Below.refl _ _).alloc (Nat.le_refl _) _⟩
      · have hnx := fun ty => run_next_any (P := Tryz.prog) w s k ty hlt
        have hge := (decode_high s k hlt (by omega)).1
        have hle := decode_le s k
        have e1 : serOk s = false := by
          unfold serOk
          rw [decide_eq_false (fun h => ?_)]
          · rfl
          · have := h k hlt
            unfold serB at this
            omega
        have E1 := Lib.hid e1
        clear e1
        generalize (Utf8.decode s k).1 = z at hge hle hnx
        generalize (Utf8.decode s k).2 = z2 at hnx
        clear ha
        go_wp2
        go_ret
        exact ⟨by rw [E1.out]; rfl, (Below.refl _ _).alloc (Nat.le_refl _) _⟩
    · obtain rfl : k = s.size := by omega
      have hnx := fun ty => run_next_end (P := Tryz.prog) w s s.size ty hlt
      have e1 : serOk s = (decide (1 ≤ s.size) && decide (s.size ≤ 6)) := by
        unfold serOk
        rw [decide_eq_true (fun j h => HA.out j h h)]
        rfl
      have E1 := Lib.hid e1
      clear e1
      go_wp2
      all_goals
        go_ret
        refine ⟨?_, (Below.refl _ _).alloc (Nat.le_refl _) _⟩
        rw [E1.out]
        first
          | (have e : 1 ≤ s.size := by omega
             simp only [e, decide_true, Bool.true_and]
             exact congrArg (fun x => Ending.returned (Value.bool x)) (decide_eq_decide.2 (by omega)))
          | (have e : ¬ 1 ≤ s.size := by omega
             simp only [e, decide_false, Bool.false_and]
             rfl)
theorem isblock_any (b : Blk) (A : Option Addr) (c : Nat) (w : World) (hz : b.data.length ≤ 1073741824) : Calls Tryz.prog 81 #[.agg #[.bool b.mark, .slice A b.data.length c, .bool b.bad]] w fun e w' => e = .returned (.bool (if b.mark then decide (b.data.length = 0) && !b.bad else decide (1 ≤ b.data.length) && decide (b.data.length ≤ 1024))) ∧ Below w.heap.size w w' := by
  obtain ⟨l, mk, bd⟩ := b
  dsimp only at *
  cases mk
  · go_enter Tryz.func81, Tryz.ntmps81
    go_wp2
    all_goals
      go_ret
      refine ⟨?_, by (repeat' (first | (with_reducible exact Below.refl _ _) | (with_reducible assumption) | (with_reducible refine below_drewN ?_ _) | (with_reducible refine Below.drew ?_) | (with_reducible refine Below.alloc ?_ ?_ _) | (with_reducible refine Below.setCell ?_ ?_ _) | (with_reducible refine below_row ?_ ?_ _) | (with_reducible exact Nat.le_refl _) | omega | (simp only [World.size_alloc, World.size_setCell, World.size_drew, World.size_drewN]; omega) | (simp; done) | (simp; omega)))⟩
      first
        | (have e : 1 ≤ l.length := by omega
           simp only [e, decide_true, Bool.true_and]
           exact congrArg (fun x => Ending.returned (Value.bool x)) (decide_eq_decide.2 (by omega)))
        | (have e : ¬ 1 ≤ l.length := by omega
           simp only [e, decide_false, Bool.false_and]
           rfl)
  · go_enter Tryz.func81, Tryz.ntmps81
    go_wp2
    all_goals
      go_ret
      refine ⟨?_, by (repeat' (first | (with_reducible exact Below.refl _ _) | (with_reducible assumption) | (with_reducible refine below_drewN ?_ _) | (with_reducible refine Below.drew ?_) | (with_reducible refine Below.alloc ?_ ?_ _) | (with_reducible refine Below.setCell ?_ ?_ _) | (with_reducible refine below_row ?_ ?_ _) | (with_reducible exact Nat.le_refl _) | omega | (simp only [World.size_alloc, World.size_setCell, World.size_drew, World.size_drewN]; omega) | (simp; done) | (simp; omega)))⟩
      simp
      try omega
end
end Go.Proofs.YtfhpaehfihnjaaaGreat.T
namespace Go.Proofs.YtfhpaehfihnjaaaGreat.T
open Go.RowKit
def blkOk (b : Blk) : Bool := if b.mark then decide (b.data.length = 0) && !b.bad else decide (1 ≤ b.data.length) && decide (b.data.length ≤ 1024)
def newErr (s : ByteArray) (bs : List Blk) : Nat := if serOk s = false then 1 else if 4096 < bs.length then 2 else if bs.all blkOk then 0 else 5
theorem all_of {bs : List Blk} (h : ∀ j b, j < bs.length → bs[j]? = some b → blkOk b = true) : bs.all blkOk = true := by
  rw [List.all_eq_true]
  intro b hb
  obtain ⟨j, hj, rfl⟩ := List.getElem_of_mem hb
  exact h j _ hj (List.getElem?_eq_getElem hj)
theorem not_all {bs : List Blk} {k : Nat} {b : Blk} (hb : bs[k]? = some b) (h : blkOk b = false) : bs.all blkOk = false := by
  rw [List.all_eq_false]
  exact ⟨b, List.mem_of_getElem? hb, by simp [h]⟩
def freshTP (bs : List Blk) : TP := ⟨bs, 0, true, 0, none⟩
theorem fresh_ok {bs : List Blk} (h : bs.length ≤ 4096) (ha : bs.all blkOk = true) : (freshTP bs).ok := by
  refine ⟨Nat.zero_le _, h, fun b hb => ?_, by simp [freshTP], fun a o b e => by cases e⟩
  have h := List.all_eq_true.1 ha b hb
  unfold blkOk at h
  split at h
  · simp at h; rw [h.1]; simp
  · simp at h; omega
def NewS (W : World) (F : List SA) (s : ByteArray) (bs : List Blk) (e : Ending) (w' : World) : Prop := if newErr s bs = 0 then ∃ tb, e = .returned (.tuple #[.pointer (some ⟨tb, 0, none⟩), .int .i64 0]) ∧ SL W (tapeS tb s (freshTP bs) :: F) w' else e = .returned (.tuple #[.pointer none, .int .i64 (newErr s bs : Int)]) ∧ SL W F w'
section
variable {W w w' : World} {F : List SA}
theorem NewS.bad {s : ByteArray} {bs : List Blk} {n : Nat} (h : newErr s bs = n + 1) (S : SL W F w') : NewS W F s bs (.returned (.tuple #[.pointer none, .int .i64 ((n + 1 : Nat) : Int)])) w' := by
  unfold NewS
  rw [if_neg (by omega), h]
  exact ⟨rfl, S⟩
set_option maxHeartbeats 4000000 in
theorem new_any (s : ByteArray) (A : Option Addr) (bs : List Blk) (c : Nat) (S : SL W F w) (hr : BlksRd W F A bs) (hs : s.size ≤ 140737488355328) (hb : bs.length ≤ maxLen) (hd : ∀ b ∈ bs, b.data.length ≤ 1073741824) :
    Calls Tryz.prog 60 #[.string s, .slice A bs.length c] w fun e w' => NewS W F s bs e w' := by
  have HS := Lib.hid S
  have HR := Lib.hid hr
  have HD := Lib.hid hd
  have HI := Lib.hid (isserial_any s w hs)
  have hz : bs.length ≤ 9223372036854775807 := by unfold maxLen at hb; omega
  clear S hr hd hb
  cases h1 : serOk s with
  | false =>
    have e1 : newErr s bs = 1 := by unfold newErr; rw [if_pos h1]
    rw [h1] at HI
    go_enter Tryz.func60, Tryz.ntmps60
    go_wp2_with (refine HI.out.mono ?_; rintro e w2 ⟨rfl, b2⟩; have H2 := Lib.hid (HS.out.grow b2); clear b2)
    refine bodyPost_ret (v := .tuple #[.pointer none, .int .i64 1]) (by simp [results, Tryz.results60, go_sem]) rfl (NewS.bad (n := 0) e1 H2.out)
  | true =>
    rw [h1] at HI
    by_cases h2 : 4096 < bs.length
    · have e1 : newErr s bs = 2 := by unfold newErr; rw [if_neg (by simp [h1]), if_pos h2]
      go_enter Tryz.func60, Tryz.ntmps60
      go_wp2_with (refine HI.out.mono ?_; rintro e w2 ⟨rfl, b2⟩; have H2 := Lib.hid (HS.out.grow b2); clear b2)
      refine bodyPost_ret (v := .tuple #[.pointer none, .int .i64 2]) (by simp [results, Tryz.results60, go_sem]) rfl (NewS.bad (n := 1) e1 H2.out)
    · have e1 : newErr s bs = if bs.all blkOk then 0 else 5 := by unfold newErr; rw [if_neg (by simp [h1]), if_neg h2]
      have E1 := Lib.hid e1
      clear e1
      go_enter Tryz.func60, Tryz.ntmps60
      go_wp2_with (refine HI.out.mono ?_; rintro e w2 ⟨rfl, b2⟩; have H2 := Lib.hid (HS.out.grow b2); clear b2 HS)
      go_loopw [18] (fun i wr => ∃ k : Nat, k ≤ bs.length ∧ i = .int .i64 k ∧ (∀ j b, j < k → bs[j]? = some b → blkOk b = true) ∧ SL W F wr) (fun i _ => bs.length - (intOf i).toNat)
      case atStart => exact ⟨0, Nat.zero_le _, rfl, fun j b h => by omega, H2.out⟩
      case round =>
        obtain ⟨k, hk, rfl, hall, S1⟩ := hrel
        have H1 := Lib.hid S1
        have HA := Lib.hid hall
        clear S1 H2 hall
        by_cases hlt : k < bs.length
        · have hb : bs[k]? = some bs[k] := by simp [hlt]
          have hbl := HD.out bs[k] (List.getElem_mem hlt)
          generalize bs[k] = b at hb hbl
          obtain ⟨g, off, A4, c4, hA, k0, k1, k2, a4, h4, h5⟩ := HR.out wr H1.out k b hb
          subst hA
          have HB := Lib.hid hb
          have HK := Lib.hid (isblock_any b A4 c4 (wr.alloc (.cells #[.bool b.mark, .slice A4 b.data.length c4, .bool b.bad] 66)) hbl)
          clear hb a4
          have e3 : (if b.mark then decide (b.data.length = 0) && !b.bad else decide (1 ≤ b.data.length) && decide (b.data.length ≤ 1024)) = blkOk b := rfl
          rw [e3] at HK
          have H3 := Lib.hid (H1.out.allocC #[.bool b.mark, .slice A4 b.data.length c4, .bool b.bad] 66).drop
          obtain ⟨q, hq⟩ : ∃ q, blkOk b = q := ⟨_, rfl⟩
          rw [hq] at HK
          have HQ := Lib.hid hq
          clear hq e3
          go_wp2_with ((with_reducible refine HK.out.mono ?_); rintro e w4 ⟨rfl, b4⟩; have H4 := Lib.hid (H3.out.grow b4); clear b4)
          · rename_i hqq
            refine bodyPost_ret (v := .tuple #[.pointer none, .int .i64 5]) (by simp [results, Tryz.results60, go_sem]) rfl ?_
            have e4 : bs.all blkOk = false := not_all HB.out (HQ.out.trans (by simpa using hqq))
            exact NewS.bad (n := 4) (by rw [E1.out, e4]; rfl) H4.out
          · rename_i hqq
            go_roundw
            case rel =>
              refine ⟨k + 1, by omega, by go_num, fun j c hj hc => ?_, H4.out⟩
              by_cases e : j = k
              · subst e
                have h := HB.out
                rw [hc] at h
                injection h with h
                rw [h]; exact HQ.out.trans (by simpa using hqq)
              · exact HA.out j c (by omega) hc
            case measure => simp [intOf]; omega
        · obtain rfl : k = bs.length := by omega
          have hz2 : bs.length ≤ 1048576 := by omega
          go_wp2_with (refine (bclone_any A bs c H1.out HR.out ⟨hz2, HD.out⟩).mono ?_; rintro e w4 ⟨v4, rfl, S4⟩; obtain ⟨A4, c4, rfl, _, _⟩ := blksS_slice S4; have H4 := Lib.hid S4; clear S4)
          refine bodyPost_ret (v := .tuple #[.pointer (some ⟨w4.heap.size, 0, none⟩), .int .i64 0]) (by simp [results, Tryz.results60, go_sem]) rfl ?_
          have e4 : bs.all blkOk = true := all_of HA.out
          have e5 : newErr s bs = 0 := by rw [E1.out, e4]; rfl
          unfold NewS
          rw [if_pos e5]
          have h5 := H4.out.allocC #[.string s, .slice A4 bs.length c4, .int .i64 0, .bool true, .int .u8 0, .pointer none] 126
          exact ⟨_, rfl, tapeS_close (s := freshTP bs) (lastS_none h5).b2⟩
end
end Go.Proofs.YtfhpaehfihnjaaaGreat.T
