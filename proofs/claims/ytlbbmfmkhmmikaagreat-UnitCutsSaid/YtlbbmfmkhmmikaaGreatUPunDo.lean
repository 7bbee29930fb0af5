/- The punch of the program: Do, Deck and the rest. -/
import Derived.Test.YtlbbmfmkhmmikaaGreatUCmdS
import Derived.Test.YtlbbmfmkhmmikaaGreatUPrX
namespace Go.Proofs.YtlbbmfmkhmmikaaGreat.U
open Go.RowKit

theorem punch_dev (pb : Nat) (cs : List (List UInt8)) : DevS pb (fun se => punchS pb se cs) := by
  rintro se h ⟨v, _, s⟩
  exact ⟨(#[.int .i64 (se : Int), v], 120, deckS v cs), ⟨rfl, fun se' h' s' => ⟨v, trivial, s'⟩⟩, s⟩
def punDo (se : Nat) (cs : List (List UInt8)) (op : Int) (l : List UInt8) : Nat × List (List UInt8) × List UInt8 × Int × Int :=
  if op = 3 then (se, cs, [], 12, 0) else if op = 4 then (se, cs, [UInt8.ofNat se], 12, 0) else
    (if (punOwn cs op l).2.2 = 0 then se else (punOwn cs op l).2.2.toNat, (punOwn cs op l).1, [], (punOwn cs op l).2)
section
variable {W w : World} {F : List SA}
set_option maxRecDepth 100000 in
theorem pun_own (pb se : Nat) (cs : List (List UInt8)) (op : Int) (A : Option Addr) (l : List UInt8) (c : Nat) (S : SL W (punchS pb se cs :: F) w) (hr : Rd W (punchS pb se cs :: F) A (Lib.byteCells l)) (hlc : l.length ≤ c) (hz : l.length ≤ maxLen) (hcs : cs.length ≤ 4096) :
    Calls Tryz.prog 198 #[.pointer (some ⟨pb, 0, none⟩), .int .i64 op, .slice A l.length c] w fun e w' => RetS W (punchS pb se (punOwn cs op l).1 :: F) [] (punOwn cs op l).2.1 (punOwn cs op l).2.2 e w' := by
  unfold punOwn
  by_cases h : op ≠ 1 ∨ 80 < l.length
  · rw [if_pos h]
    exact pun_rej pb op A l c S hz h
  · rw [if_neg h]
    obtain ⟨rfl, h2⟩ : op = 1 ∧ l.length ≤ 80 := by omega
    by_cases h3 : cs.length = 4096
    · rw [if_pos h3]
      exact pun_full pb se cs A l c S h2 h3
    · rw [if_neg h3]
      exact pun_ok pb se cs A l c S hr hlc h2 (by omega)
theorem punOwn_sn (cs : List (List UInt8)) (op : Int) (l : List UInt8) : (punOwn cs op l).2.2 = 0 ∨ (punOwn cs op l).2.2 = 64 ∨ (punOwn cs op l).2.2 = 128 := by
  unfold punOwn
  repeat' split
  all_goals simp
set_option maxRecDepth 100000 in
theorem pun_command (pb se : Nat) (cs : List (List UInt8)) (op : Int) (A : Option Addr) (l : List UInt8) (c : Nat) (S : SL W (punchS pb se cs :: F) w) (hr : Rd W (punchS pb se cs :: F) A (Lib.byteCells l)) (hlc : l.length ≤ c) (hz : l.length ≤ maxLen) (hcs : cs.length ≤ 4096) (hse : se < 256) :
    Calls Tryz.prog 197 #[.pointer (some ⟨pb, 0, none⟩), .int .i64 op, .slice A l.length c, .func (.func 198) #[.pointer (some ⟨pb, 0, none⟩)] #[]] w fun e w' =>
      RetS W (punchS pb (punDo se cs op l).1 (punDo se cs op l).2.1 :: F) (punDo se cs op l).2.2.1 (punDo se cs op l).2.2.2.1 (punDo se cs op l).2.2.2.2 e w' := by
  unfold punDo
  by_cases h3 : op = 3
  · subst h3
    rw [if_pos rfl]
    exact commandS_3 pb se (fun se => punchS pb se cs) _ _ S
  · rw [if_neg h3]
    by_cases h4 : op = 4
    · subst h4
      rw [if_pos rfl]
      exact commandS_4 pb se (fun se => punchS pb se cs) (punch_dev pb cs) hse _ _ S
    · rw [if_neg h4]
      exact commandS_own pb se (fun se => punchS pb se (punOwn cs op l).1) (punch_dev pb _) _ op _ [] (punOwn cs op l).2.1 (punOwn cs op l).2.2 h3 h4 (punOwn_sn cs op l) (fun w => by rfl) w _ S
        (fun R w1 S1 => pun_own pb se cs op A l c S1.s1 (fun w2 S2 => hr w2 S2.s1.drop) hlc hz hcs)
set_option maxRecDepth 100000 in
set_option maxHeartbeats 2000000 in
theorem pundo_any (pb se : Nat) (cs : List (List UInt8)) (op : Int) (A : Option Addr) (l : List UInt8) (c : Nat) (S : SL W (punchS pb se cs :: F) w) (hr : Rd W (punchS pb se cs :: F) A (Lib.byteCells l)) (hlc : l.length ≤ c) (hz : l.length ≤ maxLen) (hcs : cs.length ≤ 4096) (hse : se < 256) :
    Calls Tryz.prog 194 #[.pointer (some ⟨pb, 0, none⟩), .int .i64 op, .slice A l.length c] w fun e w' =>
      RetS W (punchS pb (punDo se cs op l).1 (punDo se cs op l).2.1 :: F) (punDo se cs op l).2.2.1 (punDo se cs op l).2.2.2.1 (punDo se cs op l).2.2.2.2 e w' := by
  have HC := Lib.hid (fun (R : SA) (w1 : World) (S1 : SL W (R :: punchS pb se cs :: F) w1) => pun_command (F := R :: F) pb se cs op A l c S1.s1 (fun w2 S2 => hr w2 S2.s1.drop) hlc hz hcs hse)
  have HS := Lib.hid S
  generalize punDo se cs op l = r at *
  obtain ⟨s1, cs1, rd, st, sn⟩ := r
  dsimp only at *
  clear S hr
  go_enter Tryz.func194, Tryz.ntmps194
  go_wp2_with fail
  refine (HC.out _ _ (HS.out.allocC #[.slice none 0 0, .int .i64 0, .int .i64 0] 30)).mono ?_
  rintro e w1 ⟨A1, c1, rfl, S1⟩
  have H1 := Lib.hid S1.s2
  obtain ⟨L1, K1, z1⟩ := H1.out.look
  clear S1
  go_wp2
  exact bodyPost_ret (v := .agg #[.slice A1 rd.length c1, .int .i64 st, .int .i64 sn]) (by simp [results, Tryz.results194, go_sem, L1]) rfl ⟨_, _, rfl, (((H1.out.set rfl).set rfl).set rfl).drop⟩
set_option maxRecDepth 100000 in
set_option maxHeartbeats 2000000 in
theorem pundo_nil (op : Int) (v : Value) (w : World) :
    Calls Tryz.prog 194 #[.pointer none, .int .i64 op, v] w fun e w' => e = .returned (.agg #[.slice none 0 0, .int .i64 14, .int .i64 64]) ∧ Below w.heap.size w w' := by
  go_enter Tryz.func194, Tryz.ntmps194
  go_wp2_with fail
  refine (check_any _ _).mono ?_
  rintro e w1 ⟨rfl, b1⟩
  obtain ⟨r1, z1, b1'⟩ := alloc_call b1
  obtain ⟨L1, F1, _⟩ := row_look r1
  clear r1 b1
  go_wp2
  exact bodyPost_ret (v := .agg #[.slice none 0 0, .int .i64 14, .int .i64 64]) (by simp [results, Tryz.results194, go_sem, L1]) rfl ⟨rfl, by (repeat' (first | (with_reducible exact Below.refl _ _) | (with_reducible assumption) | (with_reducible refine below_drewN ?_ _) | (with_reducible refine Below.drew ?_) | (with_reducible refine Below.alloc ?_ ?_ _) | (with_reducible refine Below.setCell ?_ ?_ _) | (with_reducible refine below_row ?_ ?_ _) | (with_reducible exact Nat.le_refl _) | omega | (simp only [World.size_alloc, World.size_setCell, World.size_drew, World.size_drewN]; omega) | (simp; done) | (simp; omega)))⟩
set_option maxRecDepth 100000 in
set_option maxHeartbeats 2000000 in
theorem punnew_any (S : SL W F w) : Calls Tryz.prog 68 #[] w fun e w' => ∃ pb, e = .returned (.pointer (some ⟨pb, 0, none⟩)) ∧ SL W (punchS pb 0 [] :: F) w' := by
  have HS := Lib.hid S
  clear S
  go_enter Tryz.func68, Tryz.ntmps68
  go_wp2
  go_ret
  refine ⟨_, rfl, punchS_close (v := .slice none 0 0) ?_⟩
  exact (deckS_close (ps := []) ((HS.out.allocC #[.int .i64 0, .slice none 0 0] 120).empty.nil _ _)).s1
set_option maxRecDepth 100000 in
set_option maxHeartbeats 2000000 in
theorem punpower_any (pb se : Nat) (cs : List (List UInt8)) (S : SL W (punchS pb se cs :: F) w) :
    Calls Tryz.prog 195 #[.pointer (some ⟨pb, 0, none⟩)] w fun e w' => e = .returned (.tuple #[]) ∧ SL W (punchS pb 0 cs :: F) w' := by
  obtain ⟨v, _, S⟩ := punchS_open S
  obtain ⟨L, K, z⟩ := S.look
  have HS := Lib.hid S
  clear S
  go_enter Tryz.func195, Tryz.ntmps195
  go_wp2_with fail
  refine (reset_any pb _ _ (L 0) (K 0)).mono ?_
  rintro e w1 ⟨rfl, rfl⟩
  go_wp2
  go_end0
  exact ⟨rfl, punchS_close (HS.out.set rfl)⟩
set_option maxRecDepth 100000 in
theorem punpower_nil (w : World) : Calls Tryz.prog 195 #[.pointer none] w fun e w' => e = .returned (.tuple #[]) ∧ w = w' := by
  go_enter Tryz.func195, Tryz.ntmps195
  go_wp2
  go_end0
  exact ⟨rfl, rfl⟩
set_option maxRecDepth 100000 in
theorem pundeck_nil (w : World) : Calls Tryz.prog 22 #[.pointer none] w fun e w' => e = .returned (.slice none 0 0) ∧ w = w' := by
  go_enter Tryz.func22, Tryz.ntmps22
  go_wp2
  go_ret
  exact ⟨rfl, rfl⟩
set_option maxRecDepth 100000 in
set_option maxHeartbeats 2000000 in
theorem pundeck_any (pb se : Nat) (cs : List (List UInt8)) (S : SL W (punchS pb se cs :: F) w) (hcs : cs.length ≤ 4096) (hl : ∀ x ∈ cs, x.length ≤ 100000) :
    Calls Tryz.prog 22 #[.pointer (some ⟨pb, 0, none⟩)] w fun e w' => ∃ A c, e = .returned (.slice A cs.length c) ∧ SL W (deckS (.slice A cs.length c) cs :: punchS pb se cs :: F) w' := by
  obtain ⟨v, _, S⟩ := punchS_open S
  obtain ⟨L0, K0, z0⟩ := S.look
  obtain ⟨ps, rfl, S'⟩ := deckS_open S.s1
  obtain ⟨Av, cv, rfl, _, _⟩ := own_slice S'.own
  rw [List.length_map] at hcs ⊢
  have HS := Lib.hid S'
  have HL := Lib.hid hl
  clear S S' hl
  go_enter Tryz.func22, Tryz.ntmps22
  go_wp2_with fail
  go_loopw [3, 13] (fun o i wr => ∃ (k : Nat) (A : Option Addr) (c : Nat) (qs : List (Value × List UInt8)), k ≤ ps.length ∧ i = .int .i64 k ∧ o = .slice A k c ∧ qs.length = k ∧ qs.map Prod.snd = (ps.map Prod.snd).take k ∧
    SL W (rowS 27 1 (.slice A k c) k (qs.map Prod.fst) :: star (qs.map cardS) :: rowS 27 1 (.slice Av ps.length cv) ps.length (ps.map Prod.fst) :: star (ps.map cardS) :: cel pb #[.int .i64 (se : Int), .slice Av ps.length cv] 120 :: F) wr) (fun _ i _ => ps.length - (intOf i).toNat)
  case atStart => exact ⟨0, none, 0, [], Nat.zero_le _, rfl, rfl, rfl, rfl, HS.out.empty.nil _ _⟩
  case round =>
    obtain ⟨k, A3, c3, qs, hk, rfl, rfl, hq1, hq2, S1⟩ := hrel
    have HQ := Lib.hid (And.intro hq1 hq2)
    have H1 := Lib.hid S1
    clear HS S1 L0 K0 hq1 hq2
    by_cases hlt : k < ps.length
    · obtain ⟨b, rfl, _, ck⟩ := H1.out.s2.cellAt (j := k) (u := ps[k].1) (by simp [hlt])
      have h2 := SL.take H1.out.s3 (i := k) (P := cardS ps[k]) (by simp [hlt])
      have hlk := HL.out ps[k].2 (List.mem_map_of_mem (List.getElem_mem hlt))
      obtain ⟨A4, c4, e4, _, _⟩ := own_slice h2.own
      have at4 := h2
      unfold cardS at at4
      rw [e4] at at4
      have HA := Lib.hid at4.at_
      have HB := Lib.hid (show (qs ++ [(Value.slice none 0 0, ps[k].2)]).map Prod.snd = (ps.map Prod.snd).take (k + 1) by
        rw [List.map_append, HQ.out.2, List.take_succ_eq_append_getElem (by simpa using hlt)]; simp)
      rw [e4] at ck
      generalize ps[k].2 = x at *
      clear h2 at4 e4
      go_wp2_with (first
        | (at_builtin; refine wpList_appS rfl _ _ _ rfl bElem (.slice none 0 0) 0 [] rfl (H1.out.nil _ _) wr.heap.size A4 x.length c4 (Lib.byteCells x) rfl HA.out (by rw [byteCells_len, Nat.mul_one]) (byteCells_one _) (by unfold maxLen; omega) (by omega) ?_
           intro A5 c5 w5 S5
           simp only [Nat.zero_add, List.nil_append] at S5
           have H5 := Lib.hid S5
           clear S5 H1 ck)
        | (at_builtin; refine wpList_pushS rfl _ _ _ rfl deckElem w5 [.slice A5 x.length c5] 1 (by simp only [Nat.zero_add]) rfl (by simp [Value.oneCell']) _ k _ rfl rfl H5.out.s1 (by unfold maxLen; omega) (by omega) ?_
           intro A6 c6 w6 S6
           have H6 := Lib.hid S6
           clear S6 H5))
      go_roundw
      case rel =>
        refine ⟨k + 1, A6, c6, qs ++ [(.slice A5 x.length c5, x)], by omega, by go_num, rfl, by simp [HQ.out.1], by have := HB.out; simpa using this, ?_⟩
        simp only [List.map_append, List.map_cons, List.map_nil]
        exact (SL.snoc (P := cardS (.slice A5 x.length c5, x)) H6.out.b2).s1
      case measure => simp [intOf]; omega
    · obtain rfl : k = ps.length := by omega
      go_wp2
      go_ret
      obtain ⟨hq1, hq2⟩ := HQ.out
      refine ⟨A3, c3, rfl, ?_⟩
      rw [List.take_of_length_le (by simp)] at hq2
      have S4 := (punchS_close (deckS_close (deckS_close' hq1.symm H1.out).b3).s1).s1
      rw [hq2] at S4
      exact S4
end
end Go.Proofs.YtlbbmfmkhmmikaaGreat.U
