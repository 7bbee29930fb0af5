/- The reference punch. -/
import Derived.Test.YtgklbilkfmieoaaPunDo
import Derived.Test.YtgklbilkfmieoaaQr
namespace Go.Proofs.Ytgklbilkfmieoaa
open Go.RowKit

def qunS (qb se : Nat) (cs : List (List UInt8)) : SA := fun h => ∃ v, True ∧ star [cel qb #[v, .int .i64 (se : Int)] 57, deckS v cs] h
section
variable {W w : World} {F : List SA}
theorem qunS_open {qb se : Nat} {cs : List (List UInt8)} (S : SL W (qunS qb se cs :: F) w) : ∃ v, True ∧ SL W (cel qb #[v, .int .i64 (se : Int)] 57 :: deckS v cs :: F) w :=
  S.unpack (K := fun v => [cel qb #[v, .int .i64 (se : Int)] 57, deckS v cs]) fun _ h => h
theorem qunS_close {qb se : Nat} {cs : List (List UInt8)} {v : Value} (S : SL W (cel qb #[v, .int .i64 (se : Int)] 57 :: deckS v cs :: F) w) : SL W (qunS qb se cs :: F) w :=
  SL.pack (L := [cel qb #[v, .int .i64 (se : Int)] 57, deckS v cs]) S fun _ h => ⟨v, trivial, h⟩
/-- A card more. -/
theorem deckS_push {v' : Value} {n : Nat} {ps : List (Value × List UInt8)} {x : Value} {l : List UInt8} (hn : n = ps.length + 1)
    (S : SL W (rowS 5 1 x l.length (Lib.byteCells l) :: star (ps.map cardS) :: rowS 31 1 v' n (ps.map Prod.fst ++ [x]) :: F) w) : SL W (deckS v' (ps.map Prod.snd ++ [l]) :: F) w := by
  have S10 := SL.snoc (P := cardS (x, l)) S
  have e1 : ps.map Prod.snd ++ [l] = (ps ++ [(x, l)]).map Prod.snd := by simp
  rw [e1]
  refine deckS_close' (n := n) (by simp [hn]) ?_
  simp only [List.map_append, List.map_cons, List.map_nil]
  exact S10.s1
set_option maxRecDepth 100000 in
set_option maxHeartbeats 2000000 in
theorem qun_rej (qb : Nat) (op : Int) (A : Option Addr) (l : List UInt8) (c : Nat) (S : SL W F w) (hz : l.length ≤ maxLen) (h : op ≠ 1 ∨ 80 < l.length) :
    Calls Try.prog 53 #[.pointer (some ⟨qb, 0, none⟩), .int .i64 op, .slice A l.length c] w fun e w' => RetS W F [] 14 128 e w' := by
  have HS := Lib.hid S
  unfold maxLen at hz
  clear S
  by_cases h1 : op = 1
  · subst h1
    have h2 : (80 : Int) < (l.length : Int) := by omega
    clear h
    go_enter Try.func53, Try.ntmps53
    go_wp2_with fail
    refine (rcheck_any _ _).mono ?_
    rintro e w1 ⟨rfl, b1⟩
    have H1 := Lib.hid ((HS.out.allocC #[.slice none 0 0, .int .i64 0, .int .i64 0] 36).grow b1)
    obtain ⟨L1, F1, _⟩ := H1.out.look
    clear b1
    go_wp2
    exact bodyPost_ret (v := .agg #[.slice none 0 0, .int .i64 14, .int .i64 128]) (by simp [results, Try.results53, go_sem, L1]) rfl (RetS.of (((H1.out.set rfl).set rfl).set rfl).drop)
  · clear h
    go_enter Try.func53, Try.ntmps53
    go_wp2_with fail
    refine (rcheck_any _ _).mono ?_
    rintro e w1 ⟨rfl, b1⟩
    have H1 := Lib.hid ((HS.out.allocC #[.slice none 0 0, .int .i64 0, .int .i64 0] 36).grow b1)
    obtain ⟨L1, F1, _⟩ := H1.out.look
    clear b1
    go_wp2
    exact bodyPost_ret (v := .agg #[.slice none 0 0, .int .i64 14, .int .i64 128]) (by simp [results, Try.results53, go_sem, L1]) rfl (RetS.of (((H1.out.set rfl).set rfl).set rfl).drop)
set_option maxRecDepth 100000 in
set_option maxHeartbeats 2000000 in
theorem qun_full (qb se : Nat) (cs : List (List UInt8)) (A : Option Addr) (l : List UInt8) (c : Nat) (S : SL W (qunS qb se cs :: F) w) (hz : l.length ≤ 80) (h : cs.length = 4096) :
    Calls Try.prog 53 #[.pointer (some ⟨qb, 0, none⟩), .int .i64 1, .slice A l.length c] w fun e w' => RetS W (qunS qb se cs :: F) [] 14 64 e w' := by
  obtain ⟨v, _, S⟩ := qunS_open S
  obtain ⟨ps, rfl, S'⟩ := deckS_open S.s1
  obtain ⟨Av, cv, rfl, _, _⟩ := own_slice S'.own
  rw [List.length_map] at h
  rw [h] at S S'
  obtain ⟨L0, F0, z0⟩ := S.look
  have HS := Lib.hid S
  have h2 : ¬ (80 : Int) < (l.length : Int) := by omega
  clear S S' h
  go_enter Try.func53, Try.ntmps53
  go_wp2_with fail
  refine (rcheck_any _ _).mono ?_
  rintro e w1 ⟨rfl, b1⟩
  have H1 := Lib.hid ((HS.out.allocC #[.slice none 0 0, .int .i64 0, .int .i64 0] 36).grow b1)
  obtain ⟨L1, F1, _⟩ := H1.out.look
  clear b1
  go_wp2
  exact bodyPost_ret (v := .agg #[.slice none 0 0, .int .i64 14, .int .i64 64]) (by simp [results, Try.results53, go_sem, L1]) rfl (RetS.of (qunS_close (((H1.out.set rfl).set rfl).set rfl).drop))
set_option maxRecDepth 100000 in
set_option maxHeartbeats 2000000 in
theorem qun_ok (qb se : Nat) (cs : List (List UInt8)) (A : Option Addr) (l : List UInt8) (c : Nat) (S : SL W (qunS qb se cs :: F) w) (hr : Rd W (qunS qb se cs :: F) A (Lib.byteCells l)) (hz : l.length ≤ 80) (h : cs.length < 4096) :
    Calls Try.prog 53 #[.pointer (some ⟨qb, 0, none⟩), .int .i64 1, .slice A l.length c] w fun e w' => RetS W (qunS qb se (cs ++ [l ++ List.replicate (80 - l.length) 0x40]) :: F) [] 12 0 e w' := by
  have HR := Lib.hid hr
  obtain ⟨v, _, S⟩ := qunS_open S
  obtain ⟨ps, rfl, S'⟩ := deckS_open S.s1
  obtain ⟨Av, cv, rfl, _, _⟩ := own_slice S'.own
  rw [List.length_map] at h
  obtain ⟨L0, F0, z0⟩ := S.look
  have h0 := (S'.allocC #[.slice none 0 0, .int .i64 0, .int .i64 0] 36).lit #[] 5 1 0 rfl (by decide)
  rw [World.size_alloc] at h0
  have HS := Lib.hid h0
  have HQ := Lib.hid S'
  have h2 : ¬ (80 : Int) < (l.length : Int) := by omega
  have h3 : ¬ (4096 : Int) ≤ (ps.length : Int) := by omega
  clear S S' hr h0
  go_enter Try.func53, Try.ntmps53
  go_wp2_with (at_builtin; refine wpList_appS rfl _ _ _ rfl bElem _ 0 [] rfl HS.out _ A l.length c (Lib.byteCells l) rfl (HR.out _ (qunS_close (deckS_close HS.out.drop.drop).s1)) (by rw [byteCells_len, Nat.mul_one]) (byteCells_one _) (by unfold maxLen; omega) (by omega) ?_
               intro A2 c2 w2 S2
               simp only [Nat.zero_add, List.nil_append] at S2
               have H2 := Lib.hid S2
               clear S2)
  clear HS HQ HR L0 F0 z0
  go_loopw [7] (fun o wr => ∃ (k : Nat) (A : Option Addr) (c : Nat), l.length ≤ k ∧ k ≤ 80 ∧ o = .slice A k c ∧ SL W (rowS 5 1 (.slice A k c) k (Lib.byteCells (l ++ List.replicate (k - l.length) 0x40)) :: cel w.heap.size #[.slice none 0 0, .int .i64 0, .int .i64 0] 36 :: rowS 31 1 (.slice Av ps.length cv) ps.length (ps.map Prod.fst) :: star (ps.map cardS) :: cel qb #[.slice Av ps.length cv, .int .i64 (se : Int)] 57 :: F) wr) (fun o _ => 80 - slen o)
  case atStart => exact ⟨l.length, A2, c2, Nat.le_refl _, hz, by simp, by simpa using H2.out⟩
  case round =>
    obtain ⟨k, A3, c3, hk1, hk2, rfl, S3⟩ := hrel
    have H3 := Lib.hid S3
    clear H2 S3
    by_cases hlt : k < 80
    · go_wp2_with (at_builtin; refine wpList_pushS rfl _ _ _ rfl bElem wr [.int .u8 64] 1 rfl rfl (by simp [Value.oneCell']) _ k _ rfl rfl H3.out (by unfold maxLen; omega) (by omega) ?_
                   intro A4 c4 w4 S4
                   have H4 := Lib.hid S4
                   clear S4 H3)
      go_roundw
      case rel =>
        refine ⟨k + 1, A4, c4, by omega, by omega, rfl, ?_⟩
        have e1 : Lib.byteCells (l ++ List.replicate (k - l.length) 0x40) ++ [Value.int .u8 64] = Lib.byteCells (l ++ List.replicate (k + 1 - l.length) 0x40) := by
          rw [show k + 1 - l.length = (k - l.length) + 1 by omega, List.replicate_succ']
          simp [Lib.byteCells]
        rw [← e1]
        exact H4.out
      case measure => simp [slen]; omega
    · obtain rfl : k = 80 := by omega
      obtain ⟨Lp, Fp, zp⟩ := H3.out.s4.look
      go_wp2_with (at_builtin; refine wpList_pushS rfl _ _ _ rfl deckElem wr [.slice A3 80 c3] 1 rfl rfl (by simp [Value.oneCell']) _ ps.length _ rfl rfl H3.out.s2 (by unfold maxLen; omega) (by omega) ?_
                   intro A6 c6 w6 S6
                   obtain ⟨L6, F6, z6⟩ := S6.s4.look
                   have H6 := Lib.hid S6
                   clear S6 H3 Lp Fp)
      have H7 := Lib.hid (H6.out.s4.set (off := 0) (v := .slice A6 (ps.length + 1) c6) rfl)
      refine name_world (P := fun W => Calls _ _ _ W _) ?_
      intro w7 hw7
      rw [← hw7] at H7
      clear hw7 L6 F6 z6 H6
      refine (rnormal_any _ _ _ _ rfl _).mono ?_
      rintro e w8 ⟨rfl, b8⟩
      have H8 := Lib.hid (H7.out.grow b8)
      obtain ⟨L8, F8, _⟩ := H8.out.s3.look
      clear b8 H7
      go_wp2
      refine bodyPost_ret (v := .agg #[.slice none 0 0, .int .i64 12, .int .i64 0]) (by simp [results, Try.results53, go_sem, L8]) rfl (RetS.of ?_)
      refine name_world (P := fun w => SL _ _ w) ?_
      intro wf hwf
      have SF := SL.cast hwf (((H8.out.s3.set rfl).set rfl).set rfl)
      have hl : (l ++ List.replicate (80 - l.length) (0x40 : UInt8)).length = 80 := by simp; omega
      exact qunS_close (deckS_push rfl (by rw [hl]; exact SF.drop.s1.s3.s3)).s1
theorem qun_own (qb se : Nat) (cs : List (List UInt8)) (op : Int) (A : Option Addr) (l : List UInt8) (c : Nat) (S : SL W (qunS qb se cs :: F) w) (hr : Rd W (qunS qb se cs :: F) A (Lib.byteCells l)) (hz : l.length ≤ maxLen) (hcs : cs.length ≤ 4096) :
    Calls Try.prog 53 #[.pointer (some ⟨qb, 0, none⟩), .int .i64 op, .slice A l.length c] w fun e w' => RetS W (qunS qb se (punOwn cs op l).1 :: F) [] (punOwn cs op l).2.1 (punOwn cs op l).2.2 e w' := by
  unfold punOwn
  by_cases h : op ≠ 1 ∨ 80 < l.length
  · rw [if_pos h]
    exact qun_rej qb op A l c S hz h
  · rw [if_neg h]
    obtain ⟨rfl, h2⟩ : op = 1 ∧ l.length ≤ 80 := by omega
    by_cases h3 : cs.length = 4096
    · rw [if_pos h3]
      exact qun_full qb se cs A l c S h2 h3
    · rw [if_neg h3]
      exact qun_ok qb se cs A l c S hr h2 (by omega)
set_option maxRecDepth 100000 in
set_option maxHeartbeats 2000000 in
theorem qundo_34 (qb se : Nat) (cs : List (List UInt8)) (op : Int) (rd : List UInt8) (v : Value) (S : SL W (qunS qb se cs :: F) w)
    (hal : ∀ w, Calls Try.prog 50 #[.int .i64 op, .int .i64 (se : Int)] w fun e w' => ∃ A c, e = .returned (.tuple #[.agg #[.slice A rd.length c, .int .i64 12, .int .i64 0], .bool true]) ∧ w'.ownsRow w.heap.size 5 1 (.slice A rd.length c) rd.length (Lib.byteCells rd) ∧ Below w.heap.size w w') :
    Calls Try.prog 30 #[.pointer (some ⟨qb, 0, none⟩), .int .i64 op, v] w fun e w' => RetS W (qunS qb se cs :: F) rd 12 0 e w' := by
  have HS := Lib.hid S
  obtain ⟨vq, _, S1⟩ := qunS_open S
  obtain ⟨L0, F0, z0⟩ := S1.look
  have HA := Lib.hid hal
  clear hal S S1
  go_enter Try.func30, Try.ntmps30
  go_wp2_with fail
  refine (HA.out _).mono ?_
  rintro e w1 ⟨A1, c1, rfl, o1, b1⟩
  have H1 := Lib.hid ((HS.out.allocC #[.slice none 0 0, .int .i64 0, .int .i64 0] 36).made o1 b1)
  obtain ⟨L1, K1, z1⟩ := H1.out.s1.look
  clear b1 o1
  go_wp2
  refine name_world (P := bodyPost _ _ _ _ _) ?_
  intro wf hwf
  have SF := SL.cast hwf ((((H1.out.s1.set rfl).set rfl).set rfl).allocC _ _)
  clear hwf
  obtain ⟨Lf, _, _⟩ := SF.drop.look
  exact bodyPost_ret (v := .agg #[.slice A1 rd.length c1, .int .i64 12, .int .i64 0]) (by simp [results, Try.results30, go_sem, Lf]) rfl ⟨_, _, rfl, SF.drop.drop⟩
set_option maxRecDepth 100000 in
set_option maxHeartbeats 2000000 in
theorem qundo_own (qb se : Nat) (cs cs1 : List (List UInt8)) (op : Int) (v : Value) (rd : List UInt8) (st sn : Int) (h3 : op ≠ 3) (h4 : op ≠ 4) (hsn : sn = 0 ∨ sn = 64 ∨ sn = 128) (S : SL W (qunS qb se cs :: F) w)
    (ho : ∀ R w, SL W (qunS qb se cs :: (R ++ F)) w → Calls Try.prog 53 #[.pointer (some ⟨qb, 0, none⟩), .int .i64 op, v] w fun e w' => RetS W (qunS qb se cs1 :: (R ++ F)) rd st sn e w') :
    Calls Try.prog 30 #[.pointer (some ⟨qb, 0, none⟩), .int .i64 op, v] w fun e w' => RetS W (qunS qb (if sn = 0 then se else sn.toNat) cs1 :: F) rd st sn e w' := by
  have HS := Lib.hid S
  obtain ⟨vq, _, S1⟩ := qunS_open S
  obtain ⟨L0, F0, z0⟩ := S1.look
  have HA := Lib.hid (fun (x : Int) w => rall_no op x h3 h4 w)
  have HO := Lib.hid ho
  clear S S1 ho h3 h4
  go_enter Try.func30, Try.ntmps30
  go_wp2_with fail
  refine (HA.out _ _).mono ?_
  rintro e w1 ⟨rfl, b1⟩
  have H1 := Lib.hid ((HS.out.allocC #[.slice none 0 0, .int .i64 0, .int .i64 0] 36).grow b1)
  obtain ⟨_, _, z1⟩ := H1.out.look
  clear b1 L0 F0 z0
  go_wp2_with fail
  refine name_world (P := fun W => Calls _ _ _ W _) ?_
  intro w2 hw2
  have H2 := Lib.hid (SL.cast hw2 (H1.out.allocC #[.slice none 0 0, .int .i64 0, .int .i64 0] 36))
  clear hw2 H1
  refine (HO.out [_, _] w2 H2.out.s2).mono ?_
  rintro e w3 ⟨A3, c3, rfl, S3⟩
  obtain ⟨v4, _, S4⟩ := qunS_open S3.s1
  have H4 := Lib.hid S4
  obtain ⟨L4, K4, z4⟩ := H4.out.look
  have S5 := S4.s3
  have S6 := S4.s4
  obtain ⟨L5, K5, z5⟩ := S5.look
  obtain ⟨L6, K6, z6⟩ := S6.look
  have n1 := S5.cne
  have n2 := S6.cne
  have n3 := S5.s4.cne
  have n4 := n1.symm
  have n5 := n2.symm
  have n6 := n3.symm
  clear S3 S4 S5 S6 H2 HA HO HS
  rcases hsn with rfl | rfl | rfl
  · go_wp2
    refine name_world (P := bodyPost _ _ _ _ _) ?_
    intro wf hwf
    have SF := SL.cast hwf (H4.out.s3.set3.s4.set3)
    clear hwf
    obtain ⟨Lf, _, _⟩ := SF.look
    exact bodyPost_ret (v := .agg #[.slice A3 rd.length c3, .int .i64 st, .int .i64 0]) (by simp [results, Try.results30, go_sem, Lf]) rfl ⟨_, _, rfl, (qunS_close SF.drop.drop).s1⟩
  · go_wp2
    refine name_world (P := bodyPost _ _ _ _ _) ?_
    intro wf hwf
    have SF := SL.cast hwf ((H4.out.s3.set3.s1.set (off := 1) (v := .int .i64 (64 : Nat)) rfl).s4.set3)
    clear hwf
    obtain ⟨Lf, _, _⟩ := SF.look
    exact bodyPost_ret (v := .agg #[.slice A3 rd.length c3, .int .i64 st, .int .i64 64]) (by simp [results, Try.results30, go_sem, Lf]) rfl ⟨_, _, rfl, (qunS_close (se := 64) SF.drop.s1.drop).s1⟩
  · go_wp2
    refine name_world (P := bodyPost _ _ _ _ _) ?_
    intro wf hwf
    have SF := SL.cast hwf ((H4.out.s3.set3.s1.set (off := 1) (v := .int .i64 (128 : Nat)) rfl).s4.set3)
    clear hwf
    obtain ⟨Lf, _, _⟩ := SF.look
    exact bodyPost_ret (v := .agg #[.slice A3 rd.length c3, .int .i64 st, .int .i64 128]) (by simp [results, Try.results30, go_sem, Lf]) rfl ⟨_, _, rfl, (qunS_close (se := 128) SF.drop.s1.drop).s1⟩
theorem qundo_any (qb se : Nat) (cs : List (List UInt8)) (op : Int) (A : Option Addr) (l : List UInt8) (c : Nat) (S : SL W (qunS qb se cs :: F) w) (hr : Rd W (qunS qb se cs :: F) A (Lib.byteCells l)) (hz : l.length ≤ maxLen) (hcs : cs.length ≤ 4096) (hse : se < 256) :
    Calls Try.prog 30 #[.pointer (some ⟨qb, 0, none⟩), .int .i64 op, .slice A l.length c] w fun e w' =>
      RetS W (qunS qb (punDo se cs op l).1 (punDo se cs op l).2.1 :: F) (punDo se cs op l).2.2.1 (punDo se cs op l).2.2.2.1 (punDo se cs op l).2.2.2.2 e w' := by
  unfold punDo
  by_cases h3 : op = 3
  · subst h3
    rw [if_pos rfl]
    exact qundo_34 qb se cs 3 [] _ S fun w => (rall_3 _ w).mono fun e w' h => ⟨none, 0, h.1, World.ownsRow_nil _ _ _ _, h.2⟩
  · rw [if_neg h3]
    by_cases h4 : op = 4
    · subst h4
      rw [if_pos rfl]
      exact qundo_34 qb se cs 4 [UInt8.ofNat se] _ S (rall_4 se hse)
    · rw [if_neg h4]
      exact qundo_own qb se cs _ op _ [] (punOwn cs op l).2.1 (punOwn cs op l).2.2 h3 h4 (punOwn_sn cs op l) S
        (fun R w1 S1 => qun_own qb se cs op A l c S1 (fun w2 S2 => hr w2 S2.dropMid) hz hcs)
end
end Go.Proofs.Ytgklbilkfmieoaa
