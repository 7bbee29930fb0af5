/- The reference reader: own, Do, NewReader, PowerUp; deck. -/
import Derived.Test.YtgklbilkfmieoaaRq
namespace Go.Proofs.Ytgklbilkfmieoaa
open Go.RowKit

section
variable {W w : World} {F : List SA}
def QNew (W : World) (F : List SA) (ds : List (List UInt8)) (er : Int) (e : Ending) (w' : World) : Prop :=
  (er = 0 → ∃ rb, e = .returned (.tuple #[.pointer (some ⟨rb, 0, none⟩), .int .i64 0]) ∧ SL W (readqS rb 0 0 0 ds :: F) w') ∧
  (er ≠ 0 → e = .returned (.tuple #[.pointer none, .int .i64 er]) ∧ SL W F w')
set_option maxHeartbeats 2000000 in
theorem qnew_any (ds : List (List UInt8)) (A : Option Addr) (c : Nat) (S : SL W F w) (hr : DeckRd W F A ds) (hd : ds.length ≤ 4611686018427387904) :
    Calls Try.prog 37 #[.slice A ds.length c] w (QNew W F ds (addErr [] ds)) := by
  have HA := Lib.hid (fun rb (w1 : World) (S1 : SL W (readqS rb 0 0 0 [] :: F) w1) => qadd_any rb 0 0 0 [] ds A c S1 hr (by simp) hd)
  have HS := Lib.hid S
  clear S hr
  have hcs : addErr [] ds = 0 → addCs [] ds = ds := fun h => by unfold addCs; rw [if_pos h]; rfl
  have HCS := Lib.hid hcs
  clear hcs
  generalize addCs [] ds = xs at *
  have ht : addErr [] ds = 0 ∨ ((addErr [] ds) != 0) = true := by
    by_cases h : addErr [] ds = 0
    · exact Or.inl h
    · exact Or.inr (by simpa using h)
  generalize addErr [] ds = er at *
  go_enter Try.func37, Try.ntmps37
  go_wp2_with fail
  refine (HA.out _ _ (readqS_close (deckS_close (ps := []) ((HS.out.allocC #[.slice none 0 0, .int .i64 (0 : Nat), .int .i64 (0 : Nat), .int .i64 (0 : Nat)] 70).empty.nil _ _)).s1)).mono ?_
  rintro e w1 ⟨rfl, S1⟩
  have H1 := Lib.hid S1
  clear S1
  rcases ht with h0 | ht
  · have hx := HCS.out h0
    rw [hx] at H1
    subst h0
    clear hx HCS
    go_wp2
    go_ret2
    exact ⟨fun _ => ⟨_, rfl, H1.out⟩, fun h => absurd rfl h⟩
  · go_wp2
    go_ret2
    exact ⟨fun h => by simp [h] at ht, fun h => ⟨rfl, H1.out.drop⟩⟩
set_option maxHeartbeats 1000000 in
theorem qpower_any (qb se tk st : Nat) (cs : List (List UInt8)) (S : SL W (readqS qb se tk st cs :: F) w) :
    Calls Try.prog 40 #[.pointer (some ⟨qb, 0, none⟩)] w fun e w' => e = .returned (.tuple #[]) ∧ SL W (readqS qb 0 st st cs :: F) w' := by
  obtain ⟨v, _, S⟩ := readqS_open S
  obtain ⟨L, K, z⟩ := S.look
  have HS := Lib.hid S
  clear S
  go_enter Try.func40, Try.ntmps40
  go_wp2
  go_end0
  exact ⟨rfl, readqS_close (se := 0) ((HS.out.set rfl).set rfl)⟩
set_option maxRecDepth 100000 in
set_option maxHeartbeats 2000000 in
theorem qown_rej (qb : Nat) (op : Int) (A : Option Addr) (n c : Nat) (h2 : op ≠ 2) (h35 : op ≠ 35 ∨ n ≠ 4) (S : SL W F w) (hz : n ≤ maxLen) :
    Calls Try.prog 56 #[.pointer (some ⟨qb, 0, none⟩), .int .i64 op, .slice A n c] w fun e w' => RetS W F [] 14 128 e w' := by
  have HS := Lib.hid S
  unfold maxLen at hz
  clear S
  by_cases e35 : op = 35
  · subst e35
    have h4 : ((n : Int) != 4) = true := by rw [bne_iff_ne]; omega
    clear h35
    go_enter Try.func56, Try.ntmps56
    go_wp2_with fail
    refine (rcheck_any _ _).mono ?_
    rintro e w1 ⟨rfl, b1⟩
    have H1 := Lib.hid ((HS.out.allocC #[.slice none 0 0, .int .i64 0, .int .i64 0] 36).grow b1)
    obtain ⟨L1, F1, _⟩ := H1.out.look
    clear b1
    go_wp2
    exact bodyPost_ret (v := .agg #[.slice none 0 0, .int .i64 14, .int .i64 128]) (by simp [results, Try.results56, go_sem, L1]) rfl (RetS.of H1.out.set3.drop)
  · clear h35
    go_enter Try.func56, Try.ntmps56
    go_wp2_with fail
    refine (rcheck_any _ _).mono ?_
    rintro e w1 ⟨rfl, b1⟩
    have H1 := Lib.hid ((HS.out.allocC #[.slice none 0 0, .int .i64 0, .int .i64 0] 36).grow b1)
    obtain ⟨L1, F1, _⟩ := H1.out.look
    clear b1
    go_wp2
    exact bodyPost_ret (v := .agg #[.slice none 0 0, .int .i64 14, .int .i64 128]) (by simp [results, Try.results56, go_sem, L1]) rfl (RetS.of H1.out.set3.drop)
set_option maxRecDepth 100000 in
set_option maxHeartbeats 2000000 in
theorem qown_none (qb se tk st : Nat) (cs : List (List UInt8)) (v : Value) (S : SL W (readqS qb se tk st cs :: F) w) (h : tk = cs.length) :
    Calls Try.prog 56 #[.pointer (some ⟨qb, 0, none⟩), .int .i64 2, v] w fun e w' => RetS W (readqS qb se tk st cs :: F) [] 14 64 e w' := by
  subst h
  obtain ⟨v1, _, S⟩ := readqS_open S
  obtain ⟨Av, cv, rfl, _, _⟩ := deck_len S.s1
  have HS := Lib.hid S
  obtain ⟨L, K, z⟩ := S.look
  clear S
  go_enter Try.func56, Try.ntmps56
  go_wp2_with fail
  refine name_world (P := Code.wp _ _ _ _) ?_
  intro w0 hw0
  have H0 := Lib.hid (SL.cast hw0 (HS.out.allocC #[.slice none 0 0, .int .i64 0, .int .i64 0] 36))
  clear hw0 L K HS z
  obtain ⟨L0, K0, z0⟩ := H0.out.s1.look
  generalize w.heap.size = xb at *
  (refine wp_region_order (fun wx => wx = (w0).drew) [] [0, 1, 2, 3, 4, 5, 6, 7, 8, 9] [] [] [] (by kernel_rfl) (by kernel_rfl) rfl (by intro c a d v w h; cases d <;> exact h) ?_; simp only [pick, List.filterMap_cons, List.filterMap_nil, List.getElem?_cons_zero, List.getElem?_cons_succ]; refine wpPure_nil ?_; (repeat (refine wpLoads_step (fun K hK => ?_); go_simp; first | (refine hK _ ?_; clear hK K) | (refine ⟨_, fun wx hx => (by subst hx; go_simp; rfl), hK _ ?_⟩; clear hK K))); refine wpLoads_nil (wpQuiet_nil ?_); intro wq hwq; subst hwq; refine wpKeep_nil ?_)
  go_wp2_with fail
  refine (rcheck_any _ _).mono ?_
  rintro e w1 ⟨rfl, b1⟩
  have H1 := Lib.hid (H0.out.drew.grow b1)
  obtain ⟨L1, F1, _⟩ := H1.out.look
  clear b1
  go_wp2
  exact bodyPost_ret (v := .agg #[.slice none 0 0, .int .i64 14, .int .i64 64]) (by simp [results, Try.results56, go_sem, L1]) rfl (RetS.of (readqS_close H1.out.set3.drop))
set_option maxRecDepth 100000 in
set_option maxHeartbeats 2000000 in
theorem qown_read (qb se tk st : Nat) (cs : List (List UInt8)) (v : Value) (x : List UInt8) (S : SL W (readqS qb se tk st cs :: F) w) (h : cs[tk]? = some x) (hx : x.length ≤ 100000) (hcs : cs.length ≤ 4096) :
    Calls Try.prog 56 #[.pointer (some ⟨qb, 0, none⟩), .int .i64 2, v] w fun e w' => RetS W (readqS qb se (tk + 1) st cs :: F) x 12 0 e w' := by
  have hlt : tk < cs.length := (List.getElem?_eq_some_iff.1 h).1
  obtain ⟨v1, _, S⟩ := readqS_open S
  obtain ⟨ps, hps, S'⟩ := deckS_open S.s1
  have hpl : ps.length = cs.length := by rw [← hps, List.length_map]
  rw [hpl] at S'
  obtain ⟨Av, cv, rfl, _, _⟩ := own_slice S'.own
  have hp : ps[tk]? = some (ps[tk]'(by omega)) := by simp [hpl, hlt]
  have hpx : (ps[tk]'(by omega)).2 = x := by
    rw [← hps, List.getElem?_map, hp] at h
    simpa using h
  obtain ⟨b7, rfl, _, c7⟩ := S'.cellAt (j := tk) (u := (ps[tk]'(by omega)).1) (by rw [List.getElem?_map, hp]; rfl)
  have hg : (ps.map Prod.fst)[tk]? = some (ps[tk]'(by omega)).1 := by rw [List.getElem?_map, hp]; rfl
  have hk : (ps.map cardS)[tk]? = some (rowS 5 1 (ps[tk]'(by omega)).1 (ps[tk]'(by omega)).2.length (Lib.byteCells (ps[tk]'(by omega)).2)) := by rw [List.getElem?_map, hp]; rfl
  rw [hpx] at hk
  have S9 := SL.take S'.s1 hk
  obtain ⟨L, K, z⟩ := S.look
  generalize (ps[tk]'(by omega)).1 = v8 at *
  obtain ⟨A8, c8, rfl, hc8, _⟩ := own_slice S9.own
  have HK := Lib.hid hk
  have HS := Lib.hid S'
  have HG := Lib.hid hg
  have HPS := Lib.hid (And.intro hps hpl)
  have hlt1 : (tk : Int) < (cs.length : Int) := by omega
  have hne : ((tk : Int) == (cs.length : Int)) = false := by rw [beq_eq_false_iff_ne]; omega
  have hx63 : x.length ≤ maxLen := by unfold maxLen; omega
  clear S S' S9 hps hpl h hp hpx hg hk c7 hc8
  go_enter Try.func56, Try.ntmps56
  go_wp2_with fail
  refine name_world (P := Code.wp _ _ _ _) ?_
  intro w0 hw0
  have S0 := SL.cast hw0 (HS.out.allocC #[.slice none 0 0, .int .i64 0, .int .i64 0] 36)
  have H0 := Lib.hid S0.s3
  clear hw0 S0 L K HS z
  generalize w.heap.size = xb at *
  obtain ⟨L0, K0, z0⟩ := H0.out.look
  (refine wp_region_order (fun wx => wx = (w0).drew) [] [0, 1, 2, 3, 4, 5, 6, 7, 8, 9] [] [] [] (by kernel_rfl) (by kernel_rfl) rfl (by intro c a d v w h; cases d <;> exact h) ?_; simp only [pick, List.filterMap_cons, List.filterMap_nil, List.getElem?_cons_zero, List.getElem?_cons_succ]; refine wpPure_nil ?_; (repeat (refine wpLoads_step (fun K hK => ?_); go_simp; first | (refine hK _ ?_; clear hK K) | (refine ⟨_, fun wx hx => (by subst hx; go_simp; rfl), hK _ ?_⟩; clear hK K))); refine wpLoads_nil (wpQuiet_nil ?_); intro wq hwq; subst hwq; refine wpKeep_nil ?_)
  go_wp2_with fail
  refine name_world (P := Code.wp _ _ _ _) ?_
  intro w1 hw1
  have S1 := SL.cast hw1 (SL.drew (H0.out.set (off := 1) (v := .int .i64 ((tk : Int) + 1)) (cs' := #[.slice (some ⟨b7, 0, none⟩) cs.length cv, .int .i64 ((tk : Int) + 1), .int .i64 (st : Int), .int .i64 (se : Int)]) rfl))
  have H1 := Lib.hid S1
  clear hw1 S1 L0 K0 H0
  have hw : IntKind.i64.wrap (tk : Int) = (tk : Int) := IntWalk.i64_in _ (by omega)
  have h0t : (0 : Int) ≤ (tk : Int) := by omega
  refine wp_region_order2 (fun wx => wx = w1.drew) (SL W (cel qb #[.slice (some ⟨b7, 0, none⟩) cs.length cv, .int .i64 ((tk : Int) + 1), .int .i64 (st : Int), .int .i64 (se : Int)] 70 :: cel xb #[.slice none 0 0, .int .i64 0, .int .i64 0] 36 :: rowS 31 1 (.slice (some ⟨b7, 0, none⟩) cs.length cv) cs.length (ps.map Prod.fst) :: star (ps.map cardS) :: F)) (fun wx e => SL.cast e H1.out.drew) [1, 2, 3, 5, 6, 7] [4, 8, 9, 10, 11] [] [0, 12, 13] [14] (by kernel_rfl) (by kernel_rfl) rfl (by intro c a d v w h; cases d <;> exact h) ?_
  simp only [pick, List.filterMap_cons, List.filterMap_nil, List.getElem?_cons_zero, List.getElem?_cons_succ]
  (repeat (refine wpPure_step (fun K hK => ?_); go_simp; refine hK _ ?_; clear hK K)); refine wpPure_nil ?_
  (repeat (refine wpLoads_step (fun K hK => ?_); go_simp; first | (refine hK _ ?_; clear hK K) | (refine ⟨_, fun wx hx => (by obtain ⟨f0, f1, f2⟩ := hx.look; have f3 := rowCell hx.s2 HG.out; go_simp; rfl), hK _ ?_⟩; clear hK K))); refine wpLoads_nil (wpQuiet_nil ?_)
  intro wq hwq
  subst hwq
  have H2 := Lib.hid (H1.out.drew.lit #[] 5 1 0 rfl (by decide))
  (refine wpKeep_step ?_; intro K hK; go_simp)
  refine hK _ _ H2.out.drop ?_
  clear hK K
  refine wpKeep_step (fun K hK => ?_)
  refine step_appS (by rfl) _ _ _ (by rfl) bElem _ 0 [] (by rfl) H2.out _ A8 x.length c8 (Lib.byteCells x) (by rfl) (SL.take H2.out.drop.s3 HK.out).at_ (by rw [byteCells_len, Nat.mul_one]) (byteCells_one _) (by omega) (by omega) ?_
  intro A5 c5 w5 S5
  simp only [Nat.zero_add, List.nil_append] at S5
  simp only [Nat.zero_add]
  have H5 := Lib.hid S5
  refine hK _ _ S5.drop ?_
  clear hK K S5 H1 H2
  (refine wpKeep_step ?_; intro K hK; go_simp)
  refine (rnormal_any _ _ _ _ rfl _).mono ?_
  rintro e w6 ⟨rfl, b6⟩
  have H6 := Lib.hid (H5.out.grow b6)
  refine hK _ _ H6.out.drop ?_
  clear hK K b6 H5
  refine wpKeep_nil ?_
  obtain ⟨L6, K6, z6⟩ := H6.out.s2.look
  go_wp2
  refine bodyPost_ret (v := .agg #[.slice A5 x.length c5, .int .i64 12, .int .i64 0]) (by simp [results, Try.results56, go_sem, L6]) rfl ⟨_, _, rfl, ?_⟩
  have e1 : Value.int .i64 ((tk : Int) + 1) = .int .i64 ((tk + 1 : Nat) : Int) := by go_num
  have H7 := H6.out
  rw [e1] at H7
  have e2 := HPS.out.1
  refine (readqS_close (deckS_eq e2 (deckS_close' HPS.out.2.symm H7.s2.set3.drop.s3.s3)).s2).s1
set_option maxRecDepth 100000 in
set_option maxHeartbeats 2000000 in
theorem qown_stack (qb se tk st st' : Nat) (xs sn : Int) (cs : List (List UInt8)) (A : Option Addr) (l : List UInt8) (c : Nat) (S : SL W (readqS qb se tk st cs :: F) w) (hr : Rd W (readqS qb se tk st cs :: F) A (Lib.byteCells l)) (h4 : l.length = 4)
    (hno : tk < numB l → st' = st ∧ xs = 14 ∧ sn = 128) (hyes : ¬ tk < numB l → st' = max st (numB l) ∧ xs = 12 ∧ sn = 0) :
    Calls Try.prog 56 #[.pointer (some ⟨qb, 0, none⟩), .int .i64 35, .slice A 4 c] w fun e w' => RetS W (readqS qb se tk st' cs :: F) [] xs sn e w' := by
  have HNO := Lib.hid hno
  have HYES := Lib.hid hyes
  have H4 := Lib.hid h4
  have HR := Lib.hid hr
  have HS := Lib.hid S
  clear hno hyes h4 hr
  obtain ⟨v1, _, S⟩ := readqS_open S
  have HRS := Lib.hid S
  clear S
  go_enter Try.func56, Try.ntmps56
  go_wp2_with fail
  go_loop [7, 8] (fun n i => ∃ (k : Nat) (n' : Nat), k ≤ 4 ∧ i = .int .i64 k ∧ n = .int .i64 n' ∧ n' < 4294967296 ∧ n' = numB (l.take k)) (fun _ i => 4 - (intOf i).toNat)
  case atStart => exact ⟨0, 0, Nat.zero_le _, rfl, rfl, by omega, rfl⟩
  case round =>
    obtain ⟨k, n, hk, rfl, rfl, hn, hnum⟩ := hrel
    have HN := Lib.hid hnum
    clear hnum
    by_cases hlt : k < 4
    · have hlt' : k < l.length := by rw [H4.out]; exact hlt
      obtain ⟨b, off, rfl, hb, ck⟩ := (HR.out _ HS.out).cell (k := k) (u := .int .u8 (l[k].toNat : Int)) (byteCells_get l k hlt')
      have hy := l[k].toNat_lt
      have HT := Lib.hid (show n * 256 + l[k].toNat = numB (l.take (k + 1)) ∧ n * 256 + l[k].toNat < 4294967296 from by
        rw [List.take_succ_eq_append_getElem hlt', numB_snoc, ← HN.out]
        have := numB_lt (l.take k) 3 (by simp; omega)
        rw [← HN.out] at this
        exact ⟨rfl, by omega⟩)

      generalize l[k].toNat = y at *
      go_wp2
      go_round
      case rel => exact ⟨k + 1, n * 256 + y, by omega, by go_num, by congr 1; omega, HT.out.2, HT.out.1⟩
      case measure => simp [intOf]; omega
    · obtain rfl : k = 4 := by omega
      obtain ⟨L, K, z⟩ := HRS.out.look
      have hn4 : n = numB l := by rw [HN.out, List.take_of_length_le (by rw [H4.out]; omega)]
      have HN4 := Lib.hid hn4
      clear hn4 HN
      by_cases htk : tk < n
      · have htk' : (tk : Int) < (n : Int) := by omega
        obtain ⟨rfl, rfl, rfl⟩ := HNO.out (by rw [← HN4.out]; exact htk)
        go_wp2_with fail
        refine (rcheck_any _ _).mono ?_
        rintro e w1 ⟨rfl, b1⟩
        have H1 := Lib.hid ((HS.out.allocC #[.slice none 0 0, .int .i64 0, .int .i64 0] 36).grow b1)
        obtain ⟨L1, F1, _⟩ := H1.out.look
        clear b1
        go_wp2
        exact bodyPost_ret (v := .agg #[.slice none 0 0, .int .i64 14, .int .i64 128]) (by simp [results, Try.results56, go_sem, L1]) rfl (RetS.of H1.out.set3.drop)
      · have htk' : ¬ (tk : Int) < (n : Int) := by omega
        obtain ⟨e1, rfl, rfl⟩ := HYES.out (by rw [← HN4.out]; omega)
        rw [← HN4.out] at e1
        have HE := Lib.hid e1
        clear e1
        by_cases hst : st < n
        · have hst' : (st : Int) < (n : Int) := by omega
          go_wp2_with fail
          have S0 := (HRS.out.set (off := 2) (v := .int .i64 (n : Int)) (cs' := #[v1, .int .i64 (tk : Int), .int .i64 (n : Int), .int .i64 (se : Int)]) rfl).allocC #[.slice none 0 0, .int .i64 0, .int .i64 0] 36
          simp only [World.size_setCell] at S0
          refine (rnormal_any _ _ _ _ rfl _).mono ?_
          rintro e w1 ⟨rfl, b1⟩
          have H1 := Lib.hid (S0.grow b1)
          obtain ⟨L1, F1, _⟩ := H1.out.look
          clear b1 S0
          have hm : st' = n := by rw [HE.out]; omega
          subst hm
          go_wp2
          exact bodyPost_ret (v := .agg #[.slice none 0 0, .int .i64 12, .int .i64 0]) (by simp [results, Try.results56, go_sem, L1]) rfl (RetS.of (readqS_close H1.out.set3.drop))
        · have hst' : ¬ (st : Int) < (n : Int) := by omega
          have hm : st' = st := by rw [HE.out]; omega
          subst hm
          go_wp2_with fail
          refine (rnormal_any _ _ _ _ rfl _).mono ?_
          rintro e w1 ⟨rfl, b1⟩
          have H1 := Lib.hid ((HS.out.allocC #[.slice none 0 0, .int .i64 0, .int .i64 0] 36).grow b1)
          obtain ⟨L1, F1, _⟩ := H1.out.look
          clear b1
          go_wp2
          exact bodyPost_ret (v := .agg #[.slice none 0 0, .int .i64 12, .int .i64 0]) (by simp [results, Try.results56, go_sem, L1]) rfl (RetS.of H1.out.set3.drop)
theorem qown_any (qb se tk st : Nat) (cs : List (List UInt8)) (op : Int) (A : Option Addr) (l : List UInt8) (c : Nat) (S : SL W (readqS qb se tk st cs :: F) w) (hr : Rd W (readqS qb se tk st cs :: F) A (Lib.byteCells l)) (hz : l.length ≤ maxLen) (hf : RdFit se tk st cs) :
    Calls Try.prog 56 #[.pointer (some ⟨qb, 0, none⟩), .int .i64 op, .slice A l.length c] w fun e w' =>
      RetS W (readqS qb se (rdOwn tk st cs op l).1.1 (rdOwn tk st cs op l).1.2 cs :: F) (rdOwn tk st cs op l).2.1 (rdOwn tk st cs op l).2.2.1 (rdOwn tk st cs op l).2.2.2 e w' := by
  unfold rdOwn
  by_cases h2 : op = 2
  · subst h2
    rw [if_pos rfl]
    cases hx : cs[tk]? with
    | none => exact qown_none qb se tk st cs _ S (by have := List.getElem?_eq_none_iff.1 hx; have := hf.2.2.1; omega)
    | some x =>
      have hx80 := hf.2.2.2.2 x (List.mem_iff_getElem?.2 ⟨tk, hx⟩)
      exact qown_read qb se tk st cs _ x S hx (by omega) hf.2.1
  · rw [if_neg h2]
    by_cases h35 : op = 35
    · subst h35
      rw [if_pos rfl]
      by_cases h4 : l.length = 4
      · by_cases h : l.length ≠ 4 ∨ tk < numB l
        · rw [if_pos h]
          rw [h4]
          exact qown_stack qb se tk st st 14 128 cs A l c S hr h4 (fun _ => ⟨rfl, rfl, rfl⟩) (fun hn => absurd h (by omega))
        · rw [if_neg h]
          rw [h4]
          exact qown_stack qb se tk st (max st (numB l)) 12 0 cs A l c S hr h4 (fun hn => absurd (Or.inr hn) h) (fun _ => ⟨rfl, rfl, rfl⟩)
      · rw [if_pos (Or.inl h4)]
        exact qown_rej qb 35 A l.length c h2 (Or.inr h4) S hz
    · rw [if_neg h35]
      exact qown_rej qb op A l.length c h2 (Or.inl h35) S hz
set_option maxRecDepth 100000 in
set_option maxHeartbeats 2000000 in
theorem qrdo_34 (qb se tk st : Nat) (cs : List (List UInt8)) (op : Int) (rd : List UInt8) (v : Value) (S : SL W (readqS qb se tk st cs :: F) w)
    (hal : ∀ w, Calls Try.prog 50 #[.int .i64 op, .int .i64 (se : Int)] w fun e w' => ∃ A c, e = .returned (.tuple #[.agg #[.slice A rd.length c, .int .i64 12, .int .i64 0], .bool true]) ∧ w'.ownsRow w.heap.size 5 1 (.slice A rd.length c) rd.length (Lib.byteCells rd) ∧ Below w.heap.size w w') :
    Calls Try.prog 43 #[.pointer (some ⟨qb, 0, none⟩), .int .i64 op, v] w fun e w' => RetS W (readqS qb se tk st cs :: F) rd 12 0 e w' := by
  have HS := Lib.hid S
  obtain ⟨vq, _, S1⟩ := readqS_open S
  obtain ⟨L0, F0, z0⟩ := S1.look
  have HA := Lib.hid hal
  clear hal S S1
  go_enter Try.func43, Try.ntmps43
  go_wp2_with fail
  refine (HA.out _).mono ?_
  rintro e w1 ⟨A1, c1, rfl, o1, b1⟩
  have H1 := Lib.hid ((HS.out.allocC #[.slice none 0 0, .int .i64 0, .int .i64 0] 36).made o1 b1)
  obtain ⟨L1, K1, z1⟩ := H1.out.s1.look
  clear b1 o1
  go_wp2
  refine name_world (P := bodyPost _ _ _ _ _) ?_
  intro wf hwf
  have SF := SL.cast hwf (H1.out.s1.set3.allocC _ _)
  clear hwf
  obtain ⟨Lf, _, _⟩ := SF.drop.look
  exact bodyPost_ret (v := .agg #[.slice A1 rd.length c1, .int .i64 12, .int .i64 0]) (by simp [results, Try.results43, go_sem, Lf]) rfl ⟨_, _, rfl, SF.drop.drop⟩
set_option maxRecDepth 100000 in
set_option maxHeartbeats 2000000 in
theorem qrdo_own (qb se tk st tk1 st1 : Nat) (cs : List (List UInt8)) (op : Int) (v : Value) (rd : List UInt8) (xs sn : Int) (h3 : op ≠ 3) (h4 : op ≠ 4) (hsn : sn = 0 ∨ sn = 64 ∨ sn = 128) (S : SL W (readqS qb se tk st cs :: F) w)
    (ho : ∀ R w, SL W (readqS qb se tk st cs :: (R ++ F)) w → Calls Try.prog 56 #[.pointer (some ⟨qb, 0, none⟩), .int .i64 op, v] w fun e w' => RetS W (readqS qb se tk1 st1 cs :: (R ++ F)) rd xs sn e w') :
    Calls Try.prog 43 #[.pointer (some ⟨qb, 0, none⟩), .int .i64 op, v] w fun e w' => RetS W (readqS qb (if sn = 0 then se else sn.toNat) tk1 st1 cs :: F) rd xs sn e w' := by
  have HS := Lib.hid S
  obtain ⟨vq, _, S1⟩ := readqS_open S
  obtain ⟨L0, F0, z0⟩ := S1.look
  have HA := Lib.hid (fun (x : Int) w => rall_no op x h3 h4 w)
  have HO := Lib.hid ho
  clear S S1 ho h3 h4
  go_enter Try.func43, Try.ntmps43
  go_wp2_with fail
  refine (HA.out _ _).mono ?_
  rintro e w1 ⟨rfl, b1⟩
  have H1 := Lib.hid ((HS.out.allocC #[.slice none 0 0, .int .i64 0, .int .i64 0] 36).grow b1)
  obtain ⟨_, _, z1⟩ := H1.out.look
  clear b1 L0 F0 z0
  go_wp2_with fail
  refine name_world (P := fun W => Calls _ _ _ W _) ?_
  intro w2 hw2
  have H2 := Lib.hid (SL.cast hw2 (H1.out.allocC #[.slice none 0 0, .int .i64 0, .int .i64 0] 36))
  clear hw2 H1
  generalize w1.heap.size = xb at *
  generalize w.heap.size = ab at *
  refine (HO.out [_, _] w2 H2.out.s2).mono ?_
  rintro e w3 ⟨A3, c3, rfl, S3⟩
  obtain ⟨v4, _, S4⟩ := readqS_open S3.s1
  have H4 := Lib.hid S4
  obtain ⟨L4, K4, z4⟩ := H4.out.look
  have S5 := S4.s3
  have S6 := S4.s4
  obtain ⟨L5, K5, z5⟩ := S5.look
  obtain ⟨L6, K6, z6⟩ := S6.look
  have n1 := S5.cne
  have n2 := S6.cne
  have n3 := S5.s4.cne
  have n4 := n1.symm
  have n5 := n2.symm
  have n6 := n3.symm
  clear S3 S4 S5 S6 H2 HA HO HS
  rcases hsn with rfl | rfl | rfl
  · go_wp2
    refine name_world (P := bodyPost _ _ _ _ _) ?_
    intro wf hwf
    have SF := SL.cast hwf (H4.out.s3.set3.s4.set3)
    clear hwf
    obtain ⟨Lf, _, _⟩ := SF.look
    exact bodyPost_ret (v := .agg #[.slice A3 rd.length c3, .int .i64 xs, .int .i64 0]) (by simp [results, Try.results43, go_sem, Lf]) rfl ⟨_, _, rfl, (readqS_close SF.drop.drop).s1⟩
  · go_wp2
    refine name_world (P := bodyPost _ _ _ _ _) ?_
    intro wf hwf
    have SF := SL.cast hwf ((H4.out.s3.set3.s1.set (off := 3) (v := .int .i64 (64 : Nat)) rfl).s4.set3)
    clear hwf
    obtain ⟨Lf, _, _⟩ := SF.look
    exact bodyPost_ret (v := .agg #[.slice A3 rd.length c3, .int .i64 xs, .int .i64 64]) (by simp [results, Try.results43, go_sem, Lf]) rfl ⟨_, _, rfl, (readqS_close (se := 64) SF.drop.s1.drop).s1⟩
  · go_wp2
    refine name_world (P := bodyPost _ _ _ _ _) ?_
    intro wf hwf
    have SF := SL.cast hwf ((H4.out.s3.set3.s1.set (off := 3) (v := .int .i64 (128 : Nat)) rfl).s4.set3)
    clear hwf
    obtain ⟨Lf, _, _⟩ := SF.look
    exact bodyPost_ret (v := .agg #[.slice A3 rd.length c3, .int .i64 xs, .int .i64 128]) (by simp [results, Try.results43, go_sem, Lf]) rfl ⟨_, _, rfl, (readqS_close (se := 128) SF.drop.s1.drop).s1⟩
theorem qrdo_any (qb se tk st : Nat) (cs : List (List UInt8)) (op : Int) (A : Option Addr) (l : List UInt8) (c : Nat) (S : SL W (readqS qb se tk st cs :: F) w) (hr : Rd W (readqS qb se tk st cs :: F) A (Lib.byteCells l)) (hz : l.length ≤ maxLen) (hf : RdFit se tk st cs) :
    Calls Try.prog 43 #[.pointer (some ⟨qb, 0, none⟩), .int .i64 op, .slice A l.length c] w fun e w' =>
      RetS W (readqS qb (rdDo se tk st cs op l).1.1 (rdDo se tk st cs op l).1.2.1 (rdDo se tk st cs op l).1.2.2 cs :: F) (rdDo se tk st cs op l).2.1 (rdDo se tk st cs op l).2.2.1 (rdDo se tk st cs op l).2.2.2 e w' := by
  unfold rdDo
  by_cases h3 : op = 3
  · subst h3
    rw [if_pos rfl]
    exact qrdo_34 qb se tk st cs 3 [] _ S fun w => (rall_3 _ w).mono fun e w' h => ⟨none, 0, h.1, World.ownsRow_nil _ _ _ _, h.2⟩
  · rw [if_neg h3]
    by_cases h4 : op = 4
    · subst h4
      rw [if_pos rfl]
      exact qrdo_34 qb se tk st cs 4 [UInt8.ofNat se] _ S (rall_4 se hf.1)
    · rw [if_neg h4]
      exact qrdo_own qb se tk st _ _ cs op _ (rdOwn tk st cs op l).2.1 (rdOwn tk st cs op l).2.2.1 (rdOwn tk st cs op l).2.2.2 h3 h4 (rdOwn_sn tk st cs op l) S
        (fun R w1 S1 => qown_any qb se tk st cs op A l c S1 (fun w2 S2 => hr w2 S2.dropMid) hz hf)
set_option maxRecDepth 100000 in
set_option maxHeartbeats 2000000 in
theorem deckof_any (A : Option Addr) (ds : List (List UInt8)) (c : Nat) (S : SL W F w) (hr : DeckRd W F A ds) (hd : ds.length ≤ 100000) (hx : ∀ x ∈ ds, x.length ≤ 100000) :
    Calls Try.prog 36 #[.slice A ds.length c] w fun e w' => ∃ A' c', e = .returned (.slice A' ds.length c') ∧ SL W (deckS (.slice A' ds.length c') ds :: F) w' := by
  have HR := Lib.hid hr
  have HS := Lib.hid S
  have HL := Lib.hid hx
  clear S hr hx
  go_enter Try.func36, Try.ntmps36
  go_wp2_with fail
  go_loopw [3, 4] (fun o i wr => ∃ (k : Nat) (A : Option Addr) (c : Nat) (qs : List (Value × List UInt8)), k ≤ ds.length ∧ i = .int .i64 k ∧ o = .slice A k c ∧ qs.length = k ∧ qs.map Prod.snd = ds.take k ∧
    SL W (rowS 31 1 (.slice A k c) k (qs.map Prod.fst) :: star (qs.map cardS) :: F) wr) (fun _ i _ => ds.length - (intOf i).toNat)
  case atStart => exact ⟨0, none, 0, [], Nat.zero_le _, rfl, rfl, rfl, rfl, HS.out.empty.nil _ _⟩
  case round =>
    obtain ⟨k, A3, c3, qs, hk, rfl, rfl, hq1, hq2, S1⟩ := hrel
    have HQ := Lib.hid (And.intro hq1 hq2)
    have H1 := Lib.hid S1
    clear HS S1 hq1 hq2
    by_cases hlt : k < ds.length
    · obtain ⟨b, off, A4, c4, rfl, ck, ha, _, _⟩ := HR.out.get _ H1.out.drop.drop k ds[k] (by simp [hlt])
      have HB := Lib.hid (show qs.map Prod.snd ++ [ds[k]] = ds.take (k + 1) by rw [HQ.out.2, List.take_succ_eq_append_getElem hlt])
      have hlk := HL.out ds[k] (List.getElem_mem hlt)
      generalize ds[k] = x at *
      have ck' := (World.cell?_alloc_lt wr (.cells #[] 5) (a := ⟨b, off + k, none⟩) (World.block_lt_of_cell? wr _ ck)).trans ck
      have HA := Lib.hid (show At (wr.alloc (.cells #[] 5)) wr.heap.size A4 (Lib.byteCells x) from ha.alloc (Nat.le_refl _) _)
      clear ha ck
      go_wp2_with (first
        | (at_builtin; refine wpList_appS rfl _ _ _ rfl bElem _ 0 [] rfl (H1.out.lit #[] 5 1 0 rfl (by decide)) _ A4 x.length c4 (Lib.byteCells x) rfl HA.out (by rw [byteCells_len, Nat.mul_one]) (byteCells_one _) (by unfold maxLen; omega) (by omega) ?_
           intro A5 c5 w5 S5
           simp only [Nat.zero_add, List.nil_append] at S5
           have H5 := Lib.hid S5
           clear S5 H1 ck')
        | (at_builtin; refine wpList_pushS rfl _ _ _ rfl deckElem w5 [.slice A5 x.length c5] 1 (by simp only [Nat.zero_add]) rfl (by simp [Value.oneCell']) _ k _ rfl rfl H5.out.s1 (by unfold maxLen; omega) (by omega) ?_
           intro A6 c6 w6 S6
           have H6 := Lib.hid S6
           clear S6 H5))
      go_roundw
      case rel =>
        refine ⟨k + 1, A6, c6, qs ++ [(.slice A5 x.length c5, x)], by omega, by go_num, rfl, by simp [HQ.out.1], by have := HB.out; simpa using this, ?_⟩
        simp only [List.map_append, List.map_cons, List.map_nil]
        exact (SL.snoc (P := cardS (.slice A5 x.length c5, x)) H6.out.b2).s1
      case measure => simp [intOf]; omega
    · obtain rfl : k = ds.length := by omega
      go_wp2
      go_ret
      obtain ⟨hq1, hq2⟩ := HQ.out
      rw [List.take_of_length_le (Nat.le_refl _)] at hq2
      exact ⟨A3, c3, rfl, deckS_eq hq2 (deckS_close' hq1.symm H1.out)⟩
end
end Go.Proofs.Ytgklbilkfmieoaa
