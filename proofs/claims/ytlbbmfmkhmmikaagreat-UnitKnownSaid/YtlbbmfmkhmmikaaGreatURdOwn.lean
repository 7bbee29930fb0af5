/- The reader of the program: own, Do. -/
import Derived.Test.YtlbbmfmkhmmikaaGreatURdA
import Derived.Test.YtlbbmfmkhmmikaaGreatUCmdS
namespace Go.Proofs.YtlbbmfmkhmmikaaGreat.U
open Go.RowKit

section
variable {W w : World} {F : List SA}
theorem rowCell {e : TypeId} {size n k b : Nat} {xs : List Value} {r : List SA} (S : SL W (rowS e size (.slice (some ⟨b, 0, none⟩) n k) n xs :: r) w) {j : Nat} {u : Value} (hj : xs[j]? = some u) : w.cell? ⟨b, j, none⟩ = some u := by
  obtain ⟨b', e, _, h⟩ := S.cellAt hj
  injection e with e; injection e with e
  subst e
  exact h
theorem deckS_eq {v : Value} {cs ds : List (List UInt8)} (e : cs = ds) (S : SL W (deckS v cs :: F) w) : SL W (deckS v ds :: F) w := e ▸ S
set_option maxRecDepth 100000 in
theorem radd_any (rb se tk st : Nat) (cs ds : List (List UInt8)) (A : Option Addr) (c : Nat) (S : SL W (readerS rb se tk st cs :: F) w) (hr : DeckRd W F A ds) (hcs : cs.length ≤ 4096) (hd : ds.length ≤ maxLen) :
    Calls Tryz.prog 32 #[.pointer (some ⟨rb, 0, none⟩), .slice A ds.length c] w fun e w' => e = .returned (.int .i64 (addErr cs ds)) ∧ SL W (readerS rb se tk st (addCs cs ds) :: F) w' := by
  unfold addCs addErr
  by_cases h1 : 4096 < cs.length + ds.length
  · rw [if_pos h1]
    refine (radd_long rb se tk st cs A ds.length c S hcs hd h1).mono ?_
    rintro e w' ⟨rfl, rfl⟩
    exact ⟨rfl, by simpa using S⟩
  · rw [if_neg h1]
    cases h2 : ds.all (fun x => decide (x.length = 80))
    · refine (radd_form rb se tk st cs ds A c S hr hcs (by omega) h2).mono ?_
      rintro e w' ⟨rfl, rfl⟩
      exact ⟨rfl, by simpa using S⟩
    · refine (radd_ok rb se tk st cs ds A c S hr hcs (by omega) h2).mono ?_
      rintro e w' ⟨rfl, S'⟩
      exact ⟨rfl, by simpa using S'⟩
def RNew (W : World) (F : List SA) (ds : List (List UInt8)) (er : Int) (e : Ending) (w' : World) : Prop :=
  (er = 0 → ∃ rb, e = .returned (.tuple #[.pointer (some ⟨rb, 0, none⟩), .int .i64 0]) ∧ SL W (readerS rb 0 0 0 ds :: F) w') ∧
  (er ≠ 0 → e = .returned (.tuple #[.pointer none, .int .i64 er]) ∧ SL W F w')
set_option maxRecDepth 100000 in
set_option maxHeartbeats 2000000 in
theorem rnew_any (ds : List (List UInt8)) (A : Option Addr) (c : Nat) (S : SL W F w) (hr : DeckRd W F A ds) (hd : ds.length ≤ maxLen) :
    Calls Tryz.prog 67 #[.slice A ds.length c] w (RNew W F ds (addErr [] ds)) := by
  have HA := Lib.hid (fun rb (w1 : World) (S1 : SL W (readerS rb 0 0 0 [] :: F) w1) => radd_any rb 0 0 0 [] ds A c S1 hr (by simp) hd)
  have HS := Lib.hid S
  clear S hr
  have hcs : addErr [] ds = 0 → addCs [] ds = ds := fun h => by unfold addCs; rw [if_pos h]; rfl
  have HCS := Lib.hid hcs
  clear hcs
  generalize addCs [] ds = xs at *
  have ht : addErr [] ds = 0 ∨ ((addErr [] ds) != 0) = true := by
    by_cases h : addErr [] ds = 0
    · exact Or.inl h
    · exact Or.inr (by simpa using h)
  generalize addErr [] ds = er at *
  go_enter Tryz.func67, Tryz.ntmps67
  go_wp2_with fail
  refine (HA.out _ _ (readerS_close (deckS_close (ps := []) ((HS.out.allocC #[.int .i64 (0 : Nat), .slice none 0 0, .int .i64 (0 : Nat), .int .i64 (0 : Nat)] 130).empty.nil _ _)).s1)).mono ?_
  rintro e w1 ⟨rfl, S1⟩
  have H1 := Lib.hid S1
  clear S1
  rcases ht with h0 | ht
  · have hx := HCS.out h0
    rw [hx] at H1
    subst h0
    clear hx HCS
    go_wp2
    go_ret2
    exact ⟨fun _ => ⟨_, rfl, H1.out⟩, fun h => absurd rfl h⟩
  · go_wp2
    go_ret2
    exact ⟨fun h => by simp [h] at ht, fun h => ⟨rfl, H1.out.drop⟩⟩
set_option maxRecDepth 100000 in
set_option maxHeartbeats 1000000 in
theorem rcards_any (rb se tk st : Nat) (cs : List (List UInt8)) (S : SL W (readerS rb se tk st cs :: F) w) :
    Calls Tryz.prog 35 #[.pointer (some ⟨rb, 0, none⟩)] w fun e w' => e = .returned (.int .i64 (cs.length : Int)) ∧ w = w' := by
  obtain ⟨v, _, S⟩ := readerS_open S
  obtain ⟨Av, cv, rfl, _, _⟩ := deck_len S.s1
  obtain ⟨L, K, z⟩ := S.look
  clear S
  go_enter Tryz.func35, Tryz.ntmps35
  go_wp2
  go_ret
  exact ⟨rfl, rfl⟩
set_option maxRecDepth 100000 in
set_option maxHeartbeats 1000000 in
theorem rtaken_any (rb se tk st : Nat) (cs : List (List UInt8)) (S : SL W (readerS rb se tk st cs :: F) w) :
    Calls Tryz.prog 34 #[.pointer (some ⟨rb, 0, none⟩)] w fun e w' => e = .returned (.int .i64 (tk : Int)) ∧ w = w' := by
  obtain ⟨v, _, S⟩ := readerS_open S
  obtain ⟨L, K, z⟩ := S.look
  clear S
  go_enter Tryz.func34, Tryz.ntmps34
  go_wp2
  go_ret
  exact ⟨rfl, rfl⟩
set_option maxRecDepth 100000 in
set_option maxHeartbeats 1000000 in
theorem rstacked_any (rb se tk st : Nat) (cs : List (List UInt8)) (S : SL W (readerS rb se tk st cs :: F) w) :
    Calls Tryz.prog 54 #[.pointer (some ⟨rb, 0, none⟩)] w fun e w' => e = .returned (.int .i64 (st : Int)) ∧ w = w' := by
  obtain ⟨v, _, S⟩ := readerS_open S
  obtain ⟨L, K, z⟩ := S.look
  clear S
  go_enter Tryz.func54, Tryz.ntmps54
  go_wp2
  go_ret
  exact ⟨rfl, rfl⟩
set_option maxRecDepth 100000 in
theorem rcards_nil (w : World) : Calls Tryz.prog 35 #[.pointer none] w fun e w' => e = .returned (.int .i64 0) ∧ w = w' := by
  go_enter Tryz.func35, Tryz.ntmps35
  go_wp2
  go_ret
  exact ⟨rfl, rfl⟩
set_option maxRecDepth 100000 in
theorem rtaken_nil (w : World) : Calls Tryz.prog 34 #[.pointer none] w fun e w' => e = .returned (.int .i64 0) ∧ w = w' := by
  go_enter Tryz.func34, Tryz.ntmps34
  go_wp2
  go_ret
  exact ⟨rfl, rfl⟩
set_option maxRecDepth 100000 in
theorem rstacked_nil (w : World) : Calls Tryz.prog 54 #[.pointer none] w fun e w' => e = .returned (.int .i64 0) ∧ w = w' := by
  go_enter Tryz.func54, Tryz.ntmps54
  go_wp2
  go_ret
  exact ⟨rfl, rfl⟩
set_option maxRecDepth 100000 in
theorem rpower_nil (w : World) : Calls Tryz.prog 202 #[.pointer none] w fun e w' => e = .returned (.tuple #[]) ∧ w = w' := by
  go_enter Tryz.func202, Tryz.ntmps202
  go_wp2
  go_end0
  exact ⟨rfl, rfl⟩
set_option maxRecDepth 100000 in
set_option maxHeartbeats 1000000 in
theorem rpower_any (rb se tk st : Nat) (cs : List (List UInt8)) (S : SL W (readerS rb se tk st cs :: F) w) :
    Calls Tryz.prog 202 #[.pointer (some ⟨rb, 0, none⟩)] w fun e w' => e = .returned (.tuple #[]) ∧ SL W (readerS rb 0 st st cs :: F) w' := by
  obtain ⟨v, _, S⟩ := readerS_open S
  obtain ⟨L, K, z⟩ := S.look
  have HS := Lib.hid S
  clear S
  go_enter Tryz.func202, Tryz.ntmps202
  go_wp2_with fail
  refine (reset_any rb _ _ (L 0) (K 0)).mono ?_
  rintro e w1 ⟨rfl, rfl⟩
  go_wp2
  go_end0
  exact ⟨rfl, readerS_close (se := 0) ((HS.out.set rfl).set rfl)⟩
theorem reader_dev (rb tk st : Nat) (cs : List (List UInt8)) : DevS rb (fun se => readerS rb se tk st cs) := by
  rintro se h ⟨v, _, s⟩
  exact ⟨(#[.int .i64 (se : Int), v, .int .i64 (tk : Int), .int .i64 (st : Int)], 130, deckS v cs), ⟨rfl, fun se' h' s' => ⟨v, trivial, s'⟩⟩, s⟩
set_option maxRecDepth 100000 in
set_option maxHeartbeats 2000000 in
theorem rown_other (rb : Nat) (op : Int) (v : Value) (h2 : op ≠ 2) (h35 : op ≠ 35) (S : SL W F w) :
    Calls Tryz.prog 203 #[.pointer (some ⟨rb, 0, none⟩), .int .i64 op, v] w fun e w' => RetS W F [] 14 128 e w' := by
  have HS := Lib.hid S
  clear S
  go_enter Tryz.func203, Tryz.ntmps203
  go_wp2_with fail
  refine (check_any _ _).mono ?_
  rintro e w1 ⟨rfl, b1⟩
  have H1 := Lib.hid ((HS.out.allocC #[.slice none 0 0, .int .i64 0, .int .i64 0] 30).grow b1)
  obtain ⟨L1, F1, _⟩ := H1.out.look
  clear b1
  go_wp2
  exact bodyPost_ret (v := .agg #[.slice none 0 0, .int .i64 14, .int .i64 128]) (by simp [results, Tryz.results203, go_sem, L1]) rfl (RetS.of H1.out.set3.drop)
set_option maxRecDepth 100000 in
set_option maxHeartbeats 2000000 in
theorem rown_none (rb se tk st : Nat) (cs : List (List UInt8)) (v : Value) (S : SL W (readerS rb se tk st cs :: F) w) (h : tk = cs.length) :
    Calls Tryz.prog 203 #[.pointer (some ⟨rb, 0, none⟩), .int .i64 2, v] w fun e w' => RetS W (readerS rb se tk st cs :: F) [] 14 64 e w' := by
  have HS := Lib.hid S
  subst h
  obtain ⟨v1, _, S⟩ := readerS_open S
  obtain ⟨Av, cv, rfl, _, _⟩ := deck_len S.s1
  obtain ⟨L, K, z⟩ := S.look
  clear S
  go_enter Tryz.func203, Tryz.ntmps203
  go_wp2_with fail
  refine name_world (P := Code.wp _ _ _ _) ?_
  intro w0 hw0
  have S0 := SL.cast hw0 (HS.out.allocC #[.slice none 0 0, .int .i64 0, .int .i64 0] 30)
  have L0 : ∀ o, w0.cell? ⟨rb, o, none⟩ = #[Value.int .i64 (se : Int), .slice Av cs.length cv, .int .i64 (cs.length : Int), .int .i64 (st : Int)][o]? := by
    intro o; rw [hw0]; simp [World.cell?_alloc_lt, z, L]
  have H0 := Lib.hid S0
  clear hw0 S0 L K
  generalize w.heap.size = xb at *
  (refine wp_region_order (fun wx => wx = (w0).drew) [] [0, 1, 2, 3, 4, 5, 6, 7, 8, 9] [] [] [] (by kernel_rfl) (by kernel_rfl) rfl (by intro c a d v w h; cases d <;> exact h) ?_; simp only [pick, List.filterMap_cons, List.filterMap_nil, List.getElem?_cons_zero, List.getElem?_cons_succ]; refine wpPure_nil ?_; (repeat (refine wpLoads_step (fun K hK => ?_); go_simp; first | (refine hK _ ?_; clear hK K) | (refine ⟨_, fun wx hx => (by subst hx; go_simp; rfl), hK _ ?_⟩; clear hK K))); refine wpLoads_nil (wpQuiet_nil ?_); intro wq hwq; subst hwq; refine wpKeep_nil ?_)
  go_wp2_with fail
  refine (check_any _ _).mono ?_
  rintro e w1 ⟨rfl, b1⟩
  have H1 := Lib.hid (H0.out.drew.grow b1)
  obtain ⟨L1, F1, _⟩ := H1.out.look
  clear b1
  go_wp2
  exact bodyPost_ret (v := .agg #[.slice none 0 0, .int .i64 14, .int .i64 64]) (by simp [results, Tryz.results203, go_sem, L1]) rfl (RetS.of H1.out.set3.drop)
set_option maxRecDepth 100000 in
set_option maxHeartbeats 2000000 in
theorem rown_read (rb se tk st : Nat) (cs : List (List UInt8)) (v : Value) (x : List UInt8) (S : SL W (readerS rb se tk st cs :: F) w) (h : cs[tk]? = some x) (hx : x.length ≤ 100000) (hcs : cs.length ≤ 4096) :
    Calls Tryz.prog 203 #[.pointer (some ⟨rb, 0, none⟩), .int .i64 2, v] w fun e w' => RetS W (readerS rb se (tk + 1) st cs :: F) x 12 0 e w' := by
  have hlt : tk < cs.length := (List.getElem?_eq_some_iff.1 h).1
  obtain ⟨v1, _, S⟩ := readerS_open S
  obtain ⟨ps, hps, S'⟩ := deckS_open S.s1
  have hpl : ps.length = cs.length := by rw [← hps, List.length_map]
  rw [hpl] at S'
  obtain ⟨Av, cv, rfl, _, _⟩ := own_slice S'.own
  have hp : ps[tk]? = some (ps[tk]'(by omega)) := by simp [hpl, hlt]
  have hpx : (ps[tk]'(by omega)).2 = x := by
    rw [← hps, List.getElem?_map, hp] at h
    simpa using h
  obtain ⟨b7, rfl, _, c7⟩ := S'.cellAt (j := tk) (u := (ps[tk]'(by omega)).1) (by rw [List.getElem?_map, hp]; rfl)
  have hg : (ps.map Prod.fst)[tk]? = some (ps[tk]'(by omega)).1 := by rw [List.getElem?_map, hp]; rfl
  have hk : (ps.map cardS)[tk]? = some (rowS 5 1 (ps[tk]'(by omega)).1 (ps[tk]'(by omega)).2.length (Lib.byteCells (ps[tk]'(by omega)).2)) := by rw [List.getElem?_map, hp]; rfl
  rw [hpx] at hk
  have S9 := SL.take S'.s1 hk
  obtain ⟨L, K, z⟩ := S.look
  generalize (ps[tk]'(by omega)).1 = v8 at *
  obtain ⟨A8, c8, rfl, hc8, _⟩ := own_slice S9.own
  have HK := Lib.hid hk
  have HS := Lib.hid S'
  have HG := Lib.hid hg
  have HPS := Lib.hid (And.intro hps hpl)
  have hlt1 : (tk : Int) < (cs.length : Int) := by omega
  have hne : ((tk : Int) == (cs.length : Int)) = false := by rw [beq_eq_false_iff_ne]; omega
  have hx63 : x.length ≤ maxLen := by unfold maxLen; omega
  clear S S' S9 hps hpl h hp hpx hg hk c7 hc8
  go_enter Tryz.func203, Tryz.ntmps203
  go_wp2_with fail
  refine name_world (P := Code.wp _ _ _ _) ?_
  intro w0 hw0
  have S0 := SL.cast hw0 (HS.out.allocC #[.slice none 0 0, .int .i64 0, .int .i64 0] 30)
  have H0 := Lib.hid S0.s3
  clear hw0 S0 L K HS z
  generalize w.heap.size = xb at *
  obtain ⟨L0, K0, z0⟩ := H0.out.look
  (refine wp_region_order (fun wx => wx = (w0).drew) [] [0, 1, 2, 3, 4, 5, 6, 7, 8, 9] [] [] [] (by kernel_rfl) (by kernel_rfl) rfl (by intro c a d v w h; cases d <;> exact h) ?_; simp only [pick, List.filterMap_cons, List.filterMap_nil, List.getElem?_cons_zero, List.getElem?_cons_succ]; refine wpPure_nil ?_; (repeat (refine wpLoads_step (fun K hK => ?_); go_simp; first | (refine hK _ ?_; clear hK K) | (refine ⟨_, fun wx hx => (by subst hx; go_simp; rfl), hK _ ?_⟩; clear hK K))); refine wpLoads_nil (wpQuiet_nil ?_); intro wq hwq; subst hwq; refine wpKeep_nil ?_)
  go_wp2_with fail
  refine name_world (P := Code.wp _ _ _ _) ?_
  intro w1 hw1
  have e1 : Value.int .i64 ((tk : Int) + 1) = .int .i64 ((tk + 1 : Nat) : Int) := by go_num
  have S1 := SL.cast hw1 (SL.drew (H0.out.set (off := 2) (v := .int .i64 ((tk : Int) + 1)) (cs' := #[.int .i64 (se : Int), .slice (some ⟨b7, 0, none⟩) cs.length cv, .int .i64 ((tk : Int) + 1), .int .i64 (st : Int)]) rfl))
  have H1 := Lib.hid S1
  clear hw1 S1 L0 K0 H0 e1
  have hw : IntKind.i64.wrap (tk : Int) = (tk : Int) := IntWalk.i64_in _ (by omega)
  have h0t : (0 : Int) ≤ (tk : Int) := by omega
  refine wp_region_order2 (fun wx => wx = w1.drew) (SL W (cel rb #[.int .i64 (se : Int), .slice (some ⟨b7, 0, none⟩) cs.length cv, .int .i64 ((tk : Int) + 1), .int .i64 (st : Int)] 130 :: cel xb #[.slice none 0 0, .int .i64 0, .int .i64 0] 30 :: rowS 27 1 (.slice (some ⟨b7, 0, none⟩) cs.length cv) cs.length (ps.map Prod.fst) :: star (ps.map cardS) :: F)) (fun wx e => SL.cast e H1.out.drew) [0, 1, 2, 4, 5, 6] [3, 7, 8, 9, 10] [] [11, 12] [13] (by kernel_rfl) (by kernel_rfl) rfl (by intro c a d v w h; cases d <;> exact h) ?_
  simp only [pick, List.filterMap_cons, List.filterMap_nil, List.getElem?_cons_zero, List.getElem?_cons_succ]
  (repeat (refine wpPure_step (fun K hK => ?_); go_simp; refine hK _ ?_; clear hK K)); refine wpPure_nil ?_
  (repeat (refine wpLoads_step (fun K hK => ?_); go_simp; first | (refine hK _ ?_; clear hK K) | (refine ⟨_, fun wx hx => (by obtain ⟨f0, f1, f2⟩ := hx.look; have f3 := rowCell hx.s2 HG.out; go_simp; rfl), hK _ ?_⟩; clear hK K))); refine wpLoads_nil (wpQuiet_nil ?_)
  intro wq hwq
  subst hwq
  refine wpKeep_step (fun K hK => ?_)
  refine step_appS (by rfl) _ _ _ (by rfl) bElem (.slice none 0 0) 0 [] (by rfl) (H1.out.drew.nil _ _) _ A8 x.length c8 (Lib.byteCells x) (by rfl) (SL.take H1.out.drew.s3 HK.out).at_ (by rw [byteCells_len, Nat.mul_one]) (byteCells_one _) (by omega) (by omega) ?_
  intro A5 c5 w5 S5
  simp only [Nat.zero_add, List.nil_append] at S5
  simp only [Nat.zero_add]
  have H5 := Lib.hid S5
  refine hK _ _ S5.drop ?_
  clear hK K S5 H1
  (refine wpKeep_step ?_; intro K hK; go_simp)
  refine (normal_any _ _ _ _ rfl _).mono ?_
  rintro e w6 ⟨rfl, b6⟩
  have H6 := Lib.hid (H5.out.grow b6)
  refine hK _ _ H6.out.drop ?_
  clear hK K b6 H5
  refine wpKeep_nil ?_
  obtain ⟨L6, K6, z6⟩ := H6.out.s2.look
  go_wp2
  refine bodyPost_ret (v := .agg #[.slice A5 x.length c5, .int .i64 12, .int .i64 0]) (by simp [results, Tryz.results203, go_sem, L6]) rfl ⟨_, _, rfl, ?_⟩
  have e1 : Value.int .i64 ((tk : Int) + 1) = .int .i64 ((tk + 1 : Nat) : Int) := by go_num
  have H7 := H6.out
  rw [e1] at H7
  have e2 := HPS.out.1
  refine (readerS_close (deckS_eq e2 (deckS_close' HPS.out.2.symm H7.s2.set3.drop.s3.s3)).s2).s1
theorem or_join (n y : Nat) (hn : n ≤ 1099511627776) (hy : y < 256) : bits BinOp.or IntKind.i64 ((n : Int) * 256) (y : Int) = ((n * 256 + y : Nat) : Int) := by
  have h1 : (BitVec.ofInt 64 ((n : Int) * 256)).toNat = n * 256 := by rw [BitVec.toNat_ofInt]; omega
  have h2 : (BitVec.ofInt 64 (y : Int)).toNat = y := by rw [BitVec.toNat_ofInt]; omega
  show IntKind.i64.wrap (((BitVec.ofInt 64 _ ||| BitVec.ofInt 64 _).toNat : Nat) : Int) = _
  rw [BitVec.toNat_or, h1, h2, show n * 256 = 2 ^ 8 * n by omega, ← Nat.two_pow_add_eq_or_of_lt (by omega)]
  exact IntWalk.i64_in _ (by omega)
/-- The number that bytes are. -/
def numB (l : List UInt8) : Nat := l.foldl (fun n b => n * 256 + b.toNat) 0
theorem numB_snoc (l : List UInt8) (b : UInt8) : numB (l ++ [b]) = numB l * 256 + b.toNat := by simp [numB]
theorem foldB_lt : ∀ (l : List UInt8) (n : Nat), l.foldl (fun n b => n * 256 + b.toNat) n < (n + 1) * 256 ^ l.length
  | [], n => by simp
  | b :: l, n => by
    have hb := b.toNat_lt
    refine Nat.lt_of_lt_of_le (foldB_lt l (n * 256 + b.toNat)) ?_
    rw [List.length_cons, Nat.pow_succ, Nat.mul_comm (256 ^ l.length) 256, ← Nat.mul_assoc]
    exact Nat.mul_le_mul_right _ (by omega)
theorem numB_lt (l : List UInt8) (k : Nat) (h : l.length ≤ k) : numB l < 256 ^ k := by
  have := foldB_lt l 0
  rw [Nat.zero_add, Nat.one_mul] at this
  exact Nat.lt_of_lt_of_le this (Nat.pow_le_pow_right (by omega) h)
set_option maxRecDepth 100000 in
set_option maxHeartbeats 2000000 in
theorem rown_stack (rb se tk st st' : Nat) (xs sn : Int) (cs : List (List UInt8)) (A : Option Addr) (l : List UInt8) (c : Nat) (S : SL W (readerS rb se tk st cs :: F) w) (hr : Rd W (readerS rb se tk st cs :: F) A (Lib.byteCells l)) (hz : l.length ≤ maxLen)
    (hno : l.length ≠ 4 ∨ tk < numB l → st' = st ∧ xs = 14 ∧ sn = 128) (hyes : ¬ (l.length ≠ 4 ∨ tk < numB l) → st' = max st (numB l) ∧ xs = 12 ∧ sn = 0) :
    Calls Tryz.prog 203 #[.pointer (some ⟨rb, 0, none⟩), .int .i64 35, .slice A l.length c] w fun e w' => RetS W (readerS rb se tk st' cs :: F) [] xs sn e w' := by
  have HNO := Lib.hid hno
  have HYES := Lib.hid hyes
  clear hno hyes
  have HR := Lib.hid hr
  have HS := Lib.hid S
  unfold maxLen at hz
  obtain ⟨v1, _, S⟩ := readerS_open S
  clear hr
  have HRS := Lib.hid S
  clear S
  go_enter Tryz.func203, Tryz.ntmps203
  go_wp2_with fail
  go_loop [7, 48] (fun n i => ∃ (k : Nat) (n' : Nat), k ≤ l.length ∧ i = .int .i64 k ∧ n = .int .i64 n' ∧ n' ≤ 1099511627776 ∧ (k ≤ 4 → n' = numB (l.take k))) (fun _ i => l.length - (intOf i).toNat)
  case atStart => exact ⟨0, 0, Nat.zero_le _, rfl, rfl, by omega, fun _ => rfl⟩
  case round =>
    obtain ⟨k, n, hk, rfl, rfl, hn, hnum⟩ := hrel
    have HN := Lib.hid hnum
    clear hnum
    by_cases hlt : k < l.length
    · obtain ⟨b, off, rfl, hb, ck⟩ := (HR.out _ HS.out).cell (k := k) (u := .int .u8 (l[k].toNat : Int)) (byteCells_get l k hlt)
      have hy := l[k].toNat_lt
      have HT := Lib.hid (show k + 1 ≤ 4 → min (n * 256 + l[k].toNat) 1099511627776 = numB (l.take (k + 1)) from fun h => by
        rw [List.take_succ_eq_append_getElem hlt, numB_snoc, ← HN.out (by omega)]
        have := numB_lt (l.take k) 3 (by simp; omega)
        rw [← HN.out (by omega)] at this
        omega)
      generalize l[k].toNat = y at *
      have ho := or_join n y hn hy
      go_wp2
      go_round
      case rel => exact ⟨k + 1, min (n * 256 + y) 1099511627776, by omega, by go_num, by congr 1; omega, by omega, HT.out⟩
      case measure => simp [intOf]; omega
    · obtain rfl : k = l.length := by omega
      obtain ⟨L, K, z⟩ := HRS.out.look
      by_cases hl4 : l.length = 4
      · have hn4 : n = numB l := by rw [HN.out (by omega), List.take_of_length_le (Nat.le_refl _)]
        have HN4 := Lib.hid hn4
        clear hn4 HN
        by_cases htk : tk < n
        · have htk' : (tk : Int) < (n : Int) := by omega
          obtain ⟨rfl, rfl, rfl⟩ := HNO.out (Or.inr (by rw [← HN4.out]; exact htk))
          go_wp2_with fail
          refine (check_any _ _).mono ?_
          rintro e w1 ⟨rfl, b1⟩
          have H1 := Lib.hid ((HS.out.allocC #[.slice none 0 0, .int .i64 0, .int .i64 0] 30).grow b1)
          obtain ⟨L1, F1, _⟩ := H1.out.look
          clear b1
          go_wp2
          exact bodyPost_ret (v := .agg #[.slice none 0 0, .int .i64 14, .int .i64 128]) (by simp [results, Tryz.results203, go_sem, L1]) rfl (RetS.of H1.out.set3.drop)
        · have htk' : ¬ (tk : Int) < (n : Int) := by omega
          obtain ⟨e1, rfl, rfl⟩ := HYES.out (by rw [← HN4.out]; omega)
          rw [← HN4.out] at e1
          have HE := Lib.hid e1
          clear e1
          go_wp2_with fail
          have S0 := (HRS.out.set (off := 3) (v := .int .i64 (max (st : Int) (n : Int))) (cs' := #[.int .i64 (se : Int), v1, .int .i64 (tk : Int), .int .i64 (max (st : Int) (n : Int))]) rfl).allocC #[.slice none 0 0, .int .i64 0, .int .i64 0] 30
          simp only [World.size_setCell] at S0
          refine (normal_any _ _ _ _ rfl _).mono ?_
          rintro e w1 ⟨rfl, b1⟩
          have H1 := Lib.hid (S0.grow b1)
          obtain ⟨L1, F1, _⟩ := H1.out.look
          clear b1 S0
          go_wp2
          refine bodyPost_ret (v := .agg #[.slice none 0 0, .int .i64 12, .int .i64 0]) (by simp [results, Tryz.results203, go_sem, L1]) rfl (RetS.of ?_)
          have H2 := H1.out
          rw [show Value.int .i64 (max (st : Int) (n : Int)) = .int .i64 ((max st n : Nat) : Int) by congr 1; omega, ← HE.out] at H2
          exact readerS_close H2.set3.drop
      · have hl5 : ((l.length : Int) != 4) = true := by rw [bne_iff_ne]; omega
        obtain ⟨rfl, rfl, rfl⟩ := HNO.out (Or.inl hl4)
        go_wp2_with fail
        refine (check_any _ _).mono ?_
        rintro e w1 ⟨rfl, b1⟩
        have H1 := Lib.hid ((HS.out.allocC #[.slice none 0 0, .int .i64 0, .int .i64 0] 30).grow b1)
        obtain ⟨L1, F1, _⟩ := H1.out.look
        clear b1
        go_wp2
        exact bodyPost_ret (v := .agg #[.slice none 0 0, .int .i64 14, .int .i64 128]) (by simp [results, Tryz.results203, go_sem, L1]) rfl (RetS.of H1.out.set3.drop)
/-- What a reader's own commands do: what was taken, what is stacked; the result. -/
def rdOwn (tk st : Nat) (cs : List (List UInt8)) (op : Int) (l : List UInt8) : (Nat × Nat) × List UInt8 × Int × Int :=
  if op = 2 then match cs[tk]? with
    | some x => ((tk + 1, st), x, 12, 0)
    | none => ((tk, st), [], 14, 64)
  else if op = 35 then if l.length ≠ 4 ∨ tk < numB l then ((tk, st), [], 14, 128) else ((tk, max st (numB l)), [], 12, 0)
  else ((tk, st), [], 14, 128)
/-- A reader's bounds: at most 4096 cards of 80 bytes. -/
def RdFit (se tk st : Nat) (cs : List (List UInt8)) : Prop := se < 256 ∧ cs.length ≤ 4096 ∧ tk ≤ cs.length ∧ st ≤ tk ∧ ∀ c ∈ cs, c.length = 80
set_option maxRecDepth 100000 in
theorem rdown_any (rb se tk st : Nat) (cs : List (List UInt8)) (op : Int) (A : Option Addr) (l : List UInt8) (c : Nat) (S : SL W (readerS rb se tk st cs :: F) w) (hr : Rd W (readerS rb se tk st cs :: F) A (Lib.byteCells l)) (hz : l.length ≤ maxLen) (hf : RdFit se tk st cs) :
    Calls Tryz.prog 203 #[.pointer (some ⟨rb, 0, none⟩), .int .i64 op, .slice A l.length c] w fun e w' =>
      RetS W (readerS rb se (rdOwn tk st cs op l).1.1 (rdOwn tk st cs op l).1.2 cs :: F) (rdOwn tk st cs op l).2.1 (rdOwn tk st cs op l).2.2.1 (rdOwn tk st cs op l).2.2.2 e w' := by
  unfold rdOwn
  by_cases h2 : op = 2
  · subst h2
    rw [if_pos rfl]
    cases hx : cs[tk]? with
    | none => exact rown_none rb se tk st cs _ S (by have := List.getElem?_eq_none_iff.1 hx; have := hf.2.2.1; omega)
    | some x =>
      have hx80 := hf.2.2.2.2 x (List.mem_iff_getElem?.2 ⟨tk, hx⟩)
      exact rown_read rb se tk st cs _ x S hx (by omega) hf.2.1
  · rw [if_neg h2]
    by_cases h35 : op = 35
    · subst h35
      rw [if_pos rfl]
      by_cases h : l.length ≠ 4 ∨ tk < numB l
      · rw [if_pos h]
        exact rown_stack rb se tk st st 14 128 cs A l c S hr hz (fun _ => ⟨rfl, rfl, rfl⟩) (fun hn => absurd h hn)
      · rw [if_neg h]
        exact rown_stack rb se tk st (max st (numB l)) 12 0 cs A l c S hr hz (fun hn => absurd hn h) (fun _ => ⟨rfl, rfl, rfl⟩)
    · rw [if_neg h35]
      exact rown_other rb op _ h2 h35 S
theorem rdOwn_sn (tk st : Nat) (cs : List (List UInt8)) (op : Int) (l : List UInt8) : (rdOwn tk st cs op l).2.2.2 = 0 ∨ (rdOwn tk st cs op l).2.2.2 = 64 ∨ (rdOwn tk st cs op l).2.2.2 = 128 := by
  unfold rdOwn
  repeat' split
  all_goals simp
def rdDo (se tk st : Nat) (cs : List (List UInt8)) (op : Int) (l : List UInt8) : (Nat × Nat × Nat) × List UInt8 × Int × Int :=
  if op = 3 then ((se, tk, st), [], 12, 0) else if op = 4 then ((se, tk, st), [UInt8.ofNat se], 12, 0) else
    ((if (rdOwn tk st cs op l).2.2.2 = 0 then se else (rdOwn tk st cs op l).2.2.2.toNat, (rdOwn tk st cs op l).1), (rdOwn tk st cs op l).2)
theorem rdDo_fit {se tk st : Nat} {cs : List (List UInt8)} (h : RdFit se tk st cs) (op : Int) (l : List UInt8) : RdFit (rdDo se tk st cs op l).1.1 (rdDo se tk st cs op l).1.2.1 (rdDo se tk st cs op l).1.2.2 cs ∧ (rdDo se tk st cs op l).2.1.length ≤ 80 := by
  obtain ⟨h1, h2, h3, h4, h5⟩ := h
  unfold rdDo rdOwn
  by_cases e3 : op = 3
  · rw [if_pos e3]; exact ⟨⟨h1, h2, h3, h4, h5⟩, Nat.zero_le _⟩
  rw [if_neg e3]
  by_cases e4 : op = 4
  · rw [if_pos e4]; exact ⟨⟨h1, h2, h3, h4, h5⟩, by simp⟩
  rw [if_neg e4]
  by_cases e2 : op = 2
  · simp only [if_pos e2]
    cases hx : cs[tk]? with
    | none => exact ⟨⟨by simp, h2, h3, h4, h5⟩, Nat.zero_le _⟩
    | some x =>
      have := (List.getElem?_eq_some_iff.1 hx).1
      exact ⟨⟨h1, h2, this, Nat.le_succ_of_le h4, h5⟩, by rw [h5 x (List.mem_iff_getElem?.2 ⟨tk, hx⟩)]; simp⟩
  simp only [if_neg e2]
  by_cases e35 : op = 35
  · simp only [if_pos e35]
    by_cases h : l.length ≠ 4 ∨ tk < numB l
    · simp only [if_pos h]; exact ⟨⟨by simp, h2, h3, h4, h5⟩, Nat.zero_le _⟩
    · simp only [if_neg h]; exact ⟨⟨by simpa using h1, h2, h3, by show max st (numB l) ≤ tk; omega, h5⟩, Nat.zero_le _⟩
  simp only [if_neg e35]
  exact ⟨⟨by simp, h2, h3, h4, h5⟩, Nat.zero_le _⟩
set_option maxRecDepth 100000 in
theorem rcommand_any (rb se tk st : Nat) (cs : List (List UInt8)) (op : Int) (A : Option Addr) (l : List UInt8) (c : Nat) (S : SL W (readerS rb se tk st cs :: F) w) (hr : Rd W (readerS rb se tk st cs :: F) A (Lib.byteCells l)) (hz : l.length ≤ maxLen) (hf : RdFit se tk st cs) :
    Calls Tryz.prog 197 #[.pointer (some ⟨rb, 0, none⟩), .int .i64 op, .slice A l.length c, .func (.func 203) #[.pointer (some ⟨rb, 0, none⟩)] #[]] w fun e w' =>
      RetS W (readerS rb (rdDo se tk st cs op l).1.1 (rdDo se tk st cs op l).1.2.1 (rdDo se tk st cs op l).1.2.2 cs :: F) (rdDo se tk st cs op l).2.1 (rdDo se tk st cs op l).2.2.1 (rdDo se tk st cs op l).2.2.2 e w' := by
  unfold rdDo
  by_cases h3 : op = 3
  · subst h3
    rw [if_pos rfl]
    exact commandS_3 rb se (fun se => readerS rb se tk st cs) _ _ S
  · rw [if_neg h3]
    by_cases h4 : op = 4
    · subst h4
      rw [if_pos rfl]
      exact commandS_4 rb se (fun se => readerS rb se tk st cs) (reader_dev rb tk st cs) hf.1 _ _ S
    · rw [if_neg h4]
      exact commandS_own rb se (fun se => readerS rb se (rdOwn tk st cs op l).1.1 (rdOwn tk st cs op l).1.2 cs) (reader_dev rb _ _ _) _ op _ (rdOwn tk st cs op l).2.1 (rdOwn tk st cs op l).2.2.1 (rdOwn tk st cs op l).2.2.2 h3 h4 (rdOwn_sn tk st cs op l) (fun w => by rfl) w _ S
        (fun R w1 S1 => rdown_any rb se tk st cs op A l c S1.s1 (fun w2 S2 => hr w2 S2.s1.drop) hz hf)
set_option maxRecDepth 100000 in
set_option maxHeartbeats 2000000 in
theorem rddo_any (rb se tk st : Nat) (cs : List (List UInt8)) (op : Int) (A : Option Addr) (l : List UInt8) (c : Nat) (S : SL W (readerS rb se tk st cs :: F) w) (hr : Rd W (readerS rb se tk st cs :: F) A (Lib.byteCells l)) (hz : l.length ≤ maxLen) (hf : RdFit se tk st cs) :
    Calls Tryz.prog 201 #[.pointer (some ⟨rb, 0, none⟩), .int .i64 op, .slice A l.length c] w fun e w' =>
      RetS W (readerS rb (rdDo se tk st cs op l).1.1 (rdDo se tk st cs op l).1.2.1 (rdDo se tk st cs op l).1.2.2 cs :: F) (rdDo se tk st cs op l).2.1 (rdDo se tk st cs op l).2.2.1 (rdDo se tk st cs op l).2.2.2 e w' := by
  have HC := Lib.hid (fun (R : SA) (w1 : World) (S1 : SL W (R :: readerS rb se tk st cs :: F) w1) => rcommand_any (F := R :: F) rb se tk st cs op A l c S1.s1 (fun w2 S2 => hr w2 S2.s1.drop) hz hf)
  have HS := Lib.hid S
  generalize rdDo se tk st cs op l = r at *
  obtain ⟨⟨se1, tk1, st1⟩, rd, xs, sn⟩ := r
  dsimp only at *
  clear S hr hf
  go_enter Tryz.func201, Tryz.ntmps201
  go_wp2_with fail
  refine (HC.out _ _ (HS.out.allocC #[.slice none 0 0, .int .i64 0, .int .i64 0] 30)).mono ?_
  rintro e w1 ⟨A1, c1, rfl, S1⟩
  have H1 := Lib.hid S1.s2
  obtain ⟨L1, K1, z1⟩ := H1.out.look
  clear S1
  go_wp2
  exact bodyPost_ret (v := .agg #[.slice A1 rd.length c1, .int .i64 xs, .int .i64 sn]) (by simp [results, Tryz.results201, go_sem, L1]) rfl ⟨_, _, rfl, H1.out.set3.drop⟩
set_option maxRecDepth 100000 in
set_option maxHeartbeats 2000000 in
theorem rddo_nil (op : Int) (v : Value) (w : World) :
    Calls Tryz.prog 201 #[.pointer none, .int .i64 op, v] w fun e w' => e = .returned (.agg #[.slice none 0 0, .int .i64 14, .int .i64 64]) ∧ Below w.heap.size w w' := by
  go_enter Tryz.func201, Tryz.ntmps201
  go_wp2_with fail
  refine (check_any _ _).mono ?_
  rintro e w1 ⟨rfl, b1⟩
  obtain ⟨r1, z1, b1'⟩ := alloc_call b1
  obtain ⟨L1, F1, _⟩ := row_look r1
  clear r1 b1
  go_wp2
  exact bodyPost_ret (v := .agg #[.slice none 0 0, .int .i64 14, .int .i64 64]) (by simp [results, Tryz.results201, go_sem, L1]) rfl ⟨rfl, by (repeat' (first | (with_reducible exact Below.refl _ _) | (with_reducible assumption) | (with_reducible refine below_drewN ?_ _) | (with_reducible refine Below.drew ?_) | (with_reducible refine Below.alloc ?_ ?_ _) | (with_reducible refine Below.setCell ?_ ?_ _) | (with_reducible refine below_row ?_ ?_ _) | (with_reducible exact Nat.le_refl _) | omega | (simp only [World.size_alloc, World.size_setCell, World.size_drew, World.size_drewN]; omega) | (simp; done) | (simp; omega)))⟩
end
end Go.Proofs.YtlbbmfmkhmmikaaGreat.U
