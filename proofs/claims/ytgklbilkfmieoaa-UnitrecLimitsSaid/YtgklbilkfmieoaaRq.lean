/- The reference reader. -/
import Derived.Test.YtgklbilkfmieoaaRdOwn
import Derived.Test.YtgklbilkfmieoaaQr
namespace Go.Proofs.Ytgklbilkfmieoaa
open Go.RowKit

def readqS (qb se tk st : Nat) (cs : List (List UInt8)) : SA := fun h => ∃ v, True ∧ star [cel qb #[v, .int .i64 (tk : Int), .int .i64 (st : Int), .int .i64 (se : Int)] 70, deckS v cs] h
section
variable {W w : World} {F : List SA}
theorem readqS_open {qb se tk st : Nat} {cs : List (List UInt8)} (S : SL W (readqS qb se tk st cs :: F) w) : ∃ v, True ∧ SL W (cel qb #[v, .int .i64 (tk : Int), .int .i64 (st : Int), .int .i64 (se : Int)] 70 :: deckS v cs :: F) w :=
  S.unpack (K := fun v => [cel qb #[v, .int .i64 (tk : Int), .int .i64 (st : Int), .int .i64 (se : Int)] 70, deckS v cs]) fun _ h => h
theorem readqS_close {qb se tk st : Nat} {cs : List (List UInt8)} {v : Value} (S : SL W (cel qb #[v, .int .i64 (tk : Int), .int .i64 (st : Int), .int .i64 (se : Int)] 70 :: deckS v cs :: F) w) : SL W (readqS qb se tk st cs :: F) w :=
  SL.pack (L := [cel qb #[v, .int .i64 (tk : Int), .int .i64 (st : Int), .int .i64 (se : Int)] 70, deckS v cs]) S fun _ h => ⟨v, trivial, h⟩
set_option maxHeartbeats 2000000 in
theorem wrong_any (n : Nat) (ds : List (List UInt8)) (A : Option Addr) (c : Nat) (S : SL W F w) (hr : DeckRd W F A ds) (hn : n ≤ 4096) (hd : ds.length ≤ 4611686018427387904) (cs : List (List UInt8)) (hcs : n = cs.length) :
    Calls Try.prog 54 #[.slice A ds.length c, .int .i64 (n : Int)] w fun e w' => e = .returned (.int .i64 (addErr cs ds)) ∧ w = w' := by
  have HR := Lib.hid (hr.get w S)
  have HE := Lib.hid (show addErr cs ds = if 4096 < n + ds.length then 2 else if ds.all (fun x => decide (x.length = 80)) then 0 else 5 by subst hcs; rfl)
  clear hr S hcs
  generalize addErr cs ds = er at *
  by_cases h1 : 4096 < n + ds.length
  · obtain rfl : er = 2 := by rw [HE.out, if_pos h1]
    have h2 : (4096 : Int) < (n : Int) + (ds.length : Int) := by omega
    clear HE h1
    go_enter Try.func54, Try.ntmps54
    go_wp2
    go_ret
    exact ⟨rfl, rfl⟩
  have h2 : ¬ (4096 : Int) < (n : Int) + (ds.length : Int) := by omega
  have H1 := Lib.hid h1
  clear h1
  go_enter Try.func54, Try.ntmps54
  go_wp2_with fail
  go_loop [5] (fun i => ∃ k : Nat, k ≤ ds.length ∧ i = .int .i64 k ∧ ∀ j x, j < k → ds[j]? = some x → x.length = 80) (fun i => ds.length - (intOf i).toNat)
  case atStart => exact ⟨0, Nat.zero_le _, rfl, by intro j x h; omega⟩
  case round =>
    obtain ⟨k, hk, rfl, hall⟩ := hrel
    have HA := Lib.hid hall
    clear hall
    by_cases hlt : k < ds.length
    · obtain ⟨b, off, A', c', rfl, hc, _, h1, h3⟩ := HR.out k ds[k] (by simp [hlt])
      have HG := Lib.hid (show ds[k]? = some ds[k] by simp [hlt])
      generalize ds[k] = x at *
      unfold maxLen at h3
      by_cases h80 : x.length = 80
      · go_wp2
        go_round
        case rel =>
          refine ⟨k + 1, by omega, by go_num, fun j y hj hy => ?_⟩
          rcases Nat.lt_or_ge j k with h | h
          · exact HA.out j y h hy
          · obtain rfl : j = k := by omega
            rw [HG.out] at hy; injection hy with hy; subst hy; exact h80
        case measure => simp [intOf]; omega
      · have h81 : ¬ (x.length : Int) = 80 := by omega
        obtain rfl : er = 5 := by
          rw [HE.out, if_neg H1.out, if_neg]
          intro h
          exact h80 (by simpa using List.all_eq_true.1 h x (List.mem_iff_getElem?.2 ⟨k, HG.out⟩))
        go_wp2
        go_ret
        exact ⟨rfl, rfl⟩
    · obtain rfl : er = 0 := by
        rw [HE.out, if_neg H1.out, if_pos]
        rw [List.all_eq_true]
        intro x hx
        obtain ⟨j, hj, rfl⟩ := List.mem_iff_getElem.1 hx
        simpa using HA.out j ds[j] (by omega) (by simp [hj])
      go_wp2
      go_ret
      exact ⟨rfl, rfl⟩
set_option maxRecDepth 100000 in
set_option maxHeartbeats 2000000 in
theorem qadd_any (qb se tk st : Nat) (cs ds : List (List UInt8)) (A : Option Addr) (c : Nat) (S : SL W (readqS qb se tk st cs :: F) w) (hr : DeckRd W F A ds) (hcs : cs.length ≤ 4096) (hd : ds.length ≤ 4611686018427387904) :
    Calls Try.prog 41 #[.pointer (some ⟨qb, 0, none⟩), .slice A ds.length c] w fun e w' => e = .returned (.int .i64 (addErr cs ds)) ∧ SL W (readqS qb se tk st (addCs cs ds) :: F) w' := by
  have HR := Lib.hid hr
  have HS := Lib.hid S
  have HE := Lib.hid (show (addErr cs ds = 0 → addCs cs ds = cs ++ ds ∧ cs.length + ds.length ≤ 4096 ∧ ∀ x ∈ ds, x.length = 80) ∧ (addErr cs ds ≠ 0 → addCs cs ds = cs) by
    refine ⟨fun h => ⟨by unfold addCs; rw [if_pos h], ?_⟩, fun h => by unfold addCs; rw [if_neg h]⟩
    unfold addErr at h
    split at h
    · omega
    · split at h
      · rename_i h1 h2
        exact ⟨by omega, fun x hx => by simpa using List.all_eq_true.1 h2 x hx⟩
      · omega)
  have HWR := Lib.hid (wrong_any cs.length ds A c S hr.cons hcs hd cs rfl)
  have h0 : ((addErr cs ds == 0) = true) ∨ ((addErr cs ds == 0) = false) := by cases addErr cs ds == 0 <;> simp
  generalize addErr cs ds = er at *
  generalize addCs cs ds = xs at *
  obtain ⟨v, _, S⟩ := readqS_open S
  obtain ⟨Av, cv, rfl, _, _⟩ := deck_len S.s1
  obtain ⟨L, K, z⟩ := S.look
  clear S hr
  go_enter Try.func41, Try.ntmps41
  go_wp2_with fail
  refine HWR.out.mono ?_
  rintro e w1 ⟨rfl, rfl⟩
  clear HWR L K z
  rcases h0 with h0 | h0
  · obtain rfl : er = 0 := by simpa using h0
    obtain ⟨rfl, e2, e3⟩ := HE.out.1 rfl
    have H8 := Lib.hid e3
    clear e3 HE h0
    go_wp2_with fail
    go_loopw [6] (fun i wr => ∃ k : Nat, k ≤ ds.length ∧ i = .int .i64 k ∧ SL W (readqS qb se tk st (cs ++ ds.take k) :: F) wr) (fun i _ => ds.length - (intOf i).toNat)
    case atStart => exact ⟨0, Nat.zero_le _, rfl, by simpa using HS.out⟩
    case round =>
      obtain ⟨k, hk, rfl, S1⟩ := hrel
      clear HS
      by_cases hlt : k < ds.length
      · obtain ⟨b, off, A', c', rfl, h1, h3, hfix⟩ := HR.out.fix _ S1.drop k ds[k] (by simp [hlt])
        have hx80 := H8.out ds[k] (List.getElem_mem hlt)
        have HT := Lib.hid (show (cs ++ ds.take k) ++ [ds[k]] = cs ++ ds.take (k + 1) by rw [List.take_succ_eq_append_getElem hlt, List.append_assoc])
        have hlen : (cs ++ ds.take k).length = cs.length + k := by simp; omega
        generalize ds[k] = x at *
        obtain ⟨v1, _, S2⟩ := readqS_open S1
        obtain ⟨ps, hps, S3⟩ := deckS_open S2.s1
        have hpl : ps.length = cs.length + k := by rw [← hlen, ← hps, List.length_map]
        obtain ⟨Av1, cv1, rfl, _, _⟩ := own_slice S3.own
        have hpb : ps.length ≤ 4096 := by omega
        have HX := Lib.hid (And.intro hx80 (And.intro hps hpl))
        have HFX := Lib.hid hfix
        have H3 := Lib.hid S3
        have hx63 : x.length ≤ maxLen := by omega
        have hx64 : x.length ≤ 1000 := by omega
        clear hps hpl hlen hx80 hfix S1 S2 S3 h1 h3
        go_wp2_with fail
        refine wp_region_order2 (fun wx => wx = wr.drew) (SL W (cel qb #[.slice Av1 ps.length cv1, .int .i64 (tk : Int), .int .i64 (st : Int), .int .i64 (se : Int)] 70 :: F)) (fun wx e => SL.cast e (H3.out.drop.drop).drew) [0, 1, 2, 3, 6, 7, 8] [4, 9] [] [5, 10, 11, 12] [13, 14, 15] (by kernel_rfl) (by kernel_rfl) rfl (by intro c a d v w h; cases d <;> exact h) ?_
        simp only [pick, List.filterMap_cons, List.filterMap_nil, List.getElem?_cons_zero, List.getElem?_cons_succ]
        (repeat (refine wpPure_step (fun K hK => ?_); go_simp; refine hK _ ?_; clear hK K)); refine wpPure_nil ?_
        (repeat (refine wpLoads_step (fun K hK => ?_); go_simp; first | (refine hK _ ?_; clear hK K) | (refine ⟨_, fun wx hx => (by obtain ⟨f0, f1, f2⟩ := hx.look; have f3 := (HFX.out wx hx.drop).1; go_simp; rfl), hK _ ?_⟩; clear hK K))); refine wpLoads_nil (wpQuiet_nil ?_)
        intro wq hwq
        subst hwq
        have H4 := Lib.hid (H3.out.drew.lit #[] 5 1 0 rfl (by decide))
        (refine wpKeep_step ?_; intro K hK; go_simp)
        refine hK _ _ H4.out.drop.drop.drop ?_
        clear hK K
        refine wpKeep_step (fun K hK => ?_)
        refine step_appS (by rfl) _ _ _ (by rfl) bElem _ 0 [] (by rfl) H4.out _ A' x.length c' (Lib.byteCells x) (by rfl) (HFX.out _ H4.out.drop.drop.drop.drop).2 (by rw [byteCells_len, Nat.mul_one]) (byteCells_one _) (by omega) (by omega) ?_
        intro A5 c5 w5 S5
        simp only [Nat.zero_add, List.nil_append] at S5
        simp only [Nat.zero_add]
        have H5 := Lib.hid S5
        refine hK _ _ S5.drop.drop.drop ?_
        clear hK K S5 H3 H4
        (refine wpKeep_step ?_; intro K hK; go_simp)
        refine hK _ _ (H5.out.allocC _ _).drop.drop.drop.drop ?_
        clear hK K
        refine wpKeep_step (fun K hK => ?_)
        refine step_pushS (by rfl) _ _ _ (by rfl) deckElem w5 [.slice A5 x.length c5] 1 (by rfl) rfl (by simp [Value.oneCell']) _ ps.length _ (by rfl) (by rfl) H5.out.s1 (by unfold maxLen; omega) (by omega) ?_
        intro A6 c6 w6 S6
        have H6 := Lib.hid S6
        refine hK _ _ S6.drop.drop.drop ?_
        clear hK K S6 H5
        refine wpKeep_nil ?_
        obtain ⟨L6, K6, z6⟩ := H6.out.s3.look
        go_wp2
        go_roundw
        case rel =>
          refine ⟨k + 1, by omega, by go_num, ?_⟩
          rw [← HT.out, ← HX.out.2.1]
          have S7 := H6.out.s3.set (off := 0) (v := .slice A6 (ps.length + 1) c6) (cs' := #[.slice A6 (ps.length + 1) c6, .int .i64 (tk : Int), .int .i64 (st : Int), .int .i64 (se : Int)]) rfl
          exact readqS_close (deckS_push' rfl S7.s1.s3.s3).s1
        case measure => simp [intOf]; omega
      · obtain rfl : k = ds.length := by omega
        have H1 := Lib.hid S1
        clear S1
        go_wp2
        go_ret
        exact ⟨rfl, by simpa using H1.out⟩
  · have hx : er ≠ 0 := by simpa using h0
    obtain rfl := HE.out.2 hx
    clear HE hx
    go_wp2_with fail
    go_loopw [6] (fun i wr => i = .int .i64 0 ∧ wr = w) (fun i _ => 0)
    case atStart => exact ⟨rfl, rfl⟩
    case round =>
      obtain ⟨rfl, rfl⟩ := hrel
      go_wp2
      all_goals (go_ret; exact ⟨rfl, HS.out⟩)
end
end Go.Proofs.Ytgklbilkfmieoaa
