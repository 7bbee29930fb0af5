import Derived.Test.YtheiickihjcdlaaNum
import Derived.Test.YtheiickihjcdlaaMem
import Derived.Deep.RegionHeld3
import Derived.Deep.DeepCutAuto
import Derived.Handy
namespace Go.Proofs.Ytheiickihjcdlaa
open Go.RowKit

set_option maxHeartbeats 2000000 in
theorem rdecode_8 (b off : Nat) (x0 x1 x2 x3 x4 x5 x6 x7 : UInt8) (c : Nat) (w : World) (ha : At w w.heap.size (some ⟨b, off, none⟩) (Lib.byteCells [x0, x1, x2, x3, x4, x5, x6, x7])) (hc8 : 8 ≤ c) :
    Calls Try.prog 16 #[.slice (some ⟨b, off, none⟩) 8 c] w fun e w' => e = .returned (.tuple #[.agg (decC x0 x1 x2 x3 x4 x6 x7), .bool (decB x0 x4 x6 x7)]) ∧ Below w.heap.size w w' := by
  have HA := Lib.hid ha
  obtain ⟨b', off', e, hbl, hc⟩ := ha (by simp [Lib.byteCells])
  injection e with e; injection e with e1 e2; subst e1; subst e2
  have c0 : w.cell? ⟨b, off, none⟩ = some (.int .u8 (x0.toNat : Int)) := hc 0 _ rfl
  have HC := Lib.hid hc
  clear hc
  have hwx : IntKind.i64.wrap (x0.toNat : Int) = (x0.toNat : Int) := by have := x0.toNat_lt; rw [IntKind.wrap_i64]; omega
  by_cases h0 : dirN x0.toNat = 0
  · have hd : dir (x0.toNat : Int) = 0 := by rw [dir_byte, h0]; rfl
    have hC : decC x0 x1 x2 x3 x4 x6 x7 = ccwZero := by unfold decC; rw [if_pos h0]
    have hB : decB x0 x4 x6 x7 = false := by unfold decB; rw [if_pos h0]
    rw [hC, hB]
    have HD := Lib.hid hd
    clear hd hC hB h0
    go_enter Try.func16, Try.ntmps16
    go_wp2_with (go_at_call 10; refine (rdir_any _ _).mono ?_; rw [HD.out]; rintro e w1 ⟨rfl, rfl⟩)
    refine bodyPost_ret (v := .tuple #[.agg ccwZero, .bool false]) (by simp [results, Try.results16, go_sem, ccwZero, ccwCells]) rfl ⟨rfl, ?_⟩
    first | exact (Below.refl _ _).alloc (Nat.le_refl _) _ | sorry
  · have hd0 : (dir (x0.toNat : Int) == 0) = false := by rw [dir_byte, beq_eq_false_iff_ne]; omega
    have HN1 := Lib.hid (fun (w' : World) (h : Below w.heap.size w w') => rnumber_any (some ⟨b, off + 1, none⟩) [x1, x2, x3] (c - 1) w' ((at_sub (HA.out.below h) 1 3).mono h.size) (by simp))
    have HN2 := Lib.hid (fun (w' : World) (h : Below w.heap.size w w') => rnumber_any (some ⟨b, off + 6, none⟩) [x6, x7] (c - 6) w' ((at_sub (HA.out.below h) 6 2).mono h.size) (by simp))
    obtain ⟨d, hd⟩ : ∃ d, d = dir (x0.toNat : Int) := ⟨_, rfl⟩
    rw [← hd] at hd0
    have HD := Lib.hid hd
    clear hd h0
    have hcI : (8 : Int) ≤ (c : Int) := by omega
    have hc4 : (4 : Int) ≤ (c : Int) := by omega
    have hc1 : ¬ (c = 1) := by omega
    have hc6 : ¬ (c = 6) := by omega
    go_enter Try.func16, Try.ntmps16
    go_upto_region 3 with (go_at_call 10; refine (rdir_any _ _).mono ?_; rw [← HD.out]; rintro e w1 ⟨rfl, rfl⟩)
    go_cut [4] (fun s4 wx => ∃ g : Nat, s4 = .pointer (some ⟨g, 0, none⟩) ∧ w.heap.size < g ∧ Below w.heap.size w wx ∧ wx.heap[w.heap.size]? = some (.cells ccwZero 26 (0, 0)) ∧ wx.heap[g]? = some (.cells (ccwCells x0.toNat (adOf x1 x2 x3) 0 false false false false false) 26 (0, 0)))
    case first =>
      go_region_held3 (fun w' => w'.cell? ⟨b, off, none⟩ = some (.int .u8 (x0.toNat : Int)))
        (first | go_keep)
        ((first
          | (go_simp; go_at_call 34; refine Calls.mono (HN1.out _ (by first | exact ((Below.refl _ _).alloc (Nat.le_refl _) _).drew | exact (((Below.refl _ _).alloc (Nat.le_refl _) _).alloc (by simp) _).drew)) ?_; rintro e w5 ⟨rfl, rfl⟩)))
      all_goals (go_wp2_with fail; go_meet)
      all_goals
        refine ⟨w.heap.size + 1, rfl, by omega, by go_grown, hl_drew (hl_old (Nat.lt_of_lt_of_eq (Nat.lt_succ_self _) (World.size_alloc _ _).symm) (hl_new rfl)), hl_drew (hl_new' (World.size_alloc _ _).symm (by simp [ccwCells, numOf, adOf]; omega))⟩
    case rest =>
      obtain ⟨g, rfl, hg, bw, hr, hq⟩ := hcut
      obtain ⟨L1, F1, z1⟩ := row_look hr
      obtain ⟨L2, F2, z2⟩ := row_look hq
      unfold ccwCells at L2
      unfold ccwZero ccwCells at L1
      have HQ := Lib.hid hq
      have HR := Lib.hid hr
      have HB := Lib.hid bw
      clear hq hr bw
      have c4 : wc.cell? ⟨b, off + 4, none⟩ = some (.int .u8 (x4.toNat : Int)) := by rw [HB.out.cell (p := ⟨b, off + 4, none⟩) hbl]; exact HC.out 4 _ rfl
      have hw4 : IntKind.i64.wrap (x4.toNat : Int) = (x4.toNat : Int) := by have := x4.toNat_lt; rw [IntKind.wrap_i64]; omega
      have l4 := x4.toNat_lt
      go_wp2_with (fail)
      refine (rdir_any _ _).mono ?_
      rw [← HD.out]
      rintro e w1 ⟨rfl, rfl⟩
      have e7 : ((x4.toNat : Int) / 128 % 2 == 1) = fbit x4 7 := by unfold fbit; rw [Bool.eq_iff_iff]; simp; omega
      have e6 : ((x4.toNat : Int) / 64 % 2 == 1) = fbit x4 6 := by unfold fbit; rw [Bool.eq_iff_iff]; simp; omega
      have e5 : ((x4.toNat : Int) / 32 % 2 == 1) = fbit x4 5 := by unfold fbit; rw [Bool.eq_iff_iff]; simp; omega
      have e4 : ((x4.toNat : Int) / 16 % 2 == 1) = fbit x4 4 := by unfold fbit; rw [Bool.eq_iff_iff]; simp; omega
      have e3 : ((x4.toNat : Int) / 8 % 2 == 1) = fbit x4 3 := by unfold fbit; rw [Bool.eq_iff_iff]; simp; omega
      have eb : ((x4.toNat : Int) % 8 != 0) = decide (x4.toNat % 8 ≠ 0) := by rw [Bool.eq_iff_iff]; simp; omega
      have hn2 : ((numOf [x6, x7] : Nat) : Int) = cntOf x6 x7 := by simp [numOf, cntOf]; omega
      have hBs : ∀ (v2 v3 v4 v5 v6 : Value), Below w.heap.size w (((((wc.setCell ⟨g, 2, none⟩ v2).setCell ⟨g, 3, none⟩ v3).setCell ⟨g, 4, none⟩ v4).setCell ⟨g, 5, none⟩ v5).setCell ⟨g, 6, none⟩ v6) := fun v2 v3 v4 v5 v6 => by
        have hh : ∀ k, w.heap.size ≤ (⟨g, k, none⟩ : Addr).block := fun k => Nat.le_of_lt hg
        exact ((((HB.out.setCell (hh 2) _).setCell (hh 3) _).setCell (hh 4) _).setCell (hh 5) _).setCell (hh 6) _
      have HBs := Lib.hid hBs
      clear hBs
      go_upto_region 13 with (go_at_call 34; refine Calls.mono (HN2.out _ (HBs.out _ _ _ _ _)) ?_; rintro e w2 ⟨rfl, rfl⟩)
      · have h6 : (d == 6) = true := by assumption
        rw [beq_iff_eq] at h6
        rw [HD.out, dir_byte] at h6
        have h6' : dirN x0.toNat = 6 := by exact_mod_cast h6
        refine bodyPost_ret (v := .tuple #[.agg (ccwCells x0.toNat (adOf x1 x2 x3) 0 false false false false false), .bool true]) (by simp [results, Try.results16, go_sem, L1, ccwCells]) rfl ⟨?_, ?_⟩
        · unfold decC decB; rw [if_neg (by omega), if_pos h6', if_neg (by omega), if_pos h6']
        · have hb := HB.out
          go_grown
      · refine name_world (P := Code.wp _ _ _ _) ?_
        intro wd hwd
        have hq : wd.heap[g]? = some (.cells (ccwCells x0.toNat (adOf x1 x2 x3) (cntOf x6 x7) (fbit x4 7) (fbit x4 6) (fbit x4 5) (fbit x4 4) (fbit x4 3)) 26 (0, 0)) := by
          rw [hwd]
          exact hl_set (by simp [ccwCells]) (hl_set rfl (hl_set rfl (hl_set rfl (hl_set rfl (hl_set rfl HQ.out)))))
        have hr : wd.heap[w.heap.size]? = some (.cells ccwZero 26 (0, 0)) := by
          rw [hwd]
          have hne : ∀ k, w.heap.size ≠ (⟨g, k, none⟩ : Addr).block := fun k => Nat.ne_of_lt hg
          exact hl_far (hne _) (hl_far (hne _) (hl_far (hne _) (hl_far (hne _) (hl_far (hne _) (hl_far (hne _) HR.out)))))
        have hb : Below w.heap.size w wd := by
          rw [hwd]
          exact (HBs.out _ _ _ _ _).setCell (show w.heap.size ≤ (⟨g, 7, none⟩ : Addr).block from Nat.le_of_lt hg) _
        clear hwd L1 F1 L2 F2 z1 z2 HQ HR HB HBs c4 c0
        obtain ⟨L1, F1, z1⟩ := row_look hr
        obtain ⟨L2, F2, z2⟩ := row_look hq
        unfold ccwCells at L2
        unfold ccwZero ccwCells at L1
        have HB := Lib.hid hb
        clear hr hq hb
        go_wp2
        all_goals
          have h6 : (d == 6) = false := by assumption
          rw [beq_eq_false_iff_ne, HD.out, dir_byte] at h6
          have h6' : ¬ dirN x0.toNat = 6 := by intro e; exact h6 (by exact_mod_cast e)
          have h0' : ¬ dirN x0.toNat = 0 := by intro e; rw [HD.out, dir_byte, e] at hd0; simp at hd0
          have hb := HB.out
        · have hm : x4.toNat % 8 = 0 := by assumption
          have ht : (cntOf x6 x7 == 0) = true := by assumption
          have hbad : decBad x4 x6 x7 = true := by unfold decBad; rw [beq_iff_eq] at ht; simp [ht]
          refine bodyPost_ret (v := .tuple #[.agg (ccwZero), .bool false]) (by simp [results, Try.results16, go_sem, L1, ccwCells, ccwZero]) rfl ⟨?_, ?_⟩
          · unfold decC decB; rw [if_neg h0', if_neg h6', if_neg h0', if_neg h6', hbad]; rfl
          · go_grown
        · have hm : x4.toNat % 8 = 0 := by assumption
          have ht : (cntOf x6 x7 == 0) = false := by assumption
          have hbad : decBad x4 x6 x7 = false := by unfold decBad; rw [beq_eq_false_iff_ne] at ht; simp [ht, hm]
          refine bodyPost_ret (v := .tuple #[.agg (ccwCells x0.toNat (adOf x1 x2 x3) (cntOf x6 x7) (fbit x4 7) (fbit x4 6) (fbit x4 5) (fbit x4 4) (fbit x4 3)), .bool true]) (by simp [results, Try.results16, go_sem, L1, ccwCells]) rfl ⟨?_, ?_⟩
          · unfold decC decB; rw [if_neg h0', if_neg h6', if_neg h0', if_neg h6', hbad]; rfl
          · go_grown
        · have hm : ¬ x4.toNat % 8 = 0 := by assumption
          have hbad : decBad x4 x6 x7 = true := by unfold decBad; simp [hm]
          refine bodyPost_ret (v := .tuple #[.agg (ccwZero), .bool false]) (by simp [results, Try.results16, go_sem, L1, ccwCells, ccwZero]) rfl ⟨?_, ?_⟩
          · unfold decC decB; rw [if_neg h0', if_neg h6', if_neg h0', if_neg h6', hbad]; rfl
          · go_grown

end Go.Proofs.Ytheiickihjcdlaa
