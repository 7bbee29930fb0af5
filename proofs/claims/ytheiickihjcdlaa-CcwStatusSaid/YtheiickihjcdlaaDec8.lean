import Derived.Test.YtheiickihjcdlaaDec
import Derived.Deep.RegionHeld3
import Derived.Handy
namespace Go.Proofs.Ytheiickihjcdlaa
open Go.RowKit

set_option maxHeartbeats 4000000 in
/-- ccw.Decode of eight bytes -/
theorem decode_8 (A : Option Addr) (x0 x1 x2 x3 x4 x5 x6 x7 : UInt8) (c : Nat) (w : World) (ha : At w w.heap.size A (Lib.byteCells [x0, x1, x2, x3, x4, x5, x6, x7])) :
    Calls Try.prog 15 #[.slice A 8 c] w fun e w' => e = .returned (.tuple #[.agg (decC x0 x1 x2 x3 x4 x6 x7), .bool (decB x0 x4 x6 x7)]) ∧ Below w.heap.size w w' := by
  have HA := Lib.hid ha
  obtain ⟨b, off, rfl, hbl, hc⟩ := ha (by simp [Lib.byteCells])
  have c0 : w.cell? ⟨b, off, none⟩ = some (.int .u8 (x0.toNat : Int)) := hc 0 _ rfl
  have c4 : w.cell? ⟨b, off + 4, none⟩ = some (.int .u8 (x4.toNat : Int)) := hc 4 _ rfl
  clear hc
  have hne1 : ¬ (w.heap.size + 1 = b) := by omega
  have hne0 : ¬ (w.heap.size = b) := by omega
  have had : ∀ w', Below w.heap.size w w' → Calls Try.prog 31 #[.slice (some ⟨b, off, none⟩) 8 c] w' fun e w'' => e = .returned (.int .i64 (adOf x1 x2 x3)) ∧ Still w' w'' := fun w' h => addrOf_any _ [x0, x1, x2, x3, x4, x5, x6, x7] c w' ((HA.out.below h).mono h.size) (by simp) (by simp)
  have hcn : ∀ w', Below w.heap.size w w' → Calls Try.prog 33 #[.slice (some ⟨b, off, none⟩) 8 c] w' fun e w'' => e = .returned (.int .i64 (cntOf x6 x7)) ∧ Still w' w'' := fun w' h => countOf_any _ [x0, x1, x2, x3, x4, x5, x6, x7] c w' ((HA.out.below h).mono h.size) (by simp) (by simp)
  have HAD := Lib.hid had
  have HCN := Lib.hid hcn
  clear had hcn
  have hwx : IntKind.i64.wrap (x0.toNat : Int) = (x0.toNat : Int) := by have := x0.toNat_lt; rw [IntKind.wrap_i64]; omega
  obtain ⟨d, hd⟩ : ∃ d, d = dir (x0.toNat : Int) := ⟨_, rfl⟩
  have hcases : (d = 0 ∧ decC x0 x1 x2 x3 x4 x6 x7 = ccwZero ∧ decB x0 x4 x6 x7 = false) ∨ (d = 6 ∧ decC x0 x1 x2 x3 x4 x6 x7 = ccwCells x0.toNat (adOf x1 x2 x3) 0 false false false false false ∧ decB x0 x4 x6 x7 = true) ∨
      ((d == 0) = false ∧ (d == 6) = false ∧ decC x0 x1 x2 x3 x4 x6 x7 = (if decBad x4 x6 x7 then ccwZero else ccwCells x0.toNat (adOf x1 x2 x3) (cntOf x6 x7) (fbit x4 7) (fbit x4 6) (fbit x4 5) (fbit x4 4) (fbit x4 3)) ∧ decB x0 x4 x6 x7 = !decBad x4 x6 x7) := by
    rw [hd, dir_byte]
    unfold decC decB
    by_cases h0 : dirN x0.toNat = 0
    · exact Or.inl ⟨by rw [h0]; rfl, by rw [if_pos h0], by rw [if_pos h0]⟩
    · by_cases h6 : dirN x0.toNat = 6
      · exact Or.inr (Or.inl ⟨by rw [h6]; rfl, by rw [if_neg h0, if_pos h6], by rw [if_neg h0, if_pos h6]⟩)
      · exact Or.inr (Or.inr ⟨by rw [beq_eq_false_iff_ne]; omega, by rw [beq_eq_false_iff_ne]; omega, by rw [if_neg h0, if_neg h6], by rw [if_neg h0, if_neg h6]⟩)
  have HD := Lib.hid hd
  have HC := Lib.hid hcases
  clear hd hcases
  generalize decC x0 x1 x2 x3 x4 x6 x7 = dC at *
  generalize decB x0 x4 x6 x7 = dB at *
  go_enter Try.func15, Try.ntmps15
  go_wp2_with fail
  go_region_held3 (fun w' => w'.cell? ⟨b, off, none⟩ = some (.int .u8 (x0.toNat : Int)))
    (first | go_keep)
    ((first
      | (go_simp; go_at_call 31; refine Calls.mono (HAD.out _ (by first | exact ((Below.refl _ _).alloc (Nat.le_refl _) _).drew | exact (((Below.refl _ _).alloc (Nat.le_refl _) _).alloc (by simp) _).drew)) ?_; rintro e w5 ⟨rfl, ⟨m5, rfl⟩⟩)))
  refine name_world (P := Exit.then _ _ _ _) ?_
  intro wa hwa
  have hd : DFacts w wa #[.int .i64 (x0.toNat : Int), .int .i64 (adOf x1 x2 x3), .bool false, .bool false, .bool false, .bool false, .bool false, .int .i64 0] 26 26 := by
      rw [hwa]
      exact dfacts1l w _ _ _ _
  rotate_left
  refine name_world (P := Exit.then _ _ _ _) ?_
  intro wa hwa
  have hd : DFacts w wa #[.int .i64 (x0.toNat : Int), .int .i64 (adOf x1 x2 x3), .bool false, .bool false, .bool false, .bool false, .bool false, .int .i64 0] 26 26 := by
      rw [hwa]
      exact dfacts2l w _ (.int .i64 (x0.toNat : Int)) (.int .i64 (adOf x1 x2 x3)) (.bool false) (.bool false) (.bool false) (.bool false) (.bool false) (.int .i64 0) _ _
  all_goals
    clear hwa
    obtain ⟨hb, r, z⟩ := hd
    have r0 : wa.cell? ⟨w.heap.size + 1, 0, none⟩ = some (.int .i64 (x0.toNat : Int)) := cell_of_row _ _ 0 _ _ _ r
    have r1 : wa.cell? ⟨w.heap.size + 1, 1, none⟩ = some (.int .i64 (adOf x1 x2 x3)) := cell_of_row _ _ 1 _ _ _ r
    have r2 : wa.cell? ⟨w.heap.size + 1, 2, none⟩ = some (.bool false) := cell_of_row _ _ 2 _ _ _ r
    have r3 : wa.cell? ⟨w.heap.size + 1, 3, none⟩ = some (.bool false) := cell_of_row _ _ 3 _ _ _ r
    have r4 : wa.cell? ⟨w.heap.size + 1, 4, none⟩ = some (.bool false) := cell_of_row _ _ 4 _ _ _ r
    have r5 : wa.cell? ⟨w.heap.size + 1, 5, none⟩ = some (.bool false) := cell_of_row _ _ 5 _ _ _ r
    have r6 : wa.cell? ⟨w.heap.size + 1, 6, none⟩ = some (.bool false) := cell_of_row _ _ 6 _ _ _ r
    have r7 : wa.cell? ⟨w.heap.size + 1, 7, none⟩ = some (.int .i64 0) := cell_of_row _ _ 7 _ _ _ r
    have hz1 : w.heap.size + 1 < wa.heap.size := World.block_lt_of_cell? wa ⟨w.heap.size + 1, 0, none⟩ r0
    have HB := Lib.hid hb
    have HR := Lib.hid r
    have HZ := Lib.hid z
    clear hb r z
    go_wp2_with fail
    refine (dir_any _ _).mono ?_
    rw [← HD.out]
    rintro e w2 ⟨rfl, rfl⟩
    rcases HC.out with ⟨rfl, rfl, rfl⟩ | ⟨rfl, rfl, rfl⟩ | ⟨q0, q6, hC, hB⟩
    · go_wp2_with (refine wpList_store_row (by rfl) 26 (.tmp 2) _ (by rfl) w.heap.size #[.int .i64 0, .int .i64 0, .bool false, .bool false, .bool false, .bool false, .bool false, .int .i64 0] (by rfl) (by rfl) 26 ccwZero HZ.out (by rfl) (by rfl) (by simp [Value.oneCell']) ?_)
      refine name_world (P := bodyPost _ _ _ _ _) ?_
      intro wf hwf
      have hbf : Below w.heap.size w wf := by rw [hwf]; exact below_row HB.out (Nat.le_refl _) _
      have hr : wf.heap[w.heap.size]? = some (.cells #[.int .i64 0, .int .i64 0, .bool false, .bool false, .bool false, .bool false, .bool false, .int .i64 0] 26 (0, 0)) := by rw [hwf]; exact rowc_row HZ.out _
      clear hwf
      have f0 : wf.cell? ⟨w.heap.size, 0, none⟩ = _ := cell_of_row _ _ 0 _ _ _ hr
      have f1 : wf.cell? ⟨w.heap.size, 1, none⟩ = _ := cell_of_row _ _ 1 _ _ _ hr
      have f2 : wf.cell? ⟨w.heap.size, 2, none⟩ = _ := cell_of_row _ _ 2 _ _ _ hr
      have f3 : wf.cell? ⟨w.heap.size, 3, none⟩ = _ := cell_of_row _ _ 3 _ _ _ hr
      have f4 : wf.cell? ⟨w.heap.size, 4, none⟩ = _ := cell_of_row _ _ 4 _ _ _ hr
      have f5 : wf.cell? ⟨w.heap.size, 5, none⟩ = _ := cell_of_row _ _ 5 _ _ _ hr
      have f6 : wf.cell? ⟨w.heap.size, 6, none⟩ = _ := cell_of_row _ _ 6 _ _ _ hr
      have f7 : wf.cell? ⟨w.heap.size, 7, none⟩ = _ := cell_of_row _ _ 7 _ _ _ hr
      refine bodyPost_ret (v := .tuple #[.agg #[.int .i64 0, .int .i64 0, .bool false, .bool false, .bool false, .bool false, .bool false, .int .i64 0], .bool false]) (by simp [results, Try.results15, go_sem, f0, f1, f2, f3, f4, f5, f6, f7]) rfl ⟨rfl, hbf⟩
    · go_wp2_with (refine wpList_store_row (by rfl) 26 (.tmp 2) _ (by rfl) w.heap.size #[.int .i64 (x0.toNat : Int), .int .i64 (adOf x1 x2 x3), .bool false, .bool false, .bool false, .bool false, .bool false, .int .i64 0] (by rfl) (by rfl) 26 ccwZero HZ.out (by rfl) (by rfl) (by simp [Value.oneCell']) ?_)
      refine name_world (P := bodyPost _ _ _ _ _) ?_
      intro wf hwf
      have hbf : Below w.heap.size w wf := by rw [hwf]; exact below_row HB.out (Nat.le_refl _) _
      have hr : wf.heap[w.heap.size]? = some (.cells #[.int .i64 (x0.toNat : Int), .int .i64 (adOf x1 x2 x3), .bool false, .bool false, .bool false, .bool false, .bool false, .int .i64 0] 26 (0, 0)) := by rw [hwf]; exact rowc_row HZ.out _
      clear hwf
      have f0 : wf.cell? ⟨w.heap.size, 0, none⟩ = _ := cell_of_row _ _ 0 _ _ _ hr
      have f1 : wf.cell? ⟨w.heap.size, 1, none⟩ = _ := cell_of_row _ _ 1 _ _ _ hr
      have f2 : wf.cell? ⟨w.heap.size, 2, none⟩ = _ := cell_of_row _ _ 2 _ _ _ hr
      have f3 : wf.cell? ⟨w.heap.size, 3, none⟩ = _ := cell_of_row _ _ 3 _ _ _ hr
      have f4 : wf.cell? ⟨w.heap.size, 4, none⟩ = _ := cell_of_row _ _ 4 _ _ _ hr
      have f5 : wf.cell? ⟨w.heap.size, 5, none⟩ = _ := cell_of_row _ _ 5 _ _ _ hr
      have f6 : wf.cell? ⟨w.heap.size, 6, none⟩ = _ := cell_of_row _ _ 6 _ _ _ hr
      have f7 : wf.cell? ⟨w.heap.size, 7, none⟩ = _ := cell_of_row _ _ 7 _ _ _ hr
      refine bodyPost_ret (v := .tuple #[.agg #[.int .i64 (x0.toNat : Int), .int .i64 (adOf x1 x2 x3), .bool false, .bool false, .bool false, .bool false, .bool false, .int .i64 0], .bool true]) (by simp [results, Try.results15, go_sem, f0, f1, f2, f3, f4, f5, f6, f7]) rfl ⟨rfl, hbf⟩
    · have hbw := HB.out
      go_wp2_with fail
      refine (flags_any _ _).mono ?_
      rintro e w5 ⟨rfl, b5⟩
      have hz5 : w.heap.size + 1 < w5.heap.size := by have := b5.size; omega
      have hr5 : w5.heap[w.heap.size + 1]? = some (.cells (ccwCells x0.toNat (adOf x1 x2 x3) 0 false false false false false) 26 (0, 0)) := by rw [b5.block _ hz1]; exact HR.out
      have hzz : w5.heap[w.heap.size]? = some (.cells ccwZero 26 (0, 0)) := by rw [b5.block _ (by omega)]; exact HZ.out
      have hb5 : Below w.heap.size w w5 := hbw.trans (b5.mono hbw.size)
      have HR5 := Lib.hid (heap_alloc_keep hr5 (.cells #[.pointer (some ⟨w.heap.size + 1, 2, none⟩), .pointer (some ⟨w.heap.size + 1, 3, none⟩), .pointer (some ⟨w.heap.size + 1, 4, none⟩), .pointer (some ⟨w.heap.size + 1, 5, none⟩), .pointer (some ⟨w.heap.size + 1, 6, none⟩)] 54))
      have HZ5 := Lib.hid (heap_alloc_keep hzz (.cells #[.pointer (some ⟨w.heap.size + 1, 2, none⟩), .pointer (some ⟨w.heap.size + 1, 3, none⟩), .pointer (some ⟨w.heap.size + 1, 4, none⟩), .pointer (some ⟨w.heap.size + 1, 5, none⟩), .pointer (some ⟨w.heap.size + 1, 6, none⟩)] 54))
      have HB5 := Lib.hid (hb5.alloc hb5.size (.cells #[.pointer (some ⟨w.heap.size + 1, 2, none⟩), .pointer (some ⟨w.heap.size + 1, 3, none⟩), .pointer (some ⟨w.heap.size + 1, 4, none⟩), .pointer (some ⟨w.heap.size + 1, 5, none⟩), .pointer (some ⟨w.heap.size + 1, 6, none⟩)] 54))
      have HP5 := Lib.hid (heap_alloc_new w5 (.cells #[.pointer (some ⟨w.heap.size + 1, 2, none⟩), .pointer (some ⟨w.heap.size + 1, 3, none⟩), .pointer (some ⟨w.heap.size + 1, 4, none⟩), .pointer (some ⟨w.heap.size + 1, 5, none⟩), .pointer (some ⟨w.heap.size + 1, 6, none⟩)] 54 (0, 0)))
      clear hr5 hzz hb5 b5 hbw
      go_wp2
      go_loopw [28] (fun i wr => ∃ k : Nat, k ≤ 5 ∧ i = .int .i64 k ∧ Below w.heap.size w wr ∧ wr.heap[w.heap.size]? = some (.cells ccwZero 26 (0, 0)) ∧ wr.heap[w.heap.size + 1]? = some (.cells (ccwCells x0.toNat (adOf x1 x2 x3) 0 (decide (0 < k) && fbit x4 7) (decide (1 < k) && fbit x4 6) (decide (2 < k) && fbit x4 5) (decide (3 < k) && fbit x4 4) (decide (4 < k) && fbit x4 3)) 26 (0, 0)) ∧ wr.heap[w5.heap.size]? = some (.cells #[.pointer (some ⟨w.heap.size + 1, 2, none⟩), .pointer (some ⟨w.heap.size + 1, 3, none⟩), .pointer (some ⟨w.heap.size + 1, 4, none⟩), .pointer (some ⟨w.heap.size + 1, 5, none⟩), .pointer (some ⟨w.heap.size + 1, 6, none⟩)] 54 (0, 0))) (fun i _ => 5 - (intOf i).toNat)
      case atStart => exact ⟨0, by omega, rfl, HB5.out, HZ5.out, HR5.out, HP5.out⟩
      case round =>
        obtain ⟨k, hk, rfl, hb, hz, hr, hp⟩ := hrel
        have x4c : wr.cell? ⟨b, off + 4, none⟩ = some (.int .u8 (x4.toNat : Int)) := by rw [hb.cell (p := ⟨b, off + 4, none⟩) hbl]; exact c4
        have HBr := Lib.hid hb
        rcases (show k = 0 ∨ k = 1 ∨ k = 2 ∨ k = 3 ∨ k = 4 ∨ k = 5 from by omega) with rfl | rfl | rfl | rfl | rfl | rfl
        · have p0 : wr.cell? ⟨w5.heap.size, 0, none⟩ = some (.pointer (some ⟨w.heap.size + 1, 2, none⟩)) := cell_of_row _ _ 0 _ _ _ hp
          have u0 : wr.cell? ⟨w.heap.size + 1, 2, none⟩ = some (.bool false) := cell_of_row _ _ 2 _ _ _ hr
          have fz : wr.frozen? ⟨w.heap.size + 1, 2, none⟩ = false := frozen_row hr 2
          go_wp2
          go_region
          go_wp2
          all_goals
            rw [bit7]
            exact ⟨⟨1, by omega, rfl, (HBr.out.setCell (p := ⟨w.heap.size + 1, 2, none⟩) (Nat.le_succ _) _).drew, rowc_far hz 2 _ (by omega), (rowc_set hr 2 _).trans (by simp [ccwCells]), rowc_far hp 2 _ (by omega)⟩, by simp [intOf]⟩
        · have p0 : wr.cell? ⟨w5.heap.size, 1, none⟩ = some (.pointer (some ⟨w.heap.size + 1, 3, none⟩)) := cell_of_row _ _ 1 _ _ _ hp
          have u0 : wr.cell? ⟨w.heap.size + 1, 3, none⟩ = some (.bool false) := cell_of_row _ _ 3 _ _ _ hr
          have fz : wr.frozen? ⟨w.heap.size + 1, 3, none⟩ = false := frozen_row hr 3
          go_wp2
          go_region
          go_wp2
          all_goals
            rw [bit6]
            exact ⟨⟨2, by omega, rfl, (HBr.out.setCell (p := ⟨w.heap.size + 1, 3, none⟩) (Nat.le_succ _) _).drew, rowc_far hz 3 _ (by omega), (rowc_set hr 3 _).trans (by simp [ccwCells]), rowc_far hp 3 _ (by omega)⟩, by simp [intOf]⟩
        · have p0 : wr.cell? ⟨w5.heap.size, 2, none⟩ = some (.pointer (some ⟨w.heap.size + 1, 4, none⟩)) := cell_of_row _ _ 2 _ _ _ hp
          have u0 : wr.cell? ⟨w.heap.size + 1, 4, none⟩ = some (.bool false) := cell_of_row _ _ 4 _ _ _ hr
          have fz : wr.frozen? ⟨w.heap.size + 1, 4, none⟩ = false := frozen_row hr 4
          go_wp2
          go_region
          go_wp2
          all_goals
            rw [bit5]
            exact ⟨⟨3, by omega, rfl, (HBr.out.setCell (p := ⟨w.heap.size + 1, 4, none⟩) (Nat.le_succ _) _).drew, rowc_far hz 4 _ (by omega), (rowc_set hr 4 _).trans (by simp [ccwCells]), rowc_far hp 4 _ (by omega)⟩, by simp [intOf]⟩
        · have p0 : wr.cell? ⟨w5.heap.size, 3, none⟩ = some (.pointer (some ⟨w.heap.size + 1, 5, none⟩)) := cell_of_row _ _ 3 _ _ _ hp
          have u0 : wr.cell? ⟨w.heap.size + 1, 5, none⟩ = some (.bool false) := cell_of_row _ _ 5 _ _ _ hr
          have fz : wr.frozen? ⟨w.heap.size + 1, 5, none⟩ = false := frozen_row hr 5
          go_wp2
          go_region
          go_wp2
          all_goals
            rw [bit4]
            exact ⟨⟨4, by omega, rfl, (HBr.out.setCell (p := ⟨w.heap.size + 1, 5, none⟩) (Nat.le_succ _) _).drew, rowc_far hz 5 _ (by omega), (rowc_set hr 5 _).trans (by simp [ccwCells]), rowc_far hp 5 _ (by omega)⟩, by simp [intOf]⟩
        · have p0 : wr.cell? ⟨w5.heap.size, 4, none⟩ = some (.pointer (some ⟨w.heap.size + 1, 6, none⟩)) := cell_of_row _ _ 4 _ _ _ hp
          have u0 : wr.cell? ⟨w.heap.size + 1, 6, none⟩ = some (.bool false) := cell_of_row _ _ 6 _ _ _ hr
          have fz : wr.frozen? ⟨w.heap.size + 1, 6, none⟩ = false := frozen_row hr 6
          go_wp2
          go_region
          go_wp2
          all_goals
            rw [bit3]
            exact ⟨⟨5, by omega, rfl, (HBr.out.setCell (p := ⟨w.heap.size + 1, 6, none⟩) (Nat.le_succ _) _).drew, rowc_far hz 6 _ (by omega), (rowc_set hr 6 _).trans (by simp [ccwCells]), rowc_far hp 6 _ (by omega)⟩, by simp [intOf]⟩
        · replace hr : wr.heap[w.heap.size + 1]? = some (.cells (ccwCells x0.toNat (adOf x1 x2 x3) 0 (fbit x4 7) (fbit x4 6) (fbit x4 5) (fbit x4 4) (fbit x4 3)) 26 (0, 0)) := hr
          clear hp
          have r0 : wr.cell? ⟨w.heap.size + 1, 0, none⟩ = some (.int .i64 (x0.toNat : Int)) := cell_of_row _ _ 0 _ _ _ hr
          have r1 : wr.cell? ⟨w.heap.size + 1, 1, none⟩ = some (.int .i64 (adOf x1 x2 x3)) := cell_of_row _ _ 1 _ _ _ hr
          have r2 : wr.cell? ⟨w.heap.size + 1, 2, none⟩ = some (.bool (fbit x4 7)) := cell_of_row _ _ 2 _ _ _ hr
          have r3 : wr.cell? ⟨w.heap.size + 1, 3, none⟩ = some (.bool (fbit x4 6)) := cell_of_row _ _ 3 _ _ _ hr
          have r4 : wr.cell? ⟨w.heap.size + 1, 4, none⟩ = some (.bool (fbit x4 5)) := cell_of_row _ _ 4 _ _ _ hr
          have r5 : wr.cell? ⟨w.heap.size + 1, 5, none⟩ = some (.bool (fbit x4 4)) := cell_of_row _ _ 5 _ _ _ hr
          have r6 : wr.cell? ⟨w.heap.size + 1, 6, none⟩ = some (.bool (fbit x4 3)) := cell_of_row _ _ 6 _ _ _ hr
          have r7 : wr.cell? ⟨w.heap.size + 1, 7, none⟩ = some (.int .i64 0) := cell_of_row _ _ 7 _ _ _ hr
          have fz : wr.frozen? ⟨w.heap.size + 1, 7, none⟩ = false := frozen_row hr 7
          rcases (show ((bits .and .u8 (x4.toNat : Int) 7 != 0) = true ∧ decBad x4 x6 x7 = true) ∨ ((bits .and .u8 (x4.toNat : Int) 7 != 0) = false ∧ (cntOf x6 x7 == 0) = true ∧ decBad x4 x6 x7 = true) ∨ ((bits .and .u8 (x4.toNat : Int) 7 != 0) = false ∧ (cntOf x6 x7 == 0) = false ∧ decBad x4 x6 x7 = false) from by
            rw [bit_low]
            unfold decBad
            by_cases h : x4.toNat % 8 = 0 <;> by_cases g : cntOf x6 x7 = 0 <;> simp [h, g]) with ⟨t1, hbad⟩ | ⟨t1, t2, hbad⟩ | ⟨t1, t2, hbad⟩
          · go_wp2_with (first
            | (go_at_call 33; refine Calls.mono (HCN.out _ HBr.out) ?_; rintro e w8 ⟨rfl, ⟨m8, rfl⟩⟩)
            | (refine wpList_store_row (by rfl) 26 (.tmp 2) _ (by rfl) w.heap.size #[.int .i64 0, .int .i64 0, .bool false, .bool false, .bool false, .bool false, .bool false, .int .i64 0] (by rfl) (by rfl) 26 ccwZero (rowc_far hz 7 _ (by omega)) (by rfl) (by rfl) (by simp [Value.oneCell']) ?_))
            refine name_world (P := bodyPost _ _ _ _ _) ?_
            intro wf hwf
            have hbf : Below w.heap.size w wf := by rw [hwf]; exact below_row ((below_drewN HBr.out _).setCell (p := ⟨w.heap.size + 1, 7, none⟩) (Nat.le_succ _) _) (Nat.le_refl _) _
            have hrf : wf.heap[w.heap.size]? = some (.cells #[.int .i64 0, .int .i64 0, .bool false, .bool false, .bool false, .bool false, .bool false, .int .i64 0] 26 (0, 0)) := by rw [hwf]; exact rowc_row (rowc_far hz 7 _ (by omega)) _
            clear hwf
            have f0 : wf.cell? ⟨w.heap.size, 0, none⟩ = _ := cell_of_row _ _ 0 _ _ _ hrf
            have f1 : wf.cell? ⟨w.heap.size, 1, none⟩ = _ := cell_of_row _ _ 1 _ _ _ hrf
            have f2 : wf.cell? ⟨w.heap.size, 2, none⟩ = _ := cell_of_row _ _ 2 _ _ _ hrf
            have f3 : wf.cell? ⟨w.heap.size, 3, none⟩ = _ := cell_of_row _ _ 3 _ _ _ hrf
            have f4 : wf.cell? ⟨w.heap.size, 4, none⟩ = _ := cell_of_row _ _ 4 _ _ _ hrf
            have f5 : wf.cell? ⟨w.heap.size, 5, none⟩ = _ := cell_of_row _ _ 5 _ _ _ hrf
            have f6 : wf.cell? ⟨w.heap.size, 6, none⟩ = _ := cell_of_row _ _ 6 _ _ _ hrf
            have f7 : wf.cell? ⟨w.heap.size, 7, none⟩ = _ := cell_of_row _ _ 7 _ _ _ hrf
            refine bodyPost_ret (v := .tuple #[.agg #[.int .i64 0, .int .i64 0, .bool false, .bool false, .bool false, .bool false, .bool false, .int .i64 0], .bool false]) (by simp [results, Try.results15, go_sem, f0, f1, f2, f3, f4, f5, f6, f7]) rfl ⟨by rw [hC, hB, hbad]; rfl, hbf⟩
          · go_wp2_with (first
            | (go_at_call 33; refine Calls.mono (HCN.out _ HBr.out) ?_; rintro e w8 ⟨rfl, ⟨m8, rfl⟩⟩)
            | (refine wpList_store_row (by rfl) 26 (.tmp 2) _ (by rfl) w.heap.size #[.int .i64 0, .int .i64 0, .bool false, .bool false, .bool false, .bool false, .bool false, .int .i64 0] (by rfl) (by rfl) 26 ccwZero (rowc_far hz 7 _ (by omega)) (by rfl) (by rfl) (by simp [Value.oneCell']) ?_))
            refine name_world (P := bodyPost _ _ _ _ _) ?_
            intro wf hwf
            have hbf : Below w.heap.size w wf := by rw [hwf]; exact below_row ((below_drewN HBr.out _).setCell (p := ⟨w.heap.size + 1, 7, none⟩) (Nat.le_succ _) _) (Nat.le_refl _) _
            have hrf : wf.heap[w.heap.size]? = some (.cells #[.int .i64 0, .int .i64 0, .bool false, .bool false, .bool false, .bool false, .bool false, .int .i64 0] 26 (0, 0)) := by rw [hwf]; exact rowc_row (rowc_far hz 7 _ (by omega)) _
            clear hwf
            have f0 : wf.cell? ⟨w.heap.size, 0, none⟩ = _ := cell_of_row _ _ 0 _ _ _ hrf
            have f1 : wf.cell? ⟨w.heap.size, 1, none⟩ = _ := cell_of_row _ _ 1 _ _ _ hrf
            have f2 : wf.cell? ⟨w.heap.size, 2, none⟩ = _ := cell_of_row _ _ 2 _ _ _ hrf
            have f3 : wf.cell? ⟨w.heap.size, 3, none⟩ = _ := cell_of_row _ _ 3 _ _ _ hrf
            have f4 : wf.cell? ⟨w.heap.size, 4, none⟩ = _ := cell_of_row _ _ 4 _ _ _ hrf
            have f5 : wf.cell? ⟨w.heap.size, 5, none⟩ = _ := cell_of_row _ _ 5 _ _ _ hrf
            have f6 : wf.cell? ⟨w.heap.size, 6, none⟩ = _ := cell_of_row _ _ 6 _ _ _ hrf
            have f7 : wf.cell? ⟨w.heap.size, 7, none⟩ = _ := cell_of_row _ _ 7 _ _ _ hrf
            refine bodyPost_ret (v := .tuple #[.agg #[.int .i64 0, .int .i64 0, .bool false, .bool false, .bool false, .bool false, .bool false, .int .i64 0], .bool false]) (by simp [results, Try.results15, go_sem, f0, f1, f2, f3, f4, f5, f6, f7]) rfl ⟨by rw [hC, hB, hbad]; rfl, hbf⟩
          · go_wp2_with (first
            | (go_at_call 33; refine Calls.mono (HCN.out _ HBr.out) ?_; rintro e w8 ⟨rfl, ⟨m8, rfl⟩⟩)
            | (refine wpList_store_row (by rfl) 26 (.tmp 2) _ (by rfl) w.heap.size #[.int .i64 (x0.toNat : Int), .int .i64 (adOf x1 x2 x3), .bool (fbit x4 7), .bool (fbit x4 6), .bool (fbit x4 5), .bool (fbit x4 4), .bool (fbit x4 3), .int .i64 (cntOf x6 x7)] (by rfl) (by rfl) 26 ccwZero (rowc_far hz 7 _ (by omega)) (by rfl) (by rfl) (by simp [Value.oneCell']) ?_))
            refine name_world (P := bodyPost _ _ _ _ _) ?_
            intro wf hwf
            have hbf : Below w.heap.size w wf := by rw [hwf]; exact below_row ((below_drewN HBr.out _).setCell (p := ⟨w.heap.size + 1, 7, none⟩) (Nat.le_succ _) _) (Nat.le_refl _) _
            have hrf : wf.heap[w.heap.size]? = some (.cells #[.int .i64 (x0.toNat : Int), .int .i64 (adOf x1 x2 x3), .bool (fbit x4 7), .bool (fbit x4 6), .bool (fbit x4 5), .bool (fbit x4 4), .bool (fbit x4 3), .int .i64 (cntOf x6 x7)] 26 (0, 0)) := by rw [hwf]; exact rowc_row (rowc_far hz 7 _ (by omega)) _
            clear hwf
            have f0 : wf.cell? ⟨w.heap.size, 0, none⟩ = _ := cell_of_row _ _ 0 _ _ _ hrf
            have f1 : wf.cell? ⟨w.heap.size, 1, none⟩ = _ := cell_of_row _ _ 1 _ _ _ hrf
            have f2 : wf.cell? ⟨w.heap.size, 2, none⟩ = _ := cell_of_row _ _ 2 _ _ _ hrf
            have f3 : wf.cell? ⟨w.heap.size, 3, none⟩ = _ := cell_of_row _ _ 3 _ _ _ hrf
            have f4 : wf.cell? ⟨w.heap.size, 4, none⟩ = _ := cell_of_row _ _ 4 _ _ _ hrf
            have f5 : wf.cell? ⟨w.heap.size, 5, none⟩ = _ := cell_of_row _ _ 5 _ _ _ hrf
            have f6 : wf.cell? ⟨w.heap.size, 6, none⟩ = _ := cell_of_row _ _ 6 _ _ _ hrf
            have f7 : wf.cell? ⟨w.heap.size, 7, none⟩ = _ := cell_of_row _ _ 7 _ _ _ hrf
            refine bodyPost_ret (v := .tuple #[.agg #[.int .i64 (x0.toNat : Int), .int .i64 (adOf x1 x2 x3), .bool (fbit x4 7), .bool (fbit x4 6), .bool (fbit x4 5), .bool (fbit x4 4), .bool (fbit x4 3), .int .i64 (cntOf x6 x7)], .bool true]) (by simp [results, Try.results15, go_sem, f0, f1, f2, f3, f4, f5, f6, f7]) rfl ⟨by rw [hC, hB, hbad]; rfl, hbf⟩

end Go.Proofs.Ytheiickihjcdlaa
