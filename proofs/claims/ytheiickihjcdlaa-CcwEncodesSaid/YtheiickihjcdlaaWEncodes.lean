import Derived.Test.YtheiickihjcdlaaWorks
import Derived.Test.YtheiickihjcdlaaREncAny
namespace Go.Proofs.Ytheiickihjcdlaa
open Go.RowKit

set_option maxHeartbeats 2000000 in
theorem walk_ccwEncodes (w : World) (op addr : Int) (cd cc sli skip pci : Bool) (count : Int) (_ : (Lit.int .i64 op).wf = true) (_ : (Lit.int .i64 addr).wf = true) (_ : (Lit.int .i64 count).wf = true) :
    Calls Try.prog 4 #[.agg #[.int .i64 op, .int .i64 addr, .bool cd, .bool cc, .bool sli, .bool skip, .bool pci, .int .i64 count]] w fun e w' => e = .returned (.bool true) ∧ Below w.heap.size w w' := by
  obtain ⟨err, herr⟩ : ∃ err, err = ccwErr op addr count cd cc sli skip pci := ⟨_, rfl⟩
  obtain ⟨out, hout⟩ : ∃ out, out = ccwBytes op addr count cd cc sli skip pci := ⟨_, rfl⟩
  have HE := Lib.hid (fun w => encode_any op addr count cd cc sli skip pci w)
  have HF := Lib.hid (fun w => rencode_any op addr count cd cc sli skip pci w)
  rw [← herr, ← hout] at HE HF
  have hlen : (if err = 0 then out else []).length ≤ maxLen := by
    split
    · rw [hout]; simp [ccwBytes, word8, maxLen]
    · simp
  obtain ⟨l, hl⟩ : ∃ l, l = (if err = 0 then out else []) := ⟨_, rfl⟩
  rw [← hl] at hlen
  have HL := Lib.hid hl
  clear herr hout hl
  go_enter Try.func4, Try.ntmps4
  go_wp2_with fail
  refine (HE.out _).mono ?_
  rintro e w1 ⟨A1, c1, h1⟩
  rw [← HL.out] at h1
  obtain ⟨rfl, o1, b1⟩ := h1
  have hz : w.heap.size < w1.heap.size := by have := b1.size; simp at this; omega
  have hs : ∀ j, w1.cell? ⟨w.heap.size, j, none⟩ = (ccwCells op addr count cd cc sli skip pci)[j]? := fun j => by
    rw [b1.cell (p := ⟨w.heap.size, j, none⟩) (by simp)]
    exact cell_of_row _ _ _ _ 26 (0, 0) (heap_alloc_new w _)
  have s0 : w1.cell? ⟨w.heap.size, 0, none⟩ = some (.int .i64 op) := hs 0
  have s1 : w1.cell? ⟨w.heap.size, 1, none⟩ = some (.int .i64 addr) := hs 1
  have s2 : w1.cell? ⟨w.heap.size, 2, none⟩ = some (.bool cd) := hs 2
  have s3 : w1.cell? ⟨w.heap.size, 3, none⟩ = some (.bool cc) := hs 3
  have s4 : w1.cell? ⟨w.heap.size, 4, none⟩ = some (.bool sli) := hs 4
  have s5 : w1.cell? ⟨w.heap.size, 5, none⟩ = some (.bool skip) := hs 5
  have s6 : w1.cell? ⟨w.heap.size, 6, none⟩ = some (.bool pci) := hs 6
  have s7 : w1.cell? ⟨w.heap.size, 7, none⟩ = some (.int .i64 count) := hs 7
  have B1 : Below w.heap.size w w1 := ((Below.refl _ _).alloc (Nat.le_refl _) _).trans (b1.mono (by simp))
  have H1 := Lib.hid (own_at o1)
  clear hs o1 b1
  go_wp2_with fail
  refine (HF.out _).mono ?_
  rintro e w2 ⟨A2, c2, h2⟩
  rw [← HL.out] at h2
  obtain ⟨rfl, o2, b2⟩ := h2
  have hq : (err == err) = true := by simp
  have B2 : Below w.heap.size w w2 := B1.trans (b2.mono B1.size)
  have HA := Lib.hid ((H1.out.below b2).mono b2.size)
  have HB := Lib.hid (own_at o2)
  clear o2 b2
  go_wp2_with fail
  refine (same_any A1 A2 l l c1 c2 _ _ HA.out HB.out hlen hlen).mono ?_
  have hll : (l == l) = true := by simp
  rw [hll]
  rintro e w3 ⟨rfl, ⟨m, rfl⟩⟩
  go_wp2_with fail
  refine (works_any _).mono ?_
  rintro e w4 ⟨rfl, b4⟩
  have B4 : Below w.heap.size w w4 := (below_drewN B2 m).trans (b4.mono (below_drewN B2 m).size)
  go_wp2
  go_ret
  exact ⟨rfl, B4⟩

end Go.Proofs.Ytheiickihjcdlaa
