import Derived.Test.YtheiickihjcdlaaWord
namespace Go.Proofs.Ytheiickihjcdlaa
open Go.RowKit

/-- The eight bytes of a word. -/
def word8 (f addr a b count : Nat) : List UInt8 := [UInt8.ofNat f, UInt8.ofNat (addr / 65536), UInt8.ofNat (addr / 256), UInt8.ofNat addr, UInt8.ofNat a, UInt8.ofNat b, UInt8.ofNat (count / 256), UInt8.ofNat count]

theorem u8_small (a : Nat) (h : a < 256) : Value.int .u8 (a : Int) = .int .u8 ((UInt8.ofNat a).toNat : Int) := by
  rw [UInt8.toNat_ofNat', Nat.mod_eq_of_lt (by omega)]
theorem byteCells_set (l : List UInt8) (k : Nat) (x : UInt8) : (Lib.byteCells l).set k (.int .u8 (x.toNat : Int)) = Lib.byteCells (l.set k x) := by
  simp [Lib.byteCells, List.map_set]
theorem ofNat_congr {a b : Nat} (h : a % 256 = b % 256) : UInt8.ofNat a = UInt8.ofNat b := by
  apply UInt8.toNat_inj.1; rw [UInt8.toNat_ofNat', UInt8.toNat_ofNat']; exact h
theorem word8_made (f addr a b count : Nat) (_hf : f < 256) (_ha : addr < 16777216) : patch (((patch (List.replicate 8 0) 0 (be4 (f * 16777216 + addr))).set 4 (UInt8.ofNat a)).set 5 (UInt8.ofNat b)) 6 (be2 count) = word8 f addr a b count := by
  have h1 : UInt8.ofNat ((f * 16777216 + addr) / 16777216) = UInt8.ofNat f := ofNat_congr (by omega)
  have h2 : UInt8.ofNat ((f * 16777216 + addr) / 65536) = UInt8.ofNat (addr / 65536) := ofNat_congr (by omega)
  have h3 : UInt8.ofNat ((f * 16777216 + addr) / 256) = UInt8.ofNat (addr / 256) := ofNat_congr (by omega)
  have h4 : UInt8.ofNat (f * 16777216 + addr) = UInt8.ofNat addr := ofNat_congr (by omega)
  unfold word8 be4 be2
  rw [h1, h2, h3, h4]
  rfl
theorem word_join (f addr : Nat) (hf : f < 256) (ha : addr < 16777216) : bits BinOp.or IntKind.u32 ((f : Int) * 16777216) (addr : Int) = ((f * 16777216 + addr : Nat) : Int) := by
  rw [show (f : Int) * 16777216 = ((f * 16777216 : Nat) : Int) by omega, u32_or_nat _ _ (by omega) (by omega), nat_join 24 _ _ (by omega) (by omega)]
def zeros8 : List UInt8 := List.replicate 8 0
theorem zeros_cells (n : Nat) : (madeCells #[Value.int .u8 0] n).toList = Lib.byteCells (List.replicate n 0) := by
  rw [toList_madeCells_one]; simp [Lib.byteCells]

set_option maxHeartbeats 1000000 in
/-- ccw.eight -/
theorem eight_any (f addr a b count : Nat) (hf : f < 256) (ha : addr < 16777216) (ha1 : a < 256) (hb1 : b < 256) (hc : count < 65536) (w : World) :
    Calls Try.prog 27 #[.int .u8 (f : Int), .int .i64 (addr : Int), .int .u8 (a : Int), .int .u8 (b : Int), .int .i64 (count : Int)] w fun e w' =>
      ∃ A c, e = .returned (.slice A 8 c) ∧ w'.ownsRow w.heap.size 5 1 (.slice A 8 c) 8 (Lib.byteCells (word8 f addr a b count)) ∧ Below w.heap.size w w' := by
  have hmk : ∀ w : World, (Instr.makeSlice 27 (.int .i64 8) (.int .i64 8)).run Try.prog w = .ok (.slice (some ⟨w.heap.size, 0, none⟩) 8 8) (w.alloc (.cells (Lib.byteCells zeros8).toArray 5)) := fun _ => by kernel_rfl
  have hjoin := word_join f addr hf ha
  have HJ := Lib.hid hjoin
  clear hjoin
  go_enter Try.func27, Try.ntmps27
  go_wp2_with fail
  rw [HJ.out]
  have hpf := fun w' h => putFull_yes (some ⟨w.heap.size, 0, none⟩) zeros8 8 0 (f * 16777216 + addr) (by omega) w' h (by decide) (by decide)
  rw [show zeros8.length = 8 from rfl] at hpf
  refine (hpf _ ((at_lit w zeros8 5).mono (by simp))).mono ?_
  rintro e w2 ⟨A2, c2, rfl, o2, b2⟩
  obtain ⟨g, rfl, hg, hgl⟩ := own_head o2 (by decide)
  have h8 := (own_cap o2).1
  obtain ⟨v4, hv4⟩ : ∃ v, w2.cell? ⟨g, 4, none⟩ = some v := by
    rw [o2.cellAt 4 (by omega)]
    exact ⟨_, List.getElem?_eq_getElem (by rw [o2.1]; omega)⟩
  obtain ⟨v5, hv5⟩ : ∃ v, w2.cell? ⟨g, 5, none⟩ = some v := by
    rw [o2.cellAt 5 (by omega)]
    exact ⟨_, List.getElem?_eq_getElem (by rw [o2.1]; omega)⟩
  have f4 := o2.frozenAt 4
  have f5 := o2.frozenAt 5
  have B2 : Below w.heap.size w w2 := ((Below.refl _ _).alloc (Nat.le_refl _) _).trans (b2.mono (by simp))
  have hgw : w.heap.size ≤ g := by simp at hg; omega
  have o4 := ((o2.stored 4 (.int .u8 (a : Int))).1.stored 5 (.int .u8 (b : Int))).1
  rw [u8_small a ha1, u8_small b hb1, byteCells_set, byteCells_set, ← u8_small a ha1, ← u8_small b hb1] at o4
  have B4 : Below w.heap.size w ((w2.setCell ⟨g, 4, none⟩ (.int .u8 (a : Int))).setCell ⟨g, 5, none⟩ (.int .u8 (b : Int))) := (B2.setCell hgw _).setCell hgw _
  have O4 := Lib.hid o4
  have HB4 := Lib.hid B4
  clear o2 o4 b2 B2 B4 hpf hmk
  go_wp2_with fail
  generalize hL : ((patch zeros8 0 (be4 (f * 16777216 + addr))).set 4 (UInt8.ofNat a)).set 5 (UInt8.ofNat b) = L at O4
  have hLl : L.length = 8 := by rw [← hL]; rfl
  have hph := fun w' h => putHalf_yes (some ⟨g, 0, none⟩) L c2 6 count (by omega) w' h (by omega) (by omega)
  rw [hLl] at hph
  refine (hph _ (own_at O4.out)).mono ?_
  rintro e w5 ⟨A5, c5, rfl, o5, b5⟩
  have hw8 : patch L 6 (be2 count) = word8 f addr a b count := by rw [← hL]; exact word8_made f addr a b count hf ha
  rw [hw8] at o5
  have B5 : Below w.heap.size w w5 := HB4.out.trans (b5.mono HB4.out.size)
  have O5 := Lib.hid (own_mono o5 HB4.out.size)
  clear o5 b5 hph hL hLl hw8 HB4 O4 hv4 hv5 f4 f5
  go_wp2
  go_ret
  exact ⟨_, _, rfl, O5.out, B5⟩

end Go.Proofs.Ytheiickihjcdlaa
