/- The law's light. -/
import Derived.Test.YtgklbilkfmieoaaActs
import Derived.Test.YtgklbilkfmieoaaLawFns
namespace Go.Proofs.Ytgklbilkfmieoaa
open Go.RowKit

def fewB (xs : List CardV) : Bool := xs.all (fun x => decide (x.2.1.length ≤ 200)) && decide (xs.length ≤ 20)
theorem few_cards (C : Option Addr) (xs : List CardV) (cc : Nat) (w : World) (B : Nat) (ha : At w B C (xs.map cardV)) (hl : xs.length ≤ cc) (hc : cc ≤ maxLen) (hx : ∀ x ∈ xs, CardV.good w B x) :
    Calls Try.prog 35 #[.slice C xs.length cc] w fun e w' => e = .returned (.bool (fewB xs)) ∧ w = w' := by
  have := few_any C (xs.map fun x => (x.1, x.2.1.length, x.2.2)) cc w B (by rw [List.map_map]; exact ha) (by simp; omega) (by
    intro x hm
    obtain ⟨y, hy, rfl⟩ := List.mem_map.1 hm
    have := hx y hy
    exact Nat.le_trans this.2.1 this.2.2)
  rw [List.length_map] at this
  refine this.mono ?_
  rintro e w' ⟨rfl, rfl⟩
  exact ⟨by unfold fewB; rw [List.all_map]; rfl, rfl⟩

def ActV.lightB (a : ActV) : Bool := decide (a.data.2.1.length ≤ 400) && fewB a.cards
def lightB (l : List ActV) : Bool := l.all ActV.lightB && decide (l.length ≤ 200)

theorem acts_get (l : List ActV) (k i : Nat) (hk : k < l.length) (hi : i < 4) : (l.flatMap actCells)[k * 4 + i]? = (actCells l[k])[i]? := by
  induction l generalizing k with
  | nil => simp at hk
  | cons x l ih =>
    rw [List.flatMap_cons]
    cases k with
    | zero => rw [Nat.zero_mul, Nat.zero_add, List.getElem?_append_left (by simpa [actCells] using hi)]; rfl
    | succ k => rw [List.getElem?_append_right (by simp [actCells]; omega), show (k + 1) * 4 + i - (actCells x).length = k * 4 + i by simp [actCells]; omega, ih k (by simpa using hk)]; rfl
/-- The cells of the k-th act. -/
theorem act_cell {w : World} {B : Nat} {a : Option Addr} {l : List ActV} (h : At w B a (l.flatMap actCells)) {k : Nat} (hk : k < l.length) :
    ∃ b off, a = some ⟨b, off, none⟩ ∧ b < B ∧ w.cell? ⟨b, off + k * 4, none⟩ = some (.int .u8 (l[k].kind.toNat : Int)) ∧ w.cell? ⟨b, off + k * 4 + 1, none⟩ = some (.int .i64 l[k].op) ∧
      w.cell? ⟨b, off + k * 4 + 2, none⟩ = some (cardV l[k].data) ∧ w.cell? ⟨b, off + k * 4 + 3, none⟩ = some (.slice l[k].C l[k].cards.length l[k].cc) := by
  obtain ⟨b, off, e, hb, hc⟩ := h (by
    intro h0
    have := acts_get l k 0 hk (by omega)
    rw [h0] at this
    simp [actCells] at this)
  refine ⟨b, off, e, hb, ?_, ?_, ?_, ?_⟩
  · exact hc (k * 4) _ (by have := acts_get l k 0 hk (by omega); simpa [actCells] using this)
  · exact hc (k * 4 + 1) _ (by rw [acts_get l k 1 hk (by omega)]; rfl)
  · exact hc (k * 4 + 2) _ (by rw [acts_get l k 2 hk (by omega)]; rfl)
  · exact hc (k * 4 + 3) _ (by rw [acts_get l k 3 hk (by omega)]; rfl)

set_option maxHeartbeats 1000000 in
theorem light_any (a : Option Addr) (l : List ActV) (cap : Nat) (w : World) (B : Nat) (ha : At w B a (l.flatMap actCells)) (hl : l.length ≤ maxLen) (hx : ∀ x ∈ l, ActV.good w B x) :
    Calls Try.prog 12 #[.slice a l.length cap] w fun e w' => e = .returned (.bool (lightB l)) ∧ Still w w' := by
  unfold maxLen at hl
  have HX := Lib.hid hx
  have HA := Lib.hid ha
  clear hx ha
  go_enter Try.func12, Try.ntmps12
  go_wp2
  go_loopw [3] (fun i wr => ∃ k : Nat, k ≤ l.length ∧ i = .int .i64 k ∧ (l.take k).all ActV.lightB = true ∧ Still w wr) (fun i _ => l.length - (intOf i).toNat)
  case atStart => exact ⟨0, Nat.zero_le _, rfl, by simp, ⟨0, rfl⟩⟩
  case round =>
    obtain ⟨k, hk, rfl, hall, hst⟩ := hrel
    obtain ⟨m, rfl⟩ := hst
    have HALL := Lib.hid hall
    clear hall
    by_cases hlt : k < l.length
    · have hgood := HX.out l[k] (List.getElem_mem hlt)
      obtain ⟨b, off, rfl, hb, c0, c1, c2, c3⟩ := act_cell HA.out hlt
      have HK := Lib.hid (List.take_succ_eq_append_getElem hlt)
      have HG := Lib.hid (List.getElem_mem hlt)
      generalize l[k] = x at *
      obtain ⟨kd, op, ⟨A1, d1, e1⟩, C, cards, cc⟩ := x
      simp only [cardV] at c2 c3
      have HGD := Lib.hid hgood
      have hd : d1.length ≤ 9223372036854775807 := by have := hgood.1.2.1; have := hgood.1.2.2; unfold maxLen at this; simp only at *; omega
      have HF := Lib.hid (fun (wx : World) (hb : Below B w wx) => few_cards C cards cc wx B (hgood.2.1.below hb) hgood.2.2.1 hgood.2.2.2.1 (fun x hx => (hgood.2.2.2.2 x hx).below hb))
      clear hgood HGD
      by_cases h4 : 400 < d1.length
      · go_wp2
        go_ret
        refine ⟨ret_bool ?_, ⟨m, rfl⟩⟩
        unfold lightB
        symm
        rw [Bool.and_eq_false_iff]
        left
        rw [List.all_eq_false]
        exact ⟨_, HG.out, by simp [ActV.lightB]; omega⟩
      · go_wp2_with fail
        refine (HF.out _ (by (repeat' (first | (with_reducible exact Below.refl _ _) | (with_reducible assumption) | (with_reducible refine below_drewN ?_ _) | (with_reducible refine Below.drew ?_) | (with_reducible refine Below.alloc ?_ ?_ _) | (with_reducible refine Below.setCell ?_ ?_ _) | (with_reducible refine below_row ?_ ?_ _) | (with_reducible exact Nat.le_refl _) | omega | (simp only [World.size_alloc, World.size_setCell, World.size_drew, World.size_drewN]; omega) | (simp; done) | (simp; omega))))).mono ?_
        rintro e w' ⟨rfl, rfl⟩
        cases hfb : fewB cards
        · go_wp2
          go_ret
          refine ⟨ret_bool ?_, ⟨m, rfl⟩⟩
          unfold lightB
          symm
          rw [Bool.and_eq_false_iff]
          left
          rw [List.all_eq_false]
          exact ⟨_, HG.out, by simp [ActV.lightB, hfb]⟩
        · go_wp2
          go_roundw
          case rel => exact ⟨k + 1, by omega, by go_num, by rw [HK.out, List.all_append, HALL.out]; simp [ActV.lightB, hfb]; omega, ⟨m, rfl⟩⟩
          case measure => simp [intOf]; omega
    · obtain rfl : k = l.length := by omega
      have h := HALL.out
      rw [List.take_length] at h
      have HH := Lib.hid h
      clear h
      go_wp2
      go_ret
      exact ⟨ret_bool (by unfold lightB; rw [HH.out, Bool.true_and, Bool.eq_iff_iff]; simp; omega), ⟨m, rfl⟩⟩
end Go.Proofs.Ytgklbilkfmieoaa
