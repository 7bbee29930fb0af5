/- isSerial, isBlock. -/
import Derived.Test.YtbbokikjpabfkaaUndo
import Derived.Laws.RangeAny
namespace Go.Proofs.Ytbbokikjpabfkaa
open Go.RowKit

/-- A capital letter or a digit. -/
def serB (b : UInt8) : Prop := (65 ≤ b.toNat ∧ b.toNat ≤ 90) ∨ (48 ≤ b.toNat ∧ b.toNat ≤ 57)
instance (b : UInt8) : Decidable (serB b) := inferInstanceAs (Decidable (_ ∨ _))
def serOk (s : ByteArray) : Bool := decide (∀ k (h : k < s.size), serB (s[k]'h)) && (decide (1 ≤ s.size) && decide (s.size ≤ 6))
section
variable {W w w' : World} {F : List SA}
set_option maxHeartbeats 4000000 in
theorem isserial_any (s : ByteArray) (w : World) (hz : s.size ≤ 1073741824) : Calls Try.prog 27 #[.string s] w fun e w' => e = .returned (.bool (serOk s)) ∧ Below w.heap.size w w' := by
  go_enter Try.func27, Try.ntmps27
  go_wp2
  go_loopw [] (fun wr => ∃ k : Nat, k ≤ s.size ∧ (∀ j (h : j < s.size), j < k → serB (s[j]'h)) ∧ wr = w.iter s k) (fun wr => s.size - wr.iterPos w.heap.size)
  case atStart => exact ⟨0, Nat.zero_le _, fun j h hj => by omega, rfl⟩
  case round =>
    obtain ⟨k, hk, hall, rfl⟩ := hrel
    have HA := Lib.hid hall
    clear hall
    by_cases hlt : k < s.size
    · by_cases ha : (s[k]'hlt).toNat < 128
      · have hnx := fun ty => run_next_ascii (P := Try.prog) w s k ty hlt ha
        by_cases hin : serB (s[k]'hlt)
        · have HI := Lib.hid hin
          unfold serB at hin
          generalize (s[k]'hlt).toNat = z at hin ha hnx
          have t1 : decide ((z : Int) < 48) = false := by simp; omega
          have t2 : decide ((z : Int) > 90) = false := by simp; omega
          by_cases h65 : 65 ≤ z
          · have t3 : decide ((z : Int) < 65) = false := by simp; omega
            have h90 : z ≤ 90 := by omega
            clear hin
            go_wp2
            go_roundw
            case rel =>
              refine ⟨k + 1, by omega, fun j h hj => ?_, rfl⟩
              by_cases e : j = k
              · subst e; exact HI.out
              · exact HA.out j h (by omega)
            case measure => simp; omega
          · have h57 : z ≤ 57 := by omega
            have h48 : 48 ≤ z := by omega
            have t3 : decide ((z : Int) < 65) = true := by simp; omega
            clear hin
            go_wp2
            go_roundw
            case rel =>
              refine ⟨k + 1, by omega, fun j h hj => ?_, rfl⟩
              by_cases e : j = k
              · subst e; exact HI.out
              · exact HA.out j h (by omega)
            case measure => simp; omega
        · have e1 : serOk s = false := by
            unfold serOk
            rw [decide_eq_false (fun h => hin (h k hlt))]
            rfl
          have E1 := Lib.hid e1
          clear e1
          unfold serB at hin
          generalize (s[k]'hlt).toNat = z at hin ha hnx
          have h1 : (z < 48 ∨ 57 < z) ∧ (z < 65 ∨ 90 < z) := by omega
          clear hin
          obtain ⟨h1 | h1, h2 | h2⟩ := h1
          all_goals
            go_wp2
            all_goals
              go_ret
              exact ⟨by rw [E1.out]; rfl, (Below.refl _ _).alloc (Nat.le_refl _) _⟩
      · have hnx := fun ty => run_next_any (P := Try.prog) w s k ty hlt
        have hge := (decode_high s k hlt (by omega)).1
        have hle := decode_le s k
        have e1 : serOk s = false := by
          unfold serOk
          rw [decide_eq_false (fun h => ?_)]
          · rfl
          · have := h k hlt
            unfold serB at this
            omega
        have E1 := Lib.hid e1
        clear e1
        generalize (Utf8.decode s k).1 = z at hge hle hnx
        generalize (Utf8.decode s k).2 = z2 at hnx
        clear ha
        go_wp2
        go_ret
        exact ⟨by rw [E1.out]; rfl, (Below.refl _ _).alloc (Nat.le_refl _) _⟩
    · obtain rfl : k = s.size := by omega
      have hnx := fun ty => run_next_end (P := Try.prog) w s s.size ty hlt
      have e1 : serOk s = (decide (1 ≤ s.size) && decide (s.size ≤ 6)) := by
        unfold serOk
        rw [decide_eq_true (fun j h => HA.out j h h)]
        rfl
      have E1 := Lib.hid e1
      clear e1
      go_wp2
      all_goals
        go_ret
        refine ⟨?_, (Below.refl _ _).alloc (Nat.le_refl _) _⟩
        rw [E1.out]
        first
          | (have e : 1 ≤ s.size := by omega
             simp only [e, decide_true, Bool.true_and]
             exact congrArg (fun x => Ending.returned (Value.bool x)) (decide_eq_decide.2 (by omega)))
          | (have e : ¬ 1 ≤ s.size := by omega
             simp only [e, decide_false, Bool.false_and]
             rfl)
theorem isblock_any (b : Blk) (A : Option Addr) (c : Nat) (w : World) (hz : b.data.length ≤ 1073741824) : Calls Try.prog 28 #[.agg #[.bool b.mark, .slice A b.data.length c, .bool b.bad]] w fun e w' => e = .returned (.bool (if b.mark then decide (b.data.length = 0) && !b.bad else decide (1 ≤ b.data.length) && decide (b.data.length ≤ 1024))) ∧ Below w.heap.size w w' := by
  obtain ⟨l, mk, bd⟩ := b
  dsimp only at *
  cases mk
  · go_enter Try.func28, Try.ntmps28
    go_wp2
    all_goals
      go_ret
      refine ⟨?_, by (repeat' (first | (with_reducible exact Below.refl _ _) | (with_reducible assumption) | (with_reducible refine below_drewN ?_ _) | (with_reducible refine Below.drew ?_) | (with_reducible refine Below.alloc ?_ ?_ _) | (with_reducible refine Below.setCell ?_ ?_ _) | (with_reducible refine below_row ?_ ?_ _) | (with_reducible exact Nat.le_refl _) | omega | (simp only [World.size_alloc, World.size_setCell, World.size_drew, World.size_drewN]; omega) | (simp; done) | (simp; omega)))⟩
      first
        | (have e : 1 ≤ l.length := by omega
           simp only [e, decide_true, Bool.true_and]
           exact congrArg (fun x => Ending.returned (Value.bool x)) (decide_eq_decide.2 (by omega)))
        | (have e : ¬ 1 ≤ l.length := by omega
           simp only [e, decide_false, Bool.false_and]
           rfl)
  · go_enter Try.func28, Try.ntmps28
    go_wp2
    all_goals
      go_ret
      refine ⟨?_, by (repeat' (first | (with_reducible exact Below.refl _ _) | (with_reducible assumption) | (with_reducible refine below_drewN ?_ _) | (with_reducible refine Below.drew ?_) | (with_reducible refine Below.alloc ?_ ?_ _) | (with_reducible refine Below.setCell ?_ ?_ _) | (with_reducible refine below_row ?_ ?_ _) | (with_reducible exact Nat.le_refl _) | omega | (simp only [World.size_alloc, World.size_setCell, World.size_drew, World.size_drewN]; omega) | (simp; done) | (simp; omega)))⟩
      simp
      try omega
end
end Go.Proofs.Ytbbokikjpabfkaa
