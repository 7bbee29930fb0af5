/- known of the reference. -/
import Derived.Test.YtbbokikjpabfkaaQMove
namespace Go.Proofs.Ytbbokikjpabfkaa
open Go.RowKit

def knownL : List Int := [1, 2, 3, 4, 7, 12, 15, 23, 31, 39, 47, 55, 63]
section
set_option maxHeartbeats 8000000 in
theorem known_at (op : Int) (v : Bool) (hv : decide (op ∈ knownL) = v) (w : World) : Calls Try.prog 44 #[.int .i64 op] w fun e w' => e = .returned (.bool v) ∧ Below w.heap.size w w' := by
  have HV := Lib.hid hv
  clear hv
  have H1 := Lib.hid ((SL.start w).allocC #[.int .i64 1, .int .i64 2, .int .i64 3, .int .i64 4, .int .i64 7, .int .i64 12, .int .i64 15, .int .i64 23, .int .i64 31, .int .i64 39, .int .i64 47, .int .i64 55, .int .i64 63] 3)
  go_enter Try.func44, Try.ntmps44
  go_wp2
  generalize hb : w.heap.size = xb at *
  go_loopw [4] (fun i wr => ∃ k : Nat, k ≤ 13 ∧ i = .int .i64 k ∧ op ∉ knownL.take k ∧ SL w [cel xb #[.int .i64 1, .int .i64 2, .int .i64 3, .int .i64 4, .int .i64 7, .int .i64 12, .int .i64 15, .int .i64 23, .int .i64 31, .int .i64 39, .int .i64 47, .int .i64 55, .int .i64 63] 3] wr) (fun i _ => 13 - (intOf i).toNat)
  case atStart => exact ⟨0, Nat.zero_le _, rfl, by simp, H1.out⟩
  case round =>
    obtain ⟨k, hk, rfl, hn, S1⟩ := hrel
    have H2 := Lib.hid S1
    have HN := Lib.hid hn
    clear S1 H1 hn
    obtain ⟨L, K, z⟩ := H2.out.look
    by_cases hlt : k < 13
    · obtain ⟨x, hx⟩ : ∃ x, knownL[k]? = some x := ⟨knownL[k]'(by simpa [knownL] using hlt), List.getElem?_eq_getElem _⟩
      have q1 : wr.cell? ⟨xb, k, none⟩ = some (.int .i64 x) := by
        rw [L]
        have e : #[Value.int .i64 1, .int .i64 2, .int .i64 3, .int .i64 4, .int .i64 7, .int .i64 12, .int .i64 15, .int .i64 23, .int .i64 31, .int .i64 39, .int .i64 47, .int .i64 55, .int .i64 63] = (knownL.map fun z => Value.int .i64 z).toArray := rfl
        rw [e, List.getElem?_toArray, List.getElem?_map, hx]
        rfl
      have ht : knownL.take (k + 1) = knownL.take k ++ [x] := by rw [List.take_add_one, hx]; rfl
      have HX := Lib.hid hx
      clear L hx
      by_cases he : x = op
      · subst he
        have hm : decide (x ∈ knownL) = true := by
          rw [decide_eq_true_eq]; exact List.mem_of_getElem? HX.out
        have HM := Lib.hid (hm.symm.trans HV.out)
        clear hm
        go_wp2
        go_ret
        exact ⟨by rw [← HM.out]; rfl, hb ▸ H2.out.1⟩
      · have he' : (x == op) = false := by simpa using he
        have hn2 : op ∉ knownL.take (k + 1) := by
          rw [ht, List.mem_append, List.mem_singleton]
          rintro (h | h)
          · exact HN.out h
          · exact he h.symm
        have HN2 := Lib.hid hn2
        clear hn2
        go_wp2
        go_roundw
        case rel => exact ⟨k + 1, by omega, by go_num, HN2.out, H2.out⟩
        case measure => simp [intOf]; omega
    · obtain rfl : k = 13 := by omega
      have hm : decide (op ∈ knownL) = false := by
        rw [decide_eq_false_iff_not]; exact HN.out
      have HM := Lib.hid (hm.symm.trans HV.out)
      clear hm
      go_wp2
      go_ret
      exact ⟨by rw [← HM.out]; rfl, hb ▸ H2.out.1⟩
end
end Go.Proofs.Ytbbokikjpabfkaa
