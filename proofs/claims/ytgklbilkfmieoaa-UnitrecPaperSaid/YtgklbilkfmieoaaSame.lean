import Derived.Test.YtgklbilkfmieoaaBase
namespace Go.Proofs.Ytgklbilkfmieoaa
open Go.RowKit

theorem take_all_eq (l m : List UInt8) (k : Nat) (hk : k < l.length) (hm : k < m.length) (h : l.take k = m.take k) (he : l[k] = m[k]) : l.take (k + 1) = m.take (k + 1) := by
  rw [List.take_succ_eq_append_getElem hk, List.take_succ_eq_append_getElem hm, h, he]

set_option maxHeartbeats 1000000 in
theorem same_any (A C : Option Addr) (l m : List UInt8) (c d : Nat) (w : World) (B : Nat) (ha : At w B A (Lib.byteCells l)) (hc : At w B C (Lib.byteCells m)) (hl : l.length ≤ maxLen) (hm : m.length ≤ maxLen) :
    Calls Try.prog 24 #[.slice A l.length c, .slice C m.length d] w fun e w' => e = .returned (.bool (l == m)) ∧ Still w w' := by
  unfold maxLen at hl hm
  by_cases hlen : l.length = m.length
  · have hbb : ((l.length : Int) != (m.length : Int)) = false := by simp [hlen]
    have HL := Lib.hid hlen
    clear hlen
    go_enter Try.func24, Try.ntmps24
    go_wp2
    go_loopw [5] (fun i wr => ∃ k n : Nat, k ≤ l.length ∧ i = .int .i64 k ∧ l.take k = m.take k ∧ wr = w.drewN n) (fun i _ => l.length - (intOf i).toNat)
    case atStart => exact ⟨0, 0, Nat.zero_le _, rfl, by simp, rfl⟩
    case round =>
      obtain ⟨k, n, hk, rfl, heq, rfl⟩ := hrel
      have HE := Lib.hid heq
      clear heq
      by_cases hlt : k < l.length
      · have hltm : k < m.length := by have := HL.out; omega
        obtain ⟨b, off, rfl, _, hca⟩ := ha.cell (byteCells_get l k hlt)
        obtain ⟨b2, off2, rfl, _, hcb⟩ := hc.cell (byteCells_get m k hltm)
        by_cases he : l[k] = m[k]
        · have hb : (((l[k].toNat : Int)) != (m[k].toNat : Int)) = false := by simp [he]
          have HK := Lib.hid he
          clear he
          go_wp2
          go_quiet (fail)
          go_wp2
          go_roundw
          case rel => exact ⟨k + 1, n + nq, by omega, by go_num, take_all_eq l m k hlt hltm HE.out HK.out, rfl⟩
          case measure => simp [intOf]; omega
        · have hb : (((l[k].toNat : Int)) != (m[k].toNat : Int)) = true := by
            rw [bne_iff_ne]; exact fun h => he (UInt8.toNat_inj.1 (by exact_mod_cast h))
          have HK := Lib.hid he
          clear he
          go_wp2
          go_quiet (fail)
          go_wp2
          go_ret
          refine ⟨ret_bool ?_, by first | exact still_1 _ _ | exact still_2 _ _ _⟩
          symm
          rw [beq_eq_false_iff_ne]
          rintro rfl
          exact HK.out rfl
      · have hge : m.length = k := by have := HL.out; omega
        have HG := Lib.hid hge
        clear hge
        go_wp2
        go_ret
        refine ⟨ret_bool ?_, by first | exact still_1 _ _ | exact still_2 _ _ _⟩
        symm
        have h1 := HE.out
        rw [List.take_of_length_le (by omega), List.take_of_length_le (by have := HG.out; omega)] at h1
        rw [h1]; simp
  · have hbb : ((l.length : Int) != (m.length : Int)) = true := by simp; omega
    go_enter Try.func24, Try.ntmps24
    go_wp2
    go_ret
    refine ⟨ret_bool ?_, still_refl _⟩
    symm
    rw [beq_eq_false_iff_ne]
    rintro rfl
    exact hlen rfl

end Go.Proofs.Ytgklbilkfmieoaa
