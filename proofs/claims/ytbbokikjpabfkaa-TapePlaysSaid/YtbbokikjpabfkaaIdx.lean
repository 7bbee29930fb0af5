/- slices.IndexFunc over blocks: the first mark. -/
import Derived.Test.YtbbokikjpabfkaaWrite
namespace Go.Proofs.Ytbbokikjpabfkaa
open Go.RowKit

/-- Where the first mark lies, or -1. -/
def markAt (bs : List Blk) : Int := match bs.findIdx? (·.mark) with | none => -1 | some k => (k : Int)
theorem markAt_some {bs : List Blk} {k : Nat} {b : Blk} (h : ∀ j c, j < k → bs[j]? = some c → c.mark = false) (hb : bs[k]? = some b) (hm : b.mark = true) : bs.findIdx? (·.mark) = some k := by
  rw [List.findIdx?_eq_some_iff_getElem]
  have hk : k < bs.length := by rw [List.getElem?_eq_some_iff] at hb; exact hb.1
  refine ⟨hk, ?_, fun j hj => ?_⟩
  · rw [List.getElem?_eq_getElem hk] at hb; injection hb with hb; rw [hb]; exact hm
  · have := h j bs[j] hj (List.getElem?_eq_getElem (by omega))
    simp [this]
theorem markAt_none {bs : List Blk} (h : ∀ j c, j < bs.length → bs[j]? = some c → c.mark = false) : bs.findIdx? (·.mark) = none := by
  rw [List.findIdx?_eq_none_iff]
  intro b hb
  obtain ⟨j, hj, rfl⟩ := List.getElem_of_mem hb
  exact h j _ hj (List.getElem?_eq_getElem hj)
section
variable {W w w' : World} {F : List SA}
theorem isMark_any (mk bd : Bool) (A : Option Addr) (n c : Nat) (w : World) : Calls Try.prog 54 #[.agg #[.bool mk, .slice A n c, .bool bd]] w fun e w' => e = .returned (.bool mk) ∧ Below w.heap.size w w' := by
  go_enter Try.func54, Try.ntmps54
  go_wp2
  go_ret
  exact ⟨rfl, by (repeat' (first | (with_reducible exact Below.refl _ _) | (with_reducible assumption) | (with_reducible refine below_drewN ?_ _) | (with_reducible refine Below.drew ?_) | (with_reducible refine Below.alloc ?_ ?_ _) | (with_reducible refine Below.setCell ?_ ?_ _) | (with_reducible refine below_row ?_ ?_ _) | (with_reducible exact Nat.le_refl _) | omega | (simp only [World.size_alloc, World.size_setCell, World.size_drew, World.size_drewN]; omega) | (simp; done) | (simp; omega)))⟩
set_option maxHeartbeats 2000000 in
theorem idx_any (A : Option Addr) (bs : List Blk) (c : Nat) (S : SL W F w) (hr : BlksRd W F A bs) (hl : bs.length ≤ 1048576) :
    Calls Try.prog 53 #[.slice A bs.length c, .func (.func 54) #[] #[]] w fun e w' => e = .returned (.int .i64 (markAt bs)) ∧ SL W F w' := by
  have HR := Lib.hid hr
  have HS := Lib.hid S
  clear S hr
  go_enter Try.func53, Try.ntmps53
  go_wp2
  go_loopw [8] (fun i wr => ∃ k : Nat, k ≤ bs.length ∧ i = .int .i64 k ∧ (∀ j c, j < k → bs[j]? = some c → c.mark = false) ∧ SL W F wr) (fun i _ => bs.length - (intOf i).toNat)
  case atStart => exact ⟨0, Nat.zero_le _, rfl, fun j c h => by omega, HS.out⟩
  case round =>
    obtain ⟨k, hk, rfl, hm, S1⟩ := hrel
    have H1 := Lib.hid S1
    have HM := Lib.hid hm
    clear S1 HS hm
    by_cases hlt : k < bs.length
    · have hb : bs[k]? = some bs[k] := by simp [hlt]
      generalize bs[k] = b at hb
      obtain ⟨g, off, A4, c4, hA, k0, k1, k2, a4, h4, h5⟩ := HR.out wr H1.out k b hb
      subst hA
      have HB := Lib.hid hb
      clear hb
      go_wp2_with (refine (isMark_any b.mark b.bad A4 b.data.length c4 wr).mono ?_; rintro e w2 ⟨rfl, b2⟩; have H2 := Lib.hid (H1.out.grow b2); clear b2)
      · rename_i hmk
        go_ret
        refine ⟨?_, H2.out⟩
        unfold markAt
        rw [markAt_some HM.out HB.out hmk]
        rfl
      · rename_i hmk
        go_roundw
        case rel =>
          refine ⟨k + 1, by omega, by go_num, fun j c hj hc => ?_, H2.out⟩
          by_cases e : j = k
          · subst e
            have h := HB.out
            rw [hc] at h
            injection h with h
            rw [h]; exact hmk
          · exact HM.out j c (by omega) hc
        case measure => simp [intOf]; omega
    · obtain rfl : k = bs.length := by omega
      go_wp2
      go_ret
      refine ⟨?_, H1.out⟩
      unfold markAt
      rw [markAt_none HM.out]
      rfl
end
end Go.Proofs.Ytbbokikjpabfkaa
