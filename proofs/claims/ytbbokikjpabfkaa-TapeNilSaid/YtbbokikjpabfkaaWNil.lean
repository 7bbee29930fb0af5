/- The walk of TapeNil. -/
import Derived.Test.YtbbokikjpabfkaaNil
import Derived.Test.YtbbokikjpabfkaaArgs
namespace Go.Proofs.Ytbbokikjpabfkaa
open Go.RowKit

def zeroTP : TP := ⟨[], 0, false, 0, none⟩
theorem zero_ok : zeroTP.ok := ⟨Nat.le_refl _, by decide, fun b hb => by simp [zeroTP] at hb, by decide, fun a o b e => by cases e⟩
theorem blks_nil {W w : World} {F : List SA} (S : SL W F w) : SL W (blksS (.slice none 0 0) [] :: F) w := blksS_close (ps := []) ((SL.empty S).nilT _ _)
set_option maxHeartbeats 8000000 in
theorem walk_tapeNil (W : World) (a0 a1 : Int) (c2 : CardV) (a3 : Int) (_w0 : (Lit.int .i64 a0).wf = true) (_w1 : (Lit.int .i64 a1).wf = true) (_w3 : (Lit.int .i64 a3).wf = true) (g2 : CardV.good W W.heap.size c2) :
    Calls Try.prog 9 #[.agg #[.int .i64 a0, .int .i64 a1, cardV c2, .int .i64 a3]] W fun e w' => e = .returned (.bool true) ∧ Below W.heap.size W w' := by
  obtain ⟨A, l, c⟩ := c2
  obtain ⟨_, hlc, hcm⟩ := g2
  dsimp only [cardV] at *
  have hz : l.length ≤ 9223372036854775807 := by unfold maxLen at hcm; omega
  clear hlc hcm
  have HW := Lib.hid works_any
  by_cases hbig : 1100 < l.length
  · go_enter Try.func9, Try.ntmps9
    go_wp2
    go_ret
    exact ⟨rfl, by (repeat' (first | (with_reducible exact Below.refl _ _) | (with_reducible assumption) | (with_reducible refine below_drewN ?_ _) | (with_reducible refine Below.drew ?_) | (with_reducible refine Below.alloc ?_ ?_ _) | (with_reducible refine Below.setCell ?_ ?_ _) | (with_reducible refine below_row ?_ ?_ _) | (with_reducible exact Nat.le_refl _) | omega | (simp only [World.size_alloc, World.size_setCell, World.size_drew, World.size_drewN]; omega) | (simp; done) | (simp; omega)))⟩
  · have H0 : Hid (SL W (cel (W.heap.size + 1 + 1) #[.pointer none, .pointer (some ⟨W.heap.size + 1, 0, none⟩)] 26 :: tapeS (W.heap.size + 1) nilBytes zeroTP :: cel W.heap.size #[.int .i64 a0, .int .i64 a1, .slice A l.length c, .int .i64 a3] 45 :: [])
        (((W.alloc (.cells #[.int .i64 a0, .int .i64 a1, .slice A l.length c, .int .i64 a3] 45)).alloc (.cells #[.string nilBytes, .slice none 0 0, .int .i64 0, .bool false, .int .u8 0, .pointer none] 57)).alloc (.cells #[.pointer none, .pointer (some ⟨W.heap.size + 1, 0, none⟩)] 26))) := Lib.hid (by
      have h := ((SL.start W).allocC #[.int .i64 a0, .int .i64 a1, .slice A l.length c, .int .i64 a3] 45).allocC #[.string nilBytes, .slice none 0 0, .int .i64 0, .bool false, .int .u8 0, .pointer none] 57
      have h2 := tapeS_close (s := zeroTP) (lastS_none (blks_nil h).s1).b2
      have h3 := h2.allocC #[.pointer none, .pointer (some ⟨W.heap.size + 1, 0, none⟩)] 26
      simp only [World.size_alloc] at h3
      exact h3)
    go_enter Try.func9, Try.ntmps9
    go_wp2
    have HS := H0.out.s1.s2
    generalize W.heap.size + 1 + 1 = lb at *
    generalize W.heap.size + 1 = tb at *
    clear H0
    have H0 := Lib.hid HS
    clear HS
    have t0 : ((⟨#[]⟩ : ByteArray) != ⟨#[]⟩) = false := bytes_ne _
    go_loopw [5] (fun i wr => ∃ k : Nat, k ≤ 2 ∧ i = .int .i64 k ∧ SL W (cel W.heap.size #[.int .i64 a0, .int .i64 a1, .slice A l.length c, .int .i64 a3] 45 :: tapeS tb nilBytes zeroTP :: cel lb #[.pointer none, .pointer (some ⟨tb, 0, none⟩)] 26 :: []) wr) (fun i _ => 2 - (intOf i).toNat)
    case atStart => exact ⟨0, by omega, rfl, H0.out⟩
    case round =>
      obtain ⟨k, hk, rfl, S1⟩ := hrel
      have H1 := Lib.hid S1
      clear S1 H0
      obtain ⟨L1, K1, z1⟩ := H1.out.look
      obtain ⟨L2, K2, z2⟩ := H1.out.s2.look
      rcases k with _ | _ | k
      · go_wp2_with (first
          | ((with_reducible refine (power_nil _).mono ?_); rintro e w3 ⟨rfl, rfl⟩; have H3 := Lib.hid (H2.out.alloc (.cells #[.slice none 0 0, .int .i64 14, .int .i64 64] 31)).drop; obtain ⟨L1, K1, z1⟩ := H2.out.look)
          | ((with_reducible refine (undo_nil _ _).mono ?_); rintro e w3 ⟨rfl, rfl⟩)
          | ((with_reducible refine (loaded_nil _).mono ?_); rintro e w3 ⟨rfl, rfl⟩)
          | ((with_reducible refine (at_nil _).mono ?_); rintro e w3 ⟨rfl, rfl⟩)
          | ((with_reducible refine (serial_nil _).mono ?_); rintro e w3 ⟨rfl, rfl⟩)
          | ((with_reducible refine (blocks_nil _).mono ?_); rintro e w3 ⟨rfl, rfl⟩)
          | ((with_reducible refine (do_nil _ _ _ _ H1.out).mono ?_); rintro e w2 ⟨rfl, S2⟩; have H2 := Lib.hid S2; clear S2 L1 K1 z1))
        go_roundw
        case rel => exact ⟨1, by omega, by go_num, H3.out⟩
        case measure => simp [intOf]
      · have HN := H1.out.s1
        go_wp2_with (first
          | ((with_reducible refine (blocks_any H7.out zero_ok.fit).mono ?_); rintro e w8 ⟨v8, rfl, S8⟩; obtain ⟨A8, c8, rfl, _, _⟩ := blksS_slice S8; dsimp only [zeroTP, List.length_nil]; have H8 := Lib.hid S8.drop; clear S8 H7)
          | ((with_reducible refine (serial_any H6.out).mono ?_); rintro e w7 ⟨rfl, S7⟩; have H7 := Lib.hid S7; clear S7 H6)
          | ((with_reducible refine (at_any H5.out).mono ?_); rintro e w6 ⟨rfl, S6⟩; dsimp only [zeroTP]; have H6 := Lib.hid S6; clear S6 H5)
          | ((with_reducible refine (loaded_any H4.out).mono ?_); rintro e w5 ⟨rfl, S5⟩; dsimp only [zeroTP]; have H5 := Lib.hid S5; clear S5 H4)
          | ((with_reducible refine (undo_false a3 (Or.inr (Or.inr rfl)) H3.out).mono ?_); rintro e w4 ⟨rfl, S4⟩; have H4 := Lib.hid S4; clear S4 H3)
          | ((with_reducible refine (power_un (SL.drop (SL.alloc H2.out _))).mono ?_); rintro e w3 ⟨rfl, rfl⟩; have H3 := Lib.hid (H2.out.alloc (.cells #[.slice none 0 0, .int .i64 14, .int .i64 64] 31)).drop; obtain ⟨L1, K1, z1⟩ := H2.out.s1.look)
          | ((with_reducible refine (do_un _ _ _ _ HN).mono ?_); rintro e w2 ⟨rfl, S2⟩; have H2 := Lib.hid S2; clear S2 L1 K1 z1 HN))
        go_roundw
        case rel => exact ⟨2, by omega, by go_num, H8.out.s1⟩
        case measure => simp [intOf]
      · obtain rfl : k = 0 := by omega
        go_wp2_with ((with_reducible refine (HW.out _).mono ?_); rintro e w2 ⟨rfl, b2⟩; have H2 := Lib.hid (H1.out.grow b2))
        go_ret
        exact ⟨rfl, H2.out.below⟩
end Go.Proofs.Ytbbokikjpabfkaa
