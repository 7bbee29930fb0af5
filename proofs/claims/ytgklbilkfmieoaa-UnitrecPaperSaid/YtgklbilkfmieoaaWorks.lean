/- The law's example. -/
import Derived.Test.YtgklbilkfmieoaaPrAll
import Derived.Test.YtgklbilkfmieoaaLawFns
namespace Go.Proofs.Ytgklbilkfmieoaa
open Go.RowKit

deriving instance DecidableEq for PS
def ab : PS := (prDo ⟨0, [], 0⟩ 17 [0xC1, 0xC2]).1
def abc : PS := (prDo ab 1 [0xC3]).1
theorem abc_lines : abc.lines.flatMap lineCells = [.int .i64 1, .int .i64 1, .string ⟨#[65, 66]⟩, .int .i64 1, .int .i64 3, .string ⟨#[67]⟩] := by
  have : abc.lines = [(1, 1, [65, 66]), (1, 3, [67])] := by decide +kernel
  rw [this]; rfl
theorem PrT.le {w : World} {B pb : Nat} (h : B ≤ pb) : ∀ b, PrT w B pb b → B ≤ b := by
  rintro b (rfl | ⟨h1, _⟩)
  · exact h
  · exact h1
/-- Do of bytes that are new -/
theorem pdo_new (pb B : Nat) (s : PS) (op : Int) (cs : Array Value) (l : List UInt8) (n : Nat) (w : World) (hp : PrAt w B pb s) (hg : s.good) (h : cs.toList = Lib.byteCells l) (hn : n = l.length) (hz : l.length ≤ maxLen) :
    Calls Try.prog 15 #[.pointer (some ⟨pb, 0, none⟩), .int .i64 op, .slice (some ⟨w.heap.size, 0, none⟩) n n] (w.alloc (.cells cs 5)) fun e w' =>
      (∃ A c, e = .returned (.agg #[.slice A (prDo s op l).2.1.length c, .int .i64 (prDo s op l).2.2.1, .int .i64 (prDo s op l).2.2.2]) ∧ w'.ownsRow w.heap.size 5 1 (.slice A (prDo s op l).2.1.length c) (prDo s op l).2.1.length (Lib.byteCells (prDo s op l).2.1)) ∧ PrAt w' B pb (prDo s op l).1 ∧ Fr (PrT w B pb) w w' := by
  subst hn
  have ha : At (w.alloc (.cells cs 5)) (w.alloc (.cells cs 5)).heap.size (some ⟨w.heap.size, 0, none⟩) (Lib.byteCells l) := by
    rw [← h]; have := at_news w cs.toList 5; simpa using this
  have b1 : Below w.heap.size w (w.alloc (.cells cs 5)) := (Below.refl _ _).alloc (Nat.le_refl _) _
  refine (pdo_any pb B s op _ l l.length _ (hp.grow b1) hg ha (Nat.le_refl _) hz).mono ?_
  rintro e w2 ⟨⟨A, c, he, h1⟩, h2, h3⟩
  have hpbz : pb < w.heap.size := by obtain ⟨_, _, _, hr, _⟩ := hp; exact hl_lt hr
  refine ⟨⟨A, c, he, own_mono h1 (by simp)⟩, h2, (Fr.of_grow b1 : Fr (PrT w B pb) w _).trans h3 (fun b hb ht => PrT.back hpbz b1 b hb ht)⟩
set_option maxHeartbeats 4000000 in
theorem works_any (w : World) : Calls Try.prog 11 #[] w fun e w' => e = .returned (.bool true) ∧ Below w.heap.size w w' := by
  go_enter Try.func11, Try.ntmps11
  go_wp2_with fail
  refine (pnew_any _).mono ?_
  rintro e w1 ⟨rfl, p1, b1⟩
  have P1 := Lib.hid p1
  clear p1
  generalize hpw : w.heap.size = pb at *
  have hpb : pb < w1.heap.size := by obtain ⟨_, _, _, hr, _⟩ := P1.out; exact hl_lt hr
  have B1 := Lib.hid b1
  clear b1
  go_wp2_with fail
  refine (pdo_new pb pb ⟨0, [], 0⟩ 17 _ [0xC1, 0xC2] 2 _ P1.out ⟨by simp, by simp, by simp⟩ (by rfl) (by rfl) (by simp [maxLen])).mono ?_
  have e1 : prDo ⟨0, [], 0⟩ 17 [0xC1, 0xC2] = (ab, [], 12, 0) := by decide +kernel
  rw [e1]
  rintro e w2 ⟨⟨A, c, rfl, _⟩, p2, b2⟩
  have P2 := Lib.hid p2
  have b2 : Below pb w1 w2 := b2.to_below (fun b _ => PrT.le (Nat.le_refl _) b) (by omega)
  have B2 := Lib.hid (B1.out.trans b2)
  have hpb2 : pb < w2.heap.size := by have := b2.size; omega
  clear p2 b2 e1 P1 B1
  dsimp only [List.length_nil]
  go_wp2_with fail
  obtain ⟨w3, hw3⟩ : ∃ w3, w3 = w2.alloc (.cells #[Value.slice A 0 c, Value.int IntKind.i64 12, Value.int IntKind.i64 0] 36) := ⟨_, rfl⟩
  have b3 : Below w2.heap.size w2 w3 := by rw [hw3]; (repeat' (first | (with_reducible exact Below.refl _ _) | (with_reducible assumption) | (with_reducible refine below_drewN ?_ _) | (with_reducible refine Below.drew ?_) | (with_reducible refine Below.alloc ?_ ?_ _) | (with_reducible refine Below.setCell ?_ ?_ _) | (with_reducible refine below_row ?_ ?_ _) | (with_reducible exact Nat.le_refl _) | omega | (simp only [World.size_alloc, World.size_setCell, World.size_drew, World.size_drewN]; omega) | (simp; done) | (simp; omega)))
  have r3 : w3.heap[w2.heap.size]? = some (.cells #[Value.slice A 0 c, Value.int IntKind.i64 12, Value.int IntKind.i64 0] 36 (0, 0)) := by rw [hw3]; exact hl_new rfl
  have z3 : w2.heap.size + 1 = w3.heap.size := by rw [hw3]; simp
  rw [← hw3, z3]
  have P3 := Lib.hid (P2.out.grow b3)
  have B3 := Lib.hid (B2.out.trans (b3.mono (by omega)))
  generalize w2.heap.size = rb at *
  clear P2 B2 hw3 b3
  refine (pdo_new pb pb ab 1 _ [0xC3] 1 _ P3.out (by unfold PS.good; decide +kernel) (by rfl) (by rfl) (by simp [maxLen])).mono ?_
  have e1 : prDo ab 1 [0xC3] = (abc, [], 12, 0) := by decide +kernel
  rw [e1]
  rintro e w4 ⟨⟨A4, c4, rfl, _⟩, p4, f4⟩
  have P4 := Lib.hid p4
  have b4 : Below pb w3 w4 := f4.to_below (fun b _ => PrT.le (Nat.le_refl _) b) (by omega)
  have B4 := Lib.hid (B3.out.trans b4)
  have r4 := f4.row r3 (by
    rintro (h | ⟨_, ⟨cs, fr, h⟩, _⟩)
    · omega
    · rw [r3] at h; injection h with h; injection h with _ h2 _; revert h2; decide)
  have hpb4 : pb < w4.heap.size := by have := b4.size; omega
  clear p4 f4 b4 e1 P3 B3 r3
  dsimp only [List.length_nil]
  go_wp2_with fail
  refine (ppaper_any pb pb abc _ P4.out (by unfold PS.good; decide +kernel)).mono ?_
  have hl : abc.lines.length = 2 := by decide +kernel
  rw [hl, abc_lines]
  rintro e w5 ⟨A5, c5, rfl, o5, b5⟩
  have r5 := hl_grow b5 r4
  have P5 := Lib.hid (P4.out.grow b5)
  have hpb5 : pb < w5.heap.size := by have := b5.size; omega
  have B5 := Lib.hid (B4.out.trans (b5.mono (by omega)))
  have O5 := Lib.hid o5
  clear r4 b5 P4 B4 o5 hl
  go_wp2_with fail
  refine (pat_any pb pb abc _ P5.out).mono ?_
  have hd : ((abc.down / 60 + 1 : Nat) : Int) = 1 ∧ ((abc.down % 60 + 1 : Nat) : Int) = 3 := by decide +kernel
  rw [hd.1, hd.2]
  rintro e w6 ⟨rfl, ⟨m, rfl⟩⟩
  have O6 := Lib.hid (own_grow O5.out (by (repeat' (first | (with_reducible exact Below.refl _ _) | (with_reducible assumption) | (with_reducible refine below_drewN ?_ _) | (with_reducible refine Below.drew ?_) | (with_reducible refine Below.alloc ?_ ?_ _) | (with_reducible refine Below.setCell ?_ ?_ _) | (with_reducible refine below_row ?_ ?_ _) | (with_reducible exact Nat.le_refl _) | omega | (simp only [World.size_alloc, World.size_setCell, World.size_drew, World.size_drewN]; omega) | (simp; done) | (simp; omega)))) : (w5.drewN m).ownsRow _ _ _ _ _ _)
  obtain ⟨g5, rfl, _, _⟩ := own_head O6.out (by omega)
  have h0 := O6.out.cellAt 0 (by omega)
  have h1 := O6.out.cellAt 1 (by omega)
  have h2 := O6.out.cellAt 2 (by omega)
  have h3 := O6.out.cellAt 3 (by omega)
  have h4 := O6.out.cellAt 4 (by omega)
  have h5 := O6.out.cellAt 5 (by omega)
  simp only [List.getElem?_cons_zero, List.getElem?_cons_succ] at h0 h1 h2 h3 h4 h5
  have r6 := hl_drewN m r5
  obtain ⟨L6, F6, z6⟩ := row_look r6
  have R6 := Lib.hid r6
  clear r5 r6 hd
  have B6 := Lib.hid (show Below pb w (w5.drewN m) by have := B5.out; (repeat' (first | (with_reducible exact Below.refl _ _) | (with_reducible assumption) | (with_reducible refine below_drewN ?_ _) | (with_reducible refine Below.drew ?_) | (with_reducible refine Below.alloc ?_ ?_ _) | (with_reducible refine Below.setCell ?_ ?_ _) | (with_reducible refine below_row ?_ ?_ _) | (with_reducible exact Nat.le_refl _) | omega | (simp only [World.size_alloc, World.size_setCell, World.size_drew, World.size_drewN]; omega) | (simp; done) | (simp; omega))))
  generalize w5.drewN m = w6 at *
  go_wp2
  go_ret
  exact ⟨rfl, by rw [hpw]; exact B6.out⟩
end Go.Proofs.Ytgklbilkfmieoaa
