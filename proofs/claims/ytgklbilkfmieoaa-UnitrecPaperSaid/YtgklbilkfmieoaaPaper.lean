/- The plain law of the printer's paper, and the law's later and four. -/
import Derived.Test.YtgklbilkfmieoaaLawPr
namespace Go.Proofs.Ytgklbilkfmieoaa
open Go.RowKit Job.Ebcdic

/-- Where a line stands, in rows from the top. -/
def linePos (x : Nat × Nat × List UInt8) : Nat := (x.1 - 1) * 60 + (x.2.1 - 1)
def PS.tidy (s : PS) : Prop := (∀ x ∈ s.lines, 1 ≤ x.1 ∧ 1 ≤ x.2.1 ∧ x.2.1 ≤ 60 ∧ linePos x ≤ s.down) ∧ s.lines.Pairwise (fun a b => linePos a ≤ linePos b)
theorem prMove_ge (d n : Nat) : d ≤ prMove d n := by unfold prMove; split <;> omega
theorem tidy_move {s : PS} (h : s.tidy) (n : Nat) : (s.move n).tidy :=
  ⟨fun x hx => by obtain ⟨h1, h2, h3, h4⟩ := h.1 x hx; exact ⟨h1, h2, h3, Nat.le_trans h4 (prMove_ge _ _)⟩, h.2⟩
theorem linePos_at (d : Nat) (t : List UInt8) : linePos (d / 60 + 1, d % 60 + 1, t) = d := by simp [linePos]; omega
theorem tidy_write {s : PS} (h : s.tidy) (l : List UInt8) : (s.write l).tidy := by
  refine ⟨fun x hx => ?_, ?_⟩
  · simp only [PS.write, List.mem_append, List.mem_singleton] at hx
    rcases hx with hx | rfl
    · exact h.1 x hx
    · exact ⟨by simp, by simp, by simp only; omega, Nat.le_of_eq (linePos_at _ _)⟩
  · simp only [PS.write, List.pairwise_append]
    refine ⟨h.2, by simp, fun x hx y hy => ?_⟩
    obtain rfl := List.mem_singleton.1 hy
    rw [linePos_at]
    exact (h.1 x hx).2.2.2
theorem prDo_tidy {s : PS} (h : s.tidy) (op : Int) (l : List UInt8) : (prDo s op l).1.tidy := by
  unfold prDo
  split
  · exact h
  · split
    · exact h
    · show (prOwn s op l).1.tidy
      unfold prOwn
      split
      · exact h
      · split
        · exact h
        · split
          · exact h
          · split
            · exact h
            · exact tidy_move (tidy_write h l) _
        · exact tidy_move h _
theorem prDo_lines (s : PS) (op : Int) (l : List UInt8) : (prDo s op l).1.lines = s.lines ∨ (∃ x, (prDo s op l).1.lines = s.lines ++ [x]) ∧ (prDo s op l).2.2 = (12, 0) := by
  unfold prDo
  split
  · exact .inl rfl
  · split
    · exact .inl rfl
    · show (prOwn s op l).1.lines = s.lines ∨ (∃ x, (prOwn s op l).1.lines = s.lines ++ [x]) ∧ (prOwn s op l).2.2 = (12, 0)
      unfold prOwn
      split
      · exact .inl rfl
      · split
        · exact .inl rfl
        · split
          · exact .inl rfl
          · split
            · exact .inl rfl
            · exact .inr ⟨⟨_, rfl⟩, rfl⟩
        · exact .inl rfl
theorem later_of_pos {a b c d : Nat} (h2 : 1 ≤ b) (h3 : b ≤ 60) (h0 : 1 ≤ a) (h1 : 1 ≤ c) (h4 : 1 ≤ d) (h5 : d ≤ 60) (h : (a - 1) * 60 + (b - 1) ≤ (c - 1) * 60 + (d - 1)) : a < c ∨ a = c ∧ b ≤ d := by omega

set_option maxHeartbeats 1000000 in
theorem later_any (a b c d : Nat) (t u : Value) (w : World) (h : a < c ∨ a = c ∧ b ≤ d) :
    Calls Try.prog 23 #[.agg #[.int .i64 (a : Int), .int .i64 (b : Int), t], .agg #[.int .i64 (c : Int), .int .i64 (d : Int), u]] w fun e w' => e = .returned (.bool true) ∧ Below w.heap.size w w' := by
  by_cases h1 : a < c
  · have h2 : (a : Int) < (c : Int) := by omega
    go_enter Try.func23, Try.ntmps23
    go_wp2
    go_ret
    exact ⟨rfl, by (repeat' (first | (with_reducible exact Below.refl _ _) | (with_reducible assumption) | (with_reducible refine below_drewN ?_ _) | (with_reducible refine Below.drew ?_) | (with_reducible refine Below.alloc ?_ ?_ _) | (with_reducible refine Below.setCell ?_ ?_ _) | (with_reducible refine below_row ?_ ?_ _) | (with_reducible exact Nat.le_refl _) | omega | (simp only [World.size_alloc, World.size_setCell, World.size_drew, World.size_drewN]; omega) | (simp; done) | (simp; omega)))⟩
  · obtain ⟨rfl, h2⟩ : a = c ∧ b ≤ d := by omega
    have h3 : (b : Int) ≤ (d : Int) := by omega
    go_enter Try.func23, Try.ntmps23
    go_wp2
    go_ret
    exact ⟨rfl, by (repeat' (first | (with_reducible exact Below.refl _ _) | (with_reducible assumption) | (with_reducible refine below_drewN ?_ _) | (with_reducible refine Below.drew ?_) | (with_reducible refine Below.alloc ?_ ?_ _) | (with_reducible refine Below.setCell ?_ ?_ _) | (with_reducible refine below_row ?_ ?_ _) | (with_reducible exact Nat.le_refl _) | omega | (simp only [World.size_alloc, World.size_setCell, World.size_drew, World.size_drewN]; omega) | (simp; done) | (simp; omega)))⟩
theorem lfour_any (k : Nat) (hk : k ≤ 16777215) (w : World) : Calls Try.prog 25 #[.int .i64 (k : Int)] w fun e w' => ∃ A c, e = .returned (.slice A 4 c) ∧ w'.ownsRow w.heap.size 5 1 (.slice A 4 c) 4 (Lib.byteCells (four k)) ∧ Below w.heap.size w w' := by
  go_enter Try.func25, Try.ntmps25
  go_wp2
  go_ret
  refine ⟨_, _, rfl, ?_, by (repeat' (first | (with_reducible exact Below.refl _ _) | (with_reducible assumption) | (with_reducible refine below_drewN ?_ _) | (with_reducible refine Below.drew ?_) | (with_reducible refine Below.alloc ?_ ?_ _) | (with_reducible refine Below.setCell ?_ ?_ _) | (with_reducible refine below_row ?_ ?_ _) | (with_reducible exact Nat.le_refl _) | omega | (simp only [World.size_alloc, World.size_setCell, World.size_drew, World.size_drewN]; omega) | (simp; done) | (simp; omega)))⟩
  have h := own_lit1 w 5 #[Value.int .u8 ((k : Int) / 16777216), .int .u8 ((k : Int) / 65536), .int .u8 ((k : Int) / 256 % 256), .int .u8 ((k : Int) % 256)] 4 rfl (by decide)
  rw [four_cells k hk]
  exact h
end Go.Proofs.Ytgklbilkfmieoaa
