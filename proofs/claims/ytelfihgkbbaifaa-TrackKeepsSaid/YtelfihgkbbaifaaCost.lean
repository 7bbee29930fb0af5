/- Cost and valid of a record: the program's and the reference's. -/
import Derived.Test.YtelfihgkbbaifaaRec
namespace Go.Proofs.Ytelfihgkbbaifaa
open Go.RowKit
section
variable {w : World}
set_option maxHeartbeats 2000000 in
theorem cost_any (r : Int) (Ak Ad : Option Addr) (nk nd ck cd : Nat) (b : Bool) (w : World) (hk : nk ≤ 1099511627776) (hd : nd ≤ 1099511627776) :
    Calls Try.prog 36 #[.agg #[.int .i64 r, .slice Ak nk ck, .slice Ad nd cd, .bool b]] w fun e w' => e = .returned (.int .i64 (costN nk nd : Nat)) ∧ Below w.heap.size w w' := by
  unfold costN
  go_enter Try.func36, Try.ntmps36
  by_cases h : nk = 0
  · subst h
    go_wp2
    go_ret
    exact ⟨by congr 2, by (repeat' (first | (with_reducible exact Below.refl _ _) | (with_reducible assumption) | (with_reducible refine below_drewN ?_ _) | (with_reducible refine Below.drew ?_) | (with_reducible refine Below.alloc ?_ ?_ _) | (with_reducible refine Below.setCell ?_ ?_ _) | (with_reducible refine below_row ?_ ?_ _) | (with_reducible exact Nat.le_refl _) | omega | (simp only [World.size_alloc, World.size_setCell, World.size_drew, World.size_drewN]; omega) | (simp; done) | (simp; omega)))⟩
  · rw [if_neg h]
    have h1 : ¬ ((nk : Int) = 0) := by omega
    go_wp2
    go_ret
    exact ⟨congrArg (fun z => Ending.returned (.int .i64 z)) (by push_cast; omega), by (repeat' (first | (with_reducible exact Below.refl _ _) | (with_reducible assumption) | (with_reducible refine below_drewN ?_ _) | (with_reducible refine Below.drew ?_) | (with_reducible refine Below.alloc ?_ ?_ _) | (with_reducible refine Below.setCell ?_ ?_ _) | (with_reducible refine below_row ?_ ?_ _) | (with_reducible exact Nat.le_refl _) | omega | (simp only [World.size_alloc, World.size_setCell, World.size_drew, World.size_drewN]; omega) | (simp; done) | (simp; omega)))⟩
set_option maxHeartbeats 2000000 in
theorem rcost_any (r : Int) (Ak Ad : Option Addr) (nk nd ck cd : Nat) (b : Bool) (w : World) (hk : nk ≤ 1099511627776) (hd : nd ≤ 1099511627776) :
    Calls Try.prog 37 #[.agg #[.int .i64 r, .slice Ak nk ck, .slice Ad nd cd, .bool b]] w fun e w' => e = .returned (.int .i64 (costN nk nd : Nat)) ∧ Below w.heap.size w w' := by
  unfold costN
  go_enter Try.func37, Try.ntmps37
  by_cases h : nk = 0
  · subst h
    go_wp2
    go_ret
    exact ⟨by congr 2, by (repeat' (first | (with_reducible exact Below.refl _ _) | (with_reducible assumption) | (with_reducible refine below_drewN ?_ _) | (with_reducible refine Below.drew ?_) | (with_reducible refine Below.alloc ?_ ?_ _) | (with_reducible refine Below.setCell ?_ ?_ _) | (with_reducible refine below_row ?_ ?_ _) | (with_reducible exact Nat.le_refl _) | omega | (simp only [World.size_alloc, World.size_setCell, World.size_drew, World.size_drewN]; omega) | (simp; done) | (simp; omega)))⟩
  · rw [if_neg h]
    have h1 : 0 < (nk : Int) := by omega
    go_wp2
    go_ret
    exact ⟨congrArg (fun z => Ending.returned (.int .i64 z)) (by push_cast; omega), by (repeat' (first | (with_reducible exact Below.refl _ _) | (with_reducible assumption) | (with_reducible refine below_drewN ?_ _) | (with_reducible refine Below.drew ?_) | (with_reducible refine Below.alloc ?_ ?_ _) | (with_reducible refine Below.setCell ?_ ?_ _) | (with_reducible refine below_row ?_ ?_ _) | (with_reducible exact Nat.le_refl _) | omega | (simp only [World.size_alloc, World.size_setCell, World.size_drew, World.size_drewN]; omega) | (simp; done) | (simp; omega)))⟩
theorem valid1_cases (r : Int) (nk : Nat) : (valid1 r nk = false ∧ r < 1) ∨ (valid1 r nk = false ∧ 1 ≤ r ∧ 255 < r) ∨ (valid1 r nk = decide ((nk : Int) ≤ 255) ∧ 1 ≤ r ∧ r ≤ 255) := by
  unfold valid1
  by_cases h1 : r < 1
  · exact .inl ⟨by simp; omega, h1⟩
  · by_cases h2 : 255 < r
    · exact .inr (.inl ⟨by simp; omega, by omega, h2⟩)
    · refine .inr (.inr ⟨?_, by omega, by omega⟩)
      rw [decide_eq_true (by omega : 1 ≤ r), decide_eq_true (by omega : r ≤ 255)]
      simp only [Bool.true_and, decide_eq_decide]
      omega
set_option maxHeartbeats 2000000 in
theorem valid1_any (r : Int) (Ak Ad : Option Addr) (nk nd ck cd : Nat) (b : Bool) (w : World) :
    Calls Try.prog 57 #[.agg #[.int .i64 r, .slice Ak nk ck, .slice Ad nd cd, .bool b]] w fun e w' => e = .returned (.bool (valid1 r nk)) ∧ Below w.heap.size w w' := by
  rcases valid1_cases r nk with ⟨h, h1⟩ | ⟨h, h1, h2⟩ | ⟨h, h1, h2⟩
  all_goals
    rw [h]
    clear h
    go_enter Try.func57, Try.ntmps57
    go_wp2
    go_ret
    exact ⟨rfl, by (repeat' (first | (with_reducible exact Below.refl _ _) | (with_reducible assumption) | (with_reducible refine below_drewN ?_ _) | (with_reducible refine Below.drew ?_) | (with_reducible refine Below.alloc ?_ ?_ _) | (with_reducible refine Below.setCell ?_ ?_ _) | (with_reducible refine below_row ?_ ?_ _) | (with_reducible exact Nat.le_refl _) | omega | (simp only [World.size_alloc, World.size_setCell, World.size_drew, World.size_drewN]; omega) | (simp; done) | (simp; omega)))⟩
set_option maxHeartbeats 2000000 in
theorem record_any (r : Int) (Ak Ad : Option Addr) (nk nd ck cd : Nat) (b : Bool) (w : World) :
    Calls Try.prog 62 #[.agg #[.int .i64 r, .slice Ak nk ck, .slice Ad nd cd, .bool b]] w fun e w' => e = .returned (.bool (valid1 r nk)) ∧ Below w.heap.size w w' := by
  rcases valid1_cases r nk with ⟨h, h1⟩ | ⟨h, h1, h2⟩ | ⟨h, h1, h2⟩
  all_goals
    rw [h]
    clear h
    go_enter Try.func62, Try.ntmps62
    go_wp2
    go_ret
    exact ⟨rfl, by (repeat' (first | (with_reducible exact Below.refl _ _) | (with_reducible assumption) | (with_reducible refine below_drewN ?_ _) | (with_reducible refine Below.drew ?_) | (with_reducible refine Below.alloc ?_ ?_ _) | (with_reducible refine Below.setCell ?_ ?_ _) | (with_reducible refine below_row ?_ ?_ _) | (with_reducible exact Nat.le_refl _) | omega | (simp only [World.size_alloc, World.size_setCell, World.size_drew, World.size_drewN]; omega) | (simp; done) | (simp; omega)))⟩
end
end Go.Proofs.Ytelfihgkbbaifaa
