/- Find: the program's (slices.IndexFunc with a closure) and the reference's. -/
import Derived.Test.YtmkndbledppniaaGreatValid
namespace Go.Proofs.YtmkndbledppniaaGreat
open Go.RowKit

def idxV : Option Nat → Int
  | some i => (i : Int)
  | none => -1
theorem findIdx_some {α : Type} {p : α → Bool} {l : List α} {k : Nat} {x : α} (hx : l[k]? = some x) (hp : p x = true) (h : ∀ j y, j < k → l[j]? = some y → p y = false) : l.findIdx? p = some k := by
  rw [List.findIdx?_eq_some_iff_getElem]
  obtain ⟨hk, e⟩ := List.getElem?_eq_some_iff.1 hx
  refine ⟨hk, by rw [e]; exact hp, fun j hj => ?_⟩
  have := h j l[j] hj (by simp)
  simpa using this
theorem findIdx_none {α : Type} {p : α → Bool} {l : List α} (h : ∀ j y, j < l.length → l[j]? = some y → p y = false) : l.findIdx? p = none := by
  rw [List.findIdx?_eq_none_iff]
  intro x hx
  obtain ⟨j, hj⟩ := List.mem_iff_getElem?.1 hx
  exact h j x (List.getElem?_eq_some_iff.1 hj).1 hj
section
set_option maxHeartbeats 1000000 in
theorem find1_any (x : Rec) (Ak Ad : Option Addr) (ck cd nb : Nat) (n : Int) (w : World) (hn : w.cell? ⟨nb, 0, none⟩ = some (.int .i64 n)) :
    Calls Tryz.prog 71 #[.agg #[.int .i64 x.r, .slice Ak x.key.length ck, .slice Ad x.data.length cd, .bool x.bad], .pointer (some ⟨nb, 0, none⟩)] w fun e w' => e = .returned (.bool (decide (x.r = n))) ∧ Below w.heap.size w w' := by
  go_enter Tryz.func71, Tryz.ntmps71
  have hz := World.block_lt_of_cell? w _ hn
  have hn' : (w.alloc (.cells #[.int .i64 x.r, .slice Ak x.key.length ck, .slice Ad x.data.length cd, .bool x.bad] 62)).cell? ⟨nb, 0, none⟩ = some (.int .i64 n) :=
    (((Below.refl w.heap.size w).alloc (Nat.le_refl _) _).cell (p := ⟨nb, 0, none⟩) hz).trans hn
  go_wp2
  go_ret
  exact ⟨rfl, by (repeat' (first | (with_reducible exact Below.refl _ _) | (with_reducible assumption) | (with_reducible refine below_drewN ?_ _) | (with_reducible refine Below.drew ?_) | (with_reducible refine Below.alloc ?_ ?_ _) | (with_reducible refine Below.setCell ?_ ?_ _) | (with_reducible refine below_row ?_ ?_ _) | (with_reducible exact Nat.le_refl _) | omega | (simp only [World.size_alloc, World.size_setCell, World.size_drew, World.size_drewN]; omega) | (simp; done) | (simp; omega)))⟩
set_option maxRecDepth 100000 in
set_option maxHeartbeats 4000000 in
theorem indexFind_any (A : Option Addr) (rs : List Rec) (c nb : Nat) (n : Int) (w : World) (hr : RecsAt w A rs) (hl : rs.length ≤ maxLen) (hn : w.cell? ⟨nb, 0, none⟩ = some (.int .i64 n)) :
    Calls Tryz.prog 70 #[.slice A rs.length c, .func (.func 71) #[] #[.pointer (some ⟨nb, 0, none⟩)]] w fun e w' => e = .returned (.int .i64 (idxV (findN rs n))) ∧ Below w.heap.size w w' := by
  have HR := Lib.hid hr
  have hz := World.block_lt_of_cell? w _ hn
  have HN := Lib.hid (fun (wx : World) (hx : Below w.heap.size w wx) => (hx.cell (p := ⟨nb, 0, none⟩) hz).trans hn)
  have hfl : rs.length ≤ 9223372036854775807 := by unfold maxLen at hl; omega
  clear hr hn hl hz
  go_enter Tryz.func70, Tryz.ntmps70
  go_wp2
  go_loopw [8] (fun i wr => ∃ k : Nat, k ≤ rs.length ∧ i = .int .i64 k ∧ (∀ j y, j < k → rs[j]? = some y → decide (y.r = n) = false) ∧ Below w.heap.size w wr) (fun i _ => rs.length - (intOf i).toNat)
  case atStart => exact ⟨0, Nat.zero_le _, rfl, fun j y h => absurd h (by omega), Below.refl _ _⟩
  case round =>
    obtain ⟨k, hk, rfl, hok, b1⟩ := hrel
    have B1 := Lib.hid b1
    have HOK := Lib.hid hok
    clear b1 hok
    by_cases hlt : k < rs.length
    · have hx : rs[k]? = some rs[k] := by simp [hlt]
      generalize rs[k] = x at hx
      obtain ⟨g, off, Ak, ck, Ad, cd, hA, k0, k1, k2, k3, _⟩ := HR.out.grow B1.out k x hx
      subst hA
      have HX := Lib.hid hx
      clear hx
      go_wp2_with fail
      refine (find1_any x Ak Ad ck cd nb n _ (HN.out _ B1.out)).mono ?_
      rintro e w2 ⟨rfl, b2⟩
      have B2 := Lib.hid (B1.out.trans (b2.mono B1.out.size))
      clear b2 k0 k1 k2 k3
      cases hp : decide (x.r = n)
      · have HP := Lib.hid hp
        clear hp
        go_wp2
        go_roundw
        case rel => exact ⟨k + 1, by omega, by go_num, fun j y hj hy => (by
          rcases Nat.lt_succ_iff_lt_or_eq.1 hj with h | rfl
          · exact HOK.out j y h hy
          · have hx := HX.out
            rw [hy] at hx; injection hx with hx; subst hx; exact HP.out), B2.out⟩
        case measure => simp [intOf]; omega
      · have HF := Lib.hid (show findN rs n = some k from findIdx_some HX.out hp HOK.out)
        clear hp
        go_wp2
        go_ret
        exact ⟨by rw [HF.out]; rfl, B2.out⟩
    · obtain rfl : k = rs.length := by omega
      have HF := Lib.hid (show findN rs n = none from findIdx_none HOK.out)
      go_wp2
      go_ret
      exact ⟨by rw [HF.out]; rfl, B1.out⟩
theorem findN_lt {rs : List Rec} {n : Int} {i : Nat} (h : findN rs n = some i) : i < rs.length := by
  unfold findN at h
  rw [List.findIdx?_eq_some_iff_getElem] at h
  exact h.1
set_option maxHeartbeats 2000000 in
theorem find_any (A : Option Addr) (rs : List Rec) (c : Nat) (n : Int) (w : World) (hr : RecsAt w A rs) (hl : rs.length ≤ maxLen) :
    Calls Tryz.prog 42 #[.slice A rs.length c, .int .i64 n] w fun e w' => e = .returned (.tuple #[.int .i64 (((findN rs n).getD 0 : Nat) : Int), .bool (findN rs n).isSome]) ∧ Below w.heap.size w w' := by
  have ba : Below w.heap.size w (w.alloc (.cells #[.int .i64 n] 3)) := (Below.refl _ w).alloc (Nat.le_refl _) _
  have hn : (w.alloc (.cells #[.int .i64 n] 3)).cell? ⟨w.heap.size, 0, none⟩ = some (.int .i64 n) := (row_look (hl_new rfl)).1 0
  have HI := Lib.hid (indexFind_any A rs c w.heap.size n _ (hr.grow ba) hl hn)
  have BA := Lib.hid ba
  have hlt : ∀ i, findN rs n = some i → i < rs.length := fun i => findN_lt
  have hfl : rs.length ≤ 9223372036854775807 := by unfold maxLen at hl; omega
  clear hr ba hn
  generalize findN rs n = f at *
  go_enter Tryz.func42, Tryz.ntmps42
  go_wp2_with fail
  refine HI.out.mono ?_
  rintro e w2 ⟨rfl, b2⟩
  have B2 := Lib.hid (BA.out.trans (b2.mono BA.out.size))
  clear b2 HI BA
  cases f with
  | none =>
    simp only [idxV]
    go_wp2
    go_ret2
    exact ⟨rfl, B2.out⟩
  | some i =>
    have := hlt i rfl
    clear hlt
    simp only [idxV]
    have hm : max (i : Int) 0 = (i : Int) := by omega
    have h0 : (0 : Int) ≤ (i : Int) := by omega
    go_wp2
    go_ret2
    exact ⟨rfl, B2.out⟩
end
end Go.Proofs.YtmkndbledppniaaGreat
