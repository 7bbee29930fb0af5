/- The unit of the reference; its small functions, and New. -/
import Derived.Test.YtbbokikjpabfkaaLaw
namespace Go.Proofs.Ytbbokikjpabfkaa
open Go.RowKit

/-- What Old, OldAt and Wrote of the reference are: of use only behind a change. -/
structure QOld where
  v : Value
  vo : Value
  wr : Bool
  oa : Int
  obs : List Blk
def QOld.fits (q : QOld) (s : TP) : Prop := ∀ a old blk, s.last = some (a, old, blk) → q.wr = blk ∧ q.oa = (a : Int) ∧ q.obs = s.bs.take a ++ old
def qcells (name : ByteArray) (s : TP) (q : QOld) : Array Value := #[.string name, q.v, .int .i64 (s.pos : Int), .bool s.loaded, .int .i64 (s.sense : Int), .bool s.last.isSome, .bool q.wr, q.vo, .int .i64 q.oa]
def qS (qb : Nat) (name : ByteArray) (s : TP) : SA := fun h => ∃ q : QOld, q.fits s ∧ star [cel qb (qcells name s q) 67, blksS q.v s.bs, blksS q.vo q.obs] h
section
variable {W w w' : World} {F : List SA} {qb : Nat} {name : ByteArray} {s : TP}
theorem qS_open (S : SL W (qS qb name s :: F) w) : ∃ q : QOld, q.fits s ∧ SL W (cel qb (qcells name s q) 67 :: blksS q.v s.bs :: blksS q.vo q.obs :: F) w :=
  S.unpack (α := QOld) (φ := fun q => q.fits s) (K := fun q => [cel qb (qcells name s q) 67, blksS q.v s.bs, blksS q.vo q.obs]) (fun _ p => p)
theorem qS_close {q : QOld} (hq : q.fits s) (S : SL W (cel qb (qcells name s q) 67 :: blksS q.v s.bs :: blksS q.vo q.obs :: F) w) : SL W (qS qb name s :: F) w :=
  SL.pack (L := [cel qb (qcells name s q) 67, blksS q.v s.bs, blksS q.vo q.obs]) S fun _ h => ⟨q, hq, h⟩
theorem fits_none {q : QOld} (h : s.last = none) : q.fits s := fun a o b e => by rw [h] at e; cases e
theorem qfine_any (A : Option Addr) (n c : Nat) (w : World) : Calls Try.prog 46 #[.slice A n c] w fun e w' => e = .returned (.agg #[.slice A n c, .int .i64 12, .int .i64 0]) ∧ Below w.heap.size w w' := by
  go_enter Try.func46, Try.ntmps46
  go_wp2
  exact bodyPost_ret (v := .agg #[.slice A n c, .int .i64 12, .int .i64 0]) (by simp [results, Try.results46, go_sem]) rfl ⟨rfl, by (repeat' (first | (with_reducible exact Below.refl _ _) | (with_reducible assumption) | (with_reducible refine below_drewN ?_ _) | (with_reducible refine Below.drew ?_) | (with_reducible refine Below.alloc ?_ ?_ _) | (with_reducible refine Below.setCell ?_ ?_ _) | (with_reducible refine below_row ?_ ?_ _) | (with_reducible exact Nat.le_refl _) | omega | (simp only [World.size_alloc, World.size_setCell, World.size_drew, World.size_drewN]; omega) | (simp; done) | (simp; omega)))⟩
theorem qexc_any (w : World) : Calls Try.prog 51 #[] w fun e w' => e = .returned (.agg #[.slice none 0 0, .int .i64 13, .int .i64 0]) ∧ Below w.heap.size w w' := by
  go_enter Try.func51, Try.ntmps51
  go_wp2
  exact bodyPost_ret (v := .agg #[.slice none 0 0, .int .i64 13, .int .i64 0]) (by simp [results, Try.results51, go_sem]) rfl ⟨rfl, by (repeat' (first | (with_reducible exact Below.refl _ _) | (with_reducible assumption) | (with_reducible refine below_drewN ?_ _) | (with_reducible refine Below.drew ?_) | (with_reducible refine Below.alloc ?_ ?_ _) | (with_reducible refine Below.setCell ?_ ?_ _) | (with_reducible refine below_row ?_ ?_ _) | (with_reducible exact Nat.le_refl _) | omega | (simp only [World.size_alloc, World.size_setCell, World.size_drew, World.size_drewN]; omega) | (simp; done) | (simp; omega)))⟩
theorem qcheck_any (n : Nat) (S : SL W (qS qb name s :: F) w) : Calls Try.prog 45 #[.pointer (some ⟨qb, 0, none⟩), .int .i64 (n : Int)] w fun e w' => e = .returned (.agg #[.slice none 0 0, .int .i64 14, .int .i64 (n : Int)]) ∧ SL W (qS qb name { s with sense := n } :: F) w' := by
  obtain ⟨q, hq, S1⟩ := qS_open S
  obtain ⟨L, K, z⟩ := S1.look
  have H1 := Lib.hid ((SL.set (off := 4) (v := .int .i64 (n : Int)) (cs' := qcells name { s with sense := n } q) S1 rfl).allocC #[.slice none 0 0, .int .i64 14, .int .i64 (n : Int)] 31)
  have HQ := Lib.hid hq
  clear S S1 hq
  unfold qcells at L
  go_enter Try.func45, Try.ntmps45
  go_wp2
  refine bodyPost_ret (v := .agg #[.slice none 0 0, .int .i64 14, .int .i64 (n : Int)]) (by simp [results, Try.results45, go_sem]) rfl ⟨rfl, ?_⟩
  exact qS_close (s := { s with sense := n }) HQ.out H1.out.drop
theorem qpower_any (S : SL W (qS qb name s :: F) w) : Calls Try.prog 36 #[.pointer (some ⟨qb, 0, none⟩)] w fun e w' => e = .returned (.tuple #[]) ∧ SL W (qS qb name (tpPower s) :: F) w' := by
  obtain ⟨q, hq, S1⟩ := qS_open S
  obtain ⟨L, K, z⟩ := S1.look
  have H1 := Lib.hid ((((S1.set (off := 3) (v := .bool true) rfl).set (off := 2) (v := .int .i64 0) rfl).set (off := 4) (v := .int .i64 0) rfl).set (off := 5) (v := .bool false) (cs' := qcells name (tpPower s) q) rfl)
  clear S S1
  unfold qcells at L
  go_enter Try.func36, Try.ntmps36
  go_wp2
  refine bodyPost_end (v := .tuple #[]) (by simp [results, Try.results36, go_sem]) rfl ⟨rfl, ?_⟩
  exact qS_close (s := tpPower s) (fits_none rfl) H1.out
set_option maxHeartbeats 4000000 in
theorem qblock_any (b : Blk) (A : Option Addr) (c : Nat) (w : World) (hz : b.data.length ≤ 1073741824) : Calls Try.prog 34 #[.agg #[.bool b.mark, .slice A b.data.length c, .bool b.bad]] w fun e w' => e = .returned (.bool (blkOk b)) ∧ Below w.heap.size w w' := by
  obtain ⟨l, mk, bd⟩ := b
  unfold blkOk
  dsimp only at *
  cases mk
  · go_enter Try.func34, Try.ntmps34
    go_wp2
    all_goals
      go_ret
      refine ⟨?_, by (repeat' (first | (with_reducible exact Below.refl _ _) | (with_reducible assumption) | (with_reducible refine below_drewN ?_ _) | (with_reducible refine Below.drew ?_) | (with_reducible refine Below.alloc ?_ ?_ _) | (with_reducible refine Below.setCell ?_ ?_ _) | (with_reducible refine below_row ?_ ?_ _) | (with_reducible exact Nat.le_refl _) | omega | (simp only [World.size_alloc, World.size_setCell, World.size_drew, World.size_drewN]; omega) | (simp; done) | (simp; omega)))⟩
      first
        | (have e : 1 ≤ l.length := by omega
           simp only [e, decide_true, Bool.true_and]
           exact congrArg (fun x => Ending.returned (Value.bool x)) (decide_eq_decide.2 (by omega)))
        | (have e : ¬ 1 ≤ l.length := by omega
           simp only [e, decide_false, Bool.false_and]
           rfl)
  · go_enter Try.func34, Try.ntmps34
    go_wp2
    all_goals
      go_ret
      refine ⟨?_, by (repeat' (first | (with_reducible exact Below.refl _ _) | (with_reducible assumption) | (with_reducible refine below_drewN ?_ _) | (with_reducible refine Below.drew ?_) | (with_reducible refine Below.alloc ?_ ?_ _) | (with_reducible refine Below.setCell ?_ ?_ _) | (with_reducible refine below_row ?_ ?_ _) | (with_reducible exact Nat.le_refl _) | omega | (simp only [World.size_alloc, World.size_setCell, World.size_drew, World.size_drewN]; omega) | (simp; done) | (simp; omega)))⟩
      simp
      try omega
set_option maxHeartbeats 4000000 in
theorem qserial_any (s : ByteArray) (w : World) (hz : s.size ≤ 1073741824) : Calls Try.prog 33 #[.string s] w fun e w' => e = .returned (.bool (serOk s)) ∧ Below w.heap.size w w' := by
  go_enter Try.func33, Try.ntmps33
  go_wp2
  go_loopw [3] (fun i wr => ∃ k : Nat, k ≤ s.size ∧ i = .int .i64 k ∧ (∀ j (h : j < s.size), j < k → serB (s[j]'h)) ∧ wr = w) (fun i _ => s.size - (intOf i).toNat)
  case atStart => exact ⟨0, Nat.zero_le _, rfl, fun j h hj => by omega, rfl⟩
  case round =>
    obtain ⟨k, hk, rfl, hall, rfl⟩ := hrel
    have HA := Lib.hid hall
    clear hall
    by_cases hlt : k < s.size
    · by_cases hin : serB (s[k]'hlt)
      · have HI := Lib.hid hin
        unfold serB at hin
        have hrel2 : ∀ j (h : j < s.size), j < k + 1 → serB (s[j]'h) := fun j h hj => by
          by_cases e : j = k
          · subst e; exact HI.out
          · exact HA.out j h (by omega)
        have HR2 := Lib.hid hrel2
        clear hrel2
        rcases hin with ⟨h1, h2⟩ | ⟨h1, h2⟩
        · go_wp2
          go_roundw
          case rel => exact ⟨k + 1, by omega, by go_num, HR2.out, by first | rfl | trivial⟩
          case measure => simp [intOf]; omega
        · have h3 : (s[k]'hlt).toNat < 65 := by omega
          go_wp2
          all_goals first | (exfalso; simp at *; omega) | skip
          go_roundw
          case rel => exact ⟨k + 1, by omega, by go_num, HR2.out, by first | rfl | trivial⟩
          case measure => simp [intOf]; omega
      · have e1 : serOk s = false := by
          unfold serOk
          rw [decide_eq_false (fun h => hin (h k hlt))]
          rfl
        have E1 := Lib.hid e1
        clear e1
        unfold serB at hin
        have h1 : (s[k]'hlt).toNat < 48 ∨ (57 < (s[k]'hlt).toNat ∧ (s[k]'hlt).toNat < 65) ∨ 90 < (s[k]'hlt).toNat := by omega
        clear hin
        rcases h1 with h1 | ⟨h1, h2⟩ | h1
        · have h2 : (s[k]'hlt).toNat < 65 := by omega
          go_wp2
          all_goals first | (exfalso; simp at *; omega) | skip
          go_ret
          exact ⟨by rw [E1.out]; rfl, Below.refl _ _⟩
        · have h3 : 48 ≤ (s[k]'hlt).toNat := by omega
          go_wp2
          all_goals first | (exfalso; simp at *; omega) | skip
          go_ret
          exact ⟨by rw [E1.out]; rfl, Below.refl _ _⟩
        · have h2 : 65 ≤ (s[k]'hlt).toNat := by omega
          have h3 : 48 ≤ (s[k]'hlt).toNat := by omega
          have h4 : 57 < (s[k]'hlt).toNat := by omega
          go_wp2
          all_goals first | (exfalso; simp at *; omega) | skip
          go_ret
          exact ⟨by rw [E1.out]; rfl, Below.refl _ _⟩
    · obtain rfl : k = s.size := by omega
      have e1 : serOk s = (decide (1 ≤ s.size) && decide (s.size ≤ 6)) := by
        unfold serOk
        rw [decide_eq_true (fun j h => HA.out j h h)]
        rfl
      have E1 := Lib.hid e1
      clear e1
      go_wp2
      all_goals
        go_ret
        refine ⟨?_, Below.refl _ _⟩
        rw [E1.out]
        first
          | (have e : 1 ≤ s.size := by omega
             simp only [e, decide_true, Bool.true_and]
             exact congrArg (fun x => Ending.returned (Value.bool x)) (decide_eq_decide.2 (by omega)))
          | (have e : ¬ 1 ≤ s.size := by omega
             simp only [e, decide_false, Bool.false_and]
             rfl)
end
end Go.Proofs.Ytbbokikjpabfkaa
