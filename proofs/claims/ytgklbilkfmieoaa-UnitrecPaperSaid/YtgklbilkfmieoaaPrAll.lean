/- The program's printer: Do, At, PowerUp, NewPrinter, Paper; a nil printer. -/
import Derived.Test.YtgklbilkfmieoaaPrDo
import Derived.Deep.QuietTactic
namespace Go.Proofs.Ytgklbilkfmieoaa
open Go.RowKit Job.Ebcdic

set_option maxRecDepth 100000 in
set_option maxHeartbeats 2000000 in
/-- Do -/
theorem pdo_any (pb B : Nat) (s : PS) (op : Int) (A : Option Addr) (l : List UInt8) (c : Nat) (w : World) (hp : PrAt w B pb s) (hg : s.good) (ha : At w w.heap.size A (Lib.byteCells l)) (hlc : l.length ≤ c) (hz : l.length ≤ maxLen) :
    Calls Try.prog 15 #[.pointer (some ⟨pb, 0, none⟩), .int .i64 op, .slice A l.length c] w fun e w' =>
      RetR (prDo s op l).2.1 (prDo s op l).2.2.1 (prDo s op l).2.2.2 w e w' ∧ PrAt w' B pb (prDo s op l).1 ∧ Fr (PrT w B pb) w w' := by
  have HC := Lib.hid (fun (w' : World) (h : Below w.heap.size w w') => pcommand_any pb B s op A l c w' (hp.grow h) hg ((ha.below h).mono h.size) hlc hz)
  have hpbz : pb < w.heap.size := by obtain ⟨_, _, _, hr, _⟩ := hp; exact hl_lt hr
  have hne : ¬ w.heap.size = pb := by omega
  generalize prDo s op l = r at *
  obtain ⟨s1, rd, st, sn⟩ := r
  dsimp only at *
  clear hp hg ha
  go_enter Try.func15, Try.ntmps15
  go_wp2_with fail
  refine (HC.out _ (by (repeat' (first | (with_reducible exact Below.refl _ _) | (with_reducible assumption) | (with_reducible refine below_drewN ?_ _) | (with_reducible refine Below.drew ?_) | (with_reducible refine Below.alloc ?_ ?_ _) | (with_reducible refine Below.setCell ?_ ?_ _) | (with_reducible refine below_row ?_ ?_ _) | (with_reducible exact Nat.le_refl _) | omega | (simp only [World.size_alloc, World.size_setCell, World.size_drew, World.size_drewN]; omega) | (simp; done) | (simp; omega))))).mono ?_
  rintro e w1 ⟨⟨A1, c1, rfl, o1⟩, p1, f1⟩
  have q0 : (w.alloc (.cells #[.slice none 0 0, .int .i64 0, .int .i64 0] 36)).heap[w.heap.size]? = some (.cells #[.slice none 0 0, .int .i64 0, .int .i64 0] 36 (0, 0)) := hl_new rfl
  have q1 := f1.row q0 (fun h => by
    rcases h with h | ⟨_, ⟨cs, fr, h⟩, _⟩
    · exact hne h
    · rw [q0] at h; injection h with h; injection h with _ h _; exact absurd h (by decide))
  have F1 : Fr (PrT w B pb) w w1 := ((Fr.refl _ w).alloc _).trans f1 (fun b hb ht => PrT.back hpbz ((Below.refl _ _).alloc (Nat.le_refl _) _) b hb ht)
  have ho1 : (Value.slice A1 rd.length c1).ownBlock ≠ some w.heap.size := own_row_ne o1 q1 (by decide)
  have O1 := Lib.hid (own_mono o1 (by simp : w.heap.size ≤ _))
  obtain ⟨L1, K1, z1⟩ := row_look q1
  have P1 := Lib.hid p1
  have Q1 := Lib.hid q1
  clear q0 q1 f1 p1 o1
  go_wp2
  refine name_world (P := bodyPost _ _ _ _ _) ?_
  intro wf hwf
  have ff : Fr (fun b => b = w.heap.size) w1 wf := by
    rw [hwf]
    exact (((Fr.refl (fun b => b = w.heap.size) w1).setCell (fun _ => rfl) _).setCell (fun _ => rfl) _).setCell (fun _ => rfl) _
  have rf : wf.heap[w.heap.size]? = some (.cells #[.slice A1 rd.length c1, .int .i64 st, .int .i64 sn] 36 (0, 0)) := by
    rw [hwf]
    exact hl_set (cs := #[.slice A1 rd.length c1, .int .i64 st, .int .i64 0]) (by rfl) (hl_set (cs := #[.slice A1 rd.length c1, .int .i64 0, .int .i64 0]) (by rfl) (hl_set (by rfl) Q1.out))
  clear hwf
  obtain ⟨Lf, _, _⟩ := row_look rf
  refine bodyPost_ret (v := .agg #[.slice A1 rd.length c1, .int .i64 st, .int .i64 sn]) (by simp [results, Try.results15, go_sem, Lf]) rfl ⟨⟨_, _, rfl, ?_⟩, ?_, ?_⟩
  · exact ff.own O1.out (fun g hg e => ho1 (by rw [hg, e]))
  · exact P1.out.at_block ff Q1.out (by decide) (by decide)
  · exact F1.trans ff (fun b hb e => absurd e (by omega))

set_option maxHeartbeats 2000000 in
theorem pdo_nil (op : Int) (v : Value) (w : World) :
    Calls Try.prog 15 #[.pointer none, .int .i64 op, v] w fun e w' => e = .returned (.agg #[.slice none 0 0, .int .i64 14, .int .i64 64]) ∧ Below w.heap.size w w' := by
  go_enter Try.func15, Try.ntmps15
  go_wp2_with fail
  refine (check_any _ _).mono ?_
  rintro e w1 ⟨rfl, b1⟩
  obtain ⟨r1, z1, b1'⟩ := alloc_call b1
  obtain ⟨L1, F1, _⟩ := row_look r1
  clear r1 b1
  go_wp2
  refine bodyPost_ret (v := .agg #[.slice none 0 0, .int .i64 14, .int .i64 64]) (by simp [results, Try.results15, go_sem, L1]) rfl ⟨rfl, by (repeat' (first | (with_reducible exact Below.refl _ _) | (with_reducible assumption) | (with_reducible refine below_drewN ?_ _) | (with_reducible refine Below.drew ?_) | (with_reducible refine Below.alloc ?_ ?_ _) | (with_reducible refine Below.setCell ?_ ?_ _) | (with_reducible refine below_row ?_ ?_ _) | (with_reducible exact Nat.le_refl _) | omega | (simp only [World.size_alloc, World.size_setCell, World.size_drew, World.size_drewN]; omega) | (simp; done) | (simp; omega)))⟩

set_option maxHeartbeats 1000000 in
theorem pat_any (pb B : Nat) (s : PS) (w : World) (hp : PrAt w B pb s) :
    Calls Try.prog 19 #[.pointer (some ⟨pb, 0, none⟩)] w fun e w' => e = .returned (.tuple #[.int .i64 ((s.down / 60 + 1 : Nat) : Int), .int .i64 ((s.down % 60 + 1 : Nat) : Int)]) ∧ Still w w' := by
  obtain ⟨hB, A1, c1, hr, ho⟩ := hp
  obtain ⟨L, F, z⟩ := row_look hr
  have c2 : w.cell? ⟨pb, 2, none⟩ = some (.int .i64 ((s.down / 60 + 1 : Nat) : Int)) := L 2
  have c3 : w.cell? ⟨pb, 3, none⟩ = some (.int .i64 ((s.down % 60 + 1 : Nat) : Int)) := L 3
  generalize ((s.down / 60 + 1 : Nat) : Int) = x at *
  generalize ((s.down % 60 + 1 : Nat) : Int) = y at *
  clear L F hr ho
  go_enter Try.func19, Try.ntmps19
  go_wp2
  go_quiet (fail)
  go_wp2
  go_ret2
  exact ⟨rfl, by first | exact still_1 _ _ | exact still_2 _ _ _⟩
set_option maxHeartbeats 1000000 in
theorem pat_nil (w : World) : Calls Try.prog 19 #[.pointer none] w fun e w' => e = .returned (.tuple #[.int .i64 0, .int .i64 0]) ∧ w = w' := by
  go_enter Try.func19, Try.ntmps19
  go_wp2
  go_ret2
  exact ⟨rfl, rfl⟩
set_option maxHeartbeats 1000000 in
theorem reset_any (pb : Nat) (x : Value) (w : World) (h : w.cell? ⟨pb, 0, none⟩ = some x) (hf : w.frozen? ⟨pb, 0, none⟩ = false) :
    Calls Try.prog 46 #[.pointer (some ⟨pb, 0, none⟩)] w fun e w' => e = .returned (.tuple #[]) ∧ w.setCell ⟨pb, 0, none⟩ (.int .i64 0) = w' := by
  go_enter Try.func46, Try.ntmps46
  go_wp2
  go_end0
  exact ⟨rfl, rfl⟩
set_option maxHeartbeats 1000000 in
theorem ppower_any (pb B : Nat) (s : PS) (w : World) (hp : PrAt w B pb s) :
    Calls Try.prog 14 #[.pointer (some ⟨pb, 0, none⟩)] w fun e w' => e = .returned (.tuple #[]) ∧ PrAt w' B pb { s with sense := 0 } ∧ Fr (fun b => b = pb) w w' := by
  obtain ⟨hB, A1, c1, hr, ho⟩ := hp
  obtain ⟨L, F, z⟩ := row_look hr
  have hob := own_row_ne ho hr (by decide)
  have HO := Lib.hid ho
  have R := Lib.hid hr
  have hc0 : w.cell? ⟨pb, 0, none⟩ = some (.int .i64 (s.sense : Int)) := L 0
  have hf0 : w.frozen? ⟨pb, 0, none⟩ = false := F 0
  clear hr ho L F
  go_enter Try.func14, Try.ntmps14
  go_wp2_with (go_at_call 46; refine (reset_any pb _ _ hc0 hf0).mono ?_; rintro e w1 ⟨rfl, rfl⟩)
  go_end0
  have ff : Fr (fun b => b = pb) w (w.setCell ⟨pb, 0, none⟩ (.int .i64 0)) := (Fr.refl (fun b => b = pb) w).setCell (fun _ => rfl) _
  exact ⟨rfl, ⟨hB, A1, c1, hl_set (by rfl) R.out, ff.own HO.out (fun g hg e => hob (by rw [← e]; exact hg))⟩, ff⟩
set_option maxHeartbeats 1000000 in
theorem ppower_nil (w : World) : Calls Try.prog 14 #[.pointer none] w fun e w' => e = .returned (.tuple #[]) ∧ w = w' := by
  go_enter Try.func14, Try.ntmps14
  go_wp2
  go_end0
  exact ⟨rfl, rfl⟩
set_option maxHeartbeats 1000000 in
theorem pnew_any (w : World) : Calls Try.prog 13 #[] w fun e w' => e = .returned (.pointer (some ⟨w.heap.size, 0, none⟩)) ∧ PrAt w' w.heap.size w.heap.size ⟨0, [], 0⟩ ∧ Below w.heap.size w w' := by
  go_enter Try.func13, Try.ntmps13
  go_wp2
  go_ret
  exact ⟨rfl, ⟨Nat.le_refl _, none, 0, hl_new rfl, World.ownsRow_nil _ _ _ _⟩, by (repeat' (first | (with_reducible exact Below.refl _ _) | (with_reducible assumption) | (with_reducible refine below_drewN ?_ _) | (with_reducible refine Below.drew ?_) | (with_reducible refine Below.alloc ?_ ?_ _) | (with_reducible refine Below.setCell ?_ ?_ _) | (with_reducible refine below_row ?_ ?_ _) | (with_reducible exact Nat.le_refl _) | omega | (simp only [World.size_alloc, World.size_setCell, World.size_drew, World.size_drewN]; omega) | (simp; done) | (simp; omega)))⟩

set_option maxHeartbeats 1000000 in
theorem ppaper_nil (w : World) : Calls Try.prog 21 #[.pointer none] w fun e w' => e = .returned (.slice none 0 0) ∧ w = w' := by
  go_enter Try.func21, Try.ntmps21
  go_wp2
  go_ret
  exact ⟨rfl, rfl⟩
theorem lineCells_one (l : List (Nat × Nat × List UInt8)) : ∀ u ∈ l.flatMap lineCells, u.oneCell' = true := by
  intro u hu
  obtain ⟨x, _, hx⟩ := List.mem_flatMap.1 hu
  simp [lineCells] at hx
  rcases hx with rfl | rfl | rfl <;> rfl
set_option maxHeartbeats 1000000 in
theorem ppaper_any (pb B : Nat) (s : PS) (w : World) (hp : PrAt w B pb s) (hg : s.good) :
    Calls Try.prog 21 #[.pointer (some ⟨pb, 0, none⟩)] w fun e w' => ∃ A c, e = .returned (.slice A s.lines.length c) ∧
      w'.ownsRow w.heap.size 45 3 (.slice A s.lines.length c) s.lines.length (s.lines.flatMap lineCells) ∧ Below w.heap.size w w' := by
  obtain ⟨hB, A1, c1, hr, ho⟩ := hp
  obtain ⟨L, F, z⟩ := row_look hr
  have g1 : s.lines.length ≤ 8192 := hg.1
  have HA := Lib.hid (own_at3 ho)
  have HN := Lib.hid (lineCells_len s.lines)
  clear hr ho
  go_enter Try.func21, Try.ntmps21
  go_wp2_with (at_builtin; refine wpList_append_at (by rfl) _ _ _ (by rfl) lineElem w.heap.size _ 0 [] (by rfl) (World.ownsRow_nil _ _ _ _) w.heap.size A1 s.lines.length c1 _ (by rfl) HA.out HN.out (lineCells_one _) (by unfold maxLen; omega) (by omega) (Nat.le_refl _) ?_; intro A3 c3 w3 o3 g3)
  rw [Nat.zero_add, List.nil_append] at o3
  have O3 := Lib.hid o3
  have B3 : Below w.heap.size w w3 := (Below.refl _ _).grown g3 (Nat.le_refl _) (by intro k hk; simp [Value.ownBlock] at hk)
  clear o3 g3
  go_wp2
  go_ret
  exact ⟨_, _, rfl, O3.out, B3⟩
end Go.Proofs.Ytgklbilkfmieoaa
