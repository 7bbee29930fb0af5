/- The reference's printer: own and Do. -/
import Derived.Test.YtgklbilkfmieoaaQr
namespace Go.Proofs.Ytgklbilkfmieoaa
open Go.RowKit Job.Ebcdic

set_option maxHeartbeats 2000000 in
theorem rown_count (qb B : Nat) (s : PS) (A : Option Addr) (n c : Nat) (w : World) (hp : QrAt w B qb s) (hg : s.good) :
    Calls Try.prog 51 #[.pointer (some ⟨qb, 0, none⟩), .int .i64 20, .slice A n c] w fun e w' => RetR (four s.lines.length) 12 0 w e w' ∧ Below w.heap.size w w' := by
  obtain ⟨hB, A1, c1, hr, ho⟩ := hp
  have hn : s.lines.length ≤ 8192 := hg.1
  obtain ⟨L, F, z⟩ := row_look hr
  generalize s.lines.length = k at *
  clear hr ho
  go_enter Try.func51, Try.ntmps51
  go_wp2_with fail
  refine (rfour_any k (by omega) _).mono ?_
  rintro e w1 ⟨A2, c2, rfl, o2, b2⟩
  obtain ⟨r1, z1, b1⟩ := alloc_call b2
  have O2 := Lib.hid (own_mono o2 (by simp : w.heap.size ≤ _))
  have hne2 : (Value.slice A2 4 c2).ownBlock ≠ some w.heap.size := own_row_ne o2 r1 (by decide)
  have R1 := Lib.hid r1
  clear o2 b2 r1
  go_wp2_with fail
  refine (rnormal_any _ _ _ _ rfl _).mono ?_
  rintro e w3 ⟨rfl, b3⟩
  obtain ⟨L3, F3, _⟩ := row_look (hl_grow b3 R1.out)
  have B3 : Below w.heap.size w w3 := b1.trans (b3.mono (by omega))
  have O3 := Lib.hid (own_grow O2.out b3)
  clear b3 b1 L F
  go_wp2
  refine bodyPost_ret (v := .agg #[.slice A2 4 c2, .int .i64 12, .int .i64 0]) (by simp [results, Try.results51, go_sem, L3]) rfl ⟨⟨_, _, rfl, ?_⟩, by (repeat' (first | (with_reducible exact Below.refl _ _) | (with_reducible assumption) | (with_reducible refine below_drewN ?_ _) | (with_reducible refine Below.drew ?_) | (with_reducible refine Below.alloc ?_ ?_ _) | (with_reducible refine Below.setCell ?_ ?_ _) | (with_reducible refine below_row ?_ ?_ _) | (with_reducible exact Nat.le_refl _) | omega | (simp only [World.size_alloc, World.size_setCell, World.size_drew, World.size_drewN]; omega) | (simp; done) | (simp; omega)))⟩
  exact own_far (own_far (own_far O3.out hne2 _) hne2 _) hne2 _

set_option maxHeartbeats 2000000 in
theorem rown_rej (qb : Nat) (op : Int) (A : Option Addr) (n c : Nat) (hz : n ≤ maxLen) (w : World) (h20 : op ≠ 20) (hm : prMoves op = none ∨ ∃ k, prMoves op = some (k, true) ∧ 132 < n) :
    Calls Try.prog 51 #[.pointer (some ⟨qb, 0, none⟩), .int .i64 op, .slice A n c] w fun e w' => RetR [] 14 128 w e w' ∧ Below w.heap.size w w' := by
  have t0 : (op == 20) = false := by rw [beq_eq_false_iff_ne]; exact h20
  unfold maxLen at hz
  obtain ⟨x, y, hv, hd⟩ : ∃ (x : Int) (y : Bool), movesV op = (x, y) ∧ (x < 0 ∨ 0 ≤ x ∧ y = true ∧ 132 < n) := by
    rcases hm with h | ⟨k, h, hk⟩
    · exact ⟨-1, false, by unfold movesV; rw [h], .inl (by omega)⟩
    · exact ⟨k, true, by unfold movesV; rw [h], .inr ⟨by omega, rfl, hk⟩⟩
  have HM := Lib.hid (moves_any op)
  rw [hv] at HM
  clear hm h20 hv
  rcases hd with hx | ⟨hx, rfl, hk⟩
  all_goals
    go_enter Try.func51, Try.ntmps51
    go_wp2_with fail
    refine (HM.out _).mono ?_
    rintro e w1 ⟨rfl, rfl⟩
    go_wp2_with fail
    refine (rcheck_any _ _).mono ?_
    rintro e w1 ⟨rfl, b1⟩
    obtain ⟨r1, z1, b1'⟩ := alloc_call b1
    obtain ⟨L1, F1, _⟩ := row_look r1
    clear r1 b1
    go_wp2
    refine bodyPost_ret (v := .agg #[.slice none 0 0, .int .i64 14, .int .i64 128]) (by simp [results, Try.results51, go_sem, L1]) rfl ⟨⟨_, _, rfl, World.ownsRow_nil _ _ _ _⟩, by (repeat' (first | (with_reducible exact Below.refl _ _) | (with_reducible assumption) | (with_reducible refine below_drewN ?_ _) | (with_reducible refine Below.drew ?_) | (with_reducible refine Below.alloc ?_ ?_ _) | (with_reducible refine Below.setCell ?_ ?_ _) | (with_reducible refine below_row ?_ ?_ _) | (with_reducible exact Nat.le_refl _) | omega | (simp only [World.size_alloc, World.size_setCell, World.size_drew, World.size_drewN]; omega) | (simp; done) | (simp; omega)))⟩
set_option maxHeartbeats 2000000 in
theorem rown_full (qb B : Nat) (s : PS) (op : Int) (k : Nat) (A : Option Addr) (n c : Nat) (w : World) (hp : QrAt w B qb s) (h20 : op ≠ 20) (hm : prMoves op = some (k, true)) (hl : n ≤ 132) (hn : s.lines.length = 8192) :
    Calls Try.prog 51 #[.pointer (some ⟨qb, 0, none⟩), .int .i64 op, .slice A n c] w fun e w' => RetR [] 14 64 w e w' ∧ Below w.heap.size w w' := by
  obtain ⟨hB, A1, c1, hr, ho⟩ := hp
  rw [hn] at hr
  obtain ⟨L, F, z⟩ := row_look hr
  have t0 : (op == 20) = false := by rw [beq_eq_false_iff_ne]; exact h20
  have hv : movesV op = ((k : Int), true) := by unfold movesV; rw [hm]
  have HM := Lib.hid (moves_any op)
  rw [hv] at HM
  have hl' : ¬ (132 < n) := by omega
  have hk0 : (0 : Int) ≤ (k : Int) := by omega
  clear hm h20 hv hr ho hn
  go_enter Try.func51, Try.ntmps51
  go_wp2_with fail
  refine (HM.out _).mono ?_
  rintro e w1 ⟨rfl, rfl⟩
  go_wp2_with fail
  refine (rcheck_any _ _).mono ?_
  rintro e w1 ⟨rfl, b1⟩
  obtain ⟨r1, z1, b1'⟩ := alloc_call b1
  obtain ⟨L1, F1, _⟩ := row_look r1
  clear r1 b1
  go_wp2
  refine bodyPost_ret (v := .agg #[.slice none 0 0, .int .i64 14, .int .i64 64]) (by simp [results, Try.results51, go_sem, L1]) rfl ⟨⟨_, _, rfl, World.ownsRow_nil _ _ _ _⟩, by (repeat' (first | (with_reducible exact Below.refl _ _) | (with_reducible assumption) | (with_reducible refine below_drewN ?_ _) | (with_reducible refine Below.drew ?_) | (with_reducible refine Below.alloc ?_ ?_ _) | (with_reducible refine Below.setCell ?_ ?_ _) | (with_reducible refine below_row ?_ ?_ _) | (with_reducible exact Nat.le_refl _) | omega | (simp only [World.size_alloc, World.size_setCell, World.size_drew, World.size_drewN]; omega) | (simp; done) | (simp; omega)))⟩

theorem prMoves_le (op : Int) (k : Nat) (b : Bool) (h : prMoves op = some (k, b)) : k ≤ 4 := by
  unfold prMoves at h
  repeat' (split at h; first | (simp at h; omega) | skip)
  all_goals (first | (simp at h; done) | (simp at h; omega))

set_option maxHeartbeats 2000000 in
theorem rown_space (qb B : Nat) (s : PS) (op : Int) (k : Nat) (A : Option Addr) (n c : Nat) (w : World) (hp : QrAt w B qb s) (hd : s.down ≤ 2000000000) (h20 : op ≠ 20) (hm : prMoves op = some (k, false)) :
    Calls Try.prog 51 #[.pointer (some ⟨qb, 0, none⟩), .int .i64 op, .slice A n c] w fun e w' => RetR [] 12 0 w e w' ∧ QrAt w' B qb (s.move k) ∧ Fr (fun b => b = qb) w w' := by
  obtain ⟨hB, A1, c1, hr, ho⟩ := hp
  have hob := own_row_ne ho hr (by decide)
  have hne : ¬ w.heap.size = qb := by have := hl_lt hr; omega
  have hne' : qb ≠ w.heap.size := fun e => hne e.symm
  have HO := Lib.hid ho
  have R := Lib.hid hr
  have t0 : (op == 20) = false := by rw [beq_eq_false_iff_ne]; exact h20
  have hv : movesV op = ((k : Int), false) := by unfold movesV; rw [hm]
  have hk4 := prMoves_le _ _ _ hm
  have HM := Lib.hid (moves_any op)
  rw [hv] at HM
  have hk0 : (0 : Int) ≤ (k : Int) := by omega
  clear hm h20 hv hr ho
  go_enter Try.func51, Try.ntmps51
  go_wp2_with fail
  refine (HM.out _).mono ?_
  rintro e w1 ⟨rfl, rfl⟩
  go_wp2_with fail
  refine (rmove_any qb s.down k hd hk4 _ _ _ (hl_keep R.out)).mono ?_
  rintro e w1 ⟨rfl, r1, f1⟩
  have q1 := f1.row (hl_new rfl) (fun e => hne e)
  have F1 : Fr (fun b => b = qb) w w1 := ((Fr.refl _ w).alloc _).trans f1 (fun _ _ h => h)
  clear f1
  go_wp2_with fail
  refine (rnormal_any _ _ _ _ rfl _).mono ?_
  rintro e w2 ⟨rfl, b2⟩
  have R2 := Lib.hid (hl_grow b2 r1)
  have F2 := F1.then b2
  obtain ⟨L2, K2, _⟩ := row_look (hl_grow b2 q1)
  clear r1 q1 F1 b2
  go_wp2
  refine bodyPost_ret (v := .agg #[.slice none 0 0, .int .i64 12, .int .i64 0]) (by simp [results, Try.results51, go_sem, L2]) rfl ⟨⟨_, _, rfl, World.ownsRow_nil _ _ _ _⟩, ?_⟩
  have ff : Fr (fun b => b = qb) w (((w2.setCell ⟨w.heap.size, 0, none⟩ (.slice none 0 0)).setCell ⟨w.heap.size, 1, none⟩ (.int .i64 12)).setCell ⟨w.heap.size, 2, none⟩ (.int .i64 0)) := by (repeat' (first | (with_reducible exact Fr.refl _ _) | (with_reducible assumption) | (with_reducible refine Fr.drewN ?_ _) | (with_reducible refine Fr.drew ?_) | (with_reducible refine Fr.alloc ?_ _) | (refine Fr.setNew ?_ (by first | exact Nat.le_refl _ | (dsimp only; omega)) _) | (refine Fr.setCell ?_ (fun _ => by first | rfl | exact Or.inl rfl) _)))
  exact ⟨⟨hB, A1, c1, hl_far hne' (hl_far hne' (hl_far hne' R2.out)), ff.own HO.out (fun g hg e => hob (hg.trans (by rw [e])))⟩, ff⟩

theorem QrT.of_own {w : World} {B pb k : Nat} {A : Option Addr} {c : Nat} {xs : List Value} (ho : w.ownsRow B 46 3 (.slice A k c) k xs) : ∀ g, (Value.slice A k c).ownBlock = some g → g < w.heap.size → QrT w B pb g := by
  intro g hg _
  rcases ho.2 with ⟨hv, _⟩ | ⟨g', cap, cur, hv, hb, hh, _⟩
  · injection hv with e1 _ _; subst e1; simp [Value.ownBlock] at hg
  · have hgg : g' = g := by rw [hv] at hg; simpa [Value.ownBlock] using hg
    subst hgg
    exact Or.inr ⟨hb, _, _, hh⟩

set_option maxRecDepth 100000 in
set_option maxHeartbeats 4000000 in
theorem rown_write (qb B : Nat) (s : PS) (op : Int) (k : Nat) (A : Option Addr) (l : List UInt8) (c : Nat) (w : World) (hp : QrAt w B qb s) (hd : s.down ≤ 1000000000) (h20 : op ≠ 20) (hm : prMoves op = some (k, true))
    (hl : l.length ≤ 132) (hn : s.lines.length < 8192) (ha : At w w.heap.size A (Lib.byteCells l)) (hlc : l.length ≤ c) :
    Calls Try.prog 51 #[.pointer (some ⟨qb, 0, none⟩), .int .i64 op, .slice A l.length c] w fun e w' => RetR [] 12 0 w e w' ∧ QrAt w' B qb ((s.write l).move k) ∧ Fr (QrT w B qb) w w' := by
  have HAT := Lib.hid (fun (w' : World) (h : Below w.heap.size w w') => rpat_any qb B s (by omega) w' (hp.grow h))
  obtain ⟨hB, A1, c1, hr, ho⟩ := hp
  have hob := own_row_ne ho hr (by decide)
  have hne : ¬ w.heap.size = qb := by have := hl_lt hr; omega
  have hne' : qb ≠ w.heap.size := fun e => hne e.symm
  have HO := Lib.hid ho
  have R := Lib.hid hr
  have t0 : (op == 20) = false := by rw [beq_eq_false_iff_ne]; exact h20
  have hv : movesV op = ((k : Int), true) := by unfold movesV; rw [hm]
  have hk4 := prMoves_le _ _ _ hm
  have HM := Lib.hid (moves_any op)
  rw [hv] at HM
  have hk0 : (0 : Int) ≤ (k : Int) := by omega
  have HT := Lib.hid (fun (w' : World) (h : Below w.heap.size w w') => rtrim_any A l c w' ((ha.below h).mono h.size) (by omega) hlc)
  have hpt := QrT.of_own (pb := qb) ho
  have HPT := Lib.hid hpt
  obtain ⟨L, F, z⟩ := row_look hr
  have hq1 : w.cell? ⟨qb, 0, none⟩ = some (.slice A1 s.lines.length c1) := L 0
  have hlI : ¬ (132 < l.length) := by omega
  have hnI : ¬ (8192 ≤ s.lines.length) := by omega
  obtain ⟨pg, hpg⟩ : ∃ p : Nat, p = s.down / 60 + 1 := ⟨_, rfl⟩
  obtain ⟨rw_, hrw⟩ : ∃ p : Nat, p = s.down % 60 + 1 := ⟨_, rfl⟩
  rw [← hpg, ← hrw] at HAT
  have HPG := Lib.hid hpg
  have HRW := Lib.hid hrw
  have HF := Lib.hid (fun (wx : World) (hx : Below w.heap.size w wx) => (hx.cell (p := ⟨qb, 0, none⟩) z).trans hq1)
  clear hr ho hm hpt ha L F hpg hrw hv h20
  go_enter Try.func51, Try.ntmps51
  go_wp2_with fail
  refine (HM.out _).mono ?_
  rintro e w1 ⟨rfl, rfl⟩
  go_wp2_with fail
  refine (HAT.out _ (by (repeat' (first | (with_reducible exact Below.refl _ _) | (with_reducible assumption) | (with_reducible refine below_drewN ?_ _) | (with_reducible refine Below.drew ?_) | (with_reducible refine Below.alloc ?_ ?_ _) | (with_reducible refine Below.setCell ?_ ?_ _) | (with_reducible refine below_row ?_ ?_ _) | (with_reducible exact Nat.le_refl _) | omega | (simp only [World.size_alloc, World.size_setCell, World.size_drew, World.size_drewN]; omega) | (simp; done) | (simp; omega))))).mono ?_
  rintro e w1 ⟨rfl, ⟨m1, rfl⟩⟩
  go_wp2_with fail
  refine name_world (P := Code.wp _ _ _ _) ?_
  intro w0 hw0
  have q0 : w0.heap[w.heap.size]? = some (.cells #[.slice none 0 0, .int .i64 0, .int .i64 0] 36 (0, 0)) := by rw [hw0]; exact hl_drewN _ (hl_new rfl)
  have b0 : Below w.heap.size w w0 := by rw [hw0]; (repeat' (first | (with_reducible exact Below.refl _ _) | (with_reducible assumption) | (with_reducible refine below_drewN ?_ _) | (with_reducible refine Below.drew ?_) | (with_reducible refine Below.alloc ?_ ?_ _) | (with_reducible refine Below.setCell ?_ ?_ _) | (with_reducible refine below_row ?_ ?_ _) | (with_reducible exact Nat.le_refl _) | omega | (simp only [World.size_alloc, World.size_setCell, World.size_drew, World.size_drewN]; omega) | (simp; done) | (simp; omega)))
  have z0 : w.heap.size < w0.heap.size := hl_lt q0
  have Q0 := Lib.hid q0
  have B0 := Lib.hid b0
  clear hw0 q0 b0
  refine wp_region_order (Below w0.heap.size w0) [0, 1, 2, 3, 5, 6, 7] [4] [] [8, 9, 10] [11, 12, 13, 14] (by kernel_rfl) (by kernel_rfl) (by (repeat' (first | (with_reducible exact Below.refl _ _) | (with_reducible assumption) | (with_reducible refine below_drewN ?_ _) | (with_reducible refine Below.drew ?_) | (with_reducible refine Below.alloc ?_ ?_ _) | (with_reducible refine Below.setCell ?_ ?_ _) | (with_reducible refine below_row ?_ ?_ _) | (with_reducible exact Nat.le_refl _) | omega | (simp only [World.size_alloc, World.size_setCell, World.size_drew, World.size_drewN]; omega) | (simp; done) | (simp; omega)))) (by intro c a d v w h; cases d <;> exact h) ?_
  simp only [pick, List.filterMap_cons, List.filterMap_nil, List.getElem?_cons_zero, List.getElem?_cons_succ]
  repeat (refine wpPure_step (fun K hK => ?_); go_simp; refine hK _ ?_; clear hK K)
  refine wpPure_nil ?_
  repeat (refine wpLoads_step (fun K hK => ?_); go_simp; refine ⟨_, fun wx hx => (by have f1 := HF.out wx (B0.out.trans (hx.mono B0.out.size)); go_simp; rfl), hK _ ?_⟩; clear hK K)
  refine wpLoads_nil (wpQuiet_nil ?_)
  intro w1 hw1
  refine wpKeep_step (fun K hK => ?_)
  go_simp
  refine (HT.out _ (B0.out.trans (hw1.mono B0.out.size))).mono ?_
  rintro e w5 ⟨rfl, b5⟩
  have hw5 : Below w0.heap.size w0 w5 := hw1.trans (b5.mono hw1.size)
  refine hK _ _ hw5 ?_
  clear hK K b5 hw1
  refine wpKeep_step (fun K hK => ?_)
  go_simp
  refine hK _ _ hw5 ?_
  clear hK K
  refine wpKeep_step (fun K hK => ?_)
  go_simp
  refine hK _ _ (hw5.alloc hw5.size _) ?_
  clear hK K
  refine wpKeep_nil ?_
  have B5 : Below w.heap.size w w5 := B0.out.trans (hw5.mono B0.out.size)
  have z5 : B ≤ w5.heap.size := Nat.le_trans (Nat.le_trans hB (Nat.le_of_lt z)) B5.size
  have R5 := Lib.hid (hl_grow B5 R.out)
  have O5 := Lib.hid (own_grow HO.out B5)
  have Q5 := Lib.hid (hl_below hw5 z0 Q0.out)
  have F5 := Lib.hid (Fr.of_grow (T := QrT w B qb) B5)
  refine wpList_push (by rfl) _ _ _ (by rfl) rlineElem w5 (lineCells (pg, rw_, trim l)) (by rfl) (by rfl) (by intro u hu; simp [lineCells] at hu; rcases hu with rfl | rfl | rfl <;> rfl) B _ s.lines.length _ (by rfl) (by rfl) O5.out (by unfold maxLen; omega) (by omega) z5 ?_
  intro A6 c6 w6 o6 g6
  have r6 := (g6.block qb (hl_lt R5.out) (fun e => hob e.symm)).trans R5.out
  have q6 := (g6.block w.heap.size (hl_lt Q5.out) (fun e => absurd (own_lt HO.out _ e.symm).2 (Nat.lt_irrefl _))).trans Q5.out
  have f6 : Fr (QrT w B qb) w w6 := F5.out.grown g6 HPT.out
  have W6 := Lib.hid (show (s.write l).lines.flatMap lineCells = s.lines.flatMap lineCells ++ lineCells (pg, rw_, trim l) from by rw [HPG.out, HRW.out]; simp [PS.write])
  rw [← W6.out] at o6
  have N6 := Lib.hid (show (s.write l).lines.length = s.lines.length + 1 from by simp [PS.write])
  have hob6 := own_row_ne o6 r6 (by decide)
  have hoq6 := own_row_ne o6 q6 (by decide)
  obtain ⟨L6, F6, z6⟩ := row_look r6
  obtain ⟨M6, _, y6⟩ := row_look q6
  have R6 := Lib.hid r6
  have Q6 := Lib.hid q6
  have O6 := Lib.hid o6
  clear r6 q6 o6 g6 R5 O5 Q5 F5 hw5 B5
  go_wp2_with fail
  refine name_world (P := fun W => Calls _ _ _ W _) ?_
  intro w7 hw7
  have r7 : w7.heap[qb]? = some (.cells #[.slice A6 (s.lines.length + 1) c6, .int .i64 (s.down : Int), .int .i64 (s.sense : Int)] 30 (0, 0)) := by rw [hw7]; exact hl_set (by rfl) R6.out
  have q7 : w7.heap[w.heap.size]? = some (.cells #[.slice none 0 0, .int .i64 0, .int .i64 0] 36 (0, 0)) := by rw [hw7]; exact hl_far (fun e => hne e) Q6.out
  have G7 : Fr (fun b => b = qb ∨ b = w.heap.size) w6 w7 := by rw [hw7]; exact (Fr.refl _ _).setCell (fun _ => Or.inl rfl) _
  clear hw7 L6 F6 M6
  refine (rmove_any qb s.down k (by omega) hk4 _ _ _ r7).mono ?_
  rintro e w9 ⟨rfl, r9, g9⟩
  have q9 := g9.row q7 (fun e => hne e)
  have G9 : Fr (fun b => b = qb ∨ b = w.heap.size) w6 w9 := G7.trans g9 (fun _ _ h => Or.inl h)
  clear r7 q7 G7 g9
  go_wp2_with fail
  refine (rnormal_any _ _ _ _ rfl _).mono ?_
  rintro e w8 ⟨rfl, b8⟩
  obtain ⟨L8, _, _⟩ := row_look (hl_grow b8 q9)
  have R8 := Lib.hid (hl_grow b8 r9)
  have G8 := G9.then b8
  clear q9 r9 G9 b8
  go_wp2
  refine bodyPost_ret (v := .agg #[.slice none 0 0, .int .i64 12, .int .i64 0]) (by simp [results, Try.results51, go_sem, L8]) rfl ⟨⟨_, _, rfl, World.ownsRow_nil _ _ _ _⟩, ?_⟩
  have ff : Fr (fun b => b = qb ∨ b = w.heap.size) w6 (((w8.setCell ⟨w.heap.size, 0, none⟩ (.slice none 0 0)).setCell ⟨w.heap.size, 1, none⟩ (.int .i64 12)).setCell ⟨w.heap.size, 2, none⟩ (.int .i64 0)) := ((G8.setCell (fun _ => Or.inr rfl) _).setCell (fun _ => Or.inr rfl) _).setCell (fun _ => Or.inr rfl) _
  refine ⟨⟨hB, A6, c6, ?_, ?_⟩, f6.trans ff (fun b hb ht => ?_)⟩
  · refine (hl_far hne' (hl_far hne' (hl_far hne' R8.out))).trans ?_
    show _ = some (Obj.cells #[Value.slice A6 (s.write l).lines.length c6, _, _] _ _)
    rw [N6.out]; rfl
  · show World.ownsRow _ B _ 3 (.slice A6 (s.write l).lines.length c6) (s.write l).lines.length ((s.write l).lines.flatMap lineCells)
    rw [N6.out]
    refine ff.own O6.out (fun g hg ht => ?_)
    rcases ht with rfl | rfl
    · exact hob6 hg
    · exact hoq6 hg
  · rcases ht with rfl | rfl
    · exact Or.inl rfl
    · omega
end Go.Proofs.Ytgklbilkfmieoaa
