import Derived.Test.YtlbbmfmkhmmikaaGreatUPr
import Derived.Test.YtlbbmfmkhmmikaaGreatKitA
namespace Go.Proofs.YtlbbmfmkhmmikaaGreat.U
open Go.RowKit Job.Ebcdic

theorem PrT.of_own {w : World} {B pb k : Nat} {A : Option Addr} {c : Nat} {xs : List Value} {cs : Array Value} {t : TypeId} {fr : Nat × Nat} (hr : w.heap[pb]? = some (.cells cs t fr)) (h1 : cs[1]? = some (.slice A k c)) (ho : w.ownsRow B 151 3 (.slice A k c) k xs) : ∀ g, (Value.slice A k c).ownBlock = some g → g < w.heap.size → PrT w B pb g := by
  intro g hg _
  rcases ho.2 with ⟨hv, _⟩ | ⟨g', cap, cur, hv, hb, hh, _⟩
  · injection hv with e1 _ _; subst e1; simp [Value.ownBlock] at hg
  · have hgg : g' = g := by rw [hv] at hg; simpa [Value.ownBlock] using hg
    subst hgg
    exact Or.inr ⟨hb, ⟨_, _, hh⟩, _, _, _, _, hr, h1, hg⟩

theorem alloc_drew {w w' : World} {o : Obj} (b : Below (w.alloc o).drew.heap.size (w.alloc o).drew w') : Below w.heap.size w w' :=
  Below.trans ((Below.refl _ _).alloc (Nat.le_refl _) _).drew (b.mono (by simp))

set_option maxRecDepth 100000 in
set_option maxHeartbeats 4000000 in
/-- own, writing a line -/
theorem pown_write (pb B : Nat) (s : PS) (op : Int) (k : Nat) (A : Option Addr) (l : List UInt8) (c : Nat) (w : World) (hp : PrAt w B pb s) (hd : s.down ≤ 1000000000) (hm : prMoves op = some (k, true))
    (hl : l.length ≤ 132) (hn : s.lines.length < 8192) (ha : At w w.heap.size A (Lib.byteCells l)) (hlc : l.length ≤ c) :
    Calls Tryz.prog 206 #[.pointer (some ⟨pb, 0, none⟩), .int .i64 op, .slice A l.length c] w fun e w' => RetR [] 12 0 w e w' ∧ PrAt w' B pb ((s.write l).move k) ∧ Fr (PrT w B pb) w w' := by
  obtain ⟨hB, A1, c1, hr, ho⟩ := hp
  have hob := own_row_ne ho hr (by decide)
  have hne : ¬ w.heap.size = pb := by have := hl_lt hr; omega
  have HO := Lib.hid ho
  have R := Lib.hid hr
  have hcase : (op = 1 ∧ k = 0) ∨ (op = 9 ∧ k = 1) ∨ (op = 17 ∧ k = 2) ∨ (op = 25 ∧ k = 3) ∨ (op = 137 ∧ k = 4) := by
    unfold prMoves at hm
    repeat' (split at hm; first | (simp at hm; done) | skip)
    all_goals (first | (simp at hm; done) | (simp at hm; omega))
  have HT := Lib.hid (fun (w' : World) (h : Below w.heap.size w w') => trim_any A l c w' ((ha.below h).mono h.size) (by omega) hlc)
  have hpt := PrT.of_own (pb := pb) hr (by rfl) ho
  have HPT := Lib.hid hpt
  obtain ⟨L, F, z⟩ := row_look hr
  have hq1 : w.cell? ⟨pb, 1, none⟩ = some (.slice A1 s.lines.length c1) := L 1
  have hq2 : w.cell? ⟨pb, 2, none⟩ = some (.int .i64 ((s.down / 60 + 1 : Nat) : Int)) := L 2
  have hq3 : w.cell? ⟨pb, 3, none⟩ = some (.int .i64 ((s.down % 60 + 1 : Nat) : Int)) := L 3
  obtain ⟨pg, hpg⟩ : ∃ p : Nat, p = s.down / 60 + 1 := ⟨_, rfl⟩
  obtain ⟨rw_, hrw⟩ : ∃ p : Nat, p = s.down % 60 + 1 := ⟨_, rfl⟩
  rw [← hpg] at hq2
  rw [← hrw] at hq3
  rw [← hpg, ← hrw] at R L
  have hcf := fun (wx : World) (hx : Below w.heap.size w wx) => (⟨(hx.cell (p := ⟨pb, 1, none⟩) z).trans hq1, (hx.cell (p := ⟨pb, 2, none⟩) z).trans hq2, (hx.cell (p := ⟨pb, 3, none⟩) z).trans hq3⟩ : wx.cell? ⟨pb, 1, none⟩ = some (.slice A1 s.lines.length c1) ∧ wx.cell? ⟨pb, 2, none⟩ = some (.int .i64 (pg : Int)) ∧ wx.cell? ⟨pb, 3, none⟩ = some (.int .i64 (rw_ : Int)))
  have HF := Lib.hid hcf
  have HL := Lib.hid L
  have hpgb : pg ≤ 100000000 := by omega
  have HPG := Lib.hid hpg
  have HRW := Lib.hid hrw
  have h8 : ((s.lines.length : Int) == 8192) = false := by rw [beq_eq_false_iff_ne]; omega
  have hlI : ¬ (132 < l.length) := by omega
  clear hr ho hm hpt ha L hpg hrw hcf
  rcases hcase with ⟨rfl, rfl⟩ | ⟨rfl, rfl⟩ | ⟨rfl, rfl⟩ | ⟨rfl, rfl⟩ | ⟨rfl, rfl⟩
  all_goals
    go_enter Tryz.func206, Tryz.ntmps206
    go_upto_region 14 with fail
    refine name_world (P := Code.wp _ _ _ _) ?_
    intro w0 hw0
    have q0 : w0.heap[w.heap.size]? = some (.cells #[.slice none 0 0, .int .i64 0, .int .i64 0] 30 (0, 0)) := by rw [hw0]; exact hl_new rfl
    have b0 : Below w.heap.size w w0 := by rw [hw0]; (repeat' (first | (with_reducible exact Below.refl _ _) | (with_reducible assumption) | (with_reducible refine below_drewN ?_ _) | (with_reducible refine Below.drew ?_) | (with_reducible refine Below.alloc ?_ ?_ _) | (with_reducible refine Below.setCell ?_ ?_ _) | (with_reducible refine below_row ?_ ?_ _) | (with_reducible exact Nat.le_refl _) | omega | (simp only [World.size_alloc, World.size_setCell, World.size_drew, World.size_drewN]; omega) | (simp; done) | (simp; omega)))
    have z0 : w.heap.size < w0.heap.size := hl_lt q0
    have Q0 := Lib.hid q0
    have B0 := Lib.hid b0
    clear hw0 q0 b0
    refine wp_region_order (Below w0.heap.size w0) [0, 1, 2, 3, 5, 6, 7, 9, 10, 11, 13] [4, 8, 12] [] [14, 15, 16] [17, 18, 19, 20] (by kernel_rfl) (by kernel_rfl) (by (repeat' (first | (with_reducible exact Below.refl _ _) | (with_reducible assumption) | (with_reducible refine below_drewN ?_ _) | (with_reducible refine Below.drew ?_) | (with_reducible refine Below.alloc ?_ ?_ _) | (with_reducible refine Below.setCell ?_ ?_ _) | (with_reducible refine below_row ?_ ?_ _) | (with_reducible exact Nat.le_refl _) | omega | (simp only [World.size_alloc, World.size_setCell, World.size_drew, World.size_drewN]; omega) | (simp; done) | (simp; omega)))) (by intro c a d v w h; cases d <;> exact h) ?_
    simp only [pick, List.filterMap_cons, List.filterMap_nil, List.getElem?_cons_zero, List.getElem?_cons_succ]
    repeat (refine wpPure_step (fun K hK => ?_); go_simp; refine hK _ ?_; clear hK K)
    refine wpPure_nil ?_
    repeat (refine wpLoads_step (fun K hK => ?_); go_simp; refine ⟨_, fun wx hx => (by obtain ⟨f1, f2, f3⟩ := HF.out wx (B0.out.trans (hx.mono B0.out.size)); go_simp; rfl), hK _ ?_⟩; clear hK K)
    refine wpLoads_nil (wpQuiet_nil ?_)
    intro w1 hw1
    refine wpKeep_step (fun K hK => ?_)
    go_simp
    refine (HT.out _ (B0.out.trans (hw1.mono B0.out.size))).mono ?_
    rintro e w5 ⟨rfl, b5⟩
    have hw5 : Below w0.heap.size w0 w5 := hw1.trans (b5.mono hw1.size)
    refine hK _ _ hw5 ?_
    clear hK K b5 hw1
    refine wpKeep_step (fun K hK => ?_)
    go_simp
    refine hK _ _ hw5 ?_
    clear hK K
    refine wpKeep_step (fun K hK => ?_)
    go_simp
    refine hK _ _ (hw5.alloc hw5.size _) ?_
    clear hK K
    refine wpKeep_nil ?_
    have B5 : Below w.heap.size w w5 := B0.out.trans (hw5.mono B0.out.size)
    have r5 := hl_grow B5 R.out
    have o5 := own_grow HO.out B5
    have q5 := hl_below hw5 z0 Q0.out
    have z5 : B ≤ w5.heap.size := Nat.le_trans (Nat.le_trans hB (Nat.le_of_lt z)) B5.size
    have R5 := Lib.hid r5
    have O5 := Lib.hid o5
    have Q5 := Lib.hid q5
    have F5 := Lib.hid (Fr.of_grow (T := PrT w B pb) B5)
    clear r5 o5 q5
    refine wpList_push (by rfl) _ _ _ (by rfl) lineElem w5 (lineCells (pg, rw_, trim l)) (by rfl) (by rfl) (by intro u hu; simp [lineCells] at hu; rcases hu with rfl | rfl | rfl <;> rfl) B _ s.lines.length _ (by rfl) (by rfl) O5.out (by unfold maxLen; omega) (by omega) z5 ?_
    intro A6 c6 w6 o6 g6
    have r6 := (g6.block pb (hl_lt R5.out) (fun e => hob e.symm)).trans R5.out
    have q6 := (g6.block w.heap.size (hl_lt Q5.out) (fun e => by have := (O5.out.lt _ e.symm); exact absurd (own_lt HO.out _ e.symm).2 (Nat.lt_irrefl _))).trans Q5.out
    have f6 : Fr (PrT w B pb) w w6 := F5.out.grown g6 HPT.out
    have W6 := Lib.hid (show (s.write l).lines.flatMap lineCells = s.lines.flatMap lineCells ++ lineCells (pg, rw_, trim l) from by rw [HPG.out, HRW.out]; simp [PS.write])
    rw [← W6.out] at o6
    have N6 := Lib.hid (show (s.write l).lines.length = s.lines.length + 1 from by simp [PS.write])
    have hob6 := own_row_ne o6 r6 (by decide)
    obtain ⟨L6, F6, z6⟩ := row_look r6
    obtain ⟨M6, _, y6⟩ := row_look q6
    have R6 := Lib.hid r6
    have Q6 := Lib.hid q6
    have O6 := Lib.hid o6
    clear r6 q6 o6 g6 R5 O5 Q5 F5 hw5 B5
    go_wp2_with fail
    refine name_world (P := fun W => Calls _ _ _ W _) ?_
    intro w7 hw7
  · have hfin : ∀ (w8 : World) (X Y : Int), X = ((((s.write l).move 0).down / 60 + 1 : Nat) : Int) → Y = ((((s.write l).move 0).down % 60 + 1 : Nat) : Int) → w8.heap[pb]? = some (.cells #[.int .i64 (s.sense : Int), .slice A6 (s.lines.length + 1) c6, .int .i64 X, .int .i64 Y] 139 (0, 0)) → Fr (fun b => b = pb ∨ b = w.heap.size) w6 w8 →
        PrAt w8 B pb ((s.write l).move 0) ∧ Fr (PrT w B pb) w w8 := by
      rintro w8 X Y rfl rfl h1 h2
      refine ⟨⟨hB, A6, c6, ?_, ?_⟩, f6.trans h2 (fun b hb ht => ?_)⟩
      · rw [h1]; show _ = some (Obj.cells #[_, Value.slice A6 (s.write l).lines.length c6, _, _] _ _); rw [N6.out]; rfl
      · show w8.ownsRow B _ 3 (.slice A6 (s.write l).lines.length c6) (s.write l).lines.length ((s.write l).lines.flatMap lineCells)
        rw [N6.out]
        refine h2.own O6.out (fun g hg ht => ?_)
        rcases ht with rfl | rfl
        · exact hob6 hg
        · exact own_row_ne O6.out Q6.out (by decide) hg
      · rcases ht with rfl | rfl
        · exact Or.inl rfl
        · omega
    have HFIN := Lib.hid hfin
    clear hfin
    have r7 : w7.heap[pb]? = some (.cells #[.int .i64 (s.sense : Int), .slice A6 (s.lines.length + 1) c6, .int .i64 (pg : Int), .int .i64 (rw_ : Int)] 139 (0, 0)) := by rw [hw7]; exact hl_set (by rfl) R6.out
    have q7 : w7.heap[w.heap.size]? = some (.cells #[.slice none 0 0, .int .i64 0, .int .i64 0] 30 (0, 0)) := by rw [hw7]; exact hl_far (fun e => hne e) Q6.out
    have G7 : Fr (fun b => b = pb ∨ b = w.heap.size) w6 w7 := by rw [hw7]; exact (Fr.refl _ _).setCell (fun _ => Or.inl rfl) _
    clear hw7
    refine (normal_any _ _ _ _ rfl _).mono ?_
    rintro e w8 ⟨rfl, b8⟩
    obtain ⟨L8, _, _⟩ := row_look (hl_grow b8 q7)
    have R8 := Lib.hid (hl_grow b8 r7)
    have G8 := G7.then b8
    clear q7 r7 G7 b8 L6 F6 M6
    go_wp2
    refine bodyPost_ret (v := .agg #[.slice none 0 0, .int .i64 12, .int .i64 0]) (by simp [results, Tryz.results206, go_sem, L8]) rfl ⟨⟨_, _, rfl, World.ownsRow_nil _ _ _ _⟩, ?_⟩
    have hne' : pb ≠ w.heap.size := fun e => hne e.symm
    have ff : Fr (fun b => b = pb ∨ b = w.heap.size) w6 (((w8.setCell ⟨w.heap.size, 0, none⟩ (.slice none 0 0)).setCell ⟨w.heap.size, 1, none⟩ (.int .i64 12)).setCell ⟨w.heap.size, 2, none⟩ (.int .i64 0)) := ((G8.setCell (fun _ => Or.inr rfl) _).setCell (fun _ => Or.inr rfl) _).setCell (fun _ => Or.inr rfl) _
    exact HFIN.out _ _ _ (by rw [HPG.out]; rfl) (by rw [HRW.out]; rfl) (hl_far hne' (hl_far hne' (hl_far hne' R8.out))) ff
  · have hfin : ∀ (w8 : World) (X Y : Int), X = ((((s.write l).move 1).down / 60 + 1 : Nat) : Int) → Y = ((((s.write l).move 1).down % 60 + 1 : Nat) : Int) → w8.heap[pb]? = some (.cells #[.int .i64 (s.sense : Int), .slice A6 (s.lines.length + 1) c6, .int .i64 X, .int .i64 Y] 139 (0, 0)) → Fr (fun b => b = pb ∨ b = w.heap.size) w6 w8 →
        PrAt w8 B pb ((s.write l).move 1) ∧ Fr (PrT w B pb) w w8 := by
      rintro w8 X Y rfl rfl h1 h2
      refine ⟨⟨hB, A6, c6, ?_, ?_⟩, f6.trans h2 (fun b hb ht => ?_)⟩
      · rw [h1]; show _ = some (Obj.cells #[_, Value.slice A6 (s.write l).lines.length c6, _, _] _ _); rw [N6.out]; rfl
      · show w8.ownsRow B _ 3 (.slice A6 (s.write l).lines.length c6) (s.write l).lines.length ((s.write l).lines.flatMap lineCells)
        rw [N6.out]
        refine h2.own O6.out (fun g hg ht => ?_)
        rcases ht with rfl | rfl
        · exact hob6 hg
        · exact own_row_ne O6.out Q6.out (by decide) hg
      · rcases ht with rfl | rfl
        · exact Or.inl rfl
        · omega
    have HFIN := Lib.hid hfin
    clear hfin
    have r7 : w7.heap[pb]? = some (.cells #[.int .i64 (s.sense : Int), .slice A6 (s.lines.length + 1) c6, .int .i64 (pg : Int), .int .i64 (rw_ : Int)] 139 (0, 0)) := by rw [hw7]; exact hl_set (by rfl) R6.out
    have q7 : w7.heap[w.heap.size]? = some (.cells #[.slice none 0 0, .int .i64 0, .int .i64 0] 30 (0, 0)) := by rw [hw7]; exact hl_far (fun e => hne e) Q6.out
    have G7 : Fr (fun b => b = pb ∨ b = w.heap.size) w6 w7 := by rw [hw7]; exact (Fr.refl _ _).setCell (fun _ => Or.inl rfl) _
    clear hw7
    have hs7 := space_st pb (s.write l) 1 (by omega) (show s.down ≤ 2000000000 by omega) w7 A6 c6 (by rw [N6.out, r7, HPG.out, HRW.out]; rfl)
    rw [N6.out] at hs7
    refine hs7.mono ?_
    rintro e w9 ⟨rfl, r9, g9⟩
    have q9 := g9.row q7 (fun e => hne e)
    have G9 : Fr (fun b => b = pb ∨ b = w.heap.size) w6 w9 := G7.trans g9 (fun _ _ h => Or.inl h)
    clear r7 q7 G7 g9 hs7
    have r7 := r9
    have q7 := q9
    have G7 := G9
    clear r9 q9 G9
    go_wp2_with fail
    refine (normal_any _ _ _ _ rfl _).mono ?_
    rintro e w8 ⟨rfl, b8⟩
    obtain ⟨L8, _, _⟩ := row_look (hl_grow b8 q7)
    have R8 := Lib.hid (hl_grow b8 r7)
    have G8 := G7.then b8
    clear q7 r7 G7 b8 L6 F6 M6
    go_wp2
    refine bodyPost_ret (v := .agg #[.slice none 0 0, .int .i64 12, .int .i64 0]) (by simp [results, Tryz.results206, go_sem, L8]) rfl ⟨⟨_, _, rfl, World.ownsRow_nil _ _ _ _⟩, ?_⟩
    have hne' : pb ≠ w.heap.size := fun e => hne e.symm
    have ff : Fr (fun b => b = pb ∨ b = w.heap.size) w6 (((w8.setCell ⟨w.heap.size, 0, none⟩ (.slice none 0 0)).setCell ⟨w.heap.size, 1, none⟩ (.int .i64 12)).setCell ⟨w.heap.size, 2, none⟩ (.int .i64 0)) := ((G8.setCell (fun _ => Or.inr rfl) _).setCell (fun _ => Or.inr rfl) _).setCell (fun _ => Or.inr rfl) _
    exact HFIN.out _ _ _ rfl rfl (hl_far hne' (hl_far hne' (hl_far hne' R8.out))) ff
  · have hfin : ∀ (w8 : World) (X Y : Int), X = ((((s.write l).move 2).down / 60 + 1 : Nat) : Int) → Y = ((((s.write l).move 2).down % 60 + 1 : Nat) : Int) → w8.heap[pb]? = some (.cells #[.int .i64 (s.sense : Int), .slice A6 (s.lines.length + 1) c6, .int .i64 X, .int .i64 Y] 139 (0, 0)) → Fr (fun b => b = pb ∨ b = w.heap.size) w6 w8 →
        PrAt w8 B pb ((s.write l).move 2) ∧ Fr (PrT w B pb) w w8 := by
      rintro w8 X Y rfl rfl h1 h2
      refine ⟨⟨hB, A6, c6, ?_, ?_⟩, f6.trans h2 (fun b hb ht => ?_)⟩
      · rw [h1]; show _ = some (Obj.cells #[_, Value.slice A6 (s.write l).lines.length c6, _, _] _ _); rw [N6.out]; rfl
      · show w8.ownsRow B _ 3 (.slice A6 (s.write l).lines.length c6) (s.write l).lines.length ((s.write l).lines.flatMap lineCells)
        rw [N6.out]
        refine h2.own O6.out (fun g hg ht => ?_)
        rcases ht with rfl | rfl
        · exact hob6 hg
        · exact own_row_ne O6.out Q6.out (by decide) hg
      · rcases ht with rfl | rfl
        · exact Or.inl rfl
        · omega
    have HFIN := Lib.hid hfin
    clear hfin
    have r7 : w7.heap[pb]? = some (.cells #[.int .i64 (s.sense : Int), .slice A6 (s.lines.length + 1) c6, .int .i64 (pg : Int), .int .i64 (rw_ : Int)] 139 (0, 0)) := by rw [hw7]; exact hl_set (by rfl) R6.out
    have q7 : w7.heap[w.heap.size]? = some (.cells #[.slice none 0 0, .int .i64 0, .int .i64 0] 30 (0, 0)) := by rw [hw7]; exact hl_far (fun e => hne e) Q6.out
    have G7 : Fr (fun b => b = pb ∨ b = w.heap.size) w6 w7 := by rw [hw7]; exact (Fr.refl _ _).setCell (fun _ => Or.inl rfl) _
    clear hw7
    have hs7 := space_st pb (s.write l) 2 (by omega) (show s.down ≤ 2000000000 by omega) w7 A6 c6 (by rw [N6.out, r7, HPG.out, HRW.out]; rfl)
    rw [N6.out] at hs7
    refine hs7.mono ?_
    rintro e w9 ⟨rfl, r9, g9⟩
    have q9 := g9.row q7 (fun e => hne e)
    have G9 : Fr (fun b => b = pb ∨ b = w.heap.size) w6 w9 := G7.trans g9 (fun _ _ h => Or.inl h)
    clear r7 q7 G7 g9 hs7
    have r7 := r9
    have q7 := q9
    have G7 := G9
    clear r9 q9 G9
    go_wp2_with fail
    refine (normal_any _ _ _ _ rfl _).mono ?_
    rintro e w8 ⟨rfl, b8⟩
    obtain ⟨L8, _, _⟩ := row_look (hl_grow b8 q7)
    have R8 := Lib.hid (hl_grow b8 r7)
    have G8 := G7.then b8
    clear q7 r7 G7 b8 L6 F6 M6
    go_wp2
    refine bodyPost_ret (v := .agg #[.slice none 0 0, .int .i64 12, .int .i64 0]) (by simp [results, Tryz.results206, go_sem, L8]) rfl ⟨⟨_, _, rfl, World.ownsRow_nil _ _ _ _⟩, ?_⟩
    have hne' : pb ≠ w.heap.size := fun e => hne e.symm
    have ff : Fr (fun b => b = pb ∨ b = w.heap.size) w6 (((w8.setCell ⟨w.heap.size, 0, none⟩ (.slice none 0 0)).setCell ⟨w.heap.size, 1, none⟩ (.int .i64 12)).setCell ⟨w.heap.size, 2, none⟩ (.int .i64 0)) := ((G8.setCell (fun _ => Or.inr rfl) _).setCell (fun _ => Or.inr rfl) _).setCell (fun _ => Or.inr rfl) _
    exact HFIN.out _ _ _ rfl rfl (hl_far hne' (hl_far hne' (hl_far hne' R8.out))) ff
  · have hfin : ∀ (w8 : World) (X Y : Int), X = ((((s.write l).move 3).down / 60 + 1 : Nat) : Int) → Y = ((((s.write l).move 3).down % 60 + 1 : Nat) : Int) → w8.heap[pb]? = some (.cells #[.int .i64 (s.sense : Int), .slice A6 (s.lines.length + 1) c6, .int .i64 X, .int .i64 Y] 139 (0, 0)) → Fr (fun b => b = pb ∨ b = w.heap.size) w6 w8 →
        PrAt w8 B pb ((s.write l).move 3) ∧ Fr (PrT w B pb) w w8 := by
      rintro w8 X Y rfl rfl h1 h2
      refine ⟨⟨hB, A6, c6, ?_, ?_⟩, f6.trans h2 (fun b hb ht => ?_)⟩
      · rw [h1]; show _ = some (Obj.cells #[_, Value.slice A6 (s.write l).lines.length c6, _, _] _ _); rw [N6.out]; rfl
      · show w8.ownsRow B _ 3 (.slice A6 (s.write l).lines.length c6) (s.write l).lines.length ((s.write l).lines.flatMap lineCells)
        rw [N6.out]
        refine h2.own O6.out (fun g hg ht => ?_)
        rcases ht with rfl | rfl
        · exact hob6 hg
        · exact own_row_ne O6.out Q6.out (by decide) hg
      · rcases ht with rfl | rfl
        · exact Or.inl rfl
        · omega
    have HFIN := Lib.hid hfin
    clear hfin
    have r7 : w7.heap[pb]? = some (.cells #[.int .i64 (s.sense : Int), .slice A6 (s.lines.length + 1) c6, .int .i64 (pg : Int), .int .i64 (rw_ : Int)] 139 (0, 0)) := by rw [hw7]; exact hl_set (by rfl) R6.out
    have q7 : w7.heap[w.heap.size]? = some (.cells #[.slice none 0 0, .int .i64 0, .int .i64 0] 30 (0, 0)) := by rw [hw7]; exact hl_far (fun e => hne e) Q6.out
    have G7 : Fr (fun b => b = pb ∨ b = w.heap.size) w6 w7 := by rw [hw7]; exact (Fr.refl _ _).setCell (fun _ => Or.inl rfl) _
    clear hw7
    have hs7 := space_st pb (s.write l) 3 (by omega) (show s.down ≤ 2000000000 by omega) w7 A6 c6 (by rw [N6.out, r7, HPG.out, HRW.out]; rfl)
    rw [N6.out] at hs7
    refine hs7.mono ?_
    rintro e w9 ⟨rfl, r9, g9⟩
    have q9 := g9.row q7 (fun e => hne e)
    have G9 : Fr (fun b => b = pb ∨ b = w.heap.size) w6 w9 := G7.trans g9 (fun _ _ h => Or.inl h)
    clear r7 q7 G7 g9 hs7
    have r7 := r9
    have q7 := q9
    have G7 := G9
    clear r9 q9 G9
    go_wp2_with fail
    refine (normal_any _ _ _ _ rfl _).mono ?_
    rintro e w8 ⟨rfl, b8⟩
    obtain ⟨L8, _, _⟩ := row_look (hl_grow b8 q7)
    have R8 := Lib.hid (hl_grow b8 r7)
    have G8 := G7.then b8
    clear q7 r7 G7 b8 L6 F6 M6
    go_wp2
    refine bodyPost_ret (v := .agg #[.slice none 0 0, .int .i64 12, .int .i64 0]) (by simp [results, Tryz.results206, go_sem, L8]) rfl ⟨⟨_, _, rfl, World.ownsRow_nil _ _ _ _⟩, ?_⟩
    have hne' : pb ≠ w.heap.size := fun e => hne e.symm
    have ff : Fr (fun b => b = pb ∨ b = w.heap.size) w6 (((w8.setCell ⟨w.heap.size, 0, none⟩ (.slice none 0 0)).setCell ⟨w.heap.size, 1, none⟩ (.int .i64 12)).setCell ⟨w.heap.size, 2, none⟩ (.int .i64 0)) := ((G8.setCell (fun _ => Or.inr rfl) _).setCell (fun _ => Or.inr rfl) _).setCell (fun _ => Or.inr rfl) _
    exact HFIN.out _ _ _ rfl rfl (hl_far hne' (hl_far hne' (hl_far hne' R8.out))) ff
  · have hfin : ∀ (w8 : World) (X Y : Int), X = ((((s.write l).move 4).down / 60 + 1 : Nat) : Int) → Y = ((((s.write l).move 4).down % 60 + 1 : Nat) : Int) → w8.heap[pb]? = some (.cells #[.int .i64 (s.sense : Int), .slice A6 (s.lines.length + 1) c6, .int .i64 X, .int .i64 Y] 139 (0, 0)) → Fr (fun b => b = pb ∨ b = w.heap.size) w6 w8 →
        PrAt w8 B pb ((s.write l).move 4) ∧ Fr (PrT w B pb) w w8 := by
      rintro w8 X Y rfl rfl h1 h2
      refine ⟨⟨hB, A6, c6, ?_, ?_⟩, f6.trans h2 (fun b hb ht => ?_)⟩
      · rw [h1]; show _ = some (Obj.cells #[_, Value.slice A6 (s.write l).lines.length c6, _, _] _ _); rw [N6.out]; rfl
      · show w8.ownsRow B _ 3 (.slice A6 (s.write l).lines.length c6) (s.write l).lines.length ((s.write l).lines.flatMap lineCells)
        rw [N6.out]
        refine h2.own O6.out (fun g hg ht => ?_)
        rcases ht with rfl | rfl
        · exact hob6 hg
        · exact own_row_ne O6.out Q6.out (by decide) hg
      · rcases ht with rfl | rfl
        · exact Or.inl rfl
        · omega
    have HFIN := Lib.hid hfin
    clear hfin
    obtain ⟨m1, m2⟩ := move_skip s.down
    have r7 : w7.heap[pb]? = some (.cells #[.int .i64 (s.sense : Int), .slice A6 (s.lines.length + 1) c6, .int .i64 ((pg : Int) + 1), .int .i64 1] 139 (0, 0)) := by rw [hw7]; exact hl_set (cs := #[.int .i64 (s.sense : Int), .slice A6 (s.lines.length + 1) c6, .int .i64 ((pg : Int) + 1), .int .i64 (rw_ : Int)]) (by rfl) (hl_set (cs := #[.int .i64 (s.sense : Int), .slice A6 (s.lines.length + 1) c6, .int .i64 (pg : Int), .int .i64 (rw_ : Int)]) (by rfl) (hl_set (by rfl) R6.out))
    have q7 : w7.heap[w.heap.size]? = some (.cells #[.slice none 0 0, .int .i64 0, .int .i64 0] 30 (0, 0)) := by rw [hw7]; exact hl_far (fun e => hne e) (hl_far (fun e => hne e) (hl_far (fun e => hne e) Q6.out))
    have G7 : Fr (fun b => b = pb ∨ b = w.heap.size) w6 w7 := by rw [hw7]; exact (((Fr.refl _ _).setCell (fun _ => Or.inl rfl) _).setCell (fun _ => Or.inl rfl) _).setCell (fun _ => Or.inl rfl) _
    have M1 := Lib.hid m1
    have M2 := Lib.hid m2
    clear hw7 m1 m2
    refine (normal_any _ _ _ _ rfl _).mono ?_
    rintro e w8 ⟨rfl, b8⟩
    obtain ⟨L8, _, _⟩ := row_look (hl_grow b8 q7)
    have R8 := Lib.hid (hl_grow b8 r7)
    have G8 := G7.then b8
    clear q7 r7 G7 b8 L6 F6 M6
    go_wp2
    refine bodyPost_ret (v := .agg #[.slice none 0 0, .int .i64 12, .int .i64 0]) (by simp [results, Tryz.results206, go_sem, L8]) rfl ⟨⟨_, _, rfl, World.ownsRow_nil _ _ _ _⟩, ?_⟩
    have hne' : pb ≠ w.heap.size := fun e => hne e.symm
    have ff : Fr (fun b => b = pb ∨ b = w.heap.size) w6 (((w8.setCell ⟨w.heap.size, 0, none⟩ (.slice none 0 0)).setCell ⟨w.heap.size, 1, none⟩ (.int .i64 12)).setCell ⟨w.heap.size, 2, none⟩ (.int .i64 0)) := ((G8.setCell (fun _ => Or.inr rfl) _).setCell (fun _ => Or.inr rfl) _).setCell (fun _ => Or.inr rfl) _
    exact HFIN.out _ _ _ (by rw [HPG.out]; exact M1.out.symm) M2.out.symm (hl_far hne' (hl_far hne' (hl_far hne' R8.out))) ff
end Go.Proofs.YtlbbmfmkhmmikaaGreat.U
