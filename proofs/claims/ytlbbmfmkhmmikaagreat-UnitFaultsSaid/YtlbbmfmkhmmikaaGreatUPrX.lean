/- UPrDo, UPrAll. -/
import Derived.Test.YtlbbmfmkhmmikaaGreatUPrW
import Derived.Deep.QuietTactic
namespace Go.Proofs.YtlbbmfmkhmmikaaGreat.U
open Go.RowKit Job.Ebcdic

set_option maxRecDepth 100000 in
set_option maxHeartbeats 2000000 in
/-- own, a line too long -/
theorem pown_long (pb : Nat) (op : Int) (k : Nat) (A : Option Addr) (n c : Nat) (w : World) (hm : prMoves op = some (k, true)) (hl : 132 < n) (hz : n ≤ maxLen) :
    Calls Tryz.prog 206 #[.pointer (some ⟨pb, 0, none⟩), .int .i64 op, .slice A n c] w fun e w' => RetR [] 14 128 w e w' ∧ Below w.heap.size w w' := by
  have hcase : op = 1 ∨ op = 9 ∨ op = 17 ∨ op = 25 ∨ op = 137 := by
    unfold prMoves at hm
    repeat' (split at hm; first | (simp at hm; done) | skip)
    all_goals (first | (simp at hm; done) | (simp at hm; omega))
  unfold maxLen at hz
  clear hm
  rcases hcase with rfl | rfl | rfl | rfl | rfl
  all_goals
    go_enter Tryz.func206, Tryz.ntmps206
    go_wp2_with fail
    refine (check_any _ _).mono ?_
    rintro e w1 ⟨rfl, b1⟩
    obtain ⟨r1, z1, b1'⟩ := alloc_call b1
    obtain ⟨L1, F1, _⟩ := row_look r1
    clear r1 b1
    go_wp2
    refine bodyPost_ret (v := .agg #[.slice none 0 0, .int .i64 14, .int .i64 128]) (by simp [results, Tryz.results206, go_sem, L1]) rfl ⟨⟨_, _, rfl, World.ownsRow_nil _ _ _ _⟩, by (repeat' (first | (with_reducible exact Below.refl _ _) | (with_reducible assumption) | (with_reducible refine below_drewN ?_ _) | (with_reducible refine Below.drew ?_) | (with_reducible refine Below.alloc ?_ ?_ _) | (with_reducible refine Below.setCell ?_ ?_ _) | (with_reducible refine below_row ?_ ?_ _) | (with_reducible exact Nat.le_refl _) | omega | (simp only [World.size_alloc, World.size_setCell, World.size_drew, World.size_drewN]; omega) | (simp; done) | (simp; omega)))⟩
set_option maxRecDepth 100000 in
set_option maxHeartbeats 2000000 in
/-- own, the paper full -/
theorem pown_full (pb B : Nat) (s : PS) (op : Int) (k : Nat) (A : Option Addr) (n c : Nat) (w : World) (hp : PrAt w B pb s) (hm : prMoves op = some (k, true)) (hl : n ≤ 132) (hn : s.lines.length = 8192) :
    Calls Tryz.prog 206 #[.pointer (some ⟨pb, 0, none⟩), .int .i64 op, .slice A n c] w fun e w' => RetR [] 14 64 w e w' ∧ Below w.heap.size w w' := by
  obtain ⟨hB, A1, c1, hr, ho⟩ := hp
  rw [hn] at hr
  obtain ⟨L, F, z⟩ := row_look hr
  have hcase : op = 1 ∨ op = 9 ∨ op = 17 ∨ op = 25 ∨ op = 137 := by
    unfold prMoves at hm
    repeat' (split at hm; first | (simp at hm; done) | skip)
    all_goals (first | (simp at hm; done) | (simp at hm; omega))
  have hl' : ¬ (132 < n) := by omega
  clear hm hr ho hn
  rcases hcase with rfl | rfl | rfl | rfl | rfl
  all_goals
    go_enter Tryz.func206, Tryz.ntmps206
    go_wp2_with fail
    refine (check_any _ _).mono ?_
    rintro e w1 ⟨rfl, b1⟩
    obtain ⟨r1, z1, b1'⟩ := alloc_call b1
    obtain ⟨L1, F1, _⟩ := row_look r1
    clear r1 b1
    go_wp2
    refine bodyPost_ret (v := .agg #[.slice none 0 0, .int .i64 14, .int .i64 64]) (by simp [results, Tryz.results206, go_sem, L1]) rfl ⟨⟨_, _, rfl, World.ownsRow_nil _ _ _ _⟩, by (repeat' (first | (with_reducible exact Below.refl _ _) | (with_reducible assumption) | (with_reducible refine below_drewN ?_ _) | (with_reducible refine Below.drew ?_) | (with_reducible refine Below.alloc ?_ ?_ _) | (with_reducible refine Below.setCell ?_ ?_ _) | (with_reducible refine below_row ?_ ?_ _) | (with_reducible exact Nat.le_refl _) | omega | (simp only [World.size_alloc, World.size_setCell, World.size_drew, World.size_drewN]; omega) | (simp; done) | (simp; omega)))⟩

theorem PrT.pb {w : World} {B pb : Nat} : ∀ b, b < w.heap.size → b = pb → PrT w B pb b := fun _ _ h => Or.inl h
set_option maxRecDepth 100000 in
/-- own, all commands -/
theorem pown_any (pb B : Nat) (s : PS) (op : Int) (A : Option Addr) (l : List UInt8) (c : Nat) (w : World) (hp : PrAt w B pb s) (hg : s.good) (ha : At w w.heap.size A (Lib.byteCells l)) (hlc : l.length ≤ c) (hz : l.length ≤ maxLen) :
    Calls Tryz.prog 206 #[.pointer (some ⟨pb, 0, none⟩), .int .i64 op, .slice A l.length c] w fun e w' =>
      RetR (prOwn s op l).2.1 (prOwn s op l).2.2.1 (prOwn s op l).2.2.2 w e w' ∧ PrAt w' B pb (prOwn s op l).1 ∧ Fr (PrT w B pb) w w' := by
  obtain ⟨g1, g2, g3⟩ := hg
  by_cases h20 : op = 20
  · subst h20
    refine (pown_count pb B s A l.length c w hp ⟨g1, g2, g3⟩).mono ?_
    rintro e w' ⟨h1, h2⟩
    exact ⟨h1, hp.grow h2, Fr.of_grow h2⟩
  · have e0 : prOwn s op l = (match prMoves op with
      | none => (s, [], 14, 128)
      | some (n, true) => if 132 < l.length then (s, [], 14, 128) else if s.lines.length = 8192 then (s, [], 14, 64) else ((s.write l).move n, [], 12, 0)
      | some (n, false) => (s.move n, [], 12, 0)) := by unfold prOwn; rw [if_neg h20]; rfl
    rw [e0]
    match hm : prMoves op with
    | none =>
      refine (pown_none pb op A l.length c w h20 hm).mono ?_
      rintro e w' ⟨h1, h2⟩
      exact ⟨h1, hp.grow h2, Fr.of_grow h2⟩
    | some (n, true) =>
      by_cases hl : 132 < l.length
      · simp only [if_pos hl]
        refine (pown_long pb op n A l.length c w hm hl hz).mono ?_
        rintro e w' ⟨h1, h2⟩
        exact ⟨h1, hp.grow h2, Fr.of_grow h2⟩
      · by_cases hf : s.lines.length = 8192
        · simp only [if_neg hl, if_pos hf]
          refine (pown_full pb B s op n A l.length c w hp hm (by omega) hf).mono ?_
          rintro e w' ⟨h1, h2⟩
          exact ⟨h1, hp.grow h2, Fr.of_grow h2⟩
        · simp only [if_neg hl, if_neg hf]
          exact pown_write pb B s op n A l c w hp g3 hm (by omega) (by omega) ha hlc
    | some (n, false) =>
      refine (pown_space pb B s op n A l.length c w hp (by omega) hm).mono ?_
      rintro e w' ⟨h1, h2, h3⟩
      exact ⟨h1, h2, h3.mono PrT.pb⟩


theorem PrT.back {w w' : World} {B pb : Nat} (hpb : pb < w.heap.size) (hb : Below w.heap.size w w') : ∀ b, b < w.heap.size → PrT w' B pb b → PrT w B pb b := by
  rintro b hlt (h | ⟨h1, ⟨cs, fr, h⟩, cs', t', fr', v', h2, h3⟩)
  · exact Or.inl h
  · exact Or.inr ⟨h1, ⟨cs, fr, (hb.block b hlt).symm.trans h⟩, cs', t', fr', v', (hb.block pb hpb).symm.trans h2, h3⟩
def PS.feel (s : PS) (sn : Int) : PS := { s with sense := if sn = 0 then s.sense else sn.toNat }
def prDo (s : PS) (op : Int) (l : List UInt8) : PS × List UInt8 × Int × Int :=
  if op = 3 then (s, [], 12, 0) else if op = 4 then (s, [UInt8.ofNat s.sense], 12, 0) else
  ((prOwn s op l).1.feel (prOwn s op l).2.2.2, (prOwn s op l).2)
theorem prOwn_sn (s : PS) (op : Int) (l : List UInt8) : (prOwn s op l).2.2.2 = 0 ∨ (prOwn s op l).2.2.2 = 64 ∨ (prOwn s op l).2.2.2 = 128 := by
  unfold prOwn
  split
  · exact .inl rfl
  · split
    · exact .inr (.inr rfl)
    · split
      · exact .inr (.inr rfl)
      · split
        · exact .inr (.inl rfl)
        · exact .inl rfl
    · exact .inl rfl

set_option maxRecDepth 100000 in
set_option maxHeartbeats 2000000 in
/-- command, for a printer -/
theorem pcommand_any (pb B : Nat) (s : PS) (op : Int) (A : Option Addr) (l : List UInt8) (c : Nat) (w : World) (hp : PrAt w B pb s) (hg : s.good) (ha : At w w.heap.size A (Lib.byteCells l)) (hlc : l.length ≤ c) (hz : l.length ≤ maxLen) :
    Calls Tryz.prog 197 #[.pointer (some ⟨pb, 0, none⟩), .int .i64 op, .slice A l.length c, .func (.func 206) #[.pointer (some ⟨pb, 0, none⟩)] #[]] w fun e w' =>
      RetR (prDo s op l).2.1 (prDo s op l).2.2.1 (prDo s op l).2.2.2 w e w' ∧ PrAt w' B pb (prDo s op l).1 ∧ Fr (PrT w B pb) w w' := by
  by_cases h3 : op = 3
  · subst h3
    have e0 : prDo s 3 l = (s, [], 12, 0) := by unfold prDo; rw [if_pos rfl]
    rw [e0]
    clear e0
    have HP := Lib.hid (fun (w' : World) (h : Below w.heap.size w w') => (⟨hp.grow h, Fr.of_grow h⟩ : PrAt w' B pb s ∧ Fr (PrT w B pb) w w'))
    clear hp hg
    go_enter Tryz.func197, Tryz.ntmps197
    go_wp2_with fail
    refine (normal_any _ _ _ _ rfl _).mono ?_
    rintro e w1 ⟨rfl, b1⟩
    obtain ⟨r1, z1, b1'⟩ := alloc_call b1
    obtain ⟨L1, F1, _⟩ := row_look r1
    clear r1 b1
    go_wp2
    refine bodyPost_ret (v := .agg #[.slice none 0 0, .int .i64 12, .int .i64 0]) (by simp [results, Tryz.results197, go_sem, L1]) rfl ⟨⟨_, _, rfl, World.ownsRow_nil _ _ _ _⟩, HP.out _ (by (repeat' (first | (with_reducible exact Below.refl _ _) | (with_reducible assumption) | (with_reducible refine below_drewN ?_ _) | (with_reducible refine Below.drew ?_) | (with_reducible refine Below.alloc ?_ ?_ _) | (with_reducible refine Below.setCell ?_ ?_ _) | (with_reducible refine below_row ?_ ?_ _) | (with_reducible exact Nat.le_refl _) | omega | (simp only [World.size_alloc, World.size_setCell, World.size_drew, World.size_drewN]; omega) | (simp; done) | (simp; omega))))⟩
  · by_cases h4 : op = 4
    · subst h4
      have e0 : prDo s 4 l = (s, [UInt8.ofNat s.sense], 12, 0) := by unfold prDo; rw [if_neg (by omega), if_pos rfl]
      rw [e0]
      clear e0 h3
      have HP := Lib.hid (fun (w' : World) (h : Below w.heap.size w w') => (⟨hp.grow h, Fr.of_grow h⟩ : PrAt w' B pb s ∧ Fr (PrT w B pb) w w'))
      obtain ⟨hB, A1, c1, hr, ho⟩ := hp
      have hse : s.sense < 256 := hg.2.1
      obtain ⟨L, _, z⟩ := row_look hr
      have hu : (UInt8.ofNat s.sense).toNat = s.sense := by rw [UInt8.toNat_ofNat']; omega
      have HU := Lib.hid hu
      clear hr ho hg hu
      go_enter Tryz.func197, Tryz.ntmps197
      go_wp2_with fail
      refine name_world (P := fun W => Calls _ _ _ W _) ?_
      intro w0 hw0
      have r0 : w0.heap[w.heap.size]? = some (.cells #[.slice none 0 0, .int .i64 0, .int .i64 0] 30 (0, 0)) := by rw [hw0]; exact hl_keep (hl_new rfl)
      have o0 : w0.ownsRow w.heap.size 5 1 (.slice (some ⟨w.heap.size + 1, 0, none⟩) 1 1) 1 (Lib.byteCells [UInt8.ofNat s.sense]) := by
        rw [hw0]
        have h := own_lit1 (w.alloc (.cells #[.slice none 0 0, .int .i64 0, .int .i64 0] 30)) 5 #[Value.int .u8 (s.sense : Int)] 1 rfl (by decide)
        rw [World.size_alloc] at h
        have hc : Lib.byteCells [UInt8.ofNat s.sense] = [Value.int .u8 (s.sense : Int)] := by simp only [Lib.byteCells, List.map_cons, List.map_nil]; rw [HU.out]
        rw [hc]
        exact own_mono h (Nat.le_succ _)
      have B0 : Below w.heap.size w w0 := by rw [hw0]; (repeat' (first | (with_reducible exact Below.refl _ _) | (with_reducible assumption) | (with_reducible refine below_drewN ?_ _) | (with_reducible refine Below.drew ?_) | (with_reducible refine Below.alloc ?_ ?_ _) | (with_reducible refine Below.setCell ?_ ?_ _) | (with_reducible refine below_row ?_ ?_ _) | (with_reducible exact Nat.le_refl _) | omega | (simp only [World.size_alloc, World.size_setCell, World.size_drew, World.size_drewN]; omega) | (simp; done) | (simp; omega)))
      have z0 := B0.size
      have O0 := Lib.hid o0
      clear hw0 o0
      refine (normal_any _ _ _ _ rfl _).mono ?_
      rintro e w1 ⟨rfl, b1⟩
      obtain ⟨L1, F1, z1⟩ := row_look (hl_grow b1 r0)
      have B1 : Below w.heap.size w w1 := B0.trans (b1.mono z0)
      have O1 := Lib.hid (own_grow O0.out b1)
      clear r0 b1 B0
      go_wp2
      refine bodyPost_ret (v := .agg #[.slice (some ⟨w.heap.size + 1, 0, none⟩) 1 1, .int .i64 12, .int .i64 0]) (by simp [results, Tryz.results197, go_sem, L1]) rfl ⟨⟨_, _, rfl, ?_⟩, HP.out _ (by (repeat' (first | (with_reducible exact Below.refl _ _) | (with_reducible assumption) | (with_reducible refine below_drewN ?_ _) | (with_reducible refine Below.drew ?_) | (with_reducible refine Below.alloc ?_ ?_ _) | (with_reducible refine Below.setCell ?_ ?_ _) | (with_reducible refine below_row ?_ ?_ _) | (with_reducible exact Nat.le_refl _) | omega | (simp only [World.size_alloc, World.size_setCell, World.size_drew, World.size_drewN]; omega) | (simp; done) | (simp; omega))))⟩
      exact own_far (own_far (own_far O1.out (by simp [Value.ownBlock]) _) (by simp [Value.ownBlock]) _) (by simp [Value.ownBlock]) _
    · have e0 : prDo s op l = ((prOwn s op l).1.feel (prOwn s op l).2.2.2, (prOwn s op l).2) := by unfold prDo; rw [if_neg h3, if_neg h4]
      rw [e0]
      have t3 : (op == 3) = false := by rw [beq_eq_false_iff_ne]; exact h3
      have t4 : (op == 4) = false := by rw [beq_eq_false_iff_ne]; exact h4
      have hsn := prOwn_sn s op l
      have HO := Lib.hid (fun (w' : World) (h : Below w.heap.size w w') => pown_any pb B s op A l c w' (hp.grow h) hg ((ha.below h).mono h.size) hlc hz)
      generalize prOwn s op l = r at *
      obtain ⟨s1, rd, st, sn⟩ := r
      dsimp only at *
      have hpbz : pb < w.heap.size := by obtain ⟨_, _, _, hr, _⟩ := hp; exact hl_lt hr
      have hne : ¬ w.heap.size = pb := by omega
      clear h3 h4 e0 hp hg ha
      go_enter Tryz.func197, Tryz.ntmps197
      go_wp2_with fail
      refine (HO.out _ (by (repeat' (first | (with_reducible exact Below.refl _ _) | (with_reducible assumption) | (with_reducible refine below_drewN ?_ _) | (with_reducible refine Below.drew ?_) | (with_reducible refine Below.alloc ?_ ?_ _) | (with_reducible refine Below.setCell ?_ ?_ _) | (with_reducible refine below_row ?_ ?_ _) | (with_reducible exact Nat.le_refl _) | omega | (simp only [World.size_alloc, World.size_setCell, World.size_drew, World.size_drewN]; omega) | (simp; done) | (simp; omega))))).mono ?_
      rintro e w1 ⟨⟨A1, c1, rfl, o1⟩, p1, f1⟩
      have q0 : (w.alloc (.cells #[.slice none 0 0, .int .i64 0, .int .i64 0] 30)).heap[w.heap.size]? = some (.cells #[.slice none 0 0, .int .i64 0, .int .i64 0] 30 (0, 0)) := hl_new rfl
      have q1 := f1.row q0 (fun h => by
        rcases h with h | ⟨_, ⟨cs, fr, h⟩, _⟩
        · exact hne h
        · rw [q0] at h; injection h with h; injection h with _ h _; exact absurd h (by decide))
      have F1 : Fr (PrT w B pb) w w1 := ((Fr.refl _ w).alloc _).trans f1 (fun b hb ht => PrT.back hpbz ((Below.refl _ _).alloc (Nat.le_refl _) _) b hb ht)
      obtain ⟨hB, A2, c2, r2, o2⟩ := p1
      have hob2 := own_row_ne o2 r2 (by decide)
      have hoq2 := own_row_ne o2 q1 (by decide)
      have ho1 : ∀ g, (Value.slice A1 rd.length c1).ownBlock = some g → g ≠ pb ∧ g ≠ w.heap.size := fun g hg => ⟨fun e => own_row_ne o1 r2 (by decide) (by rw [hg, e]), fun e => own_row_ne o1 q1 (by decide) (by rw [hg, e])⟩
      have O1 := Lib.hid (own_mono o1 (by simp : w.heap.size ≤ _))
      obtain ⟨L2, K2, z2⟩ := row_look r2
      obtain ⟨L1, K1, z1⟩ := row_look q1
      have hfin : ∀ (w3 : World) (se : Nat), w3.heap[pb]? = some (.cells #[.int .i64 (se : Int), .slice A2 s1.lines.length c2, .int .i64 ((s1.down / 60 + 1 : Nat) : Int), .int .i64 ((s1.down % 60 + 1 : Nat) : Int)] 139 (0, 0)) → Fr (fun b => b = pb ∨ b = w.heap.size) w1 w3 →
          w3.ownsRow w.heap.size 5 1 (.slice A1 rd.length c1) rd.length (Lib.byteCells rd) ∧ PrAt w3 B pb { s1 with sense := se } ∧ Fr (PrT w B pb) w w3 := by
        intro w3 se h1 h2
        refine ⟨h2.own O1.out (fun g hg ht => ?_), ⟨hB, A2, c2, h1, h2.own o2 (fun g hg ht => ?_)⟩, F1.trans h2 (fun b hb ht => ?_)⟩
        · rcases ht with h | h
          · exact (ho1 g hg).1 h
          · exact (ho1 g hg).2 h
        · rcases ht with rfl | rfl
          · exact hob2 hg
          · exact hoq2 hg
        · rcases ht with rfl | rfl
          · exact Or.inl rfl
          · omega
      have HFIN := Lib.hid hfin
      have R2 := Lib.hid r2
      have Q1 := Lib.hid q1
      clear hfin q0 q1 f1 F1 r2 o1 o2 hob2 hoq2 ho1
      have hne' : pb ≠ w.heap.size := fun e => hne e.symm
      rcases hsn with rfl | rfl | rfl
      · go_wp2
        refine name_world (P := bodyPost _ _ _ _ _) ?_
        intro wf hwf
        have rf : wf.heap[w.heap.size]? = some (.cells #[.slice A1 rd.length c1, .int .i64 st, .int .i64 0] 30 (0, 0)) := by
          rw [hwf]
          exact hl_keep (hl_set (cs := #[.slice A1 rd.length c1, .int .i64 st, .int .i64 0]) (by rfl) (hl_set (cs := #[.slice A1 rd.length c1, .int .i64 0, .int .i64 0]) (by rfl) (hl_set (by rfl) Q1.out)))
        have rp : wf.heap[pb]? = some (.cells #[.int .i64 ((s1.sense : Nat) : Int), .slice A2 s1.lines.length c2, .int .i64 ((s1.down / 60 + 1 : Nat) : Int), .int .i64 ((s1.down % 60 + 1 : Nat) : Int)] 139 (0, 0)) := by
          rw [hwf]
          exact hl_keep (hl_far hne' (hl_far hne' (hl_far hne' R2.out)))
        have ff : Fr (fun b => b = pb ∨ b = w.heap.size) w1 wf := by
          rw [hwf]
          exact ((((Fr.refl _ w1).setCell (fun _ => Or.inr rfl) _).setCell (fun _ => Or.inr rfl) _).setCell (fun _ => Or.inr rfl) _).alloc _
        clear hwf
        obtain ⟨Lf, _, _⟩ := row_look rf
        obtain ⟨h1, h2, h3⟩ := HFIN.out wf _ rp ff
        refine bodyPost_ret (v := .agg #[.slice A1 rd.length c1, .int .i64 st, .int .i64 0]) (by simp [results, Tryz.results197, go_sem, Lf]) rfl ⟨⟨_, _, rfl, h1⟩, h2, h3⟩
      · go_wp2
        refine name_world (P := bodyPost _ _ _ _ _) ?_
        intro wf hwf
        have rf : wf.heap[w.heap.size]? = some (.cells #[.slice A1 rd.length c1, .int .i64 st, .int .i64 64] 30 (0, 0)) := by
          rw [hwf]
          exact hl_keep (hl_set (cs := #[.slice A1 rd.length c1, .int .i64 st, .int .i64 0]) (by rfl) (hl_set (cs := #[.slice A1 rd.length c1, .int .i64 0, .int .i64 0]) (by rfl) (hl_set (by rfl) (hl_far (fun e => hne e) Q1.out))))
        have rp : wf.heap[pb]? = some (.cells #[.int .i64 ((64 : Nat) : Int), .slice A2 s1.lines.length c2, .int .i64 ((s1.down / 60 + 1 : Nat) : Int), .int .i64 ((s1.down % 60 + 1 : Nat) : Int)] 139 (0, 0)) := by
          rw [hwf]
          exact hl_keep (hl_far hne' (hl_far hne' (hl_far hne' (hl_set (by rfl) R2.out))))
        have ff : Fr (fun b => b = pb ∨ b = w.heap.size) w1 wf := by
          rw [hwf]
          exact (((((Fr.refl _ w1).setCell (fun _ => Or.inl rfl) _).setCell (fun _ => Or.inr rfl) _).setCell (fun _ => Or.inr rfl) _).setCell (fun _ => Or.inr rfl) _).alloc _
        clear hwf
        obtain ⟨Lf, _, _⟩ := row_look rf
        obtain ⟨h1, h2, h3⟩ := HFIN.out wf _ rp ff
        refine bodyPost_ret (v := .agg #[.slice A1 rd.length c1, .int .i64 st, .int .i64 64]) (by simp [results, Tryz.results197, go_sem, Lf]) rfl ⟨⟨_, _, rfl, h1⟩, h2, h3⟩
      · go_wp2
        refine name_world (P := bodyPost _ _ _ _ _) ?_
        intro wf hwf
        have rf : wf.heap[w.heap.size]? = some (.cells #[.slice A1 rd.length c1, .int .i64 st, .int .i64 128] 30 (0, 0)) := by
          rw [hwf]
          exact hl_keep (hl_set (cs := #[.slice A1 rd.length c1, .int .i64 st, .int .i64 0]) (by rfl) (hl_set (cs := #[.slice A1 rd.length c1, .int .i64 0, .int .i64 0]) (by rfl) (hl_set (by rfl) (hl_far (fun e => hne e) Q1.out))))
        have rp : wf.heap[pb]? = some (.cells #[.int .i64 ((128 : Nat) : Int), .slice A2 s1.lines.length c2, .int .i64 ((s1.down / 60 + 1 : Nat) : Int), .int .i64 ((s1.down % 60 + 1 : Nat) : Int)] 139 (0, 0)) := by
          rw [hwf]
          exact hl_keep (hl_far hne' (hl_far hne' (hl_far hne' (hl_set (by rfl) R2.out))))
        have ff : Fr (fun b => b = pb ∨ b = w.heap.size) w1 wf := by
          rw [hwf]
          exact (((((Fr.refl _ w1).setCell (fun _ => Or.inl rfl) _).setCell (fun _ => Or.inr rfl) _).setCell (fun _ => Or.inr rfl) _).setCell (fun _ => Or.inr rfl) _).alloc _
        clear hwf
        obtain ⟨Lf, _, _⟩ := row_look rf
        obtain ⟨h1, h2, h3⟩ := HFIN.out wf _ rp ff
        refine bodyPost_ret (v := .agg #[.slice A1 rd.length c1, .int .i64 st, .int .i64 128]) (by simp [results, Tryz.results197, go_sem, Lf]) rfl ⟨⟨_, _, rfl, h1⟩, h2, h3⟩
end Go.Proofs.YtlbbmfmkhmmikaaGreat.U
namespace Go.Proofs.YtlbbmfmkhmmikaaGreat.U
open Go.RowKit Job.Ebcdic

set_option maxRecDepth 100000 in
set_option maxHeartbeats 2000000 in
/-- Do -/
theorem pdo_any (pb B : Nat) (s : PS) (op : Int) (A : Option Addr) (l : List UInt8) (c : Nat) (w : World) (hp : PrAt w B pb s) (hg : s.good) (ha : At w w.heap.size A (Lib.byteCells l)) (hlc : l.length ≤ c) (hz : l.length ≤ maxLen) :
    Calls Tryz.prog 204 #[.pointer (some ⟨pb, 0, none⟩), .int .i64 op, .slice A l.length c] w fun e w' =>
      RetR (prDo s op l).2.1 (prDo s op l).2.2.1 (prDo s op l).2.2.2 w e w' ∧ PrAt w' B pb (prDo s op l).1 ∧ Fr (PrT w B pb) w w' := by
  have HC := Lib.hid (fun (w' : World) (h : Below w.heap.size w w') => pcommand_any pb B s op A l c w' (hp.grow h) hg ((ha.below h).mono h.size) hlc hz)
  have hpbz : pb < w.heap.size := by obtain ⟨_, _, _, hr, _⟩ := hp; exact hl_lt hr
  have hne : ¬ w.heap.size = pb := by omega
  generalize prDo s op l = r at *
  obtain ⟨s1, rd, st, sn⟩ := r
  dsimp only at *
  clear hp hg ha
  go_enter Tryz.func204, Tryz.ntmps204
  go_wp2_with fail
  refine (HC.out _ (by (repeat' (first | (with_reducible exact Below.refl _ _) | (with_reducible assumption) | (with_reducible refine below_drewN ?_ _) | (with_reducible refine Below.drew ?_) | (with_reducible refine Below.alloc ?_ ?_ _) | (with_reducible refine Below.setCell ?_ ?_ _) | (with_reducible refine below_row ?_ ?_ _) | (with_reducible exact Nat.le_refl _) | omega | (simp only [World.size_alloc, World.size_setCell, World.size_drew, World.size_drewN]; omega) | (simp; done) | (simp; omega))))).mono ?_
  rintro e w1 ⟨⟨A1, c1, rfl, o1⟩, p1, f1⟩
  have q0 : (w.alloc (.cells #[.slice none 0 0, .int .i64 0, .int .i64 0] 30)).heap[w.heap.size]? = some (.cells #[.slice none 0 0, .int .i64 0, .int .i64 0] 30 (0, 0)) := hl_new rfl
  have q1 := f1.row q0 (fun h => by
    rcases h with h | ⟨_, ⟨cs, fr, h⟩, _⟩
    · exact hne h
    · rw [q0] at h; injection h with h; injection h with _ h _; exact absurd h (by decide))
  have F1 : Fr (PrT w B pb) w w1 := ((Fr.refl _ w).alloc _).trans f1 (fun b hb ht => PrT.back hpbz ((Below.refl _ _).alloc (Nat.le_refl _) _) b hb ht)
  have ho1 : (Value.slice A1 rd.length c1).ownBlock ≠ some w.heap.size := own_row_ne o1 q1 (by decide)
  have O1 := Lib.hid (own_mono o1 (by simp : w.heap.size ≤ _))
  obtain ⟨L1, K1, z1⟩ := row_look q1
  have P1 := Lib.hid p1
  have Q1 := Lib.hid q1
  clear q0 q1 f1 p1 o1
  go_wp2
  refine name_world (P := bodyPost _ _ _ _ _) ?_
  intro wf hwf
  have ff : Fr (fun b => b = w.heap.size) w1 wf := by
    rw [hwf]
    exact (((Fr.refl (fun b => b = w.heap.size) w1).setCell (fun _ => rfl) _).setCell (fun _ => rfl) _).setCell (fun _ => rfl) _
  have rf : wf.heap[w.heap.size]? = some (.cells #[.slice A1 rd.length c1, .int .i64 st, .int .i64 sn] 30 (0, 0)) := by
    rw [hwf]
    exact hl_set (cs := #[.slice A1 rd.length c1, .int .i64 st, .int .i64 0]) (by rfl) (hl_set (cs := #[.slice A1 rd.length c1, .int .i64 0, .int .i64 0]) (by rfl) (hl_set (by rfl) Q1.out))
  clear hwf
  obtain ⟨Lf, _, _⟩ := row_look rf
  refine bodyPost_ret (v := .agg #[.slice A1 rd.length c1, .int .i64 st, .int .i64 sn]) (by simp [results, Tryz.results204, go_sem, Lf]) rfl ⟨⟨_, _, rfl, ?_⟩, ?_, ?_⟩
  · exact ff.own O1.out (fun g hg e => ho1 (by rw [hg, e]))
  · exact P1.out.at_block ff Q1.out (by decide) (by decide)
  · exact F1.trans ff (fun b hb e => absurd e (by omega))

set_option maxRecDepth 100000 in
set_option maxHeartbeats 2000000 in
theorem pdo_nil (op : Int) (v : Value) (w : World) :
    Calls Tryz.prog 204 #[.pointer none, .int .i64 op, v] w fun e w' => e = .returned (.agg #[.slice none 0 0, .int .i64 14, .int .i64 64]) ∧ Below w.heap.size w w' := by
  go_enter Tryz.func204, Tryz.ntmps204
  go_wp2_with fail
  refine (check_any _ _).mono ?_
  rintro e w1 ⟨rfl, b1⟩
  obtain ⟨r1, z1, b1'⟩ := alloc_call b1
  obtain ⟨L1, F1, _⟩ := row_look r1
  clear r1 b1
  go_wp2
  refine bodyPost_ret (v := .agg #[.slice none 0 0, .int .i64 14, .int .i64 64]) (by simp [results, Tryz.results204, go_sem, L1]) rfl ⟨rfl, by (repeat' (first | (with_reducible exact Below.refl _ _) | (with_reducible assumption) | (with_reducible refine below_drewN ?_ _) | (with_reducible refine Below.drew ?_) | (with_reducible refine Below.alloc ?_ ?_ _) | (with_reducible refine Below.setCell ?_ ?_ _) | (with_reducible refine below_row ?_ ?_ _) | (with_reducible exact Nat.le_refl _) | omega | (simp only [World.size_alloc, World.size_setCell, World.size_drew, World.size_drewN]; omega) | (simp; done) | (simp; omega)))⟩

set_option maxRecDepth 100000 in
set_option maxHeartbeats 1000000 in
theorem pat_any (pb B : Nat) (s : PS) (w : World) (hp : PrAt w B pb s) :
    Calls Tryz.prog 55 #[.pointer (some ⟨pb, 0, none⟩)] w fun e w' => e = .returned (.tuple #[.int .i64 ((s.down / 60 + 1 : Nat) : Int), .int .i64 ((s.down % 60 + 1 : Nat) : Int)]) ∧ Still w w' := by
  obtain ⟨hB, A1, c1, hr, ho⟩ := hp
  obtain ⟨L, F, z⟩ := row_look hr
  have c2 : w.cell? ⟨pb, 2, none⟩ = some (.int .i64 ((s.down / 60 + 1 : Nat) : Int)) := L 2
  have c3 : w.cell? ⟨pb, 3, none⟩ = some (.int .i64 ((s.down % 60 + 1 : Nat) : Int)) := L 3
  generalize ((s.down / 60 + 1 : Nat) : Int) = x at *
  generalize ((s.down % 60 + 1 : Nat) : Int) = y at *
  clear L F hr ho
  go_enter Tryz.func55, Tryz.ntmps55
  go_wp2
  go_quiet (fail)
  go_wp2
  go_ret2
  exact ⟨rfl, by first | exact still_1 _ _ | exact still_2 _ _ _⟩
set_option maxRecDepth 100000 in
set_option maxHeartbeats 1000000 in
theorem pat_nil (w : World) : Calls Tryz.prog 55 #[.pointer none] w fun e w' => e = .returned (.tuple #[.int .i64 0, .int .i64 0]) ∧ w = w' := by
  go_enter Tryz.func55, Tryz.ntmps55
  go_wp2
  go_ret2
  exact ⟨rfl, rfl⟩
set_option maxRecDepth 100000 in
set_option maxHeartbeats 1000000 in
theorem reset_any (pb : Nat) (x : Value) (w : World) (h : w.cell? ⟨pb, 0, none⟩ = some x) (hf : w.frozen? ⟨pb, 0, none⟩ = false) :
    Calls Tryz.prog 199 #[.pointer (some ⟨pb, 0, none⟩)] w fun e w' => e = .returned (.tuple #[]) ∧ w.setCell ⟨pb, 0, none⟩ (.int .i64 0) = w' := by
  go_enter Tryz.func199, Tryz.ntmps199
  go_wp2
  go_end0
  exact ⟨rfl, rfl⟩
set_option maxRecDepth 100000 in
set_option maxHeartbeats 1000000 in
theorem ppower_any (pb B : Nat) (s : PS) (w : World) (hp : PrAt w B pb s) :
    Calls Tryz.prog 205 #[.pointer (some ⟨pb, 0, none⟩)] w fun e w' => e = .returned (.tuple #[]) ∧ PrAt w' B pb { s with sense := 0 } ∧ Fr (fun b => b = pb) w w' := by
  obtain ⟨hB, A1, c1, hr, ho⟩ := hp
  obtain ⟨L, F, z⟩ := row_look hr
  have hob := own_row_ne ho hr (by decide)
  have HO := Lib.hid ho
  have R := Lib.hid hr
  have hc0 : w.cell? ⟨pb, 0, none⟩ = some (.int .i64 (s.sense : Int)) := L 0
  have hf0 : w.frozen? ⟨pb, 0, none⟩ = false := F 0
  clear hr ho L F
  go_enter Tryz.func205, Tryz.ntmps205
  go_wp2_with (go_at_call 199; refine (reset_any pb _ _ hc0 hf0).mono ?_; rintro e w1 ⟨rfl, rfl⟩)
  go_end0
  have ff : Fr (fun b => b = pb) w (w.setCell ⟨pb, 0, none⟩ (.int .i64 0)) := (Fr.refl (fun b => b = pb) w).setCell (fun _ => rfl) _
  exact ⟨rfl, ⟨hB, A1, c1, hl_set (by rfl) R.out, ff.own HO.out (fun g hg e => hob (by rw [← e]; exact hg))⟩, ff⟩
set_option maxRecDepth 100000 in
set_option maxHeartbeats 1000000 in
theorem ppower_nil (w : World) : Calls Tryz.prog 205 #[.pointer none] w fun e w' => e = .returned (.tuple #[]) ∧ w = w' := by
  go_enter Tryz.func205, Tryz.ntmps205
  go_wp2
  go_end0
  exact ⟨rfl, rfl⟩
set_option maxRecDepth 100000 in
set_option maxHeartbeats 1000000 in
theorem pnew_any (w : World) : Calls Tryz.prog 69 #[] w fun e w' => e = .returned (.pointer (some ⟨w.heap.size, 0, none⟩)) ∧ PrAt w' w.heap.size w.heap.size ⟨0, [], 0⟩ ∧ Below w.heap.size w w' := by
  go_enter Tryz.func69, Tryz.ntmps69
  go_wp2
  go_ret
  exact ⟨rfl, ⟨Nat.le_refl _, none, 0, hl_new rfl, World.ownsRow_nil _ _ _ _⟩, by (repeat' (first | (with_reducible exact Below.refl _ _) | (with_reducible assumption) | (with_reducible refine below_drewN ?_ _) | (with_reducible refine Below.drew ?_) | (with_reducible refine Below.alloc ?_ ?_ _) | (with_reducible refine Below.setCell ?_ ?_ _) | (with_reducible refine below_row ?_ ?_ _) | (with_reducible exact Nat.le_refl _) | omega | (simp only [World.size_alloc, World.size_setCell, World.size_drew, World.size_drewN]; omega) | (simp; done) | (simp; omega)))⟩

set_option maxRecDepth 100000 in
set_option maxHeartbeats 1000000 in
theorem ppaper_nil (w : World) : Calls Tryz.prog 36 #[.pointer none] w fun e w' => e = .returned (.slice none 0 0) ∧ w = w' := by
  go_enter Tryz.func36, Tryz.ntmps36
  go_wp2
  go_ret
  exact ⟨rfl, rfl⟩
theorem lineCells_one (l : List (Nat × Nat × List UInt8)) : ∀ u ∈ l.flatMap lineCells, u.oneCell' = true := by
  intro u hu
  obtain ⟨x, _, hx⟩ := List.mem_flatMap.1 hu
  simp [lineCells] at hx
  rcases hx with rfl | rfl | rfl <;> rfl
set_option maxRecDepth 100000 in
set_option maxHeartbeats 1000000 in
theorem ppaper_any (pb B : Nat) (s : PS) (w : World) (hp : PrAt w B pb s) (hg : s.good) :
    Calls Tryz.prog 36 #[.pointer (some ⟨pb, 0, none⟩)] w fun e w' => ∃ A c, e = .returned (.slice A s.lines.length c) ∧
      w'.ownsRow w.heap.size 151 3 (.slice A s.lines.length c) s.lines.length (s.lines.flatMap lineCells) ∧ Below w.heap.size w w' := by
  obtain ⟨hB, A1, c1, hr, ho⟩ := hp
  obtain ⟨L, F, z⟩ := row_look hr
  have g1 : s.lines.length ≤ 8192 := hg.1
  have HA := Lib.hid (own_at3 ho)
  have HN := Lib.hid (lineCells_len s.lines)
  clear hr ho
  go_enter Tryz.func36, Tryz.ntmps36
  go_wp2_with (at_builtin; refine wpList_append_at (by rfl) _ _ _ (by rfl) lineElem w.heap.size _ 0 [] (by rfl) (World.ownsRow_nil _ _ _ _) w.heap.size A1 s.lines.length c1 _ (by rfl) HA.out HN.out (lineCells_one _) (by unfold maxLen; omega) (by omega) (Nat.le_refl _) ?_; intro A3 c3 w3 o3 g3)
  rw [Nat.zero_add, List.nil_append] at o3
  have O3 := Lib.hid o3
  have B3 : Below w.heap.size w w3 := (Below.refl _ _).grown g3 (Nat.le_refl _) (by intro k hk; simp [Value.ownBlock] at hk)
  clear o3 g3
  go_wp2
  go_ret
  exact ⟨_, _, rfl, O3.out, B3⟩
end Go.Proofs.YtlbbmfmkhmmikaaGreat.U
