/- The reference's printer: Do. -/
import Derived.Test.YtgklbilkfmieoaaQrW
namespace Go.Proofs.Ytgklbilkfmieoaa
open Go.RowKit Job.Ebcdic

theorem QrT.pb {w : World} {B pb : Nat} : ∀ b, b < w.heap.size → b = pb → QrT w B pb b := fun _ _ h => Or.inl h
theorem rown_any (qb B : Nat) (s : PS) (op : Int) (A : Option Addr) (l : List UInt8) (c : Nat) (w : World) (hp : QrAt w B qb s) (hg : s.good) (ha : At w w.heap.size A (Lib.byteCells l)) (hlc : l.length ≤ c) (hz : l.length ≤ maxLen) :
    Calls Try.prog 51 #[.pointer (some ⟨qb, 0, none⟩), .int .i64 op, .slice A l.length c] w fun e w' =>
      RetR (prOwn s op l).2.1 (prOwn s op l).2.2.1 (prOwn s op l).2.2.2 w e w' ∧ QrAt w' B qb (prOwn s op l).1 ∧ Fr (QrT w B qb) w w' := by
  obtain ⟨g1, g2, g3⟩ := hg
  by_cases h20 : op = 20
  · subst h20
    refine (rown_count qb B s A l.length c w hp ⟨g1, g2, g3⟩).mono ?_
    rintro e w' ⟨h1, h2⟩
    exact ⟨h1, hp.grow h2, Fr.of_grow h2⟩
  · have e0 : prOwn s op l = (match prMoves op with
      | none => (s, [], 14, 128)
      | some (n, true) => if 132 < l.length then (s, [], 14, 128) else if s.lines.length = 8192 then (s, [], 14, 64) else ((s.write l).move n, [], 12, 0)
      | some (n, false) => (s.move n, [], 12, 0)) := by unfold prOwn; rw [if_neg h20]; rfl
    rw [e0]
    match hm : prMoves op with
    | none =>
      refine (rown_rej qb op A l.length c hz w h20 (.inl hm)).mono ?_
      rintro e w' ⟨h1, h2⟩
      exact ⟨h1, hp.grow h2, Fr.of_grow h2⟩
    | some (n, true) =>
      by_cases hl : 132 < l.length
      · simp only [if_pos hl]
        refine (rown_rej qb op A l.length c hz w h20 (.inr ⟨n, hm, hl⟩)).mono ?_
        rintro e w' ⟨h1, h2⟩
        exact ⟨h1, hp.grow h2, Fr.of_grow h2⟩
      · by_cases hf : s.lines.length = 8192
        · simp only [if_neg hl, if_pos hf]
          refine (rown_full qb B s op n A l.length c w hp h20 hm (by omega) hf).mono ?_
          rintro e w' ⟨h1, h2⟩
          exact ⟨h1, hp.grow h2, Fr.of_grow h2⟩
        · simp only [if_neg hl, if_neg hf]
          exact rown_write qb B s op n A l c w hp g3 h20 hm (by omega) (by omega) ha hlc
    | some (n, false) =>
      refine (rown_space qb B s op n A l.length c w hp (by omega) h20 hm).mono ?_
      rintro e w' ⟨h1, h2, h3⟩
      exact ⟨h1, h2, h3.mono QrT.pb⟩

set_option maxRecDepth 100000 in
set_option maxHeartbeats 2000000 in
theorem rdo_any (qb B : Nat) (s : PS) (op : Int) (A : Option Addr) (l : List UInt8) (c : Nat) (w : World) (hp : QrAt w B qb s) (hg : s.good) (ha : At w w.heap.size A (Lib.byteCells l)) (hlc : l.length ≤ c) (hz : l.length ≤ maxLen) :
    Calls Try.prog 17 #[.pointer (some ⟨qb, 0, none⟩), .int .i64 op, .slice A l.length c] w fun e w' =>
      RetR (prDo s op l).2.1 (prDo s op l).2.2.1 (prDo s op l).2.2.2 w e w' ∧ QrAt w' B qb (prDo s op l).1 ∧ Fr (QrT w B qb) w w' := by
  have hne : ¬ w.heap.size = qb := by obtain ⟨_, _, _, hr, _⟩ := hp; have := hl_lt hr; omega
  obtain ⟨A0, c0, L0, z0⟩ : ∃ A0 c0, (∀ o, w.cell? ⟨qb, o, none⟩ = #[Value.slice A0 s.lines.length c0, .int .i64 (s.down : Int), .int .i64 (s.sense : Int)][o]?) ∧ qb < w.heap.size := by obtain ⟨_, A0, c0, hr, _⟩ := hp; exact ⟨A0, c0, (row_look hr).1, hl_lt hr⟩
  by_cases h34 : op = 3 ∨ op = 4
  · have HP := Lib.hid (fun (w' : World) (h : Below w.heap.size w w') => (⟨hp.grow h, Fr.of_grow h⟩ : QrAt w' B qb s ∧ Fr (QrT w B qb) w w'))
    obtain ⟨rd, hrd, hal⟩ : ∃ rd, prDo s op l = (s, rd, 12, 0) ∧ ∀ w, Calls Try.prog 50 #[.int .i64 op, .int .i64 (s.sense : Int)] w fun e w' => ∃ A c, e = .returned (.tuple #[.agg #[.slice A rd.length c, .int .i64 12, .int .i64 0], .bool true]) ∧ w'.ownsRow w.heap.size 5 1 (.slice A rd.length c) rd.length (Lib.byteCells rd) ∧ Below w.heap.size w w' := by
      rcases h34 with rfl | rfl
      · refine ⟨[], by unfold prDo; rw [if_pos rfl], fun w => (rall_3 _ w).mono ?_⟩
        rintro e w' ⟨rfl, h⟩
        exact ⟨none, 0, rfl, World.ownsRow_nil _ _ _ _, h⟩
      · exact ⟨[UInt8.ofNat s.sense], by unfold prDo; rw [if_neg (by omega), if_pos rfl], fun w => rall_4 s.sense hg.2.1 w⟩
    rw [hrd]
    have HA := Lib.hid hal
    clear hp hg ha h34 hrd hal
    go_enter Try.func17, Try.ntmps17
    go_wp2_with fail
    refine (HA.out _).mono ?_
    rintro e w1 ⟨A1, c1, rfl, o1, b1⟩
    obtain ⟨r1, z1, b1'⟩ := alloc_call b1
    obtain ⟨L1, K1, _⟩ := row_look r1
    have hn1 : (Value.slice A1 rd.length c1).ownBlock ≠ some w.heap.size := own_row_ne o1 r1 (by decide)
    have O1 := Lib.hid (own_mono o1 (by simp : w.heap.size ≤ _))
    have R1 := Lib.hid r1
    clear r1 b1 o1
    go_wp2
    refine name_world (P := bodyPost _ _ _ _ _) ?_
    intro wf hwf
    have ff : Fr (fun b => b = w.heap.size) w1 wf := by
      rw [hwf]
      exact ((((Fr.refl (fun b => b = w.heap.size) w1).setCell (fun _ => rfl) _).setCell (fun _ => rfl) _).setCell (fun _ => rfl) _).alloc _
    have rf : wf.heap[w.heap.size]? = some (.cells #[.slice A1 rd.length c1, .int .i64 12, .int .i64 0] 36 (0, 0)) := by
      rw [hwf]
      exact hl_keep (hl_set (cs := #[.slice A1 rd.length c1, .int .i64 12, .int .i64 0]) (by rfl) (hl_set (cs := #[.slice A1 rd.length c1, .int .i64 0, .int .i64 0]) (by rfl) (hl_set (by rfl) R1.out)))
    have bf : Below w.heap.size w wf := by rw [hwf]; (repeat' (first | (with_reducible exact Below.refl _ _) | (with_reducible assumption) | (with_reducible refine below_drewN ?_ _) | (with_reducible refine Below.drew ?_) | (with_reducible refine Below.alloc ?_ ?_ _) | (with_reducible refine Below.setCell ?_ ?_ _) | (with_reducible refine below_row ?_ ?_ _) | (with_reducible exact Nat.le_refl _) | omega | (simp only [World.size_alloc, World.size_setCell, World.size_drew, World.size_drewN]; omega) | (simp; done) | (simp; omega)))
    clear hwf
    obtain ⟨Lf, _, _⟩ := row_look rf
    refine bodyPost_ret (v := .agg #[.slice A1 rd.length c1, .int .i64 12, .int .i64 0]) (by simp [results, Try.results17, go_sem, Lf]) rfl ⟨⟨_, _, rfl, ?_⟩, HP.out _ bf⟩
    exact ff.own O1.out (fun g hg e => hn1 (by rw [hg, e]))
  · have h3 : op ≠ 3 := fun h => h34 (.inl h)
    have h4 : op ≠ 4 := fun h => h34 (.inr h)
    have e0 : prDo s op l = ((prOwn s op l).1.feel (prOwn s op l).2.2.2, (prOwn s op l).2) := by unfold prDo; rw [if_neg h3, if_neg h4]
    rw [e0]
    have hsn := prOwn_sn s op l
    have HO := Lib.hid (fun (w' : World) (h : Below w.heap.size w w') => rown_any qb B s op A l c w' (hp.grow h) hg ((ha.below h).mono h.size) hlc hz)
    have HA := Lib.hid (fun (x : Int) w => rall_no op x h3 h4 w)
    generalize prOwn s op l = r at *
    obtain ⟨s1, rd, st, sn⟩ := r
    dsimp only at *
    clear h3 h4 h34 e0 hp hg ha
    go_enter Try.func17, Try.ntmps17
    go_wp2_with fail
    refine (HA.out _ _).mono ?_
    rintro e w1 ⟨rfl, b1⟩
    obtain ⟨r1, z1, b1'⟩ := alloc_call b1
    have R1 := Lib.hid r1
    clear r1 b1
    go_wp2_with fail
    refine name_world (P := fun W => Calls _ _ _ W _) ?_
    intro w2 hw2
    have x2 : w2.heap[w1.heap.size]? = some (.cells #[.slice none 0 0, .int .i64 0, .int .i64 0] 36 (0, 0)) := by rw [hw2]; exact hl_new rfl
    have q2 : w2.heap[w.heap.size]? = some (.cells #[.slice none 0 0, .int .i64 0, .int .i64 0] 36 (0, 0)) := by rw [hw2]; exact hl_keep R1.out
    have B2 : Below w.heap.size w w2 := by rw [hw2]; (repeat' (first | (with_reducible exact Below.refl _ _) | (with_reducible assumption) | (with_reducible refine below_drewN ?_ _) | (with_reducible refine Below.drew ?_) | (with_reducible refine Below.alloc ?_ ?_ _) | (with_reducible refine Below.setCell ?_ ?_ _) | (with_reducible refine below_row ?_ ?_ _) | (with_reducible exact Nat.le_refl _) | omega | (simp only [World.size_alloc, World.size_setCell, World.size_drew, World.size_drewN]; omega) | (simp; done) | (simp; omega)))
    clear hw2
    refine (HO.out _ B2).mono ?_
    rintro e w3 ⟨⟨A3, c3, rfl, o3⟩, p3, f3⟩
    have hT : ∀ (g : Nat) (cs : Array Value), w2.heap[g]? = some (.cells cs 36 (0, 0)) → g ≠ qb → ¬ QrT w2 B qb g := by
      rintro g cs hg hgq (h | ⟨_, cs', fr, h⟩)
      · exact hgq h
      · rw [hg] at h; injection h with h; injection h with _ h _; exact absurd h (by decide)
    have x3 := f3.row x2 (hT _ _ x2 (by omega))
    have q3 := f3.row q2 (hT _ _ q2 (fun e => hne e))
    have F3 : Fr (QrT w B qb) w w3 := (Fr.of_grow B2).trans f3 (fun b hb ht => QrT.back B2 b hb ht)
    obtain ⟨hB, A4, c4, r4, o4⟩ := p3
    have hob4 := own_row_ne o4 r4 (by decide)
    have hoq4 := own_row_ne o4 q3 (by decide)
    have hox4 := own_row_ne o4 x3 (by decide)
    have ho3 : ∀ g, (Value.slice A3 rd.length c3).ownBlock = some g → g ≠ qb ∧ g ≠ w.heap.size ∧ g ≠ w1.heap.size := fun g hg => ⟨fun e => own_row_ne o3 r4 (by decide) (by rw [hg, e]), fun e => own_row_ne o3 q3 (by decide) (by rw [hg, e]), fun e => own_row_ne o3 x3 (by decide) (by rw [hg, e])⟩
    have O3 := Lib.hid (own_mono o3 B2.size)
    obtain ⟨L4, K4, z4⟩ := row_look r4
    obtain ⟨Lq, Kq, zq⟩ := row_look q3
    obtain ⟨Lx, Kx, zx⟩ := row_look x3
    have hfin : ∀ (w5 : World) (se : Nat), w5.heap[qb]? = some (.cells #[.slice A4 s1.lines.length c4, .int .i64 (s1.down : Int), .int .i64 (se : Int)] 30 (0, 0)) → Fr (fun b => b = qb ∨ b = w.heap.size ∨ b = w1.heap.size) w3 w5 →
        w5.ownsRow w.heap.size 5 1 (.slice A3 rd.length c3) rd.length (Lib.byteCells rd) ∧ QrAt w5 B qb { s1 with sense := se } ∧ Fr (QrT w B qb) w w5 := by
      intro w5 se h1 h2
      refine ⟨h2.own O3.out (fun g hg ht => ?_), ⟨hB, A4, c4, h1, h2.own o4 (fun g hg ht => ?_)⟩, F3.trans h2 (fun b hb ht => ?_)⟩
      · rcases ht with h | h | h
        · exact (ho3 g hg).1 h
        · exact (ho3 g hg).2.1 h
        · exact (ho3 g hg).2.2 h
      · rcases ht with rfl | rfl | rfl
        · exact hob4 hg
        · exact hoq4 hg
        · exact hox4 hg
      · rcases ht with rfl | rfl | rfl
        · exact Or.inl rfl
        · omega
        · omega
    have HFIN := Lib.hid hfin
    have R4 := Lib.hid r4
    have Q3 := Lib.hid q3
    have X3 := Lib.hid x3
    have hqx : ¬ qb = w1.heap.size := by omega
    have hxq : ¬ w1.heap.size = qb := by omega
    have hwx : ¬ w.heap.size = w1.heap.size := by omega
    have hxw : ¬ w1.heap.size = w.heap.size := by omega
    have hne' : ¬ qb = w.heap.size := fun e => hne e.symm
    clear hfin q3 x3 x2 q2 f3 F3 r4 o3 o4 hob4 hoq4 hox4 ho3 hT
    rcases hsn with rfl | rfl | rfl
    · go_wp2
      refine name_world (P := bodyPost _ _ _ _ _) ?_
      intro wf hwf
      have rf : wf.heap[w.heap.size]? = some (.cells #[.slice A3 rd.length c3, .int .i64 st, .int .i64 0] 36 (0, 0)) := by
        rw [hwf]
        exact hl_set (cs := #[.slice A3 rd.length c3, .int .i64 st, .int .i64 0]) (by rfl) (hl_set (cs := #[.slice A3 rd.length c3, .int .i64 0, .int .i64 0]) (by rfl) (hl_set (by rfl) (hl_far (fun e => hwx e) (hl_far (fun e => hwx e) (hl_far (fun e => hwx e) Q3.out)))))
      have rp : wf.heap[qb]? = some (.cells #[.slice A4 s1.lines.length c4, .int .i64 (s1.down : Int), .int .i64 ((s1.sense : Nat) : Int)] 30 (0, 0)) := by
        rw [hwf]
        exact hl_far (fun e => hne' e) (hl_far (fun e => hne' e) (hl_far (fun e => hne' e) (hl_far (fun e => hqx e) (hl_far (fun e => hqx e) (hl_far (fun e => hqx e) R4.out)))))
      have ff : Fr (fun b => b = qb ∨ b = w.heap.size ∨ b = w1.heap.size) w3 wf := by
        rw [hwf]
        exact ((((((Fr.refl _ w3).setCell (fun _ => Or.inr (Or.inr rfl)) _).setCell (fun _ => Or.inr (Or.inr rfl)) _).setCell (fun _ => Or.inr (Or.inr rfl)) _).setCell (fun _ => Or.inr (Or.inl rfl)) _).setCell (fun _ => Or.inr (Or.inl rfl)) _).setCell (fun _ => Or.inr (Or.inl rfl)) _
      clear hwf
      obtain ⟨Lf, _, _⟩ := row_look rf
      obtain ⟨h1, h2, h3⟩ := HFIN.out wf _ rp ff
      refine bodyPost_ret (v := .agg #[.slice A3 rd.length c3, .int .i64 st, .int .i64 0]) (by simp [results, Try.results17, go_sem, Lf]) rfl ⟨⟨_, _, rfl, h1⟩, h2, h3⟩
    · go_wp2
      refine name_world (P := bodyPost _ _ _ _ _) ?_
      intro wf hwf
      have rf : wf.heap[w.heap.size]? = some (.cells #[.slice A3 rd.length c3, .int .i64 st, .int .i64 64] 36 (0, 0)) := by
        rw [hwf]
        exact hl_set (cs := #[.slice A3 rd.length c3, .int .i64 st, .int .i64 0]) (by rfl) (hl_set (cs := #[.slice A3 rd.length c3, .int .i64 0, .int .i64 0]) (by rfl) (hl_set (by rfl) (hl_far (fun e => hne e) (hl_far (fun e => hwx e) (hl_far (fun e => hwx e) (hl_far (fun e => hwx e) Q3.out))))))
      have rp : wf.heap[qb]? = some (.cells #[.slice A4 s1.lines.length c4, .int .i64 (s1.down : Int), .int .i64 ((64 : Nat) : Int)] 30 (0, 0)) := by
        rw [hwf]
        exact hl_far (fun e => hne' e) (hl_far (fun e => hne' e) (hl_far (fun e => hne' e) (hl_set (by rfl) (hl_far (fun e => hqx e) (hl_far (fun e => hqx e) (hl_far (fun e => hqx e) R4.out))))))
      have ff : Fr (fun b => b = qb ∨ b = w.heap.size ∨ b = w1.heap.size) w3 wf := by
        rw [hwf]
        exact (((((((Fr.refl _ w3).setCell (fun _ => Or.inr (Or.inr rfl)) _).setCell (fun _ => Or.inr (Or.inr rfl)) _).setCell (fun _ => Or.inr (Or.inr rfl)) _).setCell (fun _ => Or.inl rfl) _).setCell (fun _ => Or.inr (Or.inl rfl)) _).setCell (fun _ => Or.inr (Or.inl rfl)) _).setCell (fun _ => Or.inr (Or.inl rfl)) _
      clear hwf
      obtain ⟨Lf, _, _⟩ := row_look rf
      obtain ⟨h1, h2, h3⟩ := HFIN.out wf _ rp ff
      refine bodyPost_ret (v := .agg #[.slice A3 rd.length c3, .int .i64 st, .int .i64 64]) (by simp [results, Try.results17, go_sem, Lf]) rfl ⟨⟨_, _, rfl, h1⟩, h2, h3⟩
    · go_wp2
      refine name_world (P := bodyPost _ _ _ _ _) ?_
      intro wf hwf
      have rf : wf.heap[w.heap.size]? = some (.cells #[.slice A3 rd.length c3, .int .i64 st, .int .i64 128] 36 (0, 0)) := by
        rw [hwf]
        exact hl_set (cs := #[.slice A3 rd.length c3, .int .i64 st, .int .i64 0]) (by rfl) (hl_set (cs := #[.slice A3 rd.length c3, .int .i64 0, .int .i64 0]) (by rfl) (hl_set (by rfl) (hl_far (fun e => hne e) (hl_far (fun e => hwx e) (hl_far (fun e => hwx e) (hl_far (fun e => hwx e) Q3.out))))))
      have rp : wf.heap[qb]? = some (.cells #[.slice A4 s1.lines.length c4, .int .i64 (s1.down : Int), .int .i64 ((128 : Nat) : Int)] 30 (0, 0)) := by
        rw [hwf]
        exact hl_far (fun e => hne' e) (hl_far (fun e => hne' e) (hl_far (fun e => hne' e) (hl_set (by rfl) (hl_far (fun e => hqx e) (hl_far (fun e => hqx e) (hl_far (fun e => hqx e) R4.out))))))
      have ff : Fr (fun b => b = qb ∨ b = w.heap.size ∨ b = w1.heap.size) w3 wf := by
        rw [hwf]
        exact (((((((Fr.refl _ w3).setCell (fun _ => Or.inr (Or.inr rfl)) _).setCell (fun _ => Or.inr (Or.inr rfl)) _).setCell (fun _ => Or.inr (Or.inr rfl)) _).setCell (fun _ => Or.inl rfl) _).setCell (fun _ => Or.inr (Or.inl rfl)) _).setCell (fun _ => Or.inr (Or.inl rfl)) _).setCell (fun _ => Or.inr (Or.inl rfl)) _
      clear hwf
      obtain ⟨Lf, _, _⟩ := row_look rf
      obtain ⟨h1, h2, h3⟩ := HFIN.out wf _ rp ff
      refine bodyPost_ret (v := .agg #[.slice A3 rd.length c3, .int .i64 st, .int .i64 128]) (by simp [results, Try.results17, go_sem, Lf]) rfl ⟨⟨_, _, rfl, h1⟩, h2, h3⟩
end Go.Proofs.Ytgklbilkfmieoaa
