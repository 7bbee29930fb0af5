/- The program's printer as an assertion. -/
import Derived.Test.YtfhpaehfihnjaaaGreatUPa
set_option maxRecDepth 100000
namespace Go.Proofs.YtfhpaehfihnjaaaGreat.U
open Go.RowKit Job.Ebcdic
def printS (pb : Nat) (s : PS) : SA := fun h => ∃ p : Option Addr × Nat, True ∧ star [cel pb #[.int .i64 (s.sense : Int), .slice p.1 s.lines.length p.2, .int .i64 ((s.down / 60 + 1 : Nat) : Int), .int .i64 ((s.down % 60 + 1 : Nat) : Int)] 153, rowS 107 3 (.slice p.1 s.lines.length p.2) s.lines.length (s.lines.flatMap lineCells)] h
section
variable {W w : World} {F : List SA} {pb : Nat} {s : PS}
theorem printS_open (S : SL W (printS pb s :: F) w) : ∃ A c, SL W (cel pb #[.int .i64 (s.sense : Int), .slice A s.lines.length c, .int .i64 ((s.down / 60 + 1 : Nat) : Int), .int .i64 ((s.down % 60 + 1 : Nat) : Int)] 153 :: rowS 107 3 (.slice A s.lines.length c) s.lines.length (s.lines.flatMap lineCells) :: F) w := by
  obtain ⟨p, _, h⟩ := S.unpack (α := Option Addr × Nat) (φ := fun _ => True) (K := fun p => [cel pb #[.int .i64 (s.sense : Int), .slice p.1 s.lines.length p.2, .int .i64 ((s.down / 60 + 1 : Nat) : Int), .int .i64 ((s.down % 60 + 1 : Nat) : Int)] 153, rowS 107 3 (.slice p.1 s.lines.length p.2) s.lines.length (s.lines.flatMap lineCells)]) (fun h p => p)
  exact ⟨p.1, p.2, h⟩
theorem printS_close {A : Option Addr} {c : Nat} (S : SL W (cel pb #[.int .i64 (s.sense : Int), .slice A s.lines.length c, .int .i64 ((s.down / 60 + 1 : Nat) : Int), .int .i64 ((s.down % 60 + 1 : Nat) : Int)] 153 :: rowS 107 3 (.slice A s.lines.length c) s.lines.length (s.lines.flatMap lineCells) :: F) w) : SL W (printS pb s :: F) w :=
  SL.pack (L := [cel pb #[.int .i64 (s.sense : Int), .slice A s.lines.length c, .int .i64 ((s.down / 60 + 1 : Nat) : Int), .int .i64 ((s.down % 60 + 1 : Nat) : Int)] 153, rowS 107 3 (.slice A s.lines.length c) s.lines.length (s.lines.flatMap lineCells)]) S fun _ h => ⟨(A, c), trivial, h⟩
theorem printS_at (S : SL W (printS pb s :: F) w) : PrAt w W.heap.size pb s := by
  obtain ⟨A, c, S1⟩ := printS_open S
  exact ⟨S1.cge, A, c, S1.crow, S1.s1.own⟩
theorem retS_of {rd : List UInt8} {st sn : Int} {e : Ending} {w' : World} (S : SL W F w) (h : RetR rd st sn w e w' ∧ Below w.heap.size w w') : RetS W F rd st sn e w' := by
  obtain ⟨⟨A, c, he, ho⟩, hb⟩ := h
  exact ⟨A, c, he, S.made ho hb⟩
theorem space_S (n : Nat) (hn : n ≤ 3) (hd : s.down ≤ 2000000000) (S : SL W (printS pb s :: F) w) : Calls Tryz.prog 203 #[.pointer (some ⟨pb, 0, none⟩), .int .i64 (n : Int)] w fun e w' => e = .returned (.tuple #[]) ∧ SL W (printS pb (s.move n) :: F) w' := by
  obtain ⟨A, c, S1⟩ := printS_open S
  refine (space_st pb s n hn hd w A c S1.crow).mono ?_
  rintro e w' ⟨rfl, h1, hf⟩
  exact ⟨rfl, printS_close (s := s.move n) (SL.turn S1 h1 hf)⟩
set_option maxHeartbeats 4000000 in
theorem prs_space (op : Int) (k : Nat) (A : Option Addr) (n c : Nat) (hm : prMoves op = some (k, false)) (hd : s.down ≤ 2000000000) (S : SL W (printS pb s :: F) w) :
    Calls Tryz.prog 201 #[.pointer (some ⟨pb, 0, none⟩), .int .i64 op, .slice A n c] w fun e w' => RetS W (printS pb (s.move k) :: F) [] 12 0 e w' := by
  have HS := Lib.hid S
  have hcase : (op = 11 ∧ k = 1) ∨ (op = 19 ∧ k = 2) ∨ (op = 27 ∧ k = 3) ∨ (op = 139 ∧ k = 4) := by
    unfold prMoves at hm
    repeat' (split at hm; first | (simp at hm; done) | skip)
    all_goals (first | (simp at hm; done) | (simp at hm; omega))
  clear S hm
  rcases hcase with ⟨rfl, rfl⟩ | ⟨rfl, rfl⟩ | ⟨rfl, rfl⟩ | ⟨rfl, rfl⟩
  · go_enter Tryz.func201, Tryz.ntmps201; go_wp2_with fail; refine (space_S 1 (by omega) hd (HS.out.allocC #[.slice none 0 0, .int .i64 0, .int .i64 0] 55).s1).mono ?_; rintro e w1 ⟨rfl, S1⟩; have H1 := Lib.hid S1; clear S1; go_wp2_with fail; refine (normal_any _ _ _ _ rfl _).mono ?_; rintro e w2 ⟨rfl, b2⟩; have H2 := Lib.hid (H1.out.grow b2).s1; obtain ⟨L2, F2, z2⟩ := H2.out.look; clear b2; go_wp2; exact bodyPost_ret (v := .agg #[.slice none 0 0, .int .i64 12, .int .i64 0]) (by simp [results, Tryz.results201, go_sem, L2]) rfl (RetS.of H2.out.set3.drop)
  · go_enter Tryz.func201, Tryz.ntmps201; go_wp2_with fail; refine (space_S 2 (by omega) hd (HS.out.allocC #[.slice none 0 0, .int .i64 0, .int .i64 0] 55).s1).mono ?_; rintro e w1 ⟨rfl, S1⟩; have H1 := Lib.hid S1; clear S1; go_wp2_with fail; refine (normal_any _ _ _ _ rfl _).mono ?_; rintro e w2 ⟨rfl, b2⟩; have H2 := Lib.hid (H1.out.grow b2).s1; obtain ⟨L2, F2, z2⟩ := H2.out.look; clear b2; go_wp2; exact bodyPost_ret (v := .agg #[.slice none 0 0, .int .i64 12, .int .i64 0]) (by simp [results, Tryz.results201, go_sem, L2]) rfl (RetS.of H2.out.set3.drop)
  · go_enter Tryz.func201, Tryz.ntmps201; go_wp2_with fail; refine (space_S 3 (by omega) hd (HS.out.allocC #[.slice none 0 0, .int .i64 0, .int .i64 0] 55).s1).mono ?_; rintro e w1 ⟨rfl, S1⟩; have H1 := Lib.hid S1; clear S1; go_wp2_with fail; refine (normal_any _ _ _ _ rfl _).mono ?_; rintro e w2 ⟨rfl, b2⟩; have H2 := Lib.hid (H1.out.grow b2).s1; obtain ⟨L2, F2, z2⟩ := H2.out.look; clear b2; go_wp2; exact bodyPost_ret (v := .agg #[.slice none 0 0, .int .i64 12, .int .i64 0]) (by simp [results, Tryz.results201, go_sem, L2]) rfl (RetS.of H2.out.set3.drop)
  · obtain ⟨A1, c1, S1⟩ := printS_open HS.out
    obtain ⟨L, F', z⟩ := S1.look
    obtain ⟨m1, m2⟩ := move_skip s.down
    have M := Lib.hid (And.intro m1 m2)
    have hov : IntKind.i64.wrap (((s.down / 60 + 1 : Nat) : Int) + 1) = ((s.down / 60 + 1 : Nat) : Int) + 1 := IntWalk.i64_in _ (by omega)
    have L2 : w.cell? ⟨pb, 2, none⟩ = some (.int .i64 ((s.down / 60 + 1 : Nat) : Int)) := L 2
    have L3 : w.cell? ⟨pb, 3, none⟩ = some (.int .i64 ((s.down % 60 + 1 : Nat) : Int)) := L 3
    have H1 := Lib.hid S1
    clear S1 L m1 m2 hd
    generalize ((s.down / 60 + 1 : Nat) : Int) = pg at *
    go_enter Tryz.func201, Tryz.ntmps201
    go_wp2_with fail
    refine name_world (P := fun W => Calls _ _ _ W _) ?_
    intro w1 hw1
    have S2 := (((H1.out.set (off := 2) (v := .int .i64 (pg + 1)) rfl).set (off := 3) (v := .int .i64 1) rfl)).allocC #[.slice none 0 0, .int .i64 0, .int .i64 0] 55
    rw [World.size_setCell, World.size_setCell] at S2
    have H2 := Lib.hid (SL.cast hw1 S2.s1)
    clear S2 hw1
    refine (normal_any _ _ _ _ rfl _).mono ?_
    rintro e w2 ⟨rfl, b2⟩
    have H3 := Lib.hid (H2.out.grow b2).s1
    obtain ⟨L3, F3, z3⟩ := H3.out.look
    clear b2
    go_wp2
    refine bodyPost_ret (v := .agg #[.slice none 0 0, .int .i64 12, .int .i64 0]) (by simp [results, Tryz.results201, go_sem, L3]) rfl (RetS.of (printS_close (A := A1) (c := c1) (s := s.move 4) ?_))
    have S4 := H3.out.set3 (u0 := .slice none 0 0) (u1 := .int .i64 12) (u2 := .int .i64 0)
    show SL W (cel pb #[.int .i64 (s.sense : Int), .slice A1 s.lines.length c1, .int .i64 ((prMove s.down 4 / 60 + 1 : Nat) : Int), .int .i64 ((prMove s.down 4 % 60 + 1 : Nat) : Int)] 153 :: _) _
    rw [M.out.1, M.out.2]
    exact S4.drop
set_option maxHeartbeats 8000000 in
theorem prs_write (op : Int) (k : Nat) (A : Option Addr) (l : List UInt8) (c : Nat) (hm : prMoves op = some (k, true)) (hd : s.down ≤ 1000000000) (hl : l.length ≤ 132) (hn : s.lines.length < 8192) (hlc : l.length ≤ c)
    (hr : Rd W (printS pb s :: F) A (Lib.byteCells l)) (S : SL W (printS pb s :: F) w) :
    Calls Tryz.prog 201 #[.pointer (some ⟨pb, 0, none⟩), .int .i64 op, .slice A l.length c] w fun e w' => RetS W (printS pb ((s.write l).move k) :: F) [] 12 0 e w' := by
  have hcase : (op = 1 ∧ k = 0) ∨ (op = 9 ∧ k = 1) ∨ (op = 17 ∧ k = 2) ∨ (op = 25 ∧ k = 3) ∨ (op = 137 ∧ k = 4) := by
    unfold prMoves at hm
    repeat' (split at hm; first | (simp at hm; done) | skip)
    all_goals (first | (simp at hm; done) | (simp at hm; omega))
  obtain ⟨A1, c1, S1⟩ := printS_open S
  have H1 := Lib.hid S1
  have HT := Lib.hid (fun (w' : World) (h : SL W (printS pb s :: F) w') => trim_any A l c w' (hr w' h) (by omega) hlc)
  obtain ⟨L, K, z⟩ := S1.look
  have L1 : w.cell? ⟨pb, 1, none⟩ = some (.slice A1 s.lines.length c1) := L 1
  have HD := Lib.hid hd
  obtain ⟨m1, m2⟩ := move_skip s.down
  have M := Lib.hid (And.intro m1 m2)
  have hov : IntKind.i64.wrap (((s.down / 60 + 1 : Nat) : Int) + 1) = ((s.down / 60 + 1 : Nat) : Int) + 1 := IntWalk.i64_in _ (by omega)
  have hpg : (s.down / 60 + 1 : Nat) ≤ 1000000000 := by omega
  clear S S1 hr hm m1 m2 hd L
  obtain ⟨lz, hlz⟩ : ∃ n, n = s.lines.length := ⟨_, rfl⟩
  have HN := Lib.hid hlz
  have h8 : ((s.lines.length : Int) == 8192) = false := by rw [beq_eq_false_iff_ne]; omega
  have hlI : ¬ (132 < l.length) := by omega
  clear hlz
  rcases hcase with ⟨rfl, rfl⟩ | ⟨rfl, rfl⟩ | ⟨rfl, rfl⟩ | ⟨rfl, rfl⟩ | ⟨rfl, rfl⟩
  all_goals
    go_enter Tryz.func201, Tryz.ntmps201
    go_upto_region 14 with fail
    refine name_world (P := Code.wp _ _ _ _) ?_
    intro w0 hw0
    have H0 := Lib.hid (SL.cast hw0 (H1.out.allocC #[.slice none 0 0, .int .i64 0, .int .i64 0] 55).b2)
    clear hw0
    refine wp_region_order (SL W (cel pb #[.int .i64 (s.sense : Int), .slice A1 s.lines.length c1, .int .i64 ((s.down / 60 + 1 : Nat) : Int), .int .i64 ((s.down % 60 + 1 : Nat) : Int)] 153 :: rowS 107 3 (.slice A1 s.lines.length c1) s.lines.length (s.lines.flatMap lineCells) :: cel w.heap.size #[.slice none 0 0, .int .i64 0, .int .i64 0] 55 :: F)) [0, 1, 2, 3, 5, 6, 7, 9, 10, 11, 13] [4, 8, 12] [] [14, 15, 16] [17, 18, 19, 20] (by kernel_rfl) (by kernel_rfl) H0.out.drew (by intro c a d v w h; cases d <;> exact h) ?_
    simp only [pick, List.filterMap_cons, List.filterMap_nil, List.getElem?_cons_zero, List.getElem?_cons_succ]
    repeat (refine wpPure_step (fun K hK => ?_); go_simp; refine hK _ ?_; clear hK K)
    refine wpPure_nil ?_
    repeat (refine wpLoads_step (fun K hK => ?_); go_simp; refine ⟨_, fun wx hx => (by obtain ⟨f1, f2, f3⟩ := hx.look; go_simp; rfl), hK _ ?_⟩; clear hK K)
    refine wpLoads_nil (wpQuiet_nil ?_)
    intro w1 s1
    refine wpKeep_step (fun K hK => ?_)
    go_simp
    refine (HT.out _ (printS_close (s1.s2.drop))).mono ?_
    rintro e w5 ⟨rfl, b5⟩
    have H5 := Lib.hid (s1.grow b5)
    refine hK _ _ H5.out ?_
    clear hK K b5 s1
    refine wpKeep_step (fun K hK => ?_)
    go_simp
    refine hK _ _ H5.out ?_
    clear hK K
    refine wpKeep_step (fun K hK => ?_)
    go_simp
    refine hK _ _ (H5.out.allocC _ _).drop ?_
    clear hK K
    refine wpKeep_nil ?_
    refine wpList_pushS (by rfl) _ _ _ (by rfl) lineElem w5 (lineCells (s.down / 60 + 1, s.down % 60 + 1, trim l)) 1 (by rfl) (by rfl) (by intro u hu; simp [lineCells] at hu; rcases hu with rfl | rfl | rfl <;> rfl) _ s.lines.length _ (by rfl) (by rfl) H5.out.s1 (by unfold maxLen; omega) (by omega) ?_
    intro A6 c6 w6 S6
    have hW6 : (s.write l).lines.flatMap lineCells = s.lines.flatMap lineCells ++ lineCells (s.down / 60 + 1, s.down % 60 + 1, trim l) := by simp [PS.write]
    rw [← hW6] at S6
    have N6 := Lib.hid (show (s.write l).lines.length = s.lines.length + 1 from by simp [PS.write])
    have H6 := Lib.hid S6.s1
    obtain ⟨L6, K6, z6⟩ := H6.out.look
    obtain ⟨L7, K7, z7⟩ := H6.out.s2.look
    have hne := H6.out.s2.cne
    clear S6 hW6 H5 H0 L1 K
    go_wp2_with fail
    refine name_world (P := fun W => Calls _ _ _ W _) ?_
    intro w7 hw7
  · have S7 := SL.cast hw7 (H6.out.set (off := 1) (v := .slice A6 (s.lines.length + 1) c6) rfl)
    rw [← N6.out] at S7
    have H7 := Lib.hid (printS_close (s := s.write l) S7)
    clear hw7 S7 L6 K6 L7 K7 H6
    refine (normal_any _ _ _ _ rfl _).mono ?_
    rintro e w8 ⟨rfl, b8⟩
    have H8 := Lib.hid (H7.out.grow b8).s1
    obtain ⟨L8, K8, z8⟩ := H8.out.look
    clear b8
    go_wp2
    exact bodyPost_ret (v := .agg #[.slice none 0 0, .int .i64 12, .int .i64 0]) (by simp [results, Tryz.results201, go_sem, L8]) rfl (RetS.of H8.out.set3.drop)
  · have S7 := SL.cast hw7 (H6.out.set (off := 1) (v := .slice A6 (s.lines.length + 1) c6) rfl); rw [← N6.out] at S7; have H7 := Lib.hid (printS_close (s := s.write l) S7); clear hw7 S7 L6 K6 L7 K7 H6; refine (space_S (s := s.write l) 1 (by omega) (show s.down ≤ 2000000000 by have := HD.out; omega) H7.out).mono ?_; rintro e w9 ⟨rfl, S9⟩; have H9 := Lib.hid S9; clear S9 H7; go_wp2_with fail; refine (normal_any _ _ _ _ rfl _).mono ?_; rintro e w8 ⟨rfl, b8⟩; have H8 := Lib.hid (H9.out.grow b8).s1; obtain ⟨L8, K8, z8⟩ := H8.out.look; clear b8; go_wp2; exact bodyPost_ret (v := .agg #[.slice none 0 0, .int .i64 12, .int .i64 0]) (by simp [results, Tryz.results201, go_sem, L8]) rfl (RetS.of H8.out.set3.drop)
  · have S7 := SL.cast hw7 (H6.out.set (off := 1) (v := .slice A6 (s.lines.length + 1) c6) rfl); rw [← N6.out] at S7; have H7 := Lib.hid (printS_close (s := s.write l) S7); clear hw7 S7 L6 K6 L7 K7 H6; refine (space_S (s := s.write l) 2 (by omega) (show s.down ≤ 2000000000 by have := HD.out; omega) H7.out).mono ?_; rintro e w9 ⟨rfl, S9⟩; have H9 := Lib.hid S9; clear S9 H7; go_wp2_with fail; refine (normal_any _ _ _ _ rfl _).mono ?_; rintro e w8 ⟨rfl, b8⟩; have H8 := Lib.hid (H9.out.grow b8).s1; obtain ⟨L8, K8, z8⟩ := H8.out.look; clear b8; go_wp2; exact bodyPost_ret (v := .agg #[.slice none 0 0, .int .i64 12, .int .i64 0]) (by simp [results, Tryz.results201, go_sem, L8]) rfl (RetS.of H8.out.set3.drop)
  · have S7 := SL.cast hw7 (H6.out.set (off := 1) (v := .slice A6 (s.lines.length + 1) c6) rfl); rw [← N6.out] at S7; have H7 := Lib.hid (printS_close (s := s.write l) S7); clear hw7 S7 L6 K6 L7 K7 H6; refine (space_S (s := s.write l) 3 (by omega) (show s.down ≤ 2000000000 by have := HD.out; omega) H7.out).mono ?_; rintro e w9 ⟨rfl, S9⟩; have H9 := Lib.hid S9; clear S9 H7; go_wp2_with fail; refine (normal_any _ _ _ _ rfl _).mono ?_; rintro e w8 ⟨rfl, b8⟩; have H8 := Lib.hid (H9.out.grow b8).s1; obtain ⟨L8, K8, z8⟩ := H8.out.look; clear b8; go_wp2; exact bodyPost_ret (v := .agg #[.slice none 0 0, .int .i64 12, .int .i64 0]) (by simp [results, Tryz.results201, go_sem, L8]) rfl (RetS.of H8.out.set3.drop)
  · have S7 := SL.cast hw7 (((H6.out.set (off := 1) (v := .slice A6 (s.lines.length + 1) c6) rfl).set (off := 2) (v := .int .i64 (((s.down / 60 + 1 : Nat) : Int) + 1)) rfl).set (off := 3) (v := .int .i64 1) rfl)
    rw [← N6.out] at S7
    have S7' : SL W (cel pb #[.int .i64 (s.sense : Int), .slice A6 (s.write l).lines.length c6, .int .i64 ((prMove s.down 4 / 60 + 1 : Nat) : Int), .int .i64 ((prMove s.down 4 % 60 + 1 : Nat) : Int)] 153 :: rowS 107 3 (.slice A6 (s.write l).lines.length c6) (s.write l).lines.length ((s.write l).lines.flatMap lineCells) :: cel w.heap.size #[.slice none 0 0, .int .i64 0, .int .i64 0] 55 :: F) w7 := by rw [M.out.1, M.out.2]; exact S7
    have H7 := Lib.hid (printS_close (s := (s.write l).move 4) S7')
    clear hw7 S7 S7' L6 K6 L7 K7 H6
    refine (normal_any _ _ _ _ rfl _).mono ?_
    rintro e w8 ⟨rfl, b8⟩
    have H8 := Lib.hid (H7.out.grow b8).s1
    obtain ⟨L8, K8, z8⟩ := H8.out.look
    clear b8
    go_wp2
    exact bodyPost_ret (v := .agg #[.slice none 0 0, .int .i64 12, .int .i64 0]) (by simp [results, Tryz.results201, go_sem, L8]) rfl (RetS.of H8.out.set3.drop)
theorem prs_own (op : Int) (A : Option Addr) (l : List UInt8) (c : Nat) (hg : s.good) (hr : Rd W (printS pb s :: F) A (Lib.byteCells l)) (hlc : l.length ≤ c) (hz : l.length ≤ maxLen) (S : SL W (printS pb s :: F) w) :
    Calls Tryz.prog 201 #[.pointer (some ⟨pb, 0, none⟩), .int .i64 op, .slice A l.length c] w fun e w' => RetS W (printS pb (prOwn s op l).1 :: F) (prOwn s op l).2.1 (prOwn s op l).2.2.1 (prOwn s op l).2.2.2 e w' := by
  obtain ⟨g1, g2, g3⟩ := hg
  have hp := printS_at S
  by_cases h20 : op = 20
  · subst h20
    refine (pown_count pb W.heap.size s A l.length c w hp ⟨g1, g2, g3⟩).mono ?_
    intro e w' h
    exact retS_of S h
  · have e0 : prOwn s op l = (match prMoves op with
      | none => (s, [], 14, 128)
      | some (n, true) => if 132 < l.length then (s, [], 14, 128) else if s.lines.length = 8192 then (s, [], 14, 64) else ((s.write l).move n, [], 12, 0)
      | some (n, false) => (s.move n, [], 12, 0)) := by unfold prOwn; rw [if_neg h20]; try rfl
    rw [e0]
    match hm : prMoves op with
    | none => exact (pown_none pb op A l.length c w h20 hm).mono fun e w' h => retS_of S h
    | some (n, true) =>
      by_cases hl : 132 < l.length
      · simp only [if_pos hl]
        exact (pown_long pb op n A l.length c w hm hl hz).mono fun e w' h => retS_of S h
      · by_cases hf : s.lines.length = 8192
        · simp only [if_neg hl, if_pos hf]
          exact (pown_full pb W.heap.size s op n A l.length c w hp hm (by omega) hf).mono fun e w' h => retS_of S h
        · simp only [if_neg hl, if_neg hf]
          exact prs_write op n A l c hm g3 (by omega) (by omega) hlc hr S
    | some (n, false) => exact prs_space op n A l.length c hm (by omega) S
theorem printer_dev (pb : Nat) (s : PS) : DevS pb (fun se => printS pb { s with sense := se }) := by
  rintro se h ⟨p, _, k⟩
  exact ⟨(#[.int .i64 (se : Int), .slice p.1 s.lines.length p.2, .int .i64 ((s.down / 60 + 1 : Nat) : Int), .int .i64 ((s.down % 60 + 1 : Nat) : Int)], 153, rowS 107 3 (.slice p.1 s.lines.length p.2) s.lines.length (s.lines.flatMap lineCells)), ⟨rfl, fun se' h' s' => ⟨p, trivial, s'⟩⟩, k⟩
theorem prOwn_sense (s : PS) (op : Int) (l : List UInt8) : (prOwn s op l).1.sense = s.sense := by
  unfold prOwn
  repeat' split
  all_goals rfl
theorem prs_command (op : Int) (A : Option Addr) (l : List UInt8) (c : Nat) (hg : s.good) (hr : Rd W (printS pb s :: F) A (Lib.byteCells l)) (hlc : l.length ≤ c) (hz : l.length ≤ maxLen) (S : SL W (printS pb s :: F) w) :
    Calls Tryz.prog 192 #[.pointer (some ⟨pb, 0, none⟩), .int .i64 op, .slice A l.length c, .func (.func 201) #[.pointer (some ⟨pb, 0, none⟩)] #[]] w fun e w' =>
      RetS W (printS pb (prDo s op l).1 :: F) (prDo s op l).2.1 (prDo s op l).2.2.1 (prDo s op l).2.2.2 e w' := by
  unfold prDo
  by_cases h3 : op = 3
  · subst h3
    rw [if_pos rfl]
    exact commandS_3 pb s.sense (fun se => printS pb { s with sense := se }) _ _ S
  · rw [if_neg h3]
    by_cases h4 : op = 4
    · subst h4
      rw [if_pos rfl]
      exact commandS_4 pb s.sense (fun se => printS pb { s with sense := se }) (printer_dev pb s) hg.2.1 _ _ S
    · rw [if_neg h4]
      have hs := prOwn_sense s op l
      have h := commandS_own (w0 := w) (F := F) pb s.sense (fun se => printS pb { (prOwn s op l).1 with sense := se }) (printer_dev pb _) 201 op (.slice A l.length c) (prOwn s op l).2.1 (prOwn s op l).2.2.1 (prOwn s op l).2.2.2 h3 h4 (prOwn_sn s op l) (fun w => by rfl) _ S
        (fun R w1 S1 => by
          refine (prs_own (F := R :: F) op A l c hg (fun w2 S2 => hr w2 S2.s1.drop) hlc hz S1.s1).mono fun e w' h => ?_
          have e : ({ (prOwn s op l).1 with sense := s.sense } : PS) = (prOwn s op l).1 := by rw [← hs]
          dsimp only
          rw [e]
          exact h)
      refine h.mono fun e w' h => ?_
      have e : ((prOwn s op l).1.feel (prOwn s op l).2.2.2) = { (prOwn s op l).1 with sense := if (prOwn s op l).2.2.2 = 0 then s.sense else (prOwn s op l).2.2.2.toNat } := by unfold PS.feel; rw [hs]
      rw [e]
      exact h
set_option maxHeartbeats 2000000 in
theorem prdo_any (op : Int) (A : Option Addr) (l : List UInt8) (c : Nat) (hr : Rd W F A (Lib.byteCells l)) (hlc : l.length ≤ c) (hz : l.length ≤ maxLen) (hg : s.good) (S : SL W (printS pb s :: F) w) :
    Calls Tryz.prog 199 #[.pointer (some ⟨pb, 0, none⟩), .int .i64 op, .slice A l.length c] w fun e w' =>
      RetS W (printS pb (prDo s op l).1 :: F) (prDo s op l).2.1 (prDo s op l).2.2.1 (prDo s op l).2.2.2 e w' := by
  have HC := Lib.hid (fun (R : SA) (w1 : World) (S1 : SL W (R :: printS pb s :: F) w1) => prs_command (F := R :: F) op A l c hg (fun w2 S2 => hr w2 S2.drop.drop) hlc hz S1.s1)
  have HS := Lib.hid S
  generalize prDo s op l = r at *
  obtain ⟨s1, rd, st, sn⟩ := r
  dsimp only at *
  clear S hr hg
  go_enter Tryz.func199, Tryz.ntmps199
  go_wp2_with fail
  refine (HC.out _ _ (HS.out.allocC #[.slice none 0 0, .int .i64 0, .int .i64 0] 55)).mono ?_
  rintro e w1 ⟨A1, c1, rfl, S1⟩
  have H1 := Lib.hid S1.s2
  obtain ⟨L1, K1, z1⟩ := H1.out.look
  clear S1
  go_wp2
  exact bodyPost_ret (v := .agg #[.slice A1 rd.length c1, .int .i64 st, .int .i64 sn]) (by simp [results, Tryz.results199, go_sem, L1]) rfl ⟨_, _, rfl, H1.out.set3.drop⟩
set_option maxHeartbeats 1000000 in
theorem prpower_any (S : SL W (printS pb s :: F) w) :
    Calls Tryz.prog 200 #[.pointer (some ⟨pb, 0, none⟩)] w fun e w' => e = .returned (.tuple #[]) ∧ SL W (printS pb { s with sense := 0 } :: F) w' := by
  obtain ⟨A, c, S1⟩ := printS_open S
  obtain ⟨L, K, z⟩ := S1.look
  have HS := Lib.hid S1
  have hc0 : w.cell? ⟨pb, 0, none⟩ = some (.int .i64 (s.sense : Int)) := L 0
  have hf0 : w.frozen? ⟨pb, 0, none⟩ = false := K 0
  clear S S1 L K
  go_enter Tryz.func200, Tryz.ntmps200
  go_wp2_with (go_at_call 194; refine (reset_any pb _ _ hc0 hf0).mono ?_; rintro e w1 ⟨rfl, rfl⟩)
  go_end0
  exact ⟨rfl, printS_close (s := { s with sense := 0 }) (HS.out.set (off := 0) (v := .int .i64 0) rfl)⟩
set_option maxHeartbeats 1000000 in
theorem prnew_any (S : SL W F w) : Calls Tryz.prog 59 #[] w fun e w' => ∃ pb, e = .returned (.pointer (some ⟨pb, 0, none⟩)) ∧ SL W (printS pb ⟨0, [], 0⟩ :: F) w' := by
  have HS := Lib.hid S
  clear S
  go_enter Tryz.func59, Tryz.ntmps59
  go_wp2
  go_ret
  exact ⟨_, rfl, printS_close (A := none) (c := 0) ((HS.out.nil 107 3).allocC #[.int .i64 0, .slice none 0 0, .int .i64 1, .int .i64 1] 153)⟩
def linesS (v : Value) (l : List (Nat × Nat × List UInt8)) : SA := rowS 107 3 v l.length (l.flatMap lineCells)
theorem prpaper_any (hg : s.good) (S : SL W (printS pb s :: F) w) :
    Calls Tryz.prog 37 #[.pointer (some ⟨pb, 0, none⟩)] w fun e w' => ∃ A c, e = .returned (.slice A s.lines.length c) ∧ SL W (linesS (.slice A s.lines.length c) s.lines :: printS pb s :: F) w' := by
  refine (ppaper_any pb W.heap.size s w (printS_at S) hg).mono ?_
  rintro e w' ⟨A, c, rfl, ho, hb⟩
  exact ⟨A, c, rfl, S.made ho hb⟩
theorem prat_any (S : SL W (printS pb s :: F) w) :
    Calls Tryz.prog 38 #[.pointer (some ⟨pb, 0, none⟩)] w fun e w' => e = .returned (.tuple #[.int .i64 ((s.down / 60 + 1 : Nat) : Int), .int .i64 ((s.down % 60 + 1 : Nat) : Int)]) ∧ SL W (printS pb s :: F) w' :=
  (pat_any pb W.heap.size s w (printS_at S)).mono fun _ _ h => ⟨h.1, S.still h.2⟩
end
end Go.Proofs.YtfhpaehfihnjaaaGreat.U
