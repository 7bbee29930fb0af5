import Derived.Test.YtheiickihjcdlaaWAgain
namespace Go.Proofs.Ytheiickihjcdlaa
open Go.RowKit

set_option maxRecDepth 100000 in
set_option maxHeartbeats 4000000 in
theorem walk_ccwBack (w : World) (op addr : Int) (cd cc sli skip pci : Bool) (count : Int) (_ : (Lit.int .i64 op).wf = true) (_ : (Lit.int .i64 addr).wf = true) (_ : (Lit.int .i64 count).wf = true)
    (key sa unit chan sn : Int) (_ : (Lit.int .i64 key).wf = true) (_ : (Lit.int .i64 sa).wf = true) (_ : (Lit.int .i64 unit).wf = true) (_ : (Lit.int .i64 chan).wf = true) (_ : (Lit.int .i64 sn).wf = true) (at_ : Int) (_ : (Lit.int .i64 at_).wf = true) :
    Calls Try.prog 8 #[.agg #[.int .i64 op, .int .i64 addr, .bool cd, .bool cc, .bool sli, .bool skip, .bool pci, .int .i64 count], .agg #[.int .i64 key, .int .i64 sa, .int .i64 unit, .int .i64 chan, .int .i64 sn], .int .i64 at_] w fun e w' => e = .returned (.bool true) ∧ Below w.heap.size w w' := by
  obtain ⟨e1, he1⟩ : ∃ q, ccwErr op addr count cd cc sli skip pci = q := ⟨_, rfl⟩
  obtain ⟨e2, he2⟩ : ∃ q, cswErr key sa unit chan sn = q := ⟨_, rfl⟩
  obtain ⟨e3, he3⟩ : ∃ q, cawErr key at_ = q := ⟨_, rfl⟩
  have K1 := Lib.hid (fun w' => encode_any op addr count cd cc sli skip pci w')
  have K2 := Lib.hid (fun w' => encodeCsw_any key sa unit chan sn w')
  have K3 := Lib.hid (fun w' => encodeCaw_any key at_ w')
  have G1 := Lib.hid (back_ccw op addr count cd cc sli skip pci)
  have G2 := Lib.hid (back_csw key sa unit chan sn)
  have G3 := Lib.hid (back_caw key at_)
  rw [he1] at K1 G1
  rw [he2] at K2 G2
  rw [he3] at K3 G3
  have L1 : Hid ((ccwBytes op addr count cd cc sli skip pci).length = 8) := Lib.hid rfl
  have L2 : Hid ((cswBytes key sa unit chan sn).length = 8) := Lib.hid rfl
  have L3 : Hid ((cawBytes key at_).length = 4) := Lib.hid rfl
  generalize ccwBytes op addr count cd cc sli skip pci = o1 at *
  generalize cswBytes key sa unit chan sn = o2 at *
  generalize cawBytes key at_ = o3 at *
  clear he1 he2 he3
  go_enter Try.func8, Try.ntmps8
  go_wp2_with fail
  refine name_world (P := fun W => Calls _ _ _ W _) ?_
  intro w0 hw0
  have r1 : w0.heap[w.heap.size]? = some (.cells #[.int .i64 op, .int .i64 addr, .bool cd, .bool cc, .bool sli, .bool skip, .bool pci, .int .i64 count] 26 (0, 0)) := by rw [hw0]; exact hl_old (by simp) (hl_new rfl)
  have r2 : w0.heap[w.heap.size + 1]? = some (.cells #[.int .i64 key, .int .i64 sa, .int .i64 unit, .int .i64 chan, .int .i64 sn] 36 (0, 0)) := by rw [hw0]; exact hl_new (by simp)
  have B0 : Below w.heap.size w w0 := by rw [hw0]; (repeat' (first | (with_reducible exact Below.refl _ _) | (with_reducible assumption) | (with_reducible refine below_drewN ?_ _) | (with_reducible refine Below.drew ?_) | (with_reducible refine Below.alloc ?_ ?_ _) | (with_reducible refine Below.setCell ?_ ?_ _) | (with_reducible refine below_row ?_ ?_ _) | (with_reducible exact Nat.le_refl _) | omega | (simp only [World.size_alloc, World.size_setCell, World.size_drew, World.size_drewN]; omega) | (simp; done) | (simp; omega)))
  have R1 := Lib.hid r1
  have R2 := Lib.hid r2
  have z0 := B0.size
  clear hw0 r1 r2
  refine (K1.out _).mono ?_
  intro e w1 h1
  have hgo : ∃ A1 n1 c1, e = .returned (.tuple #[.slice A1 n1 c1, .int .i64 e1]) ∧ Below w0.heap.size w0 w1 ∧ (e1 = 0 → n1 = 8 ∧ ∀ w', Below w1.heap.size w1 w' → Calls Try.prog 15 #[.slice A1 8 c1] w' fun e w'' => e = .returned (.tuple #[.agg #[.int .i64 op, .int .i64 addr, .bool cd, .bool cc, .bool sli, .bool skip, .bool pci, .int .i64 count], .bool true]) ∧ Below w'.heap.size w' w'') := by
    by_cases h0 : e1 = 0
    · obtain ⟨A1, c1, he, oo, hc1, b1⟩ := bytesRet_ok h1 h0
      refine ⟨A1, _, c1, by rw [he, h0], b1, fun _ => ⟨L1.out, fun w' hb => ?_⟩⟩
      have hd := decode_l A1 o1 c1 w' (((own_at oo).below hb).mono hb.size)
      obtain ⟨g1, g2⟩ := G1.out h0
      rw [g1, g2, L1.out] at hd
      exact hd
    · obtain ⟨A1, c1, he, b1⟩ := bytesRet_no h1 h0
      exact ⟨A1, _, c1, he, b1, fun h => absurd h h0⟩
  obtain ⟨A1, n1, c1, rfl, b1, hdec⟩ := hgo
  have HD := Lib.hid hdec
  have R1' := Lib.hid (hl_below b1 (hl_lt R1.out) R1.out)
  have R2' := Lib.hid (hl_below b1 (hl_lt R2.out) R2.out)
  have B1 : Below w.heap.size w w1 := B0.trans (b1.mono z0)
  have z1 := B1.size
  clear h1 hdec R1 R2 b1 B0 z0
  go_upto_if 26 with fail
  go_cut [] (fun wx => Below w.heap.size w wx ∧ wx.heap[w.heap.size + 1]? = some (.cells #[.int .i64 key, .int .i64 sa, .int .i64 unit, .int .i64 chan, .int .i64 sn] 36 (0, 0)))
  case first =>
    by_cases h0 : e1 = 0
    · obtain ⟨rfl, hd⟩ := HD.out h0
      subst h0
      have HD' := Lib.hid hd
      clear hd HD K1 G1
      go_wp2_with fail
      refine (HD'.out _ (Below.refl _ _)).mono ?_
      rintro e w3 ⟨rfl, b3⟩
      obtain ⟨M1, _, _⟩ := row_look (hl_below b3 (hl_lt R1'.out) R1'.out)
      have R3 := Lib.hid (hl_below b3 (hl_lt R2'.out) R2'.out)
      have B3 : Below w.heap.size w w3 := B1.trans (b3.mono z1)
      have z3 := B3.size
      clear b3
      go_wp2_with fail
      go_meet
      exact ⟨by (repeat' (first | (with_reducible exact Below.refl _ _) | (with_reducible assumption) | (with_reducible refine below_drewN ?_ _) | (with_reducible refine Below.drew ?_) | (with_reducible refine Below.alloc ?_ ?_ _) | (with_reducible refine Below.setCell ?_ ?_ _) | (with_reducible refine below_row ?_ ?_ _) | (with_reducible exact Nat.le_refl _) | omega | (simp only [World.size_alloc, World.size_setCell, World.size_drew, World.size_drewN]; omega) | (simp; done) | (simp; omega))), hl_old (hl_lt R3.out) R3.out⟩
    · have ht : (e1 == 0) = false := by simp [h0]
      go_wp2_with fail
      go_meet
      exact ⟨B1, R2'.out⟩
  case rest =>
    obtain ⟨B3, r3⟩ := hcut
    have R3 := Lib.hid r3
    obtain ⟨M3, _, z3⟩ := row_look r3
    have z3' := B3.size
    clear r3 HD R1' R2' B1 z1 K1 G1
    go_wp2_with fail
    refine (K2.out _).mono ?_
    intro e w4 h4
    have hgo : ∃ A1 n1 c1, e = .returned (.tuple #[.slice A1 n1 c1, .int .i64 e2]) ∧ Below wc.heap.size wc w4 ∧ (e2 = 0 → n1 = 8 ∧ ∀ w', Below w4.heap.size w4 w' → Calls Try.prog 17 #[.slice A1 8 c1] w' fun e w'' => e = .returned (.tuple #[.agg #[.int .i64 key, .int .i64 sa, .int .i64 unit, .int .i64 chan, .int .i64 sn], .bool true]) ∧ Below w'.heap.size w' w'') := by
      by_cases h0 : e2 = 0
      · obtain ⟨A1, c1, he, oo, hc1, b1⟩ := bytesRet_ok h4 h0
        refine ⟨A1, _, c1, by rw [he, h0], b1, fun _ => ⟨L2.out, fun w' hb => ?_⟩⟩
        have hd := decodeCsw_l A1 o2 c1 w' (((own_at oo).below hb).mono hb.size)
        obtain ⟨g1, g2⟩ := G2.out h0
        rw [g1, g2, L2.out] at hd
        exact hd
      · obtain ⟨A1, c1, he, b1⟩ := bytesRet_no h4 h0
        exact ⟨A1, _, c1, he, b1, fun h => absurd h h0⟩
    obtain ⟨A2, n2, c2, rfl, b4, hdec⟩ := hgo
    have HD := Lib.hid hdec
    have R4 := Lib.hid (hl_below b4 z3 R3.out)
    have B4 : Below w.heap.size w w4 := B3.trans (b4.mono z3')
    have z4 := B4.size
    clear h4 hdec R3 b4 B3 z3 z3' M3
    go_upto_if 50 with fail
    go_cut [] (fun wx => Below w.heap.size w wx ∧ wx.heap[w.heap.size + 1]? = some (.cells #[.int .i64 key, .int .i64 sa, .int .i64 unit, .int .i64 chan, .int .i64 sn] 36 (0, 0)))
    case first =>
      by_cases h0 : e2 = 0
      · obtain ⟨rfl, hd⟩ := HD.out h0
        subst h0
        have HD' := Lib.hid hd
        clear hd HD K2 G2
        go_wp2_with fail
        refine (HD'.out _ (Below.refl _ _)).mono ?_
        rintro e w5 ⟨rfl, b5⟩
        have r5 := hl_below b5 (hl_lt R4.out) R4.out
        obtain ⟨M5, _, z5⟩ := row_look r5
        have R5 := Lib.hid r5
        have B5 : Below w.heap.size w w5 := B4.trans (b5.mono z4)
        have z5' := B5.size
        clear b5 r5
        go_wp2_with fail
        go_meet
        exact ⟨by (repeat' (first | (with_reducible exact Below.refl _ _) | (with_reducible assumption) | (with_reducible refine below_drewN ?_ _) | (with_reducible refine Below.drew ?_) | (with_reducible refine Below.alloc ?_ ?_ _) | (with_reducible refine Below.setCell ?_ ?_ _) | (with_reducible refine below_row ?_ ?_ _) | (with_reducible exact Nat.le_refl _) | omega | (simp only [World.size_alloc, World.size_setCell, World.size_drew, World.size_drewN]; omega) | (simp; done) | (simp; omega))), hl_old z5 R5.out⟩
      · have ht : (e2 == 0) = false := by simp [h0]
        go_wp2_with fail
        go_meet
        exact ⟨B4, R4.out⟩
    case rest =>
      obtain ⟨B5, r5⟩ := hcut
      have R5 := Lib.hid r5
      obtain ⟨M5, _, z5⟩ := row_look r5
      have z5' := B5.size
      clear r5 HD R4 B4 z4 K2 G2
      go_wp2_with fail
      refine (K3.out _).mono ?_
      intro e w6 h6
      by_cases h0 : e3 = 0
      · obtain ⟨A6, c6, he, oo, hc6, b6⟩ := bytesRet_ok h6 h0
        rw [L3.out] at he oo hc6
        subst he
        subst h0
        have hd := caw_l A6 o3 c6 w6 (own_at oo)
        obtain ⟨g1, g2, g3⟩ := G3.out rfl
        rw [g1, g2, g3, L3.out] at hd
        have HD := Lib.hid hd
        obtain ⟨M6, _, z6⟩ := row_look (hl_below b6 z5 R5.out)
        have B6 : Below w.heap.size w w6 := B5.trans (b6.mono z5')
        have z6' := B6.size
        clear h6 oo hc6 hd g1 g2 g3 b6 M5 K3 G3 R5
        go_wp2_with fail
        refine HD.out.mono ?_
        rintro e w7 ⟨rfl, ⟨m7, rfl⟩⟩
        go_wp2_with fail
        refine (works_any _).mono ?_
        rintro e w8 ⟨rfl, b8⟩
        go_wp2
        go_ret
        exact ⟨rfl, Below.trans (by (repeat' (first | (with_reducible exact Below.refl _ _) | (with_reducible assumption) | (with_reducible refine below_drewN ?_ _) | (with_reducible refine Below.drew ?_) | (with_reducible refine Below.alloc ?_ ?_ _) | (with_reducible refine Below.setCell ?_ ?_ _) | (with_reducible refine below_row ?_ ?_ _) | (with_reducible exact Nat.le_refl _) | omega | (simp only [World.size_alloc, World.size_setCell, World.size_drew, World.size_drewN]; omega) | (simp; done) | (simp; omega)))) (b8.mono (by (repeat' (first | (with_reducible exact Below.refl _ _) | (with_reducible assumption) | (with_reducible refine below_drewN ?_ _) | (with_reducible refine Below.drew ?_) | (with_reducible refine Below.alloc ?_ ?_ _) | (with_reducible refine Below.setCell ?_ ?_ _) | (with_reducible refine below_row ?_ ?_ _) | (with_reducible exact Nat.le_refl _) | omega | (simp only [World.size_alloc, World.size_setCell, World.size_drew, World.size_drewN]; omega) | (simp; done) | (simp; omega)))))⟩
      · obtain ⟨A6, c6, rfl, b6⟩ := bytesRet_no h6 h0
        have ht : (e3 != 0) = true := by simp [h0]
        have B6 : Below w.heap.size w w6 := B5.trans (b6.mono z5')
        have z6' := B6.size
        clear h6 b6 K3 G3 R5 M5
        go_wp2_with fail
        refine (works_any _).mono ?_
        rintro e w8 ⟨rfl, b8⟩
        go_wp2
        go_ret
        exact ⟨rfl, Below.trans (by (repeat' (first | (with_reducible exact Below.refl _ _) | (with_reducible assumption) | (with_reducible refine below_drewN ?_ _) | (with_reducible refine Below.drew ?_) | (with_reducible refine Below.alloc ?_ ?_ _) | (with_reducible refine Below.setCell ?_ ?_ _) | (with_reducible refine below_row ?_ ?_ _) | (with_reducible exact Nat.le_refl _) | omega | (simp only [World.size_alloc, World.size_setCell, World.size_drew, World.size_drewN]; omega) | (simp; done) | (simp; omega)))) (b8.mono (by (repeat' (first | (with_reducible exact Below.refl _ _) | (with_reducible assumption) | (with_reducible refine below_drewN ?_ _) | (with_reducible refine Below.drew ?_) | (with_reducible refine Below.alloc ?_ ?_ _) | (with_reducible refine Below.setCell ?_ ?_ _) | (with_reducible refine below_row ?_ ?_ _) | (with_reducible exact Nat.le_refl _) | omega | (simp only [World.size_alloc, World.size_setCell, World.size_drew, World.size_drewN]; omega) | (simp; done) | (simp; omega)))))⟩

end Go.Proofs.Ytheiickihjcdlaa
