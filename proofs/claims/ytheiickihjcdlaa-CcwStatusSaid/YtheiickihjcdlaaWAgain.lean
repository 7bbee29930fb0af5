import Derived.Test.YtheiickihjcdlaaLaw
namespace Go.Proofs.Ytheiickihjcdlaa
open Go.RowKit

theorem bytesRet_ok {out : List UInt8} {err : Int} {w w' : World} {e : Ending} (h : BytesRet out err w e w') (h0 : err = 0) :
    ∃ A c, e = .returned (.tuple #[.slice A out.length c, .int .i64 0]) ∧ w'.ownsRow w.heap.size 5 1 (.slice A out.length c) out.length (Lib.byteCells out) ∧ out.length ≤ c ∧ Below w.heap.size w w' := by
  subst h0
  obtain ⟨A, c, he, ho, hb⟩ := h
  rw [if_pos rfl] at he ho
  obtain ⟨A', c', h1, h2, _⟩ := own_slice ho
  injection h1 with _ _ h3
  subst h3
  exact ⟨A, c, he, ho, h2, hb⟩
theorem bytesRet_no {out : List UInt8} {err : Int} {w w' : World} {e : Ending} (h : BytesRet out err w e w') (h0 : err ≠ 0) :
    ∃ A c, e = .returned (.tuple #[.slice A 0 c, .int .i64 err]) ∧ Below w.heap.size w w' := by
  obtain ⟨A, c, he, ho, hb⟩ := h
  rw [if_neg h0] at he
  exact ⟨A, c, he, hb⟩

set_option maxRecDepth 100000 in
set_option maxHeartbeats 4000000 in
theorem walk_ccwAgain (w : World) (A : Option Addr) (l : List UInt8) (c : Nat) (hlc : l.length ≤ c) (_hcm : c ≤ maxLen) (ha : At w w.heap.size A (Lib.byteCells l)) :
    Calls Try.prog 6 #[.slice A l.length c] w fun e w' => e = .returned (.bool true) ∧ Below w.heap.size w w' := by
  have HA := Lib.hid ha
  have hpos : l ≠ [] → ∃ b off, A = some ⟨b, off, none⟩ ∧ b < w.heap.size := fun hne => by
    obtain ⟨b, off, e, hb, _⟩ := ha (by intro e; exact hne (by simpa [Lib.byteCells] using e))
    exact ⟨b, off, e, hb⟩
  have HP := Lib.hid hpos
  have K1 := Lib.hid (fun (w' : World) (h : Below w.heap.size w w') => decode_l A l c w' ((ha.below h).mono h.size))
  have K3 := Lib.hid (fun (w' : World) (h : Below w.heap.size w w') => decodeCsw_l A l c w' ((ha.below h).mono h.size))
  obtain ⟨dok, hdok⟩ : ∃ q, dB l = q := ⟨_, rfl⟩
  obtain ⟨sok, hsok⟩ : ∃ q, sB l = q := ⟨_, rfl⟩
  obtain ⟨op, addr, count, cd, cc, sli, skip, pci, hC, hE⟩ : ∃ (op addr count : Int) (cd cc sli skip pci : Bool), dC l = ccwCells op addr count cd cc sli skip pci ∧ (dok = true → ccwErr op addr count cd cc sli skip pci = 0) := by
    cases h : dok
    · obtain ⟨op, addr, count, cd, cc, sli, skip, pci, hC⟩ := dC_cells l
      exact ⟨op, addr, count, cd, cc, sli, skip, pci, hC, fun h => by cases h⟩
    · obtain ⟨op, addr, count, cd, cc, sli, skip, pci, hC, hE⟩ := again_ccw l (hdok.trans h)
      exact ⟨op, addr, count, cd, cc, sli, skip, pci, hC, fun _ => hE⟩
  obtain ⟨key, sa, unit, chan, sn, hS, hT⟩ : ∃ (key sa unit chan sn : Int), sC l = cswCells key sa unit chan sn ∧ (sok = true → cswErr key sa unit chan sn = 0 ∧ cswBytes key sa unit chan sn = l ∧ l.length = 8) := by
    cases h : sok
    · obtain ⟨key, sa, unit, chan, sn, hS⟩ := sC_cells l
      exact ⟨key, sa, unit, chan, sn, hS, fun h => by cases h⟩
    · obtain ⟨x0, x1, x2, x3, x4, x5, x6, x7, key, sa, unit, chan, sn, rfl, hS, hE, hB⟩ := again_csw l (hsok.trans h)
      exact ⟨key, sa, unit, chan, sn, hS, fun _ => ⟨hE, hB, rfl⟩⟩
  rw [hC, hdok] at K1
  rw [hS, hsok] at K3
  unfold ccwCells at K1
  unfold cswCells at K3
  have HE := Lib.hid hE
  have HT := Lib.hid hT
  clear hC hS ha hdok hsok hE hT hpos
  go_enter Try.func6, Try.ntmps6
  go_wp2_with fail
  refine (K1.out _ (Below.refl _ _)).mono ?_
  rintro e w1 ⟨rfl, b1⟩
  have z1 := b1.size
  go_upto_if 18 with fail
  go_cut [] (fun wx => Below w.heap.size w wx)
  case first =>
    cases dok
    · go_wp2_with fail
      go_meet
      (repeat' (first | (with_reducible exact Below.refl _ _) | (with_reducible assumption) | (with_reducible refine below_drewN ?_ _) | (with_reducible refine Below.drew ?_) | (with_reducible refine Below.alloc ?_ ?_ _) | (with_reducible refine Below.setCell ?_ ?_ _) | (with_reducible refine below_row ?_ ?_ _) | (with_reducible exact Nat.le_refl _) | omega | (simp only [World.size_alloc, World.size_setCell, World.size_drew, World.size_drewN]; omega) | (simp; done) | (simp; omega)))
    · have h0 := HE.out rfl
      obtain ⟨hbC, hbB⟩ := back_ccw _ _ _ _ _ _ _ _ h0
      have H0 := Lib.hid h0
      have HC := Lib.hid hbC
      have HB := Lib.hid hbB
      clear h0 hbC hbB
      go_wp2_with fail
      refine (encode_any op addr count cd cc sli skip pci _).mono ?_
      intro e w2 h2
      obtain ⟨A2, c2, rfl, o2, _, b2⟩ := bytesRet_ok h2 H0.out
      obtain ⟨r1, z2, b2'⟩ := alloc_call b2
      have B2 : Below w.heap.size w w2 := b1.trans (b2'.mono z1)
      have hd := decode_l A2 _ c2 w2 (own_at o2)
      rw [HC.out, HB.out] at hd
      unfold ccwCells at hd
      have HD := Lib.hid hd
      have R1 := Lib.hid r1
      clear h2 o2 b2 b2' r1 hd b1
      go_wp2_with fail
      refine HD.out.mono ?_
      rintro e w3 ⟨rfl, b3⟩
      obtain ⟨L1, _, _⟩ := row_look (hl_below b3 z2 R1.out)
      have B3 : Below w.heap.size w w3 := B2.trans (b3.mono B2.size)
      have z3 := b3.size
      clear b3
      go_wp2_with fail
      go_meet
      (repeat' (first | (with_reducible exact Below.refl _ _) | (with_reducible assumption) | (with_reducible refine below_drewN ?_ _) | (with_reducible refine Below.drew ?_) | (with_reducible refine Below.alloc ?_ ?_ _) | (with_reducible refine Below.setCell ?_ ?_ _) | (with_reducible refine below_row ?_ ?_ _) | (with_reducible exact Nat.le_refl _) | omega | (simp only [World.size_alloc, World.size_setCell, World.size_drew, World.size_drewN]; omega) | (simp; done) | (simp; omega)))
  case rest =>
    have bx := hcut
    clear hcut b1 z1
    go_wp2_with fail
    refine (K3.out _ bx).mono ?_
    rintro e w3 ⟨rfl, b3⟩
    have B3 : Below w.heap.size w w3 := bx.trans (b3.mono bx.size)
    have z3 := B3.size
    cases sok
    · go_wp2_with fail
      refine (works_any _).mono ?_
      rintro e w7 ⟨rfl, b7⟩
      go_wp2
      go_ret
      exact ⟨rfl, Below.trans (by (repeat' (first | (with_reducible exact Below.refl _ _) | (with_reducible assumption) | (with_reducible refine below_drewN ?_ _) | (with_reducible refine Below.drew ?_) | (with_reducible refine Below.alloc ?_ ?_ _) | (with_reducible refine Below.setCell ?_ ?_ _) | (with_reducible refine below_row ?_ ?_ _) | (with_reducible exact Nat.le_refl _) | omega | (simp only [World.size_alloc, World.size_setCell, World.size_drew, World.size_drewN]; omega) | (simp; done) | (simp; omega)))) (b7.mono (by (repeat' (first | (with_reducible exact Below.refl _ _) | (with_reducible assumption) | (with_reducible refine below_drewN ?_ _) | (with_reducible refine Below.drew ?_) | (with_reducible refine Below.alloc ?_ ?_ _) | (with_reducible refine Below.setCell ?_ ?_ _) | (with_reducible refine below_row ?_ ?_ _) | (with_reducible exact Nat.le_refl _) | omega | (simp only [World.size_alloc, World.size_setCell, World.size_drew, World.size_drewN]; omega) | (simp; done) | (simp; omega)))))⟩
    · obtain ⟨h0, hb, hl⟩ := HT.out rfl
      have hne : l ≠ [] := by rintro rfl; simp at hl
      obtain ⟨b, off, rfl, hbl⟩ := HP.out hne
      have H0 := Lib.hid h0
      have HB := Lib.hid hb
      have HL := Lib.hid hl
      clear h0 hb hl
      go_wp2_with fail
      refine (encodeCsw_any key sa unit chan sn _).mono ?_
      intro e w4 h4
      obtain ⟨A4, c4, he, o4, hc4, b4⟩ := bytesRet_ok h4 H0.out
      rw [show (cswBytes key sa unit chan sn).length = 8 from rfl] at he o4 hc4
      rw [HB.out] at o4
      subst he
      have B4 : Below w.heap.size w w4 := Below.trans (show Below w.heap.size w (w3.alloc _) from B3.alloc z3 _) (b4.mono (by simp; omega))
      have ha8 := HA.out.below B4
      obtain ⟨x0, x1, x2, x3, x4, x5, x6, x7, hx⟩ : ∃ x0 x1 x2 x3 x4 x5 x6 x7, l = [x0, x1, x2, x3, x4, x5, x6, x7] := by
        rcases list8 l with h | h
        · exact h
        · exact absurd HL.out h.1
      rw [hx] at ha8 o4
      obtain ⟨b', off', e1, _, hcb⟩ := ha8 (by simp [Lib.byteCells])
      injection e1 with e1; injection e1 with e1 e2; subst e1; subst e2
      obtain ⟨g, o, rfl, hgl, hcg⟩ := (own_at o4) (by simp [Lib.byteCells])
      have p0 : w4.cell? ⟨b, off, none⟩ = some (.int .u8 (x0.toNat : Int)) := hcb 0 _ rfl
      have p4 : w4.cell? ⟨b, off + 4, none⟩ = some (.int .u8 (x4.toNat : Int)) := hcb 4 _ rfl
      have p7 : w4.cell? ⟨b, off + 7, none⟩ = some (.int .u8 (x7.toNat : Int)) := hcb 7 _ rfl
      have q0 : w4.cell? ⟨g, o, none⟩ = some (.int .u8 (x0.toNat : Int)) := hcg 0 _ rfl
      have q4 : w4.cell? ⟨g, o + 4, none⟩ = some (.int .u8 (x4.toNat : Int)) := hcg 4 _ rfl
      have q7 : w4.cell? ⟨g, o + 7, none⟩ = some (.int .u8 (x7.toNat : Int)) := hcg 7 _ rfl
      have z4 := B4.size
      have hl8 : (l.length : Int) = 8 := by have := HL.out; omega
      have HX := Lib.hid hx
      clear hcb hcg h4 o4 ha8 b4 hx
      go_wp2_with fail
      go_quiet (fail)
      go_wp2_with fail
      refine (works_any _).mono ?_
      rintro e w7 ⟨rfl, b7⟩
      go_wp2
      go_ret
      exact ⟨rfl, Below.trans (by (repeat' (first | (with_reducible exact Below.refl _ _) | (with_reducible assumption) | (with_reducible refine below_drewN ?_ _) | (with_reducible refine Below.drew ?_) | (with_reducible refine Below.alloc ?_ ?_ _) | (with_reducible refine Below.setCell ?_ ?_ _) | (with_reducible refine below_row ?_ ?_ _) | (with_reducible exact Nat.le_refl _) | omega | (simp only [World.size_alloc, World.size_setCell, World.size_drew, World.size_drewN]; omega) | (simp; done) | (simp; omega)))) (b7.mono (by (repeat' (first | (with_reducible exact Below.refl _ _) | (with_reducible assumption) | (with_reducible refine below_drewN ?_ _) | (with_reducible refine Below.drew ?_) | (with_reducible refine Below.alloc ?_ ?_ _) | (with_reducible refine Below.setCell ?_ ?_ _) | (with_reducible refine below_row ?_ ?_ _) | (with_reducible exact Nat.le_refl _) | omega | (simp only [World.size_alloc, World.size_setCell, World.size_drew, World.size_drewN]; omega) | (simp; done) | (simp; omega)))))⟩

end Go.Proofs.Ytheiickihjcdlaa
