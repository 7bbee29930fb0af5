import Derived.Test.YtheiickihjcdlaaWAgain
namespace Go.Proofs.Ytheiickihjcdlaa
open Go.RowKit

/-- What came back of such a function, for the walk. -/
theorem bytesRet_open {out : List UInt8} {err : Int} {w w' : World} {e : Ending} (h : BytesRet out err w e w') (hm : out.length ≤ maxLen) :
    ∃ A c, e = .returned (.tuple #[.slice A (if err = 0 then out else []).length c, .int .i64 err]) ∧ At w' w'.heap.size A (Lib.byteCells (if err = 0 then out else [])) ∧ (if err = 0 then out else []).length ≤ maxLen ∧ Below w.heap.size w w' := by
  obtain ⟨A, c, he, ho, hb⟩ := h
  exact ⟨A, c, he, own_at ho, by split; exact hm; simp, hb⟩

set_option maxRecDepth 100000 in
set_option maxHeartbeats 4000000 in
theorem walk_ccwStatus (w : World) (key sa unit chan sn : Int) (_ : (Lit.int .i64 key).wf = true) (_ : (Lit.int .i64 sa).wf = true) (_ : (Lit.int .i64 unit).wf = true) (_ : (Lit.int .i64 chan).wf = true) (_ : (Lit.int .i64 sn).wf = true) (k2 : Int) (_ : (Lit.int .i64 k2).wf = true) (a2 : Int) (_ : (Lit.int .i64 a2).wf = true) :
    Calls Try.prog 7 #[.agg #[.int .i64 key, .int .i64 sa, .int .i64 unit, .int .i64 chan, .int .i64 sn], .int .i64 k2, .int .i64 a2] w fun e w' => e = .returned (.bool true) ∧ Below w.heap.size w w' := by
  obtain ⟨e1, he1⟩ : ∃ q, cswErr key sa unit chan sn = q := ⟨_, rfl⟩
  obtain ⟨e2, he2⟩ : ∃ q, cawErr k2 a2 = q := ⟨_, rfl⟩
  obtain ⟨l1, hl1⟩ : ∃ q, (if e1 = 0 then cswBytes key sa unit chan sn else []) = q := ⟨_, rfl⟩
  obtain ⟨l2, hl2⟩ : ∃ q, (if e2 = 0 then cawBytes k2 a2 else []) = q := ⟨_, rfl⟩
  have hm1 : (cswBytes key sa unit chan sn).length ≤ maxLen := by show 8 ≤ maxLen; unfold maxLen; omega
  have hm2 : (cawBytes k2 a2).length ≤ maxLen := by show 4 ≤ maxLen; unfold maxLen; omega
  have q1 := fun w' => (encodeCsw_any key sa unit chan sn w').mono fun e w2 h => bytesRet_open h hm1
  have q2 := fun w' => (rencodeCsw_any key sa unit chan sn w').mono fun e w2 h => bytesRet_open h hm1
  have q3 := fun w' => (encodeCaw_any k2 a2 w').mono fun e w2 h => bytesRet_open h hm2
  have q4 := fun w' => (rencodeCaw_any k2 a2 w').mono fun e w2 h => bytesRet_open h hm2
  rw [he1, hl1] at q1 q2
  rw [he2, hl2] at q3 q4
  have K1 := Lib.hid q1
  have K2 := Lib.hid q2
  have K3 := Lib.hid q3
  have K4 := Lib.hid q4
  clear q1 q2 q3 q4 he1 he2 hl1 hl2 hm1 hm2
  have t1 : (e1 == e1) = true := by simp
  have t2 : (e2 == e2) = true := by simp
  have s1 : (l1 == l1) = true := by simp
  have s2 : (l2 == l2) = true := by simp
  have S1 := Lib.hid s1
  have S2 := Lib.hid s2
  clear s1 s2
  go_enter Try.func7, Try.ntmps7
  go_wp2_with fail
  refine (K1.out _).mono ?_
  rintro e w1 ⟨A1, c1, rfl, p1, n1, b1⟩
  obtain ⟨r1, z1, b1'⟩ := alloc_call b1
  obtain ⟨M1, _, _⟩ := row_look r1
  have R1 := Lib.hid r1
  have P1 := Lib.hid p1
  clear b1 p1 r1
  go_wp2_with fail
  refine (K2.out _).mono ?_
  rintro e w2 ⟨A2, c2, rfl, p2, _, b2⟩
  have P1' := Lib.hid ((P1.out.below b2).mono b2.size)
  have P2 := Lib.hid p2
  have B2 : Below w.heap.size w w2 := b1'.trans (b2.mono (by omega))
  clear b2 p2 P1 M1 R1 b1' z1
  go_wp2_with fail
  refine (K3.out _).mono ?_
  rintro e w3 ⟨A3, c3, rfl, p3, n3, b3⟩
  have P1 := Lib.hid ((P1'.out.below b3).mono b3.size)
  have P2' := Lib.hid ((P2.out.below b3).mono b3.size)
  have P3 := Lib.hid p3
  have B3 : Below w.heap.size w w3 := B2.trans (b3.mono B2.size)
  clear b3 p3 P1' P2 B2
  go_wp2_with fail
  refine (K4.out _).mono ?_
  rintro e w4 ⟨A4, c4, rfl, p4, _, b4⟩
  have P1' := Lib.hid ((P1.out.below b4).mono b4.size)
  have P2 := Lib.hid ((P2'.out.below b4).mono b4.size)
  have P3' := Lib.hid ((P3.out.below b4).mono b4.size)
  have P4 := Lib.hid p4
  have B4 : Below w.heap.size w w4 := B3.trans (b4.mono B3.size)
  clear b4 p4 P1 P2' P3 B3
  go_wp2_with fail
  refine (same_any A1 A2 l1 l1 c1 c2 _ _ P1'.out P2.out n1 n1).mono ?_
  rw [S1.out]
  rintro e w5 ⟨rfl, ⟨m5, rfl⟩⟩
  go_wp2_with fail
  refine (same_any A3 A4 l2 l2 c3 c4 _ w4.heap.size (P3'.out.drewN m5) (P4.out.drewN m5) n3 n3).mono ?_
  rw [S2.out]
  rintro e w6 ⟨rfl, ⟨m6, rfl⟩⟩
  go_wp2_with fail
  refine (works_any _).mono ?_
  rintro e w8 ⟨rfl, b8⟩
  have z4 := B4.size
  go_wp2
  go_ret
  exact ⟨rfl, Below.trans (by (repeat' (first | (with_reducible exact Below.refl _ _) | (with_reducible assumption) | (with_reducible refine below_drewN ?_ _) | (with_reducible refine Below.drew ?_) | (with_reducible refine Below.alloc ?_ ?_ _) | (with_reducible refine Below.setCell ?_ ?_ _) | (with_reducible refine below_row ?_ ?_ _) | (with_reducible exact Nat.le_refl _) | omega | (simp only [World.size_alloc, World.size_setCell, World.size_drew, World.size_drewN]; omega) | (simp; done) | (simp; omega)))) (b8.mono (by (repeat' (first | (with_reducible exact Below.refl _ _) | (with_reducible assumption) | (with_reducible refine below_drewN ?_ _) | (with_reducible refine Below.drew ?_) | (with_reducible refine Below.alloc ?_ ?_ _) | (with_reducible refine Below.setCell ?_ ?_ _) | (with_reducible refine below_row ?_ ?_ _) | (with_reducible exact Nat.le_refl _) | omega | (simp only [World.size_alloc, World.size_setCell, World.size_drew, World.size_drewN]; omega) | (simp; done) | (simp; omega)))))⟩

end Go.Proofs.Ytheiickihjcdlaa
