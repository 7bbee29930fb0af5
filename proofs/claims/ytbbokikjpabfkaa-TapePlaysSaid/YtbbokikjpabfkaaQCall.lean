/- same and call: both units do the same. -/
import Derived.Test.YtbbokikjpabfkaaQUndo
import Derived.Test.YtbbokikjpabfkaaLike
import Derived.Test.YtbbokikjpabfkaaArgs
namespace Go.Proofs.Ytbbokikjpabfkaa
open Go.RowKit

section
variable {W w w' : World} {F : List SA}
theorem rowS_setb {A : Option Addr} {n c k : Nat} {l : List UInt8} (S : SL W (rowS 5 1 (.slice A n c) n (Lib.byteCells l) :: F) w) (hn : l.length = n) (hk : k < l.length) :
    ∃ gd, A = some ⟨gd, 0, none⟩ ∧ w.cell? ⟨gd, k, none⟩ = some (.int .u8 ((l[k]'hk).toNat : Int)) ∧ w.frozen? ⟨gd, k, none⟩ = false ∧
      ∀ x : UInt8, SL W (rowS 5 1 (.slice A n c) n (Lib.byteCells (l.set k x)) :: F) (w.setCell ⟨gd, k, none⟩ (.int .u8 (x.toNat : Int))) := by
  subst hn
  obtain ⟨gd, cap, cur, hv, h1, h2, h3, h4, S2⟩ := SL.rowCel S (by omega)
  injection hv with hA _ hc
  subst hA; subst hc
  rw [Nat.mul_one] at h3 h4
  obtain ⟨L, K, z⟩ := S2.look
  have hcur : cur[k]? = some (.int .u8 ((l[k]'hk).toNat : Int)) := by
    have h5 := byteCells_get l k hk
    rw [← h4, List.getElem?_take, if_pos hk, Array.getElem?_toList] at h5
    exact h5
  refine ⟨gd, rfl, by rw [L, hcur], K _, fun x => ?_⟩
  have S3 := S2.set (off := k) (v := .int .u8 (x.toNat : Int)) rfl
  have e1 : Lib.byteCells (l.set k x) = (Lib.byteCells l).set k (.int .u8 (x.toNat : Int)) := by simp [Lib.byteCells, List.map_set]
  exact SL.head S3 (rowS_pts (e := 5) (size := 1) (n := l.length) (x := gd) (xs := Lib.byteCells (l.set k x)) h1 h2 (cur := cur.setIfInBounds k (.int .u8 (x.toNat : Int))) (by simp [h3]) (by
    rw [Nat.mul_one, Array.toList_setIfInBounds, List.take_set, h4, e1]))
set_option maxHeartbeats 4000000 in
theorem same_any (l : List UInt8) (st sn : Int) (A A2 : Option Addr) (c c2 : Nat) (w : World) (h1 : At w w.heap.size A (Lib.byteCells l)) (h2 : At w w.heap.size A2 (Lib.byteCells l)) (hz : l.length ≤ 1073741824) :
    Calls Try.prog 38 #[.agg #[.slice A l.length c, .int .i64 st, .int .i64 sn], .agg #[.slice A2 l.length c2, .int .i64 st, .int .i64 sn]] w fun e w' => e = .returned (.bool true) ∧ Below w.heap.size w w' := by
  have a1 : At ((w.alloc (.cells #[.slice A l.length c, .int .i64 st, .int .i64 sn] 31)).alloc (.cells #[.slice A2 l.length c2, .int .i64 st, .int .i64 sn] 31)) w.heap.size A (Lib.byteCells l) := (h1.alloc (Nat.le_refl _) _).alloc (by rw [World.size_alloc]; omega) _
  have a2 : At ((w.alloc (.cells #[.slice A l.length c, .int .i64 st, .int .i64 sn] 31)).alloc (.cells #[.slice A2 l.length c2, .int .i64 st, .int .i64 sn] 31)) w.heap.size A2 (Lib.byteCells l) := (h2.alloc (Nat.le_refl _) _).alloc (by rw [World.size_alloc]; omega) _
  have HC1 := run_string_of_at (P := Try.prog) 23 9 5 Try.underlying23 Try.underlying5 Try.underlying9 l c a1
  have HC2 := run_string_of_at (P := Try.prog) 23 9 5 Try.underlying23 Try.underlying5 Try.underlying9 l c2 a2
  clear h1 h2 a1 a2
  have t1 : (st == st) = true := by simp
  have t2 : (sn == sn) = true := by simp
  generalize hst : (⟨l.toArray⟩ : ByteArray) = sb at HC1 HC2
  have t3 : (sb == sb) = true := bytes_eq sb
  clear hst
  go_enter Try.func38, Try.ntmps38
  go_wp2
  go_ret
  exact ⟨rfl, by (repeat' (first | (with_reducible exact Below.refl _ _) | (with_reducible assumption) | (with_reducible refine below_drewN ?_ _) | (with_reducible refine Below.drew ?_) | (with_reducible refine Below.alloc ?_ ?_ _) | (with_reducible refine Below.setCell ?_ ?_ _) | (with_reducible refine below_row ?_ ?_ _) | (with_reducible exact Nat.le_refl _) | omega | (simp only [World.size_alloc, World.size_setCell, World.size_drew, World.size_drewN]; omega) | (simp; done) | (simp; omega)))⟩
variable {tb qb : Nat} {nm : ByteArray} {s : TP}
theorem do_at {op : Int} {l dl : List UInt8} {s2 : TP} {st sn : Nat} (hr : tpDo s op l = (s2, dl, st, sn)) (A : Option Addr) (c : Nat) (hn : nm.toList.isEmpty = false) (ok : s.ok) (S : SL W (tapeS tb nm s :: F) w) (hd : Rd W F A (Lib.byteCells l)) (hz : l.length ≤ 1073741824) :
    Calls Try.prog 11 #[.pointer (some ⟨tb, 0, none⟩), .int .i64 op, .slice A l.length c] w fun e w' => ∃ A4 c4, e = .returned (.agg #[.slice A4 dl.length c4, .int .i64 (st : Int), .int .i64 (sn : Int)]) ∧ SL W (rowS 5 1 (.slice A4 dl.length c4) dl.length (Lib.byteCells dl) :: tapeS tb nm s2 :: F) w' := by
  have h := do_any op A l c hn ok S hd hz
  rw [hr] at h
  exact h
theorem qdo_at {op : Int} {l dl : List UInt8} {s2 : TP} {st sn : Nat} (hr : tpDo s op l = (s2, dl, st, sn)) (A : Option Addr) (c : Nat) (ok : s.ok) (S : SL W (qS qb nm s :: F) w) (hd : Rd W F A (Lib.byteCells l)) (hz : l.length ≤ 1073741824) :
    Calls Try.prog 37 #[.pointer (some ⟨qb, 0, none⟩), .int .i64 op, .slice A l.length c] w fun e w' => ∃ A4 c4, e = .returned (.agg #[.slice A4 dl.length c4, .int .i64 (st : Int), .int .i64 (sn : Int)]) ∧ SL W (rowS 5 1 (.slice A4 dl.length c4) dl.length (Lib.byteCells dl) :: qS qb nm s2 :: F) w' := by
  have h := qdo_any op A l c ok S hd hz
  rw [hr] at h
  exact h
theorem byte_next (x : UInt8) : ((x.toNat : Int) + 1) % 256 = ((x + 1).toNat : Int) := by
  rw [UInt8.toNat_add]
  rfl
set_option maxHeartbeats 4000000 in
theorem call_undo (kind op : Int) (A : Option Addr) (n c : Nat) (how : Int) (hk : ((IntKind.u64.wrap kind).tmod 3 == 1) = true) (S : SL W (tapeS tb nm s :: qS qb nm s :: F) w) (ok : s.ok) (tip : s.tip) :
    Calls Try.prog 24 #[.pointer (some ⟨tb, 0, none⟩), .pointer (some ⟨qb, 0, none⟩), .agg #[.int .i64 kind, .int .i64 op, .slice A n c, .int .i64 how]] w fun e w' => e = .returned (.bool true) ∧ SL W (tapeS tb nm (tpUndo s how).1 :: qS qb nm (tpUndo s how).1 :: F) w' := by
  have H1 := Lib.hid (S.allocC #[.int .i64 kind, .int .i64 op, .slice A n c, .int .i64 how] 45)
  have HO := Lib.hid (And.intro ok tip)
  clear S ok tip
  have t4 : ((tpUndo s how).2 == (tpUndo s how).2) = true := by simp
  go_enter Try.func24, Try.ntmps24
  go_wp2_with (first
    | ((with_reducible refine (qundo_any how H2.out HO.out.1 HO.out.2).mono ?_); rintro e w3 ⟨rfl, S3⟩; have H3 := Lib.hid S3; clear S3)
    | ((with_reducible refine (undo_any how H1.out.s1 HO.out.1).mono ?_); rintro e w2 ⟨rfl, S2⟩; have H2 := Lib.hid S2.s2; clear S2; obtain ⟨L2, K2, z2⟩ := H2.out.s2.look))
  go_ret
  exact ⟨rfl, H3.out.s1.s2.drop⟩
set_option maxHeartbeats 4000000 in
theorem call_power (kind op : Int) (A : Option Addr) (n c : Nat) (how : Int) (hn : nm.toList.isEmpty = false) (hk1 : ((IntKind.u64.wrap kind).tmod 3 == 1) = false) (hk : ((IntKind.u64.wrap kind).tmod 3 == 2) = true) (S : SL W (tapeS tb nm s :: qS qb nm s :: F) w) :
    Calls Try.prog 24 #[.pointer (some ⟨tb, 0, none⟩), .pointer (some ⟨qb, 0, none⟩), .agg #[.int .i64 kind, .int .i64 op, .slice A n c, .int .i64 how]] w fun e w' => e = .returned (.bool true) ∧ SL W (tapeS tb nm (tpPower s) :: qS qb nm (tpPower s) :: F) w' := by
  have H1 := Lib.hid (S.allocC #[.int .i64 kind, .int .i64 op, .slice A n c, .int .i64 how] 45)
  have HN := Lib.hid hn
  clear S hn
  go_enter Try.func24, Try.ntmps24
  go_wp2_with (first
    | ((with_reducible refine (qpower_any H2.out).mono ?_); rintro e w3 ⟨rfl, S3⟩; have H3 := Lib.hid S3; clear S3)
    | ((with_reducible refine (power_any HN.out H1.out.s1).mono ?_); rintro e w2 ⟨rfl, S2⟩; have H2 := Lib.hid S2.s2; clear S2; obtain ⟨L2, K2, z2⟩ := H2.out.s2.look))
  go_ret
  exact ⟨rfl, H3.out.s1.s2.drop⟩
set_option maxRecDepth 100000 in
set_option maxHeartbeats 16000000 in
theorem call_do (kind op : Int) (A : Option Addr) (l : List UInt8) (c : Nat) (how : Int) (hn : nm.toList.isEmpty = false) (hk1 : ((IntKind.u64.wrap kind).tmod 3 == 1) = false) (hk : ((IntKind.u64.wrap kind).tmod 3 == 2) = false) (S : SL W (tapeS tb nm s :: qS qb nm s :: F) w) (ok : s.ok)
    (ha : Rd W F A (Lib.byteCells l)) (hz : l.length ≤ 1100) {s2 : TP} {dl : List UInt8} {st sn : Nat} (hr : tpDo s op l = (s2, dl, st, sn)) (hdl : dl.length ≤ 1024) :
    Calls Try.prog 24 #[.pointer (some ⟨tb, 0, none⟩), .pointer (some ⟨qb, 0, none⟩), .agg #[.int .i64 kind, .int .i64 op, .slice A l.length c, .int .i64 how]] w fun e w' => e = .returned (.bool true) ∧ SL W (tapeS tb nm s2 :: qS qb nm s2 :: F) w' := by
  have H1 := Lib.hid (S.allocC #[.int .i64 kind, .int .i64 op, .slice A l.length c, .int .i64 how] 45)
  have H2 : Hid (SL W (rowS 5 1 (.slice (some ⟨w.heap.size + 1, 0, none⟩) 0 0) 0 [] :: cel w.heap.size #[.int .i64 kind, .int .i64 op, .slice A l.length c, .int .i64 how] 45 :: tapeS tb nm s :: qS qb nm s :: F) ((w.alloc (.cells #[.int .i64 kind, .int .i64 op, .slice A l.length c, .int .i64 how] 45)).alloc (.cells #[] 5))) := Lib.hid (by
    have h := H1.out.lit #[] 5 1 0 rfl (by decide)
    rw [World.size_alloc] at h
    exact h)
  have HA2 : Hid (At ((w.alloc (.cells #[.int .i64 kind, .int .i64 op, .slice A l.length c, .int .i64 how] 45)).alloc (.cells #[] 5)) w.heap.size A (Lib.byteCells l)) := Lib.hid (((ha w S.drop.drop).alloc (Nat.le_refl _) _).alloc (by rw [World.size_alloc]; omega) _)
  have HN := Lib.hid hn
  have HA := Lib.hid ha
  have HO := Lib.hid ok
  have HR := Lib.hid hr
  have hz2 : l.length ≤ 1073741824 := by omega
  have hdl2 : dl.length ≤ 1073741824 := by omega
  clear S hn ok ha hr H1
  go_enter Try.func24, Try.ntmps24
  go_wp2_with (first
    | ((with_reducible refine (same_any dl (st : Int) (sn : Int) A4 A5 c4 c5 _ (SL.at_ H6.out.s4) (SL.at_ H6.out.s1) hdl2).mono ?_); rintro e w6 ⟨rfl, b6⟩
       have H7 := Lib.hid (SL.grow H6.out b6).drop.drop
       clear b6 H6 L5 K5 z5 L6 K6 z6
       have HC1 := run_string_of_at (P := Try.prog) 23 9 5 Try.underlying23 Try.underlying5 Try.underlying9 l c3 (SL.at_ H7.out.s4)
       have HC2 := run_string_of_at (P := Try.prog) 23 9 5 Try.underlying23 Try.underlying5 Try.underlying9 l c (HA.out w6 H7.out.drop.drop.drop.drop.drop.drop)
       generalize hst : (⟨l.toArray⟩ : ByteArray) = sb at HC1 HC2
       have t3 : (sb != sb) = false := by have h := bytes_eq sb; unfold bne; rw [h]; rfl
       clear hst
       obtain ⟨L5, K5, z5⟩ := H7.out.s1.look
       obtain ⟨L6, K6, z6⟩ := H7.out.s5.look)
    | ((with_reducible refine (qdo_at HR.out A c HO.out H5.out.s5 HA.out.cons.cons.cons.cons.cons hz2).mono ?_); rintro e w5 ⟨A5, c5, rfl, S5⟩
       have H6 := Lib.hid (S5.allocC #[.slice A5 dl.length c5, .int .i64 (st : Int), .int .i64 (sn : Int)] 31)
       obtain ⟨L5, K5, z5⟩ := S5.s2.look
       obtain ⟨L6, K6, z6⟩ := S5.s6.look
       clear S5 H5 L4 K4 z4)
    | ((with_reducible refine (do_at HR.out A3 c3 HN.out HO.out H3.out Rd.head hz2).mono ?_); rintro e w4 ⟨A4, c4, rfl, S4⟩
       have H5 := Lib.hid (S4.allocC #[.slice A4 dl.length c4, .int .i64 (st : Int), .int .i64 (sn : Int)] 31)
       obtain ⟨L4, K4, z4⟩ := S4.s3.look
       clear S4 H3 L3 K3 z3)
    | (at_builtin; refine wpList_appS rfl _ _ _ rfl bElem _ 0 [] rfl H2.out w.heap.size A l.length c (Lib.byteCells l) rfl HA2.out (by rw [byteCells_len, Nat.mul_one]) (byteCells_one _) (by unfold maxLen; omega) (by omega) ?_
       intro A3 c3 w3 S3
       rw [Nat.zero_add, List.nil_append] at S3
       rw [Nat.zero_add]
       have H3 := Lib.hid S3.s2
       clear S3 H2 HA2
       generalize w.heap.size = xb at *
       obtain ⟨L3, K3, z3⟩ := H3.out.s2.look))
  have H8 := Lib.hid H7.out.s2.s2.s1
  clear HC1 HC2 H7 L5 K5 z5 L6 K6 z6
  generalize w4.heap.size = xc at *
  go_loopw [11] (fun i wr => ∃ (k : Nat) (l2 : List UInt8), k ≤ dl.length ∧ i = .int .i64 (k : Int) ∧ l2.length = dl.length ∧ SL W (rowS 5 1 (.slice A4 dl.length c4) dl.length (Lib.byteCells l2) :: cel xc #[.slice A4 dl.length c4, .int .i64 (st : Int), .int .i64 (sn : Int)] 31 :: qS qb nm s2 :: tapeS tb nm s2 :: rowS 5 1 (.slice A3 l.length c3) l.length (Lib.byteCells l) :: cel xb #[.int .i64 kind, .int .i64 op, .slice A l.length c, .int .i64 how] 45 :: F) wr) (fun i _ => dl.length - (intOf i).toNat)
  case atStart => exact ⟨0, dl, Nat.zero_le _, rfl, rfl, H8.out⟩
  case round =>
    obtain ⟨k, l2, hk, rfl, hl2, S1⟩ := hrel
    have H9 := Lib.hid S1
    have HL := Lib.hid hl2
    clear S1 H8
    obtain ⟨L5, K5, z5⟩ := H9.out.s1.look
    by_cases hlt : k < dl.length
    · obtain ⟨gd, rfl, p1, p2, hS⟩ := rowS_setb H9.out hl2 (k := k) (by omega)
      generalize hx : l2[k]'(by omega) = x at *
      have hwrap := byte_next x
      have hx1 := x.toNat_lt
      have hS := hS (x + 1)
      have HL2 : Hid ((l2.set k (x + 1)).length = dl.length) := Lib.hid (by rw [List.length_set]; exact HL.out)
      generalize l2.set k (x + 1) = l3 at *
      generalize x + 1 = y at *
      have H10 := Lib.hid hS
      clear hS hx hl2
      go_wp2
      go_roundw
      case rel => exact ⟨k + 1, l3, by omega, by go_num, HL2.out, H10.out⟩
      case measure => simp [intOf]; omega
    · obtain rfl : k = dl.length := by omega
      go_wp2_with fail
      have H11 := Lib.hid H9.out.drop.drop.s2
      clear H9 L5 K5 z5 hl2 HL
      go_loopw [12] (fun i wx => ∃ (k : Nat) (l2 : List UInt8), k ≤ l.length ∧ i = .int .i64 (k : Int) ∧ l2.length = l.length ∧ SL W (rowS 5 1 (.slice A3 l.length c3) l.length (Lib.byteCells l2) :: qS qb nm s2 :: tapeS tb nm s2 :: cel xb #[.int .i64 kind, .int .i64 op, .slice A l.length c, .int .i64 how] 45 :: F) wx) (fun i _ => l.length - (intOf i).toNat)
      case atStart => exact ⟨0, l, Nat.zero_le _, rfl, rfl, H11.out⟩
      case round =>
        obtain ⟨k, l2, hk, rfl, hl2, S1⟩ := hrel
        have H9 := Lib.hid S1
        have HL := Lib.hid hl2
        clear S1 H11
        by_cases hlt : k < l.length
        · obtain ⟨gd, rfl, p1, p2, hS⟩ := rowS_setb H9.out hl2 (k := k) (by omega)
          generalize hx : l2[k]'(by omega) = x at *
          have hwrap := byte_next x
          have hx1 := x.toNat_lt
          have hS := hS (x + 1)
          have HL2 : Hid ((l2.set k (x + 1)).length = l.length) := Lib.hid (by rw [List.length_set]; exact HL.out)
          generalize l2.set k (x + 1) = l3 at *
          generalize x + 1 = y at *
          have H10 := Lib.hid hS
          clear hS hx hl2
          go_wp2
          go_roundw
          case rel => exact ⟨k + 1, l3, by omega, by go_num, HL2.out, H10.out⟩
          case measure => simp [intOf]; omega
        · obtain rfl : k = l.length := by omega
          go_wp2
          go_ret
          exact ⟨rfl, H9.out.drop.s1.s2.drop⟩
theorem call_any (a : ActV) (hn : nm.toList.isEmpty = false) (S : SL W (tapeS tb nm s :: qS qb nm s :: F) w) (ok : s.ok) (tip : s.tip) (ha : Rd W F a.data.1 (Lib.byteCells a.data.2.1)) (hz : a.data.2.1.length ≤ 1100) :
    Calls Try.prog 24 #[.pointer (some ⟨tb, 0, none⟩), .pointer (some ⟨qb, 0, none⟩), .agg #[.int .i64 a.kind, .int .i64 a.op, cardV a.data, .int .i64 a.how]] w fun e w' => e = .returned (.bool true) ∧ ∃ s' : TP, s'.ok ∧ s'.tip ∧ SL W (tapeS tb nm s' :: qS qb nm s' :: F) w' := by
  obtain ⟨kind, op, ⟨A, l, c⟩, how⟩ := a
  dsimp only [cardV] at *
  cases hk1 : ((IntKind.u64.wrap kind).tmod 3 == 1) with
  | true => exact (call_undo kind op A l.length c how hk1 S ok tip).mono fun e w' h => ⟨h.1, _, undo_ok s how ok, undo_tip s how tip, h.2⟩
  | false =>
    cases hk2 : ((IntKind.u64.wrap kind).tmod 3 == 2) with
    | true => exact (call_power kind op A l.length c how hn hk1 hk2 S).mono fun e w' h => ⟨h.1, _, power_ok s ok, power_tip s, h.2⟩
    | false =>
      have hd := (do_ok s op l ok).2.2.2
      exact (call_do kind op A l c how hn hk1 hk2 S ok ha hz (s2 := (tpDo s op l).1) (dl := (tpDo s op l).2.1) (st := (tpDo s op l).2.2.1) (sn := (tpDo s op l).2.2.2) rfl hd).mono fun e w' h => ⟨h.1, _, (do_ok s op l ok).1, do_tip s op l ok, h.2⟩
end
end Go.Proofs.Ytbbokikjpabfkaa
