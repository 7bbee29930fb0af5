import Derived.Test.YtheiickihjcdlaaCaw
import Derived.Test.YtheiickihjcdlaaREncAny
import Derived.Deep.DeepCutAuto
namespace Go.Proofs.Ytheiickihjcdlaa
open Go.RowKit

def cswErr (key addr unit chan count : Int) : Int := if inB key 15 && inB addr 16777215 && inB unit 255 && inB chan 255 && inB count 65535 then 0 else 6
def cswBytes (key addr unit chan count : Int) : List UInt8 := word8 (16 * key.toNat) addr.toNat unit.toNat chan.toNat count.toNat

theorem outside_is (n most : Int) (q : Bool) (h : inB n most = q) (w : World) : Calls Try.prog 25 #[.int .i64 n, .int .i64 most] w fun e w' => e = .returned (.bool (!q)) ∧ w = w' := by subst h; exact outside_any n most w
theorem rin_is (n most : Int) (q : Bool) (h : inB n most = q) (w : World) : Calls Try.prog 28 #[.int .i64 n, .int .i64 most] w fun e w' => e = .returned (.bool q) ∧ w = w' := by subst h; exact rin_any n most w

theorem eight_int (f addr a b count : Int) (f0 : 0 ≤ f) (f1 : f < 256) (a0 : 0 ≤ addr) (a1 : addr < 16777216) (u0 : 0 ≤ a) (u1 : a < 256) (b0 : 0 ≤ b) (b1 : b < 256) (c0 : 0 ≤ count) (c1 : count < 65536) (w : World) :
    Calls Try.prog 27 #[.int .u8 f, .int .i64 addr, .int .u8 a, .int .u8 b, .int .i64 count] w fun e w' =>
      ∃ A c, e = .returned (.slice A 8 c) ∧ w'.ownsRow w.heap.size 5 1 (.slice A 8 c) 8 (Lib.byteCells (word8 f.toNat addr.toNat a.toNat b.toNat count.toNat)) ∧ Below w.heap.size w w' := by
  obtain ⟨f, rfl⟩ := Int.eq_ofNat_of_zero_le f0
  obtain ⟨addr, rfl⟩ := Int.eq_ofNat_of_zero_le a0
  obtain ⟨a, rfl⟩ := Int.eq_ofNat_of_zero_le u0
  obtain ⟨b, rfl⟩ := Int.eq_ofNat_of_zero_le b0
  obtain ⟨count, rfl⟩ := Int.eq_ofNat_of_zero_le c0
  exact eight_any f addr a b count (by omega) (by omega) (by omega) (by omega) (by omega) w
theorem rbytes_int (n : Int) (count : Nat) (h0 : 0 ≤ n) (hn : n < 4294967296) (hc : count ≤ 8) (C : Int) (hC : C = count) (w : World) : Calls Try.prog 30 #[.int .i64 n, .int .i64 C] w fun e w' =>
    ∃ A c, e = .returned (.slice A count c) ∧ w'.ownsRow w.heap.size 5 1 (.slice A count c) count (Lib.byteCells (beN n.toNat count)) ∧ Below w.heap.size w w' := by
  obtain ⟨n, rfl⟩ := Int.eq_ofNat_of_zero_le h0
  subst hC
  exact rbytes_any n count (by omega) hc w

set_option maxHeartbeats 4000000 in
theorem encodeCsw_any (key addr unit chan count : Int) (w : World) : Calls Try.prog 21 #[.agg #[.int .i64 key, .int .i64 addr, .int .i64 unit, .int .i64 chan, .int .i64 count]] w
    (BytesRet (cswBytes key addr unit chan count) (cswErr key addr unit chan count) w) := by
  obtain ⟨q1, h1⟩ : ∃ q, inB key 15 = q := ⟨_, rfl⟩
  obtain ⟨q2, h2⟩ : ∃ q, inB addr 16777215 = q := ⟨_, rfl⟩
  obtain ⟨q3, h3⟩ : ∃ q, inB unit 255 = q := ⟨_, rfl⟩
  obtain ⟨q4, h4⟩ : ∃ q, inB chan 255 = q := ⟨_, rfl⟩
  obtain ⟨q5, h5⟩ : ∃ q, inB count 65535 = q := ⟨_, rfl⟩
  have H1 := Lib.hid (outside_is key 15 q1 h1)
  have H2 := Lib.hid (outside_is addr 16777215 q2 h2)
  have H3 := Lib.hid (outside_is unit 255 q3 h3)
  have H4 := Lib.hid (outside_is chan 255 q4 h4)
  have H5 := Lib.hid (outside_is count 65535 q5 h5)
  have herr : cswErr key addr unit chan count = if q1 && q2 && q3 && q4 && q5 then 0 else 6 := by unfold cswErr; rw [h1, h2, h3, h4, h5]
  cases hall : (q1 && q2 && q3 && q4 && q5)
  · rw [herr, hall]
    have HA := Lib.hid hall
    clear h1 h2 h3 h4 h5 herr hall
    go_enter Try.func21, Try.ntmps21
    go_wp2_with (go_at_call 25; first
      | ((with_reducible refine (H1.out _).mono ?_); rintro e w1 ⟨rfl, rfl⟩)
      | ((with_reducible refine (H2.out _).mono ?_); rintro e w1 ⟨rfl, rfl⟩)
      | ((with_reducible refine (H3.out _).mono ?_); rintro e w1 ⟨rfl, rfl⟩)
      | ((with_reducible refine (H4.out _).mono ?_); rintro e w1 ⟨rfl, rfl⟩)
      | ((with_reducible refine (H5.out _).mono ?_); rintro e w1 ⟨rfl, rfl⟩))
    all_goals first
      | (exfalso; have ha := HA.out; simp_all; done)
      | (go_ret2; exact BytesRet.err (by decide) rfl (by (repeat' (first | (with_reducible exact Below.refl _ _) | (with_reducible assumption) | (with_reducible refine below_drewN ?_ _) | (with_reducible refine Below.drew ?_) | (with_reducible refine Below.alloc ?_ ?_ _) | (with_reducible refine Below.setCell ?_ ?_ _) | (with_reducible refine below_row ?_ ?_ _) | (with_reducible exact Nat.le_refl _) | omega | (simp only [World.size_alloc, World.size_setCell, World.size_drew, World.size_drewN]; omega) | (simp; done) | (simp; omega)))))
  · rw [herr, hall]
    simp only [Bool.and_eq_true] at hall
    obtain ⟨⟨⟨⟨rfl, rfl⟩, rfl⟩, rfl⟩, rfl⟩ := hall
    clear herr
    obtain ⟨k0, k1⟩ := inB_iff.1 h1
    obtain ⟨a0, a1⟩ := inB_iff.1 h2
    obtain ⟨u0, u1⟩ := inB_iff.1 h3
    obtain ⟨n0, n1⟩ := inB_iff.1 h4
    obtain ⟨c0, c1⟩ := inB_iff.1 h5
    clear h1 h2 h3 h4 h5
    go_enter Try.func21, Try.ntmps21
    go_wp2_with (go_at_call 25; first
      | ((with_reducible refine (H1.out _).mono ?_); rintro e w1 ⟨rfl, rfl⟩)
      | ((with_reducible refine (H2.out _).mono ?_); rintro e w1 ⟨rfl, rfl⟩)
      | ((with_reducible refine (H3.out _).mono ?_); rintro e w1 ⟨rfl, rfl⟩)
      | ((with_reducible refine (H4.out _).mono ?_); rintro e w1 ⟨rfl, rfl⟩)
      | ((with_reducible refine (H5.out _).mono ?_); rintro e w1 ⟨rfl, rfl⟩))
    refine (eight_int _ _ _ _ _ (by omega) (by omega) (by omega) (by omega) (by omega) (by omega) (by omega) (by omega) (by omega) (by omega) _).mono ?_
    rintro e w1 ⟨A, c, rfl, o1, b1⟩
    have O1 := Lib.hid o1
    clear o1
    have B1 : Below w.heap.size w w1 := ((Below.refl _ _).alloc (Nat.le_refl _) _).trans (b1.mono (by simp))
    go_wp2
    go_ret2
    refine BytesRet.own (n := 8) rfl rfl ?_ B1
    have hk : cswBytes key addr unit chan count = word8 (key * 16).toNat addr.toNat unit.toNat chan.toNat count.toNat := by
      unfold cswBytes
      rw [show (key * 16).toNat = 16 * key.toNat from by omega]
    rw [hk]
    exact own_mono O1.out (by simp)

set_option maxHeartbeats 4000000 in
theorem rencodeCsw_any (key addr unit chan count : Int) (w : World) : Calls Try.prog 22 #[.agg #[.int .i64 key, .int .i64 addr, .int .i64 unit, .int .i64 chan, .int .i64 count]] w
    (BytesRet (cswBytes key addr unit chan count) (cswErr key addr unit chan count) w) := by
  obtain ⟨q1, h1⟩ : ∃ q, inB key 15 = q := ⟨_, rfl⟩
  obtain ⟨q2, h2⟩ : ∃ q, inB addr 16777215 = q := ⟨_, rfl⟩
  obtain ⟨q3, h3⟩ : ∃ q, inB unit 255 = q := ⟨_, rfl⟩
  obtain ⟨q4, h4⟩ : ∃ q, inB chan 255 = q := ⟨_, rfl⟩
  obtain ⟨q5, h5⟩ : ∃ q, inB count 65535 = q := ⟨_, rfl⟩
  have H1 := Lib.hid (rin_is key 15 q1 h1)
  have H2 := Lib.hid (rin_is addr 16777215 q2 h2)
  have H3 := Lib.hid (rin_is unit 255 q3 h3)
  have H4 := Lib.hid (rin_is chan 255 q4 h4)
  have H5 := Lib.hid (rin_is count 65535 q5 h5)
  have herr : cswErr key addr unit chan count = if q1 && q2 && q3 && q4 && q5 then 0 else 6 := by unfold cswErr; rw [h1, h2, h3, h4, h5]
  cases hall : (q1 && q2 && q3 && q4 && q5)
  · rw [herr, hall]
    have HA := Lib.hid hall
    clear h1 h2 h3 h4 h5 herr hall
    go_enter Try.func22, Try.ntmps22
    go_wp2_with (go_at_call 28; first
      | ((with_reducible refine (H1.out _).mono ?_); rintro e w1 ⟨rfl, rfl⟩)
      | ((with_reducible refine (H2.out _).mono ?_); rintro e w1 ⟨rfl, rfl⟩)
      | ((with_reducible refine (H3.out _).mono ?_); rintro e w1 ⟨rfl, rfl⟩)
      | ((with_reducible refine (H4.out _).mono ?_); rintro e w1 ⟨rfl, rfl⟩)
      | ((with_reducible refine (H5.out _).mono ?_); rintro e w1 ⟨rfl, rfl⟩))
    all_goals first
      | (exfalso; have ha := HA.out; simp_all; done)
      | (go_ret2; exact BytesRet.err (by decide) rfl (by (repeat' (first | (with_reducible exact Below.refl _ _) | (with_reducible assumption) | (with_reducible refine below_drewN ?_ _) | (with_reducible refine Below.drew ?_) | (with_reducible refine Below.alloc ?_ ?_ _) | (with_reducible refine Below.setCell ?_ ?_ _) | (with_reducible refine below_row ?_ ?_ _) | (with_reducible exact Nat.le_refl _) | omega | (simp only [World.size_alloc, World.size_setCell, World.size_drew, World.size_drewN]; omega) | (simp; done) | (simp; omega)))))
  · rw [herr, hall]
    simp only [Bool.and_eq_true] at hall
    obtain ⟨⟨⟨⟨rfl, rfl⟩, rfl⟩, rfl⟩, rfl⟩ := hall
    clear herr
    obtain ⟨k0, k1⟩ := inB_iff.1 h1
    obtain ⟨a0, a1⟩ := inB_iff.1 h2
    obtain ⟨u0, u1⟩ := inB_iff.1 h3
    obtain ⟨n0, n1⟩ := inB_iff.1 h4
    obtain ⟨c0, c1⟩ := inB_iff.1 h5
    clear h1 h2 h3 h4 h5
    go_enter Try.func22, Try.ntmps22
    go_upto_region 3 with (go_at_call 28; first
      | ((with_reducible refine (H1.out _).mono ?_); rintro e w1 ⟨rfl, rfl⟩)
      | ((with_reducible refine (H2.out _).mono ?_); rintro e w1 ⟨rfl, rfl⟩)
      | ((with_reducible refine (H3.out _).mono ?_); rintro e w1 ⟨rfl, rfl⟩)
      | ((with_reducible refine (H4.out _).mono ?_); rintro e w1 ⟨rfl, rfl⟩)
      | ((with_reducible refine (H5.out _).mono ?_); rintro e w1 ⟨rfl, rfl⟩))
    refine name_world (P := Code.wp _ _ _ _) ?_
    intro w0 hw0
    have r0 : w0.heap[w.heap.size]? = some (.cells (cswCells key addr unit chan count) 36 (0, 0)) := by rw [hw0]; exact hl_new rfl
    have B0 : Below w.heap.size w w0 := by rw [hw0]; (repeat' (first | (with_reducible exact Below.refl _ _) | (with_reducible assumption) | (with_reducible refine below_drewN ?_ _) | (with_reducible refine Below.drew ?_) | (with_reducible refine Below.alloc ?_ ?_ _) | (with_reducible refine Below.setCell ?_ ?_ _) | (with_reducible refine below_row ?_ ?_ _) | (with_reducible exact Nat.le_refl _) | omega | (simp only [World.size_alloc, World.size_setCell, World.size_drew, World.size_drewN]; omega) | (simp; done) | (simp; omega)))
    clear hw0
    obtain ⟨L, _, z0⟩ := row_look r0
    unfold cswCells at L
    have R0 := Lib.hid r0
    have HL := Lib.hid L
    have k0 : w0.cell? ⟨w.heap.size, 0, none⟩ = some (.int .i64 key) := L 0
    have ka : w0.cell? ⟨w.heap.size, 1, none⟩ = some (.int .i64 addr) := L 1
    have hwk : IntKind.i64.wrap (16 * key) = 16 * key := by rw [IntKind.wrap_i64]; omega
    have hwu : IntKind.u8.wrap (16 * key) = 16 * key := by rw [IntKind.wrap_u8]; omega
    clear r0 L
    go_cut [4] (fun s4 wx => ∃ A c, s4 = .slice A 4 c ∧ wx.ownsRow w0.heap.size 5 1 (.slice A 4 c) 4 ([.int .u8 (16 * key)] ++ Lib.byteCells (beN addr.toNat 3)) ∧ Below w0.heap.size w0 wx)
    case first =>
      go_region_held3 (fun w' => w'.cell? ⟨w.heap.size, 0, none⟩ = some (.int .i64 key) ∧ w'.cell? ⟨w.heap.size, 1, none⟩ = some (.int .i64 addr))
        (first | go_keep | (refine ⟨?_, ?_⟩ <;> (rw [b5.cell (by simp; omega)]; go_keep)) | (refine ⟨?_, ?_⟩ <;> (rw [b6.cell z0]; assumption)))
        ((first
          | (refine step_append_at (by rfl) _ _ _ (by rfl) wElem w0.heap.size _ 1 [.int .u8 (16 * key)] (by rfl) (own_below (w := (w0.alloc (.cells #[.int .u8 (16 * key)] 5)).drew) (World.ownsRow_lit w0 #[.int .u8 (16 * key)] 1 (Nat.le_refl _) (by decide) rfl) b5) w5.heap.size A5 3 c5 _ (by rfl) (own_at o5) (by simp [byteCells_len, beN_length]) (byteCells_one _) (by decide) (by omega) B5.size ?_; intro A6 c6 w6 o6 g6; have b6 : Below w0.heap.size w0 w6 := B5.trans g6)
          | (refine step_append_at (by rfl) _ _ _ (by rfl) wElem w0.heap.size _ 1 [.int .u8 (16 * key)] (by rfl) (World.ownsRow_lit w5 #[.int .u8 (16 * key)] 1 B5.size (by decide) rfl) w5.heap.size A5 3 c5 _ (by rfl) ((own_at o5).alloc (Nat.le_refl _) _) (by simp [byteCells_len, beN_length]) (byteCells_one _) (by decide) (by omega) (by have := B5.size; simp; omega) ?_; intro A6 c6 w6 o6 g6; have b6 : Below w0.heap.size w0 w6 := (B5.alloc B5.size _).trans g6)
          | (go_simp; go_at_call 30; refine (rbytes_int addr 3 (by omega) (by omega) (by omega) 3 rfl _).mono ?_; rintro e w5 ⟨A5, c5, rfl, o5, b5⟩
             have B5 : Below w0.heap.size w0 w5 := by first | exact (Below.refl _ _).drew.trans b5 | exact ((Below.refl _ _).alloc (Nat.le_refl _) _).drew.trans (b5.mono (by simp)))))
      all_goals (go_wp2_with fail; go_meet; exact ⟨A6, c6, rfl, o6, b6⟩)
    case rest =>
      obtain ⟨A, c, rfl, o1, b1⟩ := hcut
      have s1 : ∀ o, wc.cell? ⟨w.heap.size, o, none⟩ = #[Value.int .i64 key, .int .i64 addr, .int .i64 unit, .int .i64 chan, .int .i64 count][o]? := fun o => by rw [b1.cell (p := ⟨w.heap.size, o, none⟩) z0]; exact HL.out o
      have O1 := Lib.hid o1
      clear o1
      have HO1 := Lib.hid (fun o => O1.out.alloc (o := o))
      have hzc : w0.heap.size ≤ wc.heap.size := b1.size
      have HA1 := Lib.hid (own_at (World.ownsRow_lit wc (e := 5) #[.int .u8 unit, .int .u8 chan] 2 (Nat.le_refl _) (by decide) rfl))
      go_wp2_with (first
        | (at_builtin
           refine wpList_append_at (by rfl) _ _ _ (by rfl) wElem w0.heap.size _ 4 _ (by rfl) (HO1.out _) (wc.alloc (.cells #[.int .u8 unit, .int .u8 chan] 5)).heap.size (some ⟨wc.heap.size, 0, none⟩) 2 2 [.int .u8 unit, .int .u8 chan] (by rfl) HA1.out (by rfl) (by intro u hu; simp at hu; rcases hu with rfl | rfl <;> rfl) (by decide) (by decide) (by simp; omega) ?_
           intro A8 c8 w8 o8 g8
           have b8 : Below w0.heap.size w0 w8 := (b1.alloc hzc _).grown g8 (by simp; omega) (own_ge O1.out)
           have hz8 : w0.heap.size ≤ w8.heap.size := b8.size
           have t8 : w8.cell? ⟨w.heap.size, 4, none⟩ = some (.int .i64 count) := by rw [b8.cell (p := ⟨w.heap.size, 4, none⟩) z0]; exact HL.out 4
           have O8 := Lib.hid o8
           clear o8 g8)
        | (go_at_call 30
           refine (rbytes_int count 2 (by omega) (by omega) (by omega) 2 rfl _).mono ?_
           rintro e w9 ⟨A9, c9, rfl, o9, b9⟩
           have HA9 := Lib.hid (own_at o9)
           have HO9 := Lib.hid (own_below O8.out b9)
           have B9 : Below w0.heap.size w0 w9 := b8.trans (b9.mono hz8)
           have hz9 : w0.heap.size ≤ w9.heap.size := B9.size
           clear o9)
        | (at_builtin
           refine wpList_append_at (by rfl) _ _ _ (by rfl) wElem w0.heap.size _ 6 _ (by rfl) HO9.out w9.heap.size A9 2 c9 (Lib.byteCells (beN count.toNat 2)) (by rfl) HA9.out (by simp [byteCells_len, beN_length]) (byteCells_one _) (by decide) (by decide) hz9 ?_
           intro A10 c10 w10 o10 g10
           have b10 : Below w0.heap.size w0 w10 := B9.grown g10 hz9 (own_ge HO9.out)
           have O10 := Lib.hid o10
           clear o10 g10))
      go_ret2
      refine BytesRet.own (n := 8) rfl rfl (own_mono ?_ (Nat.le_of_lt z0)) (B0.trans (b10.mono (Nat.le_of_lt z0)))
      have hc : Lib.byteCells (cswBytes key addr unit chan count) = [Value.int .u8 (16 * key)] ++ Lib.byteCells (beN addr.toNat 3) ++ [Value.int .u8 unit, .int .u8 chan] ++ Lib.byteCells (beN count.toNat 2) := by
        rw [be3_eq, be2_eq]
        simp only [cswBytes, word8, Lib.byteCells, List.map_cons, List.map_nil, List.cons_append, List.nil_append, UInt8.toNat_ofNat']
        congr 2
        · rw [Nat.mod_eq_of_lt (by omega)]; congr 1; omega
        · congr 3
          congr 1
          · rw [Nat.mod_eq_of_lt (by omega)]; congr 1; omega
          · congr 1; rw [Nat.mod_eq_of_lt (by omega)]; congr 1; omega
      rw [hc]
      exact O10.out

end Go.Proofs.Ytheiickihjcdlaa
