import Derived.Test.YtheiickihjcdlaaECsw
namespace Go.Proofs.Ytheiickihjcdlaa
open Go.RowKit

theorem own_lit1 (w : World) (e : TypeId) (cs : Array Value) (n : Nat) (hs : cs.size = n) (hm : n ≤ maxLen) : (w.alloc (.cells cs e)).ownsRow w.heap.size e 1 (.slice (some ⟨w.heap.size, 0, none⟩) n n) n cs.toList :=
  World.ownsRow_lit w cs n (Nat.le_refl _) hm (by omega)
def cawErr (key addr : Int) : Int := if inB key 15 && inB addr 16777215 then (if addr % 8 = 0 then 0 else 1) else 6
def cawBytes (key addr : Int) : List UInt8 := [UInt8.ofNat (16 * key.toNat), UInt8.ofNat (addr.toNat / 65536), UInt8.ofNat (addr.toNat / 256), UInt8.ofNat addr.toNat]
theorem ofInt_i64 (a : Nat) (ha : a < 9223372036854775808) : (BitVec.ofInt 64 (a : Int)).toNat = a := by
  rw [BitVec.ofInt_natCast, BitVec.toNat_ofNat]; exact Nat.mod_eq_of_lt (by omega)
theorem and7 (addr : Int) (h0 : 0 ≤ addr) (h1 : addr ≤ 16777215) : bits BinOp.and IntKind.i64 addr 7 = addr % 8 := by
  obtain ⟨n, rfl⟩ := Int.eq_ofNat_of_zero_le h0
  show IntKind.i64.wrap ((BitVec.ofInt 64 (n : Int) &&& BitVec.ofInt 64 ((7 : Nat) : Int)).toNat : Int) = _
  rw [BitVec.toNat_and, ofInt_i64 n (by omega), ofInt_i64 7 (by omega), Nat.and_two_pow_sub_one_eq_mod n 3, IntKind.wrap_i64]
  omega
def zeros4 : List UInt8 := List.replicate 4 0

set_option maxHeartbeats 4000000 in
theorem encodeCaw_any (key addr : Int) (w : World) : Calls Try.prog 23 #[.int .i64 key, .int .i64 addr] w
    (BytesRet (cawBytes key addr) (cawErr key addr) w) := by
  obtain ⟨q1, h1⟩ : ∃ q, inB key 15 = q := ⟨_, rfl⟩
  obtain ⟨q2, h2⟩ : ∃ q, inB addr 16777215 = q := ⟨_, rfl⟩
  have H1 := Lib.hid (outside_is key 15 q1 h1)
  have H2 := Lib.hid (outside_is addr 16777215 q2 h2)
  have herr : cawErr key addr = if q1 && q2 then (if addr % 8 = 0 then 0 else 1) else 6 := by unfold cawErr; rw [h1, h2]
  cases hall : (q1 && q2)
  · rw [herr, hall]
    have HA := Lib.hid hall
    clear h1 h2 herr hall
    go_enter Try.func23, Try.ntmps23
    go_wp2_with (go_at_call 25; first
      | ((with_reducible refine (H1.out _).mono ?_); rintro e w1 ⟨rfl, rfl⟩)
      | ((with_reducible refine (H2.out _).mono ?_); rintro e w1 ⟨rfl, rfl⟩))
    all_goals first
      | (exfalso; have ha := HA.out; simp_all; done)
      | (go_ret2; exact BytesRet.err (by decide) rfl (Below.refl _ _))
  · rw [herr, hall]
    simp only [Bool.and_eq_true] at hall
    obtain ⟨rfl, rfl⟩ := hall
    clear herr
    obtain ⟨k0, k1⟩ := inB_iff.1 h1
    obtain ⟨a0, a1⟩ := inB_iff.1 h2
    clear h1 h2
    by_cases hm : addr % 8 = 0
    · have ht : (bits BinOp.and IntKind.i64 addr 7 != 0) = false := by rw [and7 addr a0 a1]; simp [hm]
      rw [if_pos rfl, if_pos hm]
      clear hm
      have hjoin : bits BinOp.or IntKind.u32 (key * 268435456) addr = ((16 * key.toNat * 16777216 + addr.toNat : Nat) : Int) := by
        obtain ⟨k, rfl⟩ := Int.eq_ofNat_of_zero_le k0
        obtain ⟨n, rfl⟩ := Int.eq_ofNat_of_zero_le a0
        rw [show ((k : Int) * 268435456) = ((16 * k : Nat) : Int) * 16777216 from by omega]
        exact word_join (16 * k) n (by omega) (by omega)
      have HJ := Lib.hid hjoin
      clear hjoin
      have hmk : ∀ w : World, (Instr.makeSlice 27 (.int .i64 4) (.int .i64 4)).run Try.prog w = .ok (.slice (some ⟨w.heap.size, 0, none⟩) 4 4) (w.alloc (.cells (Lib.byteCells zeros4).toArray 5)) := fun _ => by kernel_rfl
      go_enter Try.func23, Try.ntmps23
      go_wp2_with (go_at_call 25; first
      | ((with_reducible refine (H1.out _).mono ?_); rintro e w1 ⟨rfl, rfl⟩)
      | ((with_reducible refine (H2.out _).mono ?_); rintro e w1 ⟨rfl, rfl⟩))
      rw [HJ.out]
      have hpf := fun w' h => putFull_yes (some ⟨w.heap.size, 0, none⟩) zeros4 4 0 (16 * key.toNat * 16777216 + addr.toNat) (by omega) w' h (by decide) (by decide)
      rw [show zeros4.length = 4 from rfl] at hpf
      refine (hpf _ ((at_lit w zeros4 5).mono (by simp))).mono ?_
      rintro e w2 ⟨A2, c2, rfl, o2, b2⟩
      have O2 := Lib.hid o2
      have B2 : Below w.heap.size w w2 := ((Below.refl _ _).alloc (Nat.le_refl _) _).trans (b2.mono (by simp))
      clear o2
      go_wp2
      go_ret2
      refine BytesRet.own (n := 4) rfl rfl ?_ B2
      have hk : cawBytes key addr = patch zeros4 0 (be4 (16 * key.toNat * 16777216 + addr.toNat)) := by
        simp only [cawBytes, patch, zeros4, be4, List.take_zero, List.nil_append, List.length_cons, List.length_nil]
        simp only [List.replicate, List.drop]
        simp only [List.append_nil, List.cons.injEq, and_true]
        refine ⟨?_, ?_, ?_, ?_⟩ <;> (apply ofNat_congr; omega)
      rw [hk]
      exact own_mono O2.out (by simp)
    · have ht : (bits BinOp.and IntKind.i64 addr 7 != 0) = true := by rw [and7 addr a0 a1]; simp [hm]
      rw [if_pos rfl, if_neg hm]
      clear hm
      go_enter Try.func23, Try.ntmps23
      go_wp2_with (go_at_call 25; first
      | ((with_reducible refine (H1.out _).mono ?_); rintro e w1 ⟨rfl, rfl⟩)
      | ((with_reducible refine (H2.out _).mono ?_); rintro e w1 ⟨rfl, rfl⟩))
      all_goals (go_ret2; exact BytesRet.err (by decide) rfl (Below.refl _ _))

set_option maxHeartbeats 4000000 in
theorem rencodeCaw_any (key addr : Int) (w : World) : Calls Try.prog 24 #[.int .i64 key, .int .i64 addr] w
    (BytesRet (cawBytes key addr) (cawErr key addr) w) := by
  obtain ⟨q1, h1⟩ : ∃ q, inB key 15 = q := ⟨_, rfl⟩
  obtain ⟨q2, h2⟩ : ∃ q, inB addr 16777215 = q := ⟨_, rfl⟩
  have H1 := Lib.hid (rin_is key 15 q1 h1)
  have H2 := Lib.hid (rin_is addr 16777215 q2 h2)
  have herr : cawErr key addr = if q1 && q2 then (if addr % 8 = 0 then 0 else 1) else 6 := by unfold cawErr; rw [h1, h2]
  cases hall : (q1 && q2)
  · rw [herr, hall]
    have HA := Lib.hid hall
    clear h1 h2 herr hall
    go_enter Try.func24, Try.ntmps24
    go_wp2_with (go_at_call 28; first
      | ((with_reducible refine (H1.out _).mono ?_); rintro e w1 ⟨rfl, rfl⟩)
      | ((with_reducible refine (H2.out _).mono ?_); rintro e w1 ⟨rfl, rfl⟩))
    all_goals first
      | (exfalso; have ha := HA.out; simp_all; done)
      | (go_ret2; exact BytesRet.err (by decide) rfl (Below.refl _ _))
  · rw [herr, hall]
    simp only [Bool.and_eq_true] at hall
    obtain ⟨rfl, rfl⟩ := hall
    clear herr
    obtain ⟨k0, k1⟩ := inB_iff.1 h1
    obtain ⟨a0, a1⟩ := inB_iff.1 h2
    clear h1 h2
    by_cases hm : addr % 8 = 0
    · have ht : (addr % 8 != 0) = false := by  simp [hm]
      rw [if_pos rfl, if_pos hm]
      clear hm
      have hwk : IntKind.i64.wrap (16 * key) = 16 * key := by rw [IntKind.wrap_i64]; omega
      have hwu : IntKind.u8.wrap (16 * key) = 16 * key := by rw [IntKind.wrap_u8]; omega
      go_enter Try.func24, Try.ntmps24
      go_wp2_with (first
        | (go_at_call 28; first
      | ((with_reducible refine (H1.out _).mono ?_); rintro e w1 ⟨rfl, rfl⟩)
      | ((with_reducible refine (H2.out _).mono ?_); rintro e w1 ⟨rfl, rfl⟩))
        | (go_at_call 30; go_loud (
           (refine (rbytes_int addr 3 (by omega) (by omega) (by omega) 3 rfl _).mono ?_
            rintro e w5 ⟨A5, c5, rfl, o5, b5⟩
            have B5 : Below w.heap.size w w5 := ((Below.refl _ _).alloc (Nat.le_refl _) _).trans (b5.mono (by simp))
            have HA5 := Lib.hid (own_at o5)
            have HO5 := Lib.hid (own_below (own_lit1 w 5 #[.int .u8 (16 * key)] 1 rfl (by decide)) b5)
            have hz5 := B5.size
            clear o5)))
        | (at_builtin
           go_loud ((refine wpList_append_at (by rfl) _ _ _ (by rfl) wElem w.heap.size _ 1 [.int .u8 (16 * key)] (by rfl) HO5.out w5.heap.size A5 3 c5 (Lib.byteCells (beN addr.toNat 3)) (by rfl) HA5.out (by simp [byteCells_len, beN_length]) (byteCells_one _) (by decide) (by decide) hz5 ?_; intro A6 c6 w6 o6 g6; have b6 : Below w.heap.size w w6 := B5.grown g6 hz5 (own_ge HO5.out)))))
      all_goals
        have O6 := Lib.hid o6
        clear o6
        go_ret2
        refine BytesRet.own (n := 4) rfl rfl ?_ b6
        have hc : Lib.byteCells (cawBytes key addr) = [Value.int .u8 (16 * key)] ++ Lib.byteCells (beN addr.toNat 3) := by
          rw [be3_eq]
          simp only [cawBytes, Lib.byteCells, List.map_cons, List.map_nil, List.cons_append, List.nil_append, UInt8.toNat_ofNat']
          congr 2
          rw [Nat.mod_eq_of_lt (by omega)]; congr 1; omega
        rw [hc]
        exact O6.out
    · have ht : (addr % 8 != 0) = true := by  simp [hm]
      rw [if_pos rfl, if_neg hm]
      clear hm
      go_enter Try.func24, Try.ntmps24
      go_wp2_with (go_at_call 28; first
      | ((with_reducible refine (H1.out _).mono ?_); rintro e w1 ⟨rfl, rfl⟩)
      | ((with_reducible refine (H2.out _).mono ?_); rintro e w1 ⟨rfl, rfl⟩))
      all_goals (go_ret2; exact BytesRet.err (by decide) rfl (Below.refl _ _))

end Go.Proofs.Ytheiickihjcdlaa
