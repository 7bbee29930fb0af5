import Derived.Test.YtheiickihjcdlaaBase
namespace Go.Proofs.Ytheiickihjcdlaa
open Go.RowKit

theorem wElem : Elem Try.prog 27 5 (.int .u8 0) 1 1 := ⟨Try.underlying27, by kernel_rfl, rfl, by omega⟩

/-- word.fits -/
def fitsB (len : Nat) (at_ n : Int) : Bool := decide (0 ≤ at_) && decide (at_ ≤ (len : Int) - n)
theorem fitsB_yes {len : Nat} {at_ n : Int} (h0 : 0 ≤ at_) (h : at_ ≤ (len : Int) - n) : fitsB len at_ n = true := by simp [fitsB, h0, h]
theorem fitsB_no {len : Nat} {at_ n : Int} (h : ¬ (0 ≤ at_ ∧ at_ ≤ (len : Int) - n)) : fitsB len at_ n = false := by
  cases hb : fitsB len at_ n
  · rfl
  · simp [fitsB] at hb; exact absurd hb h

set_option maxHeartbeats 400000 in
theorem fits_any (A : Option Addr) (len c : Nat) (at_ n : Int) (w : World) (hl : len ≤ maxLen) (hn0 : 0 ≤ n) (hn : n ≤ maxLen) :
    Calls Try.prog 41 #[.slice A len c, .int .i64 at_, .int .i64 n] w fun e w' => e = .returned (.bool (fitsB len at_ n)) ∧ w = w' := by
  unfold maxLen at hl hn
  by_cases h0 : 0 ≤ at_
  · by_cases h1 : at_ ≤ (len : Int) - n
    · rw [fitsB_yes h0 h1]
      go_enter Try.func41, Try.ntmps41
      go_wp2
      go_ret
      exact ⟨ret_bool (by simp), rfl⟩
    · rw [fitsB_no (fun h => h1 h.2)]
      go_enter Try.func41, Try.ntmps41
      go_wp2
      go_ret
      exact ⟨ret_bool (by simp), rfl⟩
  · rw [fitsB_no (fun h => h0 h.1)]
    go_enter Try.func41, Try.ntmps41
    go_wp2
    go_ret
    exact ⟨ret_bool (by simp), rfl⟩

/-- The bytes l with the bytes f at k. -/
def patch (l : List UInt8) (k : Nat) (f : List UInt8) : List UInt8 := l.take k ++ (f ++ l.drop (k + f.length))
theorem patch_cells (l : List UInt8) (k : Nat) (f : List UInt8) : splice (Lib.byteCells l) k (Lib.byteCells f) = Lib.byteCells (patch l k f) := by
  simp [splice, patch, Lib.byteCells]
theorem patch_length (l : List UInt8) (k : Nat) (f : List UInt8) (h : k + f.length ≤ l.length) : (patch l k f).length = l.length := by simp [patch]; omega

set_option maxHeartbeats 1000000 in
/-- word.put, where the field fits -/
theorem put_yes (A : Option Addr) (l : List UInt8) (c : Nat) (k : Nat) (C : Option Addr) (f : List UInt8) (d : Nat) (w : World) (ha : At w w.heap.size A (Lib.byteCells l)) (hf : At w w.heap.size C (Lib.byteCells f))
    (hk : k + f.length ≤ l.length) (hl : l.length ≤ 1000000) (hf0 : 0 < f.length) :
    Calls Try.prog 40 #[.slice A l.length c, .int .i64 (k : Int), .slice C f.length d] w fun e w' => ∃ A' c', e = .returned (.tuple #[.slice A' l.length c', .bool true]) ∧
      w'.ownsRow w.heap.size 5 1 (.slice A' l.length c') l.length (Lib.byteCells (patch l k f)) ∧ Below w.heap.size w w' := by
  have HA := Lib.hid ha
  have HF := Lib.hid hf
  clear ha hf
  go_enter Try.func40, Try.ntmps40
  go_wp2_with (first
    | (go_at_call 41; refine (fits_any _ _ _ _ _ _ (by unfold maxLen; omega) (by omega) (by unfold maxLen; omega)).mono ?_; rw [fitsB_yes (by omega) (by omega)]; rintro e w1 ⟨rfl, rfl⟩)
    | (at_builtin; refine wpList_append_at rfl _ _ _ rfl wElem w.heap.size _ 0 [] rfl (World.ownsRow_nil _ _ _ _) w.heap.size A l.length c (Lib.byteCells l) rfl HA.out (by rw [byteCells_len]; omega) (byteCells_one l) (by unfold maxLen; omega) (by omega) (Nat.le_refl _) ?_; intro A1 c1 w1 o1 g1; simp only [Nat.zero_add, List.nil_append] at o1; have hc1 := (own_cap o1).1; have hne : ¬ c1 = k := by omega
       obtain ⟨g, rfl, hg, hgl⟩ := own_head o1 (by omega)
       have b1 : Below w.heap.size w w1 := (Below.refl _ _).grown g1 (Nat.le_refl _) (own_ge (World.ownsRow_nil w w.heap.size 5 1))
       have O1 := Lib.hid o1
       clear o1 g1)
    | (refine wpList_copy_at rfl _ _ _ _ rfl wElem w.heap.size g l.length c1 _ O1.out _ (l.length - k) _ k rfl w.heap.size C f.length d _ rfl (HF.out.below b1) (byteCells_len f) (fun _ => rfl) (by omega) (byteCells_one f) ?_; intro w2 o2 g2))
  have b2 : Below w.heap.size w w2 := b1.grown g2 b1.size (by intro j hj; injection hj with hj; omega)
  rw [List.take_of_length_le (by rw [byteCells_len]; omega), patch_cells] at o2
  go_ret2
  exact ⟨_, _, rfl, o2, b2⟩

/-- The four bytes, and the two bytes, of a number. -/
def be4 (v : Nat) : List UInt8 := [UInt8.ofNat (v / 16777216), UInt8.ofNat (v / 65536), UInt8.ofNat (v / 256), UInt8.ofNat v]
def be2 (v : Nat) : List UInt8 := [UInt8.ofNat (v / 256), UInt8.ofNat v]
theorem be4_cells (v : Nat) (hv : v < 4294967296) : #[Value.int .u8 ((v : Int) / 16777216), Value.int .u8 ((v : Int) / 65536 % 256), Value.int .u8 ((v : Int) / 256 % 256), Value.int .u8 ((v : Int) % 256)] = (Lib.byteCells (be4 v)).toArray := by
  have h : (v : Int) / 16777216 = (v : Int) / 16777216 % 256 := by omega
  simp only [Lib.byteCells, be4, List.map_cons, List.map_nil, UInt8.toNat_ofNat']
  rw [h]
  rfl
theorem be2_cells (v : Nat) : #[Value.int .u8 ((v : Int) / 256 % 256), Value.int .u8 ((v : Int) % 256)] = (Lib.byteCells (be2 v)).toArray := by
  simp only [Lib.byteCells, be2, List.map_cons, List.map_nil, UInt8.toNat_ofNat']
  rfl

set_option maxHeartbeats 1000000 in
/-- word.PutFull, where it fits -/
theorem putFull_yes (A : Option Addr) (l : List UInt8) (c : Nat) (k : Nat) (v : Nat) (hv : v < 4294967296) (w : World) (ha : At w w.heap.size A (Lib.byteCells l)) (hl : l.length ≤ 1000000) (hk : k + 4 ≤ l.length) :
    Calls Try.prog 35 #[.slice A l.length c, .int .i64 (k : Int), .int .u32 (v : Int)] w fun e w' => ∃ A' c', e = .returned (.tuple #[.slice A' l.length c', .bool true]) ∧
      w'.ownsRow w.heap.size 5 1 (.slice A' l.length c') l.length (Lib.byteCells (patch l k (be4 v))) ∧ Below w.heap.size w w' := by
  have HA := Lib.hid ha
  have he := be4_cells v hv
  have HE := Lib.hid he
  clear ha he
  go_enter Try.func35, Try.ntmps35
  go_wp2_with fail
  rw [HE.out]
  refine (put_yes A l c k _ (be4 v) 4 _ ((HA.out.alloc (Nat.le_refl _) _).mono (by simp)) ((at_lit w (be4 v) 5).mono (by simp)) hk hl (by show 0 < 4; omega)).mono ?_
  rintro e w1 ⟨A', c', rfl, o1, b1⟩
  have O1 := Lib.hid (own_mono o1 (show w.heap.size ≤ _ by simp))
  have b2 : Below w.heap.size w w1 := ((Below.refl _ _).alloc (Nat.le_refl _) _).trans (b1.mono (by simp))
  clear o1 b1
  go_wp2
  go_ret2
  exact ⟨_, _, rfl, O1.out, b2⟩

set_option maxHeartbeats 1000000 in
/-- word.PutHalf, where it fits -/
theorem putHalf_yes (A : Option Addr) (l : List UInt8) (c : Nat) (k : Nat) (v : Nat) (_hv : v < 4294967296) (w : World) (ha : At w w.heap.size A (Lib.byteCells l)) (hl : l.length ≤ 1000000) (hk : k + 2 ≤ l.length) :
    Calls Try.prog 36 #[.slice A l.length c, .int .i64 (k : Int), .int .u32 (v : Int)] w fun e w' => ∃ A' c', e = .returned (.tuple #[.slice A' l.length c', .bool true]) ∧
      w'.ownsRow w.heap.size 5 1 (.slice A' l.length c') l.length (Lib.byteCells (patch l k (be2 v))) ∧ Below w.heap.size w w' := by
  have HA := Lib.hid ha
  have he := be2_cells v
  have HE := Lib.hid he
  clear ha he
  go_enter Try.func36, Try.ntmps36
  go_wp2_with fail
  rw [HE.out]
  refine (put_yes A l c k _ (be2 v) 2 _ ((HA.out.alloc (Nat.le_refl _) _).mono (by simp)) ((at_lit w (be2 v) 5).mono (by simp)) hk hl (by show 0 < 2; omega)).mono ?_
  rintro e w1 ⟨A', c', rfl, o1, b1⟩
  have O1 := Lib.hid (own_mono o1 (show w.heap.size ≤ _ by simp))
  have b2 : Below w.heap.size w w1 := ((Below.refl _ _).alloc (Nat.le_refl _) _).trans (b1.mono (by simp))
  clear o1 b1
  go_wp2
  go_ret2
  exact ⟨_, _, rfl, O1.out, b2⟩

/-- What Half returns of two bytes: the halfword with its sign spread. -/
def half32 (x y : UInt8) : Int := wrap32 (bits BinOp.or IntKind.i16 (IntKind.i16.wrap (IntKind.i16.wrap (x.toNat : Int) * 256)) (IntKind.i16.wrap (y.toNat : Int))) % 4294967296

set_option maxHeartbeats 1000000 in
/-- word.Half, where it fits -/
theorem half_yes (A : Option Addr) (l : List UInt8) (c : Nat) (k : Nat) (w : World) (ha : At w w.heap.size A (Lib.byteCells l)) (hl : l.length ≤ 1000000000) (hk : k + 1 < l.length) :
    Calls Try.prog 39 #[.slice A l.length c, .int .i64 (k : Int)] w fun e w' => e = .returned (.tuple #[.int .u32 (half32 l[k] l[k + 1]), .bool true]) ∧ Still w w' := by
  have h1 : k < l.length := by omega
  obtain ⟨b, off, rfl, _, hc⟩ := ha (by intro h; have := congrArg List.length h; simp [Lib.byteCells] at this; subst this; simp at h1)
  have c0 := hc k _ (byteCells_get l k h1)
  have c1 := hc (k + 1) _ (byteCells_get l (k + 1) hk)
  clear hc
  go_enter Try.func39, Try.ntmps39
  go_wp2_with (go_at_call 41; refine (fits_any _ _ _ _ _ _ (by unfold maxLen; omega) (by omega) (by unfold maxLen; omega)).mono ?_; rw [fitsB_yes (by omega) (by omega)]; rintro e w1 ⟨rfl, rfl⟩)
  go_quiet (fail)
  go_wp2
  go_ret2
  exact ⟨rfl, by first | exact still_1 _ _ | exact still_2 _ _ _⟩

theorem full_bits (x y z t : UInt8) : bits BinOp.or IntKind.u32 (bits BinOp.or IntKind.u32 (bits BinOp.or IntKind.u32 ((x.toNat : Int) % 4294967296 * 16777216 % 4294967296) ((y.toNat : Int) % 4294967296 * 65536 % 4294967296))
    ((z.toNat : Int) % 4294967296 * 256 % 4294967296)) ((t.toNat : Int) % 4294967296) = ((x.toNat * 16777216 + y.toNat * 65536 + z.toNat * 256 + t.toNat : Nat) : Int) := by
  have hx := x.toNat_lt
  have hy := y.toNat_lt
  have hz := z.toNat_lt
  have ht := t.toNat_lt
  rw [show (x.toNat : Int) % 4294967296 * 16777216 % 4294967296 = ((x.toNat * 16777216 : Nat) : Int) by omega, show (y.toNat : Int) % 4294967296 * 65536 % 4294967296 = ((y.toNat * 65536 : Nat) : Int) by omega,
    show (z.toNat : Int) % 4294967296 * 256 % 4294967296 = ((z.toNat * 256 : Nat) : Int) by omega, show (t.toNat : Int) % 4294967296 = ((t.toNat : Nat) : Int) by omega]
  rw [u32_or_nat _ _ (by omega) (by omega), nat_join 24 _ _ (by omega) (by omega), u32_or_nat _ _ (by omega) (by omega), nat_join 16 _ _ (by omega) (by omega), u32_or_nat _ _ (by omega) (by omega), nat_join 8 _ _ (by omega) (by omega)]
theorem i16_wrap (n : Int) : IntKind.i16.wrap n = (n + 32768) % 65536 - 32768 := by
  simp only [IntKind.wrap, IntKind.signed, IntKind.bits]
  simp
  split <;> omega
theorem half32_eq (x y : UInt8) : half32 x y = if x.toNat < 128 then ((x.toNat * 256 + y.toNat : Nat) : Int) else ((x.toNat * 256 + y.toNat : Nat) : Int) + 4294901760 := by
  have hx := x.toNat_lt
  have hy := y.toNat_lt
  unfold half32
  have h1 : (BitVec.ofInt 16 (IntKind.i16.wrap (IntKind.i16.wrap (x.toNat : Int) * 256))).toNat = x.toNat * 256 := by
    rw [BitVec.toNat_ofInt, i16_wrap, i16_wrap]
    omega
  have h2 : (BitVec.ofInt 16 (IntKind.i16.wrap (y.toNat : Int))).toNat = y.toNat := by
    rw [BitVec.toNat_ofInt, i16_wrap]
    omega
  have h3 : bits BinOp.or IntKind.i16 (IntKind.i16.wrap (IntKind.i16.wrap (x.toNat : Int) * 256)) (IntKind.i16.wrap (y.toNat : Int)) = IntKind.i16.wrap ((x.toNat * 256 + y.toNat : Nat) : Int) := by
    show IntKind.i16.wrap (((BitVec.ofInt 16 _ ||| BitVec.ofInt 16 _).toNat : Nat) : Int) = _
    rw [BitVec.toNat_or, h1, h2, nat_join 8 _ _ (by omega) (by omega)]
  rw [h3, i16_wrap]
  unfold wrap32
  split <;> omega
/-- The low half of what Half returns. -/
theorem half_low (x y : UInt8) : bits .and .u32 (half32 x y) 65535 = ((x.toNat * 256 + y.toNat : Nat) : Int) ∧ 0 ≤ half32 x y ∧ half32 x y < 4294967296 := by
  have hx := x.toNat_lt
  have hy := y.toNat_lt
  have key : ∀ n : Nat, n < 4294967296 → bits .and .u32 (n : Int) 65535 = ((n % 65536 : Nat) : Int) := fun n hn => by
    rw [show (65535 : Int) = ((65535 : Nat) : Int) from rfl, u32_and_nat n 65535 hn (by omega)]
    congr 1
    exact Nat.and_two_pow_sub_one_eq_mod n 16
  rw [half32_eq]
  split
  · exact ⟨by rw [key _ (by omega)]; omega, by omega, by omega⟩
  · rw [show ((x.toNat * 256 + y.toNat : Nat) : Int) + 4294901760 = ((x.toNat * 256 + y.toNat + 4294901760 : Nat) : Int) by omega]
    exact ⟨by rw [key _ (by omega)]; omega, by omega, by omega⟩

set_option maxHeartbeats 1000000 in
/-- word.Full, where it fits -/
theorem full_yes (A : Option Addr) (l : List UInt8) (c : Nat) (k : Nat) (w : World) (ha : At w w.heap.size A (Lib.byteCells l)) (hl : l.length ≤ 1000000000) (hk : k + 3 < l.length) :
    Calls Try.prog 38 #[.slice A l.length c, .int .i64 (k : Int)] w fun e w' => e = .returned (.tuple #[.int .u32 (l[k].toNat * 16777216 + l[k + 1].toNat * 65536 + l[k + 2].toNat * 256 + l[k + 3].toNat : Nat), .bool true]) ∧ Still w w' := by
  have h1 : k < l.length := by omega
  have h2 : k + 1 < l.length := by omega
  have h3 : k + 2 < l.length := by omega
  obtain ⟨b, off, rfl, _, hc⟩ := ha (by intro h; have := congrArg List.length h; simp [Lib.byteCells] at this; subst this; simp at h1)
  have c0 := hc k _ (byteCells_get l k h1)
  have c1 := hc (k + 1) _ (byteCells_get l (k + 1) h2)
  have c2 := hc (k + 2) _ (byteCells_get l (k + 2) h3)
  have c3 := hc (k + 3) _ (byteCells_get l (k + 3) hk)
  clear hc
  go_enter Try.func38, Try.ntmps38
  go_wp2_with (go_at_call 41; refine (fits_any _ _ _ _ _ _ (by unfold maxLen; omega) (by omega) (by unfold maxLen; omega)).mono ?_; rw [fitsB_yes (by omega) (by omega)]; rintro e w1 ⟨rfl, rfl⟩)
  go_quiet (fail)
  go_wp2
  go_ret2
  refine ⟨?_, by first | exact still_1 _ _ | exact still_2 _ _ _⟩
  exact congrArg (fun x => Ending.returned (.tuple #[.int .u32 x, .bool true])) (full_bits _ _ _ _)

end Go.Proofs.Ytheiickihjcdlaa
