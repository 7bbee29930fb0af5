import Derived.Test.YtgklbilkfmieoaaCode
import Derived.Test.YtgklbilkfmieoaaBuilder
namespace Go.Proofs.Ytgklbilkfmieoaa
open Go.RowKit Job.Ebcdic

theorem decs_take_succ (l : List UInt8) (k : Nat) (h : k < l.length) : decs (l.take k) ++ [dec l[k]] = decs (l.take (k + 1)) := by
  rw [List.take_succ_eq_append_getElem h]; simp only [decs, List.map_append, List.map_cons, List.map_nil]
theorem dec_yes (b : UInt8) (h : hasChar b = true) : dec b = char b := by unfold dec; rw [if_pos h]
theorem dec_no (b : UInt8) (h : hasChar b = false) : dec b = 46 := by unfold dec; rw [h]; rfl

set_option maxHeartbeats 1000000 in
/-- ebcdic.Decode -/
theorem decode_any (A : Option Addr) (l : List UInt8) (c : Nat) (w : World) (ha : At w w.heap.size A (Lib.byteCells l)) (hl : l.length ≤ 140737488351232) :
    Calls Try.prog 66 #[.slice A l.length c] w fun e w' => e = .returned (.string ⟨(decs l).toArray⟩) ∧ Below w.heap.size w w' := by
  go_enter Try.func66, Try.ntmps66
  go_wp2
  go_loopw [10] (fun i wr => ∃ k : Nat, k ≤ l.length ∧ i = .int .i64 k ∧ Lib.IsBuilder 97 5 w.heap.size w.heap.size (Lib.byteCells (decs (l.take k))) wr ∧ Below w.heap.size w wr) (fun i _ => l.length - (intOf i).toNat)
  case atStart => exact ⟨0, Nat.zero_le _, rfl, by simpa [decs, Lib.byteCells] using Lib.fresh_isBuilder 97 5 w, (Below.refl _ _).alloc (Nat.le_refl _) _⟩
  case round =>
    obtain ⟨k, hk, rfl, hB, hb⟩ := hrel
    have HB := Lib.hid hB
    clear hB
    by_cases hlt : k < l.length
    · obtain ⟨b, off, rfl, _, hca⟩ := (ha.below hb).cell (byteCells_get l k hlt)
      have hdl : (decs (l.take k)).length ≤ l.length := by simp [decs]; omega
      cases hc : hasChar (l[k])
      · have HD := Lib.hid (dec_no _ hc)
        have HC := Lib.hid hc
        clear hc
        go_wp2_with (first
          | (go_at_call 68; refine (char_any l[k] _).mono ?_; rw [HC.out]; rintro e w1 ⟨rfl, rfl⟩)
          | (go_at_call 69; refine (writeByte_any w.heap.size w.heap.size _ 46 _ HB.out (by omega) hb.size).mono ?_; rintro e w1 ⟨rfl, hB1, hb1⟩))
        go_roundw
        case rel =>
          refine ⟨k + 1, by omega, by go_num, ?_, hb.trans hb1⟩
          rw [← decs_take_succ _ k hlt, HD.out]; exact hB1
        case measure => simp [intOf]; omega
      · have HD := Lib.hid (dec_yes _ hc)
        have HC := Lib.hid hc
        clear hc
        go_wp2_with (first
          | (go_at_call 68; refine (char_any l[k] _).mono ?_; rw [HC.out]; rintro e w1 ⟨rfl, rfl⟩)
          | (go_at_call 69; refine (writeByte_any w.heap.size w.heap.size _ (char l[k]) _ HB.out (by omega) hb.size).mono ?_; rintro e w1 ⟨rfl, hB1, hb1⟩))
        go_roundw
        case rel =>
          refine ⟨k + 1, by omega, by go_num, ?_, hb.trans hb1⟩
          rw [← decs_take_succ _ k hlt, HD.out]; exact hB1
        case measure => simp [intOf]; omega
    · obtain rfl : k = l.length := by omega
      have ht : l.take l.length = l := List.take_of_length_le (Nat.le_refl _)
      have HT := Lib.hid ht
      clear ht
      go_wp2_with (go_at_call 70; refine (Try.Builder_String_any w.heap.size w.heap.size _ _ HB.out hb.size).mono ?_; rw [HT.out]; rintro e w1 ⟨rfl, hb1⟩)
      go_ret
      exact ⟨rfl, hb.trans hb1⟩

set_option maxHeartbeats 1000000 in
/-- jobshopref02.Decode -/
theorem rdecode_any (A : Option Addr) (l : List UInt8) (c : Nat) (w : World) (ha : At w w.heap.size A (Lib.byteCells l)) (hl : l.length ≤ 140737488351232) :
    Calls Try.prog 67 #[.slice A l.length c] w fun e w' => e = .returned (.string ⟨(decs l).toArray⟩) ∧ Below w.heap.size w w' := by
  go_enter Try.func67, Try.ntmps67
  go_wp2
  go_loopw [3, 4] (fun v i wr => ∃ k : Nat, k ≤ l.length ∧ i = .int .i64 k ∧ (∃ A c, v = .slice A k c) ∧ wr.ownsRow w.heap.size 5 1 v k (Lib.byteCells (decs (l.take k))) ∧ Below w.heap.size w wr) (fun _ i _ => l.length - (intOf i).toNat)
  case atStart => exact ⟨0, Nat.zero_le _, rfl, ⟨none, 0, rfl⟩, World.ownsRow_nil _ _ _ _, Below.refl _ _⟩
  case round =>
    obtain ⟨k, hk, rfl, ⟨A2, c2, rfl⟩, hown, hb⟩ := hrel
    have HO := Lib.hid hown
    clear hown
    by_cases hlt : k < l.length
    · obtain ⟨b, off, rfl, _, hca⟩ := (ha.below hb).cell (byteCells_get l k hlt)
      cases hc : hasChar (l[k])
      · have HD := Lib.hid (dec_no _ hc)
        have HC := Lib.hid hc
        clear hc
        go_wp2_with (first
          | (go_at_call 71; refine (rchar_any l[k] _).mono ?_; rw [HC.out]; rintro e w1 ⟨rfl, hb1⟩)
          | (at_builtin; refine wpList_push rfl _ _ _ rfl bElem w1 [.int .u8 46] rfl rfl (by simp [Value.oneCell']) w.heap.size _ k _ rfl rfl (own_below HO.out hb1) (by unfold maxLen; omega) (by omega) (Nat.le_trans hb.size hb1.size) ?_; intro A3 c3 w2 hown2 hg2))
        have hb2 : Below w.heap.size w w2 := (hb.trans (hb1.mono hb.size)).grown hg2 (Nat.le_trans hb.size hb1.size) (own_ge HO.out)
        go_roundw
        case rel =>
          refine ⟨k + 1, by omega, by go_num, ⟨_, _, rfl⟩, ?_, hb2⟩
          rw [← decs_take_succ _ k hlt, HD.out]; simpa [Lib.byteCells] using hown2
        case measure => simp [intOf]; omega
      · have HD := Lib.hid (dec_yes _ hc)
        have HC := Lib.hid hc
        clear hc
        go_wp2_with (first
          | (go_at_call 71; refine (rchar_any l[k] _).mono ?_; rw [HC.out]; rintro e w1 ⟨rfl, hb1⟩)
          | (at_builtin; refine wpList_push rfl _ _ _ rfl bElem w1 [.int .u8 ((char l[k]).toNat : Int)] rfl rfl (by simp [Value.oneCell']) w.heap.size _ k _ rfl rfl (own_below HO.out hb1) (by unfold maxLen; omega) (by omega) (Nat.le_trans hb.size hb1.size) ?_; intro A3 c3 w2 hown2 hg2))
        have hb2 : Below w.heap.size w w2 := (hb.trans (hb1.mono hb.size)).grown hg2 (Nat.le_trans hb.size hb1.size) (own_ge HO.out)
        go_roundw
        case rel =>
          refine ⟨k + 1, by omega, by go_num, ⟨_, _, rfl⟩, ?_, hb2⟩
          rw [← decs_take_succ _ k hlt, HD.out]; simpa [Lib.byteCells] using hown2
        case measure => simp [intOf]; omega
    · obtain rfl : k = l.length := by omega
      have ho := HO.out
      rw [List.take_of_length_le (Nat.le_refl _)] at ho
      have hconv := run_string_of_at (P := Try.prog) (w := wr) 31 9 5 Try.underlying31 Try.underlying5 Try.underlying9 (decs l) c2 (own_at ho)
      rw [show (decs l).length = l.length from by simp [decs]] at hconv
      clear ho
      go_wp2
      go_ret
      exact ⟨rfl, hb⟩

theorem strip_snoc (x : UInt8) (l : List UInt8) (y : UInt8) : strip x (l ++ [y]) = if y == x then strip x l else l ++ [y] := by
  unfold strip
  rw [List.reverse_append]
  simp only [List.reverse_cons, List.reverse_nil, List.nil_append, List.singleton_append, List.dropWhile_cons]
  split <;> simp
theorem strip_take (x : UInt8) (l : List UInt8) (k : Nat) (h : k < l.length) : strip x (l.take (k + 1)) = if l[k] == x then strip x (l.take k) else l.take (k + 1) := by
  rw [List.take_succ_eq_append_getElem h, strip_snoc]

set_option maxHeartbeats 1000000 in
/-- ebcdic.Trim -/
theorem trim_any (A : Option Addr) (l : List UInt8) (c : Nat) (w : World) (ha : At w w.heap.size A (Lib.byteCells l)) (hl : l.length ≤ 140737488351232) (hlc : l.length ≤ c) :
    Calls Try.prog 58 #[.slice A l.length c] w fun e w' => e = .returned (.string ⟨(trim l).toArray⟩) ∧ Below w.heap.size w w' := by
  go_enter Try.func58, Try.ntmps58
  go_wp2
  go_loop [3] (fun i => ∃ k : Nat, k ≤ l.length ∧ i = .int .i64 k ∧ strip 64 (l.take k) = strip 64 l) (fun i => (intOf i).toNat)
  case atStart => exact ⟨l.length, Nat.le_refl _, rfl, by rw [List.take_of_length_le (Nat.le_refl _)]⟩
  case round =>
    obtain ⟨k, hk, rfl, hs⟩ := hrel
    have HS := Lib.hid hs
    clear hs
    have hlt : (l.take k).length = k := by simp; omega
    have HLT := Lib.hid hlt
    clear hlt
    have hcall : ∀ h : strip 64 (l.take k) = l.take k, Calls Try.prog 66 #[.slice A k c] w fun e w' => e = .returned (.string ⟨(trim l).toArray⟩) ∧ Below w.heap.size w w' := by
      intro h
      have h1 := decode_any A (l.take k) c w (by have := ha.take k; rwa [show (Lib.byteCells l).take k = Lib.byteCells (l.take k) from by simp [Lib.byteCells]] at this) (by rw [HLT.out]; omega)
      rw [HLT.out] at h1
      unfold trim
      rw [← HS.out, h]
      exact h1
    have HCALL := Lib.hid hcall
    clear hcall
    by_cases h0 : k = 0
    · subst h0
      go_wp2_with (go_at_call 66; refine (HCALL.out rfl).mono ?_; rintro e w1 ⟨rfl, hb1⟩)
      go_ret
      exact ⟨rfl, hb1⟩
    · obtain ⟨j, rfl⟩ : ∃ j, k = j + 1 := ⟨k - 1, by omega⟩
      have hjl : j < l.length := by omega
      obtain ⟨b, off, rfl, _, hca⟩ := ha.cell (byteCells_get l j hjl)
      have hst := strip_take 64 l j hjl
      by_cases he : l[j] = 64
      · have hb : ((l[j].toNat : Int) == 64) = true := by rw [he]; rfl
        have hst' : strip 64 (l.take (j + 1)) = strip 64 (l.take j) := by rw [hst, if_pos (by rw [he]; rfl)]
        have HST := Lib.hid hst'
        clear hst hst' he
        go_wp2
        go_round
        case rel => exact ⟨j, by omega, by go_num, by rw [← HST.out]; exact HS.out⟩
        case measure => simp [intOf] <;> omega
      · have hb : ((l[j].toNat : Int) == 64) = false := byte_beq_no (y := 64) he
        have hst' : strip 64 (l.take (j + 1)) = l.take (j + 1) := by rw [hst, if_neg (by simpa using he)]
        have HST := Lib.hid hst'
        clear hst hst' he
        go_wp2_with (go_at_call 66; refine (HCALL.out HST.out).mono ?_; rintro e w1 ⟨rfl, hb1⟩)
        go_ret
        exact ⟨rfl, hb1⟩

set_option maxHeartbeats 1000000 in
/-- jobshopref02.Trim -/
theorem rtrim_any (A : Option Addr) (l : List UInt8) (c : Nat) (w : World) (ha : At w w.heap.size A (Lib.byteCells l)) (hl : l.length ≤ 140737488351232) (hlc : l.length ≤ c) :
    Calls Try.prog 64 #[.slice A l.length c] w fun e w' => e = .returned (.string ⟨(trim l).toArray⟩) ∧ Below w.heap.size w w' := by
  go_enter Try.func64, Try.ntmps64
  go_wp2
  go_loop [3] (fun i => ∃ k : Nat, k ≤ l.length ∧ i = .int .i64 k ∧ strip 64 (l.take k) = strip 64 l) (fun i => (intOf i).toNat)
  case atStart => exact ⟨l.length, Nat.le_refl _, rfl, by rw [List.take_of_length_le (Nat.le_refl _)]⟩
  case round =>
    obtain ⟨k, hk, rfl, hs⟩ := hrel
    have HS := Lib.hid hs
    clear hs
    have hlt : (l.take k).length = k := by simp; omega
    have HLT := Lib.hid hlt
    clear hlt
    have hcall : ∀ h : strip 64 (l.take k) = l.take k, Calls Try.prog 67 #[.slice A k c] w fun e w' => e = .returned (.string ⟨(trim l).toArray⟩) ∧ Below w.heap.size w w' := by
      intro h
      have h1 := rdecode_any A (l.take k) c w (by have := ha.take k; rwa [show (Lib.byteCells l).take k = Lib.byteCells (l.take k) from by simp [Lib.byteCells]] at this) (by rw [HLT.out]; omega)
      rw [HLT.out] at h1
      unfold trim
      rw [← HS.out, h]
      exact h1
    have HCALL := Lib.hid hcall
    clear hcall
    by_cases h0 : k = 0
    · subst h0
      go_wp2_with (go_at_call 67; refine (HCALL.out rfl).mono ?_; rintro e w1 ⟨rfl, hb1⟩)
      go_ret
      exact ⟨rfl, hb1⟩
    · obtain ⟨j, rfl⟩ : ∃ j, k = j + 1 := ⟨k - 1, by omega⟩
      have hjl : j < l.length := by omega
      obtain ⟨b, off, rfl, _, hca⟩ := ha.cell (byteCells_get l j hjl)
      have hst := strip_take 64 l j hjl
      by_cases he : l[j] = 64
      · have hb : ((l[j].toNat : Int) == 64) = true := by rw [he]; rfl
        have hst' : strip 64 (l.take (j + 1)) = strip 64 (l.take j) := by rw [hst, if_pos (by rw [he]; rfl)]
        have HST := Lib.hid hst'
        clear hst hst' he
        go_wp2
        go_round
        case rel => exact ⟨j, by omega, by go_num, by rw [← HST.out]; exact HS.out⟩
        case measure => simp [intOf] <;> omega
      · have hb : ((l[j].toNat : Int) == 64) = false := byte_beq_no (y := 64) he
        have hst' : strip 64 (l.take (j + 1)) = l.take (j + 1) := by rw [hst, if_neg (by simpa using he)]
        have HST := Lib.hid hst'
        clear hst hst' he
        go_wp2_with (go_at_call 67; refine (HCALL.out HST.out).mono ?_; rintro e w1 ⟨rfl, hb1⟩)
        go_ret
        exact ⟨rfl, hb1⟩

end Go.Proofs.Ytgklbilkfmieoaa
