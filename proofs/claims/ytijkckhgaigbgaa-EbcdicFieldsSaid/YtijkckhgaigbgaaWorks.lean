import Derived.Test.YtijkckhgaigbgaaSame
import Derived.Test.YtijkckhgaigbgaaRefEnc
import Derived.Test.YtijkckhgaigbgaaDec
namespace Go.Proofs.Ytijkckhgaigbgaa
open Go.RowKit Job.Ebcdic

theorem at_lit (w : World) (l : List UInt8) (e : TypeId) : At (w.alloc (.cells (Lib.byteCells l).toArray e)) (w.heap.size + 1) (some ⟨w.heap.size, 0, none⟩) (Lib.byteCells l) := fun _ => by
  refine ⟨w.heap.size, 0, rfl, by omega, fun j u hu => ?_⟩
  rw [Nat.zero_add, cell_of_row _ _ _ _ e (0, 0) (heap_alloc_new w _)]
  simpa using hu

/-- Encode of a constant. -/
theorem encode_lit (s : ByteArray) (l out : List UInt8) (n : Nat) (hl : s.data.toList = l) (hf : fine l = true) (ho : enc l = out) (hn : out.length = n) (hs : n ≤ 100000) (w : World) :
    Calls Try.prog 16 #[.string s] w fun e w' => ∃ A c, e = .returned (.tuple #[.slice A n c, .int .i64 0]) ∧ At w' w'.heap.size A (Lib.byteCells out) ∧ Below w.heap.size w w' := by
  have hsz : s.size = n := by
    have : s.data.toList.length = s.size := by simp
    rw [← this, hl, ← hn, ← ho]; simp [enc]
  refine (encode_any s w (by omega)).mono fun e w' h => ?_
  rw [hl, hf, ho] at h
  obtain ⟨A, c, he, _, hown, hb⟩ := h.yes
  rw [hn] at he
  exact ⟨A, c, he, own_at hown, hb⟩
theorem encode_lit_no (s : ByteArray) (l : List UInt8) (hl : s.data.toList = l) (hf : fine l = false) (hs : s.size ≤ 100000) (w : World) :
    Calls Try.prog 16 #[.string s] w fun e w' => e = .returned (.tuple #[.slice none 0 0, .int .i64 20]) ∧ Below w.heap.size w w' := by
  refine (encode_any s w (by omega)).mono fun e w' h => ?_
  rw [hl, hf] at h
  exact h.no
theorem pad_lit (s : ByteArray) (k : Int) (l out : List UInt8) (n : Nat) (hl : s.data.toList = l) (hf : padErr l k = 0) (ho : target l k.toNat = out) (hn : out.length = n) (hs : s.size ≤ 100000) (w : World) :
    Calls Try.prog 23 #[.string s, .int .i64 k] w fun e w' => ∃ A c, e = .returned (.tuple #[.slice A n c, .int .i64 0]) ∧ At w' w'.heap.size A (Lib.byteCells out) ∧ Below w.heap.size w w' := by
  refine (pad_any s k w (by omega)).mono fun e w' h => ?_
  rw [hl, hf, ho] at h
  obtain ⟨A, c, he, _, hown, hb⟩ := BytesRet.yes (out := out) (err := 0) h
  rw [hn] at he
  exact ⟨A, c, he, own_at hown, hb⟩
theorem same_yes (A C : Option Addr) (l : List UInt8) (n c d : Nat) (w : World) (B : Nat) (hn : l.length = n) (ha : At w B A (Lib.byteCells l)) (hc : At w B C (Lib.byteCells l)) (hl : n ≤ maxLen) :
    Calls Try.prog 18 #[.slice A n c, .slice C n d] w fun e w' => e = .returned (.bool true) ∧ Below w.heap.size w w' := by
  subst hn
  refine (same_any A C l l c d w B ha hc hl hl).mono fun e w' ⟨he, h⟩ => ⟨?_, h.below _⟩
  rw [he]; simp
theorem decode_lit (A : Option Addr) (l : List UInt8) (n c : Nat) (out : ByteArray) (w : World) (ha : At w w.heap.size A (Lib.byteCells l)) (hn : l.length = n) (ho : (⟨(decs l).toArray⟩ : ByteArray) = out) (hs : n ≤ 100000) :
    Calls Try.prog 19 #[.slice A n c] w fun e w' => e = .returned (.string out) ∧ Below w.heap.size w w' := by
  subst hn; subst ho
  exact decode_any A l c w ha (by omega)
theorem trim_lit (A : Option Addr) (l : List UInt8) (n c : Nat) (out : ByteArray) (w : World) (ha : At w w.heap.size A (Lib.byteCells l)) (hn : l.length = n) (ho : (⟨(trim l).toArray⟩ : ByteArray) = out) (hs : n ≤ 100000) (hc : n ≤ c) :
    Calls Try.prog 20 #[.slice A n c] w fun e w' => e = .returned (.string out) ∧ Below w.heap.size w w' := by
  subst hn; subst ho
  exact trim_any A l c w ha (by omega) hc

set_option maxHeartbeats 4000000 in
theorem works_any (w : World) : Calls Try.prog 15 #[] w fun e w' => e = .returned (.bool true) ∧ Below w.heap.size w w' := by
  go_enter Try.func15, Try.ntmps15
  go_wp2_with fail
  refine (encode_lit _ [72, 69, 76, 76, 79, 44, 32, 55] [200, 197, 211, 211, 214, 107, 64, 247] 8 rfl (by decide +kernel) (by decide +kernel) rfl (by omega) _).mono ?_
  rintro e w1 ⟨A1, c1, rfl, h1, b1⟩
  have H1 := Lib.hid h1
  clear h1
  go_wp2_with fail
  refine (encode_lit_no _ [10] rfl (by decide +kernel) (by decide) _).mono ?_
  rintro e w2 ⟨rfl, b2⟩
  go_wp2_with fail
  refine (pad_lit _ 3 [65] [193, 64, 64] 3 rfl (by decide +kernel) (by decide +kernel) rfl (by decide) _).mono ?_
  rintro e w3 ⟨A3, c3, rfl, h3, b3⟩
  have H3 := Lib.hid h3
  clear h3
  go_wp2_with fail
  refine (same_yes A1 _ [200, 197, 211, 211, 214, 107, 64, 247] 8 c1 8 _ (w3.heap.size + 1) rfl ?_ (at_lit w3 [200, 197, 211, 211, 214, 107, 64, 247] 5) (by decide)).mono ?_
  · exact (((H1.out.below b2).below (b3.mono b2.size)).alloc (Nat.le_trans b2.size b3.size) _).mono (by have := b2.size; have := b3.size; omega)
  rintro e w4 ⟨rfl, b4⟩
  have q4 : Below w3.heap.size w3 w4 := (((Below.refl _ _).alloc (Nat.le_refl _) _).trans (b4.mono (by simp)))
  clear b4
  go_wp2_with fail
  refine (same_yes A3 _ [193, 64, 64] 3 c3 3 _ (w4.heap.size + 1) rfl ?_ (at_lit w4 [193, 64, 64] 5) (by decide)).mono ?_
  · exact ((H3.out.below q4).alloc q4.size _).mono (by have := q4.size; omega)
  rintro e w5 ⟨rfl, b5⟩
  have q5 : Below w4.heap.size w4 w5 := (((Below.refl _ _).alloc (Nat.le_refl _) _).trans (b5.mono (by simp)))
  clear b5
  go_wp2_with fail
  refine (decode_lit _ [64, 75, 255] 3 3 ⟨#[32, 46, 46]⟩ _ ((at_lit w5 [64, 75, 255] 5).mono (by simp)) rfl (by decide +kernel) (by decide)).mono ?_
  rintro e w6 ⟨rfl, b6⟩
  have q6 : Below w5.heap.size w5 w6 := (((Below.refl _ _).alloc (Nat.le_refl _) _).trans (b6.mono (by simp)))
  clear b6
  go_wp2_with fail
  refine (trim_lit _ [64, 193, 64, 64] 4 4 ⟨#[32, 65]⟩ _ ((at_lit w6 [64, 193, 64, 64] 5).mono (by simp)) rfl (by decide +kernel) (by decide) (by decide)).mono ?_
  rintro e w7 ⟨rfl, b7⟩
  have q7 : Below w6.heap.size w6 w7 := (((Below.refl _ _).alloc (Nat.le_refl _) _).trans (b7.mono (by simp)))
  clear b7
  go_wp2
  go_ret
  have s1 := b1.size; have s2 := b2.size; have s3 := b3.size; have s4 := q4.size; have s5 := q5.size; have s6 := q6.size
  exact ⟨rfl, ((((((b1.trans (b2.mono (by omega))).trans (b3.mono (by omega))).trans (q4.mono (by omega))).trans (q5.mono (by omega))).trans (q6.mono (by omega))).trans (q7.mono (by omega)))⟩

end Go.Proofs.Ytijkckhgaigbgaa
