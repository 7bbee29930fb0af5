import Derived.Test.YtijkckhgaigbgaaEnc
namespace Go.Proofs.Ytijkckhgaigbgaa
open Go.RowKit Job.Ebcdic

theorem enc_take_succ (l : List UInt8) (k : Nat) (h : k < l.length) : Lib.byteCells (enc (l.take k)) ++ [Value.int .u8 ((code l[k]).toNat : Int)] = Lib.byteCells (enc (l.take (k + 1))) := by
  rw [List.take_succ_eq_append_getElem h]; simp only [Lib.byteCells, enc, List.map_append, List.map_cons, List.map_nil]

set_option maxHeartbeats 1000000 in
/-- jobshopref02.Encode -/
theorem rencode_any (s : ByteArray) (w : World) (hs : s.size ≤ 140737488351232) :
    Calls Try.prog 17 #[.string s] w (BytesRet (fine s.data.toList) (enc s.data.toList) 20 w) := by
  go_enter Try.func17, Try.ntmps17
  go_wp2
  go_loopw [4, 5] (fun v i wr => ∃ k : Nat, k ≤ s.size ∧ i = .int .i64 k ∧ fine (s.data.toList.take k) = true ∧ (∃ A c, v = .slice A k c) ∧ wr.ownsRow w.heap.size 5 1 v k (Lib.byteCells (enc (s.data.toList.take k))) ∧ Below w.heap.size w wr) (fun _ i _ => s.size - (intOf i).toNat)
  case atStart => exact ⟨0, Nat.zero_le _, rfl, by simp [fine], ⟨none, 0, rfl⟩, World.ownsRow_nil _ _ _ _, Below.refl _ _⟩
  case round =>
    obtain ⟨k, hk, rfl, hfine, ⟨A, c, rfl⟩, hown, hb⟩ := hrel
    have HF := Lib.hid hfine
    clear hfine
    by_cases hlt : k < s.size
    · have hkl : k < s.data.toList.length := by simpa using hlt
      cases hc : hasCode (s.data.toList[k])
      · have HC := Lib.hid hc
        clear hc
        go_wp2_with (go_at_call 12; refine (rcode_any (s.data.toList[k]) _).mono ?_; rw [HC.out]; rintro e w1 ⟨rfl, hb1⟩)
        go_ret2
        exact ⟨hb.trans (hb1.mono hb.size), .inr ⟨by have := fine_bad _ k s.size hkl hlt HC.out; rwa [List.take_of_length_le (by simp)] at this, rfl⟩⟩
      · have HC := Lib.hid hc
        clear hc
        have HO := Lib.hid hown
        clear hown
        go_wp2_with (first
          | (go_at_call 12; refine (rcode_any (s.data.toList[k]) _).mono ?_; rw [HC.out]; rintro e w1 ⟨rfl, hb1⟩)
          | (at_builtin; refine wpList_push rfl _ _ _ rfl byteElem w1 [.int .u8 ((code s.data.toList[k]).toNat : Int)] rfl rfl (by simp [Value.oneCell']) w.heap.size _ k _ rfl rfl (own_below HO.out hb1) (by unfold maxLen; omega) (by omega) (Nat.le_trans hb.size hb1.size) ?_; intro A2 c2 w2 hown2 hg2))
        have hb2 : Below w.heap.size w w2 := (hb.trans (hb1.mono hb.size)).grown hg2 (Nat.le_trans hb.size hb1.size) (own_ge HO.out)
        go_roundw
        case rel =>
          refine ⟨k + 1, by omega, by go_num, fine_succ _ k hkl HF.out HC.out, ⟨_, _, rfl⟩, ?_, hb2⟩
          rw [← enc_take_succ _ k hkl]; exact hown2
        case measure => simp [intOf]; omega
    · obtain rfl : k = s.size := by omega
      have HO := Lib.hid hown
      clear hown
      have he : s.data.toList.take s.size = s.data.toList := List.take_of_length_le (by simp)
      have HE := Lib.hid he
      clear he
      go_wp2
      go_ret2
      have ho := HO.out
      have hf := HF.out
      rw [HE.out] at ho hf
      exact BytesRet.own hf hb (by simp [enc]) rfl ho

/-- The error of padding, 0 where there is none. -/
def padErr (l : List UInt8) (n : Int) : Int := if n < 0 ∨ 65536 < n then 1 else if n < (l.length : Int) then 2 else if fine l then 0 else 20

set_option maxHeartbeats 1000000 in
/-- ebcdic.Pad -/
theorem pad_any (s : ByteArray) (n : Int) (w : World) (hs : s.size ≤ 140737488351232) :
    Calls Try.prog 23 #[.string s, .int .i64 n] w (BytesRet (padErr s.data.toList n == 0) (target s.data.toList n.toNat) (padErr s.data.toList n) w) := by
  have hl : s.data.toList.length = s.size := by simp
  by_cases h1 : n < 0
  · have hp : padErr s.data.toList n = 1 := by simp [padErr, h1]
    rw [hp]
    clear hp hl
    go_enter Try.func23, Try.ntmps23
    go_wp2
    go_ret2
    exact BytesRet.err rfl (Below.refl _ _) rfl
  · by_cases h2 : 65536 < n
    · have hp : padErr s.data.toList n = 1 := by simp [padErr, h2]
      rw [hp]
      clear hp hl
      go_enter Try.func23, Try.ntmps23
      go_wp2
      go_ret2
      exact BytesRet.err rfl (Below.refl _ _) rfl
    · obtain ⟨m, rfl⟩ := Int.eq_ofNat_of_zero_le (show 0 ≤ n by omega)
      by_cases h3 : m < s.size
      · have hp : padErr s.data.toList m = 2 := by
          unfold padErr; rw [if_neg (by omega), if_pos (by omega)]
        rw [hp]
        clear hp hl
        go_enter Try.func23, Try.ntmps23
        go_wp2
        go_ret2
        exact BytesRet.err rfl (Below.refl _ _) rfl
      · have hp : padErr s.data.toList m = if fine s.data.toList then 0 else 20 := by
          unfold padErr; rw [if_neg (by omega), if_neg (by omega)]
        have hx : ∀ w, Calls Try.prog 28 #[.string s, .int .i64 (m : Int)] w (BytesRet (fine s.data.toList) (target s.data.toList m) 20 w) := by
          intro w
          refine (extend_any s m w hs (by omega)).mono fun e w' h => ?_
          have h' := h.ret
          rwa [List.take_of_length_le (by omega)] at h'
        have HX := Lib.hid hx
        rw [hp, Int.toNat_natCast]
        clear hx hl hp
        cases hf : fine s.data.toList
        · have HF := Lib.hid hf
          clear hf
          go_enter Try.func23, Try.ntmps23
          go_wp2_with fail
          refine (HX.out _).mono ?_
          intro e w' h
          rw [HF.out] at h
          obtain ⟨rfl, hb⟩ := h.no
          clear h
          go_wp2
          go_ret2
          exact BytesRet.err rfl hb rfl
        · have HF := Lib.hid hf
          clear hf
          go_enter Try.func23, Try.ntmps23
          go_wp2_with fail
          refine (HX.out _).mono ?_
          intro e w' h
          rw [HF.out] at h
          obtain ⟨A, c, rfl, hc, ho, hb⟩ := h.yes
          clear h
          have HO := Lib.hid ho
          clear ho
          go_wp2
          go_ret2
          exact BytesRet.own rfl hb rfl rfl HO.out

theorem blank_succ (l : List UInt8) (j : Nat) : Lib.byteCells (enc l ++ List.replicate j 0x40) ++ [Value.int .u8 64] = Lib.byteCells (enc l ++ List.replicate (j + 1) 0x40) := by
  rw [List.replicate_succ', ← List.append_assoc]
  simp [Lib.byteCells]

set_option maxHeartbeats 1000000 in
/-- jobshopref02.Pad -/
theorem rpad_any (s : ByteArray) (n : Int) (w : World) (hs : s.size ≤ 140737488351232) :
    Calls Try.prog 24 #[.string s, .int .i64 n] w (BytesRet (padErr s.data.toList n == 0) (target s.data.toList n.toNat) (padErr s.data.toList n) w) := by
  have hl : s.data.toList.length = s.size := by simp
  by_cases h1 : n < 0
  · have hp : padErr s.data.toList n = 1 := by simp [padErr, h1]
    rw [hp]
    clear hp hl
    go_enter Try.func24, Try.ntmps24
    go_wp2
    go_ret2
    exact BytesRet.err rfl (Below.refl _ _) rfl
  · by_cases h2 : 65536 < n
    · have hp : padErr s.data.toList n = 1 := by simp [padErr, h2]
      rw [hp]
      clear hp hl
      go_enter Try.func24, Try.ntmps24
      go_wp2
      go_ret2
      exact BytesRet.err rfl (Below.refl _ _) rfl
    · obtain ⟨m, rfl⟩ := Int.eq_ofNat_of_zero_le (show 0 ≤ n by omega)
      by_cases h3 : m < s.size
      · have hp : padErr s.data.toList m = 2 := by
          unfold padErr; rw [if_neg (by omega), if_pos (by omega)]
        rw [hp]
        clear hp hl
        go_enter Try.func24, Try.ntmps24
        go_wp2
        go_ret2
        exact BytesRet.err rfl (Below.refl _ _) rfl
      · have hp : padErr s.data.toList m = if fine s.data.toList then 0 else 20 := by
          unfold padErr; rw [if_neg (by omega), if_neg (by omega)]
        have ht : target s.data.toList m = enc s.data.toList ++ List.replicate (m - s.size) 0x40 := by
          unfold target; rw [List.take_of_length_le (by omega), hl]
        rw [hp, Int.toNat_natCast]
        have HT := Lib.hid ht
        have hel : (enc s.data.toList).length = s.size := by simp [enc]
        have HEL := Lib.hid hel
        clear hl hp ht hel
        cases hf : fine s.data.toList
        · have HF := Lib.hid hf
          clear hf
          go_enter Try.func24, Try.ntmps24
          go_wp2_with fail
          refine (rencode_any s _ hs).mono ?_
          intro e w' h
          rw [HF.out] at h
          obtain ⟨rfl, hb⟩ := h.no
          clear h
          go_wp2
          go_ret2
          exact BytesRet.err rfl hb rfl
        · have HF := Lib.hid hf
          clear hf
          go_enter Try.func24, Try.ntmps24
          go_wp2_with fail
          refine (rencode_any s _ hs).mono ?_
          intro e w1 h
          rw [HF.out] at h
          obtain ⟨A, c, rfl, hc, ho, hb⟩ := h.yes
          clear h
          rw [HEL.out] at ho hc ⊢
          have HO := Lib.hid ho
          clear ho
          go_wp2
          go_loopw [6] (fun v wr => ∃ j A c, j ≤ m - s.size ∧ v = .slice A (s.size + j) c ∧ wr.ownsRow w.heap.size 5 1 v (s.size + j) (Lib.byteCells (enc s.data.toList ++ List.replicate j 0x40)) ∧ Below w.heap.size w wr) (fun v _ => m - slen v)
          case atStart => exact ⟨0, A, c, Nat.zero_le _, rfl, by simpa using HO.out, hb⟩
          case round =>
            obtain ⟨j, A2, c2, hj, rfl, hown, hbr⟩ := hrel
            have HO := Lib.hid hown
            clear hown
            by_cases hlt : s.size + j < m
            · go_wp2_with (at_builtin; refine wpList_push rfl _ _ _ rfl byteElem wr [.int .u8 64] rfl rfl (by simp [Value.oneCell']) w.heap.size _ (s.size + j) _ rfl rfl HO.out (by unfold maxLen; omega) (by omega) hbr.size ?_; intro A3 c3 w3 hown3 hg3)
              go_roundw
              case rel =>
                refine ⟨j + 1, A3, c3, by omega, rfl, ?_, hbr.grown hg3 hbr.size (own_ge HO.out)⟩
                rw [← blank_succ]; exact hown3
              case measure => simp [slen]; omega
            · have hge : m = s.size + j := by omega
              have HG := Lib.hid hge
              clear hge
              go_wp2
              go_ret2
              refine BytesRet.own rfl hbr ?_ rfl ?_ (n := s.size + j)
              · rw [target_length]; exact HG.out
              · rw [HT.out, show m - s.size = j from by have := HG.out; omega]; exact HO.out

end Go.Proofs.Ytijkckhgaigbgaa
