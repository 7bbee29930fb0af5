import Derived.Test.YtijkckhgaigbgaaCode
import Derived.Test.YtijkckhgaigbgaaEncSpec
namespace Go.Proofs.Ytijkckhgaigbgaa
open Go.RowKit Job.Ebcdic

theorem byteElem : Elem Try.prog 26 5 (.int .u8 0) 1 1 := ⟨Try.underlying26, by kernel_rfl, rfl, by omega⟩

/-- What extend leaves. -/
def ExtendPost (l : List UInt8) (n : Nat) (w : World) (e : Ending) (w' : World) : Prop :=
  Below w.heap.size w w' ∧
  ((fine (l.take n) = true ∧ e = .returned (.tuple #[.slice (some ⟨w.heap.size, 0, none⟩) n n, .int .i64 0]) ∧ w'.ownsRow w.heap.size 5 1 (.slice (some ⟨w.heap.size, 0, none⟩) n n) n (Lib.byteCells (target l n)))
   ∨ (fine (l.take n) = false ∧ e = .returned (.tuple #[.slice none 0 0, .int .i64 20])))

theorem madeCells_zero (n : Nat) (t : List UInt8) : (madeCells #[Value.int .u8 0] n).toList = Lib.byteCells (fill t 0 n) := by
  rw [fill_zero]
  rw [toList_madeCells_one]; simp [Lib.byteCells]

set_option maxHeartbeats 1000000 in
/-- ebcdic.extend -/
theorem extend_any (s : ByteArray) (n : Nat) (w : World) (hs : s.size ≤ 140737488351232) (hn : n ≤ 140737488351232) :
    Calls Try.prog 28 #[.string s, .int .i64 (n : Int)] w (ExtendPost s.data.toList n w) := by
  have htl := target_length s.data.toList n
  have HTL := Lib.hid htl
  clear htl
  go_enter Try.func28, Try.ntmps28
  go_wp2_with (with_reducible refine wpList_make rfl _ _ _ rfl byteElem .i64 .i64 (n : Int) (n : Int) n rfl rfl rfl rfl (by omega) (by unfold maxLen; omega) ?_)
  intro w1 hown hb1
  go_wp2
  rw [madeCells_zero n (target s.data.toList n)] at hown
  go_loopw [14] (fun i wr => ∃ k : Nat, k ≤ n ∧ i = .int .i64 k ∧ fine (s.data.toList.take k) = true ∧ wr.ownsRow w.heap.size 5 1 (.slice (some ⟨w.heap.size, 0, none⟩) n n) n (Lib.byteCells (fill (target s.data.toList n) k n)) ∧ Below w.heap.size w wr) (fun i _ => n - (intOf i).toNat)
  case atStart => exact ⟨0, Nat.zero_le _, rfl, by simp [fine], hown, hb1⟩
  case round =>
    obtain ⟨k, hk, rfl, hfine, hown, hb⟩ := hrel
    have HF := Lib.hid hfine
    clear hfine
    by_cases hlt : k < n
    · obtain ⟨v0, hv0⟩ : ∃ v0, wr.cell? ⟨w.heap.size, k, none⟩ = some v0 := by
        rw [hown.cellAt k (by omega)]
        exact ⟨_, List.getElem?_eq_getElem (by rw [byteCells_len, fill_length _ _ _ HTL.out hk]; exact hlt)⟩
      have hfz := hown.frozenAt k
      have hst := fun u => hown.stored k u
      have HO := Lib.hid hown
      have HS := Lib.hid hst
      clear hown hst
      by_cases hks : k < s.size
      · have hkl : k < s.data.toList.length := by simpa using hks
        cases hc : hasCode (s.data.toList[k])
        · have HC := Lib.hid hc
          clear hc
          go_wp2_with (go_at_call 11; refine (code_any (s.data.toList[k]) _).mono ?_; rw [HC.out]; rintro e w' ⟨rfl, rfl⟩)
          go_ret2
          exact ⟨hb.setCell (Nat.le_refl _) _, .inr ⟨fine_bad _ k n hkl hlt HC.out, rfl⟩⟩
        · have HC := Lib.hid hc
          clear hc
          go_wp2_with (go_at_call 11; refine (code_any (s.data.toList[k]) _).mono ?_; rw [HC.out]; rintro e w' ⟨rfl, rfl⟩)
          go_roundw
          case rel =>
            refine ⟨k + 1, by omega, by go_num, fine_succ _ k hkl HF.out HC.out, ?_, (hb.setCell (Nat.le_refl _) _).setCell (Nat.le_refl _) _⟩
            rw [← fill_set _ k n HTL.out hlt _ (target_code _ n k hlt hkl), ← set_twice _ k (.int .u8 64)]
            exact ((HS.out (.int .u8 64)).1.stored k _).1
          case measure => simp [intOf]; omega
      · have hkl : ¬ k < s.data.toList.length := by simpa using hks
        go_wp2
        go_roundw
        case rel =>
          refine ⟨k + 1, by omega, by go_num, fine_over _ k hkl HF.out, ?_, hb.setCell (Nat.le_refl _) _⟩
          rw [← fill_set _ k n HTL.out hlt _ (target_blank _ n k hlt hkl)]
          exact (HS.out _).1
        case measure => simp [intOf]; omega
    · obtain rfl : k = n := by omega
      go_wp2
      go_ret2
      refine ⟨hb, .inl ⟨HF.out, rfl, ?_⟩⟩
      rwa [fill_all _ _ HTL.out] at hown

/-- What a function that returns bytes and an error leaves: the bytes in new memory of the call's own, or nil and the error. -/
def BytesRet (ok : Bool) (out : List UInt8) (err : Int) (w : World) (e : Ending) (w' : World) : Prop :=
  Below w.heap.size w w' ∧ ((ok = true ∧ ∃ A c, e = .returned (.tuple #[.slice A out.length c, .int .i64 0]) ∧ out.length ≤ c ∧ w'.ownsRow w.heap.size 5 1 (.slice A out.length c) out.length (Lib.byteCells out))
    ∨ (ok = false ∧ e = .returned (.tuple #[.slice none 0 0, .int .i64 err])))
theorem BytesRet.own {ok : Bool} {out : List UInt8} {err : Int} {w w' : World} {e : Ending} {A : Option Addr} {n c : Nat} (hok : ok = true) (hb : Below w.heap.size w w') (hn : out.length = n) (he : e = .returned (.tuple #[.slice A n c, .int .i64 0]))
    (ho : w'.ownsRow w.heap.size 5 1 (.slice A n c) n (Lib.byteCells out)) : BytesRet ok out err w e w' := by
  subst hn
  refine ⟨hb, .inl ⟨hok, A, c, he, ?_, ho⟩⟩
  rcases ho.2 with ⟨_, h2⟩ | ⟨g, cap, cur, h1, _, _, h2, _⟩
  · rw [h2]; exact Nat.zero_le _
  · injection h1 with _ _ hcc; rw [hcc]; exact h2
theorem BytesRet.err {ok : Bool} {out : List UInt8} {err : Int} {w w' : World} {e : Ending} (hok : ok = false) (hb : Below w.heap.size w w') (he : e = .returned (.tuple #[.slice none 0 0, .int .i64 err])) : BytesRet ok out err w e w' :=
  ⟨hb, .inr ⟨hok, he⟩⟩
theorem BytesRet.yes {out : List UInt8} {err : Int} {w w' : World} {e : Ending} (h : BytesRet true out err w e w') :
    ∃ A c, e = .returned (.tuple #[.slice A out.length c, .int .i64 0]) ∧ out.length ≤ c ∧ w'.ownsRow w.heap.size 5 1 (.slice A out.length c) out.length (Lib.byteCells out) ∧ Below w.heap.size w w' := by
  rcases h with ⟨hb, ⟨_, A, c, he, hc, ho⟩ | ⟨h, _⟩⟩
  · exact ⟨A, c, he, hc, ho, hb⟩
  · cases h
theorem BytesRet.no {out : List UInt8} {err : Int} {w w' : World} {e : Ending} (h : BytesRet false out err w e w') :
    e = .returned (.tuple #[.slice none 0 0, .int .i64 err]) ∧ Below w.heap.size w w' := by
  rcases h with ⟨hb, ⟨h, _⟩ | ⟨_, he⟩⟩
  · cases h
  · exact ⟨he, hb⟩
theorem BytesRet.any {ok : Bool} {out : List UInt8} {err : Int} {w w' : World} {e : Ending} (h : BytesRet ok out err w e w') :
    ∃ A c, e = .returned (.tuple #[.slice A (if ok then out else []).length c, .int .i64 (if ok then 0 else err)]) ∧ (if ok then out else []).length ≤ c ∧ w'.ownsRow w.heap.size 5 1 (.slice A (if ok then out else []).length c) (if ok then out else []).length (Lib.byteCells (if ok then out else [])) ∧ Below w.heap.size w w' := by
  cases ok
  · obtain ⟨he, hb⟩ := h.no
    exact ⟨none, 0, he, Nat.le_refl _, World.ownsRow_nil _ _ _ _, hb⟩
  · obtain ⟨A, c, he, hc, ho, hb⟩ := h.yes
    exact ⟨A, c, he, hc, ho, hb⟩
theorem ExtendPost.ret {l : List UInt8} {n : Nat} {w w' : World} {e : Ending} (h : ExtendPost l n w e w') : BytesRet (fine (l.take n)) (target l n) 20 w e w' := by
  rcases h with ⟨hb, ⟨hf, he, ho⟩ | ⟨hf, he⟩⟩
  · refine ⟨hb, .inl ⟨hf, some ⟨w.heap.size, 0, none⟩, n, ?_, ?_, ?_⟩⟩
    · rw [target_length]; exact he
    · rw [target_length]; exact Nat.le_refl _
    · rw [target_length]; exact ho
  · exact ⟨hb, .inr ⟨hf, he⟩⟩

/-- ebcdic.Encode -/
theorem encode_any (s : ByteArray) (w : World) (hs : s.size ≤ 140737488351232) :
    Calls Try.prog 16 #[.string s] w (BytesRet (fine s.data.toList) (enc s.data.toList) 20 w) := by
  have hl : s.data.toList.length = s.size := by simp
  have hx : ∀ w, Calls Try.prog 28 #[.string s, .int .i64 (s.size : Int)] w (BytesRet (fine s.data.toList) (enc s.data.toList) 20 w) := by
    intro w
    refine (extend_any s s.size w hs hs).mono fun e w' h => ?_
    have h' := h.ret
    rwa [List.take_of_length_le (by omega), ← hl, target_self] at h'
  have HX := Lib.hid hx
  clear hx hl
  cases hf : fine s.data.toList
  · have HF := Lib.hid hf
    clear hf
    go_enter Try.func16, Try.ntmps16
    go_wp2_with fail
    refine (HX.out _).mono ?_
    intro e w' h
    rw [HF.out] at h
    obtain ⟨rfl, hb⟩ := h.no
    clear h
    go_wp2
    go_ret2
    exact ⟨hb, .inr ⟨rfl, rfl⟩⟩
  · have HF := Lib.hid hf
    clear hf
    go_enter Try.func16, Try.ntmps16
    go_wp2_with fail
    refine (HX.out _).mono ?_
    intro e w' h
    rw [HF.out] at h
    obtain ⟨A, c, rfl, hc, ho, hb⟩ := h.yes
    clear h
    have HO := Lib.hid ho
    clear ho
    go_wp2
    go_ret2
    exact ⟨hb, .inl ⟨rfl, A, c, rfl, hc, HO.out⟩⟩

end Go.Proofs.Ytijkckhgaigbgaa
