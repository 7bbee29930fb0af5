import Derived.Test.YtijkckhgaigbgaaWalkStr
import Derived.Deep.RegionWith
namespace Go.Proofs.Ytijkckhgaigbgaa
open Go.RowKit Job.Ebcdic

theorem code_blank (c : UInt8) (h : hasCode c = true) : (code c == 0x40) = (c == 32) := by
  have := every (fun c => !hasCode c || ((code c == 0x40) == (c == 32))) (by decide +kernel) c
  rw [h] at this
  simpa using this
theorem strip_enc (l : List UInt8) (h : fine l = true) : strip 0x40 (enc l) = enc (strip 32 l) := by
  unfold strip enc
  rw [← List.map_reverse, List.dropWhile_map, ← List.map_reverse]
  congr 2
  have hl : ∀ c ∈ l.reverse, hasCode c = true := fun c hc => List.all_eq_true.1 h c (by simpa using hc)
  generalize l.reverse = r at hl
  induction r with
  | nil => rfl
  | cons c r ih =>
    have hb := code_blank c (hl c (by simp))
    have hi := ih (fun c hc => hl c (by simp [hc]))
    simp only [List.dropWhile_cons, Function.comp, hb] at hi ⊢
    rw [← hi]
theorem strip_blanks (x : UInt8) (l : List UInt8) (k : Nat) : strip x (l ++ List.replicate k x) = strip x l := by
  unfold strip
  rw [List.reverse_append, List.reverse_replicate]
  congr 1
  induction k with
  | zero => simp
  | succ k ih => rw [List.replicate_succ, List.cons_append, List.dropWhile_cons, if_pos (by simp), ih]
theorem strip_fine (x : UInt8) (l : List UInt8) (h : fine l = true) : fine (strip x l) = true := by
  unfold strip fine at *
  rw [List.all_eq_true] at *
  intro c hc
  exact h c (by simpa using (List.dropWhile_sublist _).subset (List.mem_reverse.1 hc))
theorem trim_target (l : List UInt8) (n : Nat) (hn : l.length ≤ n) (h : fine l = true) : trim (target l n) = strip 32 l := by
  unfold trim target
  rw [List.take_of_length_le hn, strip_blanks, strip_enc l h, decs_enc _ (strip_fine 32 l h)]

set_option maxHeartbeats 4000000 in
theorem walk_ebcdicFields (w : World) (s : ByteArray) (_hs : s.size ≤ maxLen) (n : Int) (_hn : (Lit.int .i64 n).wf = true) :
    Calls Try.prog 10 #[.string s, .int .i64 n] w fun e w' => e = .returned (.bool true) ∧ Below w.heap.size w w' := by
  by_cases hbig : 1000 < s.size
  · go_enter Try.func10, Try.ntmps10
    go_wp2
    go_ret
    exact ⟨rfl, Below.refl _ _⟩
  · obtain ⟨j, hj, hcut⟩ := cut_at n 1000 (by omega)
    have hsum : wrap64 ((s.size : Int) + wrap64 ((IntKind.u64.wrap n).tmod 1001)) = ((s.size + j : Nat) : Int) := by
      have h : wrap64 ((IntKind.u64.wrap n).tmod 1001) = (j : Int) := hcut
      rw [h]; unfold wrap64; omega
    have HSUM := Lib.hid hsum
    have hsl : s.data.toList.length = s.size := by simp
    obtain ⟨res, code, hcase, hen, hren⟩ := pad_two s ((s.size + j : Nat) : Int) (by omega)
    rw [Int.toNat_natCast] at hcase
    have HEN := Lib.hid hen
    have hpe : padErr s.data.toList ((s.size + j : Nat) : Int) = if fine s.data.toList then 0 else 20 := by
      unfold padErr; rw [if_neg (by omega), if_neg (by omega)]
    rw [hpe] at hcase
    clear hcut hsum hen hren hpe
    rcases hcase with ⟨rfl, hf, hres⟩ | ⟨hcode, hne, rfl⟩
    · have hf' : fine s.data.toList = true := by
        cases h : fine s.data.toList
        · rw [h] at hf; cases hf
        · rfl
      have hlen : res.length = s.size + j := by rw [hres, target_length]
      have htrim : trim res = strip 32 s.data.toList := by rw [hres, trim_target _ _ (by omega) hf']
      have hleq : ((res.length : Int) == (s.size : Int) + (j : Int)) = true := by rw [beq_iff_eq]; omega
      have HLEN := Lib.hid hlen
      have HTRIM := Lib.hid htrim
      clear hf hf' hres hlen htrim hsl
      go_enter Try.func10, Try.ntmps10
      go_wp2_with fail
      rw [HSUM.out]
      refine (HEN.out _).mono ?_
      rintro e w1 ⟨A1, c1, rfl, hc1, o1, b1⟩
      have O1 := Lib.hid o1
      clear o1
      go_wp2_with fail
      go_loop [8] (fun i => ∃ k : Nat, k ≤ s.size ∧ i = .int .i64 k ∧ strip 32 (s.data.toList.take k) = strip 32 s.data.toList) (fun i => (intOf i).toNat)
      case atStart => exact ⟨s.size, Nat.le_refl _, rfl, by rw [List.take_of_length_le (by simp)]⟩
      case round =>
        obtain ⟨k, hk, rfl, hs⟩ := hrel
        have HS := Lib.hid hs
        clear hs
        have hfin : ∀ h : strip 32 (s.data.toList.take k) = s.data.toList.take k, (⟨(trim res).toArray⟩ : ByteArray) = s.extract 0 k := by
          intro h
          rw [HTRIM.out, ← HS.out, h, ← head_list, bytes_eta]
        have HFIN := Lib.hid hfin
        clear hfin
        by_cases h0 : k = 0
        · subst h0
          go_wp2_with fail
          refine wp_region_below w1.heap.size (by kernel_rfl) (by kernel_rfl) ?_
          repeat (refine wpQuiet_step (fun K hK => ?_); go_simp; first | (refine hK _ ?_; clear hK K) | (refine ⟨_, fun _ _ => rfl, hK _ ?_⟩; clear hK K))
          refine wpQuiet_step (fun K hK => ?_)
          go_simp
          refine ⟨_, fun wx hwx => (trim_lit A1 res res.length c1 (s.extract 0 0) _ (((own_at O1.out).below hwx).mono hwx.size) rfl (HFIN.out rfl) (by have := HLEN.out; omega) hc1).mono (fun e w' h => ⟨h.1, hwx.trans (h.2.mono hwx.size)⟩), hK _ ?_⟩
          clear hK K
          repeat (refine wpQuiet_step (fun K hK => ?_); go_simp; first | (refine hK _ ?_; clear hK K) | (refine ⟨_, fun _ _ => rfl, hK _ ?_⟩; clear hK K))
          refine wpQuiet_step (fun K hK => ?_)
          go_simp
          refine ⟨_, fun wx hwx => (works_any wx).mono (fun e w' h => ⟨h.1, hwx.trans (h.2.mono hwx.size)⟩), hK _ ?_⟩
          clear hK K
          repeat (refine wpQuiet_step (fun K hK => ?_); go_simp; first | (refine hK _ ?_; clear hK K) | (refine ⟨_, fun _ _ => rfl, hK _ ?_⟩; clear hK K))
          refine wpQuiet_nil ?_
          intro w2 hw2
          go_wp2
          go_ret
          exact ⟨rfl, b1.trans (hw2.mono b1.size)⟩
        · obtain ⟨i, rfl⟩ : ∃ i, k = i + 1 := ⟨k - 1, by omega⟩
          have hil : i < s.data.toList.length := by simp; omega
          have his : i < s.size := by omega
          have hst := strip_take 32 s.data.toList i hil
          by_cases he : s.data.toList[i] = 32
          · have hb : (((s[i]'his).toNat : Int) == 32) = true := by show ((s.data.toList[i].toNat : Int) == 32) = true; rw [he]; rfl
            have hst' : strip 32 (s.data.toList.take (i + 1)) = strip 32 (s.data.toList.take i) := by rw [hst, if_pos (by rw [he]; rfl)]
            have HST := Lib.hid hst'
            clear hst hst' he
            go_wp2
            go_round
            case rel => exact ⟨i, by omega, by go_num, by rw [← HST.out]; exact HS.out⟩
            case measure => simp [intOf] <;> omega
          · have hb : (((s[i]'his).toNat : Int) == 32) = false := byte_beq_no (x := s.data.toList[i]) (y := 32) he
            have hst' : strip 32 (s.data.toList.take (i + 1)) = s.data.toList.take (i + 1) := by rw [hst, if_neg (by simpa using he)]
            have HST := Lib.hid hst'
            have hin : (0 : Int) ≤ (i : Int) + 1 ∧ (i : Int) + 1 ≤ (s.size : Int) := by omega
            clear hst hst' he
            go_wp2_with fail
            refine wp_region_below w1.heap.size (by kernel_rfl) (by kernel_rfl) ?_
            repeat (refine wpQuiet_step (fun K hK => ?_); go_simp; first | (refine hK _ ?_; clear hK K) | (refine ⟨_, fun _ _ => rfl, hK _ ?_⟩; clear hK K))
            refine wpQuiet_step (fun K hK => ?_)
            go_simp
            refine ⟨_, fun wx hwx => (trim_lit A1 res res.length c1 (s.extract 0 (i + 1)) _ (((own_at O1.out).below hwx).mono hwx.size) rfl (HFIN.out HST.out) (by have := HLEN.out; omega) hc1).mono (fun e w' h => ⟨h.1, hwx.trans (h.2.mono hwx.size)⟩), hK _ ?_⟩
            clear hK K
            repeat (refine wpQuiet_step (fun K hK => ?_); go_simp; first | (refine hK _ ?_; clear hK K) | (refine ⟨_, fun _ _ => rfl, hK _ ?_⟩; clear hK K))
            refine wpQuiet_step (fun K hK => ?_)
            go_simp
            refine ⟨_, fun wx hwx => (works_any wx).mono (fun e w' h => ⟨h.1, hwx.trans (h.2.mono hwx.size)⟩), hK _ ?_⟩
            clear hK K
            repeat (refine wpQuiet_step (fun K hK => ?_); go_simp; first | (refine hK _ ?_; clear hK K) | (refine ⟨_, fun _ _ => rfl, hK _ ?_⟩; clear hK K))
            refine wpQuiet_nil ?_
            intro w2 hw2
            go_wp2
            go_ret
            exact ⟨rfl, b1.trans (hw2.mono b1.size)⟩
    · have hcd : code = 20 := by
        cases h : fine s.data.toList
        · rw [h] at hcode; simpa using hcode
        · rw [h] at hcode; exact absurd hcode (by simpa using hne)
      subst hcd
      clear hcode hne hsl
      go_enter Try.func10, Try.ntmps10
      go_wp2_with fail
      rw [HSUM.out]
      refine (HEN.out _).mono ?_
      rintro e w1 ⟨A1, c1, rfl, hc1, _, b1⟩
      go_wp2_with fail
      refine (works_any _).mono ?_
      rintro e w7 ⟨rfl, b7⟩
      go_wp2
      go_ret
      exact ⟨rfl, b1.trans (b7.mono b1.size)⟩

end Go.Proofs.Ytijkckhgaigbgaa
