import Derived.Test.YtijkckhgaigbgaaWorks
namespace Go.Proofs.Ytijkckhgaigbgaa
open Go.RowKit Job.Ebcdic

/-- What bytes and an error come to, in either case. -/
theorem encode_two (s : ByteArray) (hs : s.size ≤ 140737488351232) : ∃ (res : List UInt8) (code : Int), (code = 0 ∧ fine s.data.toList = true ∧ res = enc s.data.toList ∨ code = 20 ∧ fine s.data.toList = false ∧ res = []) ∧
    (∀ w, Calls Try.prog 16 #[.string s] w fun e w' => ∃ A c, e = .returned (.tuple #[.slice A res.length c, .int .i64 code]) ∧ res.length ≤ c ∧ w'.ownsRow w.heap.size 5 1 (.slice A res.length c) res.length (Lib.byteCells res) ∧ Below w.heap.size w w') ∧
    (∀ w, Calls Try.prog 17 #[.string s] w fun e w' => ∃ A c, e = .returned (.tuple #[.slice A res.length c, .int .i64 code]) ∧ res.length ≤ c ∧ w'.ownsRow w.heap.size 5 1 (.slice A res.length c) res.length (Lib.byteCells res) ∧ Below w.heap.size w w') := by
  refine ⟨if fine s.data.toList then enc s.data.toList else [], if fine s.data.toList then 0 else 20, ?_, fun w => (encode_any s w hs).mono fun e w' h => h.any, fun w => (rencode_any s w hs).mono fun e w' h => h.any⟩
  cases fine s.data.toList <;> simp
theorem pad_two (s : ByteArray) (n : Int) (hs : s.size ≤ 140737488351232) : ∃ (res : List UInt8) (code : Int), (code = 0 ∧ padErr s.data.toList n = 0 ∧ res = target s.data.toList n.toNat ∨ code = padErr s.data.toList n ∧ code ≠ 0 ∧ res = []) ∧
    (∀ w, Calls Try.prog 23 #[.string s, .int .i64 n] w fun e w' => ∃ A c, e = .returned (.tuple #[.slice A res.length c, .int .i64 code]) ∧ res.length ≤ c ∧ w'.ownsRow w.heap.size 5 1 (.slice A res.length c) res.length (Lib.byteCells res) ∧ Below w.heap.size w w') ∧
    (∀ w, Calls Try.prog 24 #[.string s, .int .i64 n] w fun e w' => ∃ A c, e = .returned (.tuple #[.slice A res.length c, .int .i64 code]) ∧ res.length ≤ c ∧ w'.ownsRow w.heap.size 5 1 (.slice A res.length c) res.length (Lib.byteCells res) ∧ Below w.heap.size w w') := by
  refine ⟨if padErr s.data.toList n == 0 then target s.data.toList n.toNat else [], if padErr s.data.toList n == 0 then 0 else padErr s.data.toList n, ?_, fun w => (pad_any s n w hs).mono fun e w' h => h.any, fun w => (rpad_any s n w hs).mono fun e w' h => h.any⟩
  by_cases h : padErr s.data.toList n = 0 <;> simp [h]
theorem res_small {s : ByteArray} {res : List UInt8} {code : Int} (h : code = 0 ∧ fine s.data.toList = true ∧ res = enc s.data.toList ∨ code = 20 ∧ fine s.data.toList = false ∧ res = []) : res.length ≤ s.size := by
  rcases h with ⟨_, _, rfl⟩ | ⟨_, _, rfl⟩
  · simp [enc]
  · exact Nat.zero_le _

set_option maxHeartbeats 2000000 in
theorem walk_ebcdicEncodes (w : World) (s : ByteArray) (_hs : s.size ≤ maxLen) :
    Calls Try.prog 4 #[.string s] w fun e w' => e = .returned (.bool true) ∧ Below w.heap.size w w' := by
  by_cases hbig : 3000 < s.size
  · go_enter Try.func4, Try.ntmps4
    go_wp2
    go_ret
    exact ⟨rfl, Below.refl _ _⟩
  · obtain ⟨res, code, hcase, hen, hren⟩ := encode_two s (by omega)
    have hsm := res_small hcase
    have HEN := Lib.hid hen
    have HREN := Lib.hid hren
    clear hen hren hcase
    have hce : (code != code) = false := by simp
    have hcq : (code == code) = true := by simp
    go_enter Try.func4, Try.ntmps4
    go_wp2_with fail
    refine (HEN.out _).mono ?_
    rintro e w1 ⟨A1, c1, rfl, hc1, o1, b1⟩
    have O1 := Lib.hid o1
    clear o1
    go_wp2_with fail
    refine (HREN.out _).mono ?_
    rintro e w2 ⟨A2, c2, rfl, hc2, o2, b2⟩
    have O2 := Lib.hid o2
    clear o2
    go_wp2_with fail
    refine (same_any A1 A2 res res c1 c2 _ w2.heap.size ((own_at O1.out).below b2 |>.mono b2.size) (own_at O2.out) (by unfold maxLen; omega) (by unfold maxLen; omega)).mono ?_
    rintro e w3 ⟨rfl, st3⟩
    rw [show (res == res) = true from by simp]
    have b3 : Below w.heap.size w w3 := (b1.trans (b2.mono b1.size)).trans (st3.below _)
    have O13 := Lib.hid (own_below (own_below O1.out b2) (st3.below _))
    have O23 := Lib.hid (own_below O2.out (st3.below _))
    have h12 := b2.size
    have h01 := b1.size
    have H1 : w1.heap.size ≤ w2.heap.size := h12
    have lt1 : ∀ g, A1 = some ⟨g, 0, none⟩ → 0 < res.length → g < w1.heap.size := fun g hg hn => by
      obtain ⟨g', hg', _, hlt⟩ := own_head O1.out hn
      rw [hg] at hg'
      injection hg' with hg'
      injection hg' with hg' _ _
      omega
    have LT1 := Lib.hid lt1
    clear lt1 O1 O2 st3
    go_wp2
    go_loopw [7] (fun i wr => ∃ (k : Nat) (xs : List Value), k ≤ res.length ∧ i = .int .i64 k ∧ wr.ownsRow w.heap.size 5 1 (.slice A1 res.length c1) res.length xs ∧ wr.ownsRow w1.heap.size 5 1 (.slice A2 res.length c2) res.length (Lib.byteCells res) ∧ Below w.heap.size w wr) (fun i _ => res.length - (intOf i).toNat)
    case atStart => exact ⟨0, _, Nat.zero_le _, rfl, O13.out, O23.out, b3⟩
    case round =>
      obtain ⟨k, xs, hk, rfl, o1r, o2r, hb⟩ := hrel
      by_cases hlt : k < res.length
      · obtain ⟨g, rfl, hg, _⟩ := own_head o1r (by omega)
        have hgl := LT1.out g rfl (by omega)
        obtain ⟨v0, hv0⟩ : ∃ v0, wr.cell? ⟨g, k, none⟩ = some v0 := by
          rw [o1r.cellAt k (by omega)]
          exact ⟨_, List.getElem?_eq_getElem (by rw [o1r.1]; omega)⟩
        have hfz := o1r.frozenAt k
        have OA := Lib.hid (o1r.stored k (.int .u8 0)).1
        have OB := Lib.hid (ownsRow_setCell_below o2r (a := ⟨g, k, none⟩) hgl (.int .u8 0))
        clear o1r o2r
        go_wp2
        go_roundw
        case rel => exact ⟨k + 1, _, by omega, by go_num, OA.out, OB.out, hb.setCell (p := ⟨g, k, none⟩) hg _⟩
        case measure => simp [intOf]; omega
      · have O2R := Lib.hid o2r
        clear o1r o2r
        go_wp2_with fail
        refine (HEN.out _).mono ?_
        rintro e w5 ⟨A5, c5, rfl, hc5, o5, b5⟩
        have O5 := Lib.hid o5
        clear o5
        go_wp2_with fail
        refine (same_any A5 A2 res res c5 c2 _ w5.heap.size (own_at O5.out) ((own_at (own_below O2R.out b5))) (by unfold maxLen; omega) (by unfold maxLen; omega)).mono ?_
        rintro e w6 ⟨rfl, st6⟩
        rw [show (res == res) = true from by simp]
        have b6 : Below w.heap.size w w6 := (hb.trans (b5.mono hb.size)).trans (st6.below _)
        clear st6 O5 O2R
        go_wp2_with fail
        refine (works_any _).mono ?_
        rintro e w7 ⟨rfl, b7⟩
        go_wp2
        go_ret
        exact ⟨rfl, b6.trans (b7.mono b6.size)⟩

set_option maxHeartbeats 2000000 in
theorem walk_ebcdicPads (w : World) (s : ByteArray) (_hs : s.size ≤ maxLen) (n : Int) (_hn : (Lit.int .i64 n).wf = true) :
    Calls Try.prog 6 #[.string s, .int .i64 n] w fun e w' => e = .returned (.bool true) ∧ Below w.heap.size w w' := by
  by_cases hbig : 3000 < s.size
  · go_enter Try.func6, Try.ntmps6
    go_wp2
    go_ret
    exact ⟨rfl, Below.refl _ _⟩
  · by_cases hmid : 3000 < n ∧ n ≤ 65536
    · obtain ⟨h1, h2⟩ := hmid
      go_enter Try.func6, Try.ntmps6
      go_wp2
      go_ret
      exact ⟨rfl, Below.refl _ _⟩
    · obtain ⟨res, code, hcase, hen, hren⟩ := pad_two s n (by omega)
      have hsm : res.length ≤ 3000 := by
        rcases hcase with ⟨_, h, rfl⟩ | ⟨_, _, rfl⟩
        · rw [target_length]
          unfold padErr at h
          split at h
          · cases h
          · omega
        · exact Nat.zero_le _
      have HEN := Lib.hid hen
      have HREN := Lib.hid hren
      clear hen hren hcase
      have hcq : (code == code) = true := by simp
      have hn : n ≤ 3000 ∨ 65536 < n := by omega
      clear hmid
      rcases hn with hn | hn
      all_goals
        go_enter Try.func6, Try.ntmps6
        go_wp2_with fail
        refine (HEN.out _).mono ?_
        rintro e w1 ⟨A1, c1, rfl, hc1, o1, b1⟩
        have O1 := Lib.hid o1
        clear o1
        go_wp2_with fail
        refine (HREN.out _).mono ?_
        rintro e w2 ⟨A2, c2, rfl, hc2, o2, b2⟩
        have O2 := Lib.hid o2
        clear o2
        go_wp2_with fail
        refine (same_any A1 A2 res res c1 c2 _ w2.heap.size ((own_at O1.out).below b2 |>.mono b2.size) (own_at O2.out) (by unfold maxLen; omega) (by unfold maxLen; omega)).mono ?_
        rintro e w3 ⟨rfl, st3⟩
        rw [show (res == res) = true from by simp]
        have b3 : Below w.heap.size w w3 := (b1.trans (b2.mono b1.size)).trans (st3.below _)
        clear st3 O1 O2
        go_wp2_with fail
        refine (works_any _).mono ?_
        rintro e w7 ⟨rfl, b7⟩
        go_wp2
        go_ret
        exact ⟨rfl, b3.trans (b7.mono b3.size)⟩

set_option maxHeartbeats 2000000 in
theorem walk_ebcdicDecodes (w : World) (A : Option Addr) (l : List UInt8) (cap : Nat) (hlc : l.length ≤ cap) (_hcm : cap ≤ maxLen) (hat : At w w.heap.size A (Lib.byteCells l)) :
    Calls Try.prog 5 #[.slice A l.length cap] w fun e w' => e = .returned (.bool true) ∧ Below w.heap.size w w' := by
  by_cases hbig : 1000 < l.length
  · go_enter Try.func5, Try.ntmps5
    go_wp2
    go_ret
    exact ⟨rfl, Below.refl _ _⟩
  · have HAT := Lib.hid hat
    clear hat
    go_enter Try.func5, Try.ntmps5
    go_wp2_with (at_builtin; refine wpList_append_at rfl _ _ _ rfl byteElem w.heap.size _ 0 [] rfl (World.ownsRow_lit w #[] 0 (Nat.le_refl _) (by decide) rfl) w.heap.size A l.length cap (Lib.byteCells l) rfl (HAT.out.alloc (Nat.le_refl _) _) (by rw [byteCells_len]; omega) (byteCells_one l) (by unfold maxLen; omega) (by omega) (by simp) ?_; intro A1 c1 w1 o1 g1)
    rw [Nat.zero_add, List.nil_append] at *
    have b1 : Below w.heap.size w w1 := ((Below.refl _ _).alloc (Nat.le_refl _) _).grown g1 (by simp) (own_ge (World.ownsRow_lit (base := w.heap.size) (e := 5) (size := 1) w #[] 0 (Nat.le_refl _) (by decide) rfl))
    have O1 := Lib.hid o1
    clear o1 g1
    have hl1 : l.length ≤ c1 := by
      obtain ⟨A', c', hv, hc, _⟩ := own_slice O1.out
      injection hv with _ _ hcc
      omega
    go_wp2_with fail
    refine (decode_any A1 l c1 _ (own_at O1.out) (by omega)).mono ?_
    rintro e w2 ⟨rfl, b2⟩
    go_wp2_with fail
    refine (trim_any A1 l c1 _ (((own_at O1.out).below b2).mono b2.size) (by omega) hl1).mono ?_
    rintro e w3 ⟨rfl, b3⟩
    have b13 : Below w1.heap.size w1 w3 := b2.trans (b3.mono b2.size)
    have b03 : Below w.heap.size w w3 := b1.trans (b13.mono b1.size)
    go_wp2_with fail
    refine (same_any A1 A l l c1 cap _ w3.heap.size (((own_at O1.out).below b13).mono b13.size) ((HAT.out.below b03).mono b03.size) (by unfold maxLen; omega) (by unfold maxLen; omega)).mono ?_
    rintro e w4 ⟨rfl, st4⟩
    rw [show (l == l) = true from by simp]
    have b04 : Below w.heap.size w w4 := b03.trans (st4.below _)
    go_wp2_with fail
    refine (rdecode_any A l cap _ ((HAT.out.below b04).mono b04.size) (by omega)).mono ?_
    rintro e w5 ⟨rfl, b5⟩
    have b05 : Below w.heap.size w w5 := b04.trans (b5.mono b04.size)
    go_wp2_with fail
    refine (rtrim_any A l cap _ ((HAT.out.below b05).mono b05.size) (by omega) hlc).mono ?_
    rintro e w6 ⟨rfl, b6⟩
    have b06 : Below w.heap.size w w6 := b05.trans (b6.mono b05.size)
    go_wp2_with fail
    refine (works_any _).mono ?_
    rintro e w7 ⟨rfl, b7⟩
    go_wp2
    go_ret
    exact ⟨rfl, b06.trans (b7.mono b06.size)⟩

theorem cut_at (n : Int) (m : Nat) (h : m ≤ 3000) : ∃ j : Nat, j ≤ m ∧ wrap64 ((IntKind.u64.wrap n).tmod ((m : Int) + 1)) = (j : Int) := by
  have h0 : 0 ≤ IntKind.u64.wrap n := by
    simp only [IntKind.wrap, IntKind.signed, IntKind.bits]
    simp; omega
  have h1 := Int.tmod_nonneg ((m : Int) + 1) h0
  have h2 := Int.tmod_lt_of_pos (IntKind.u64.wrap n) (show (0 : Int) < (m : Int) + 1 by omega)
  refine ⟨((IntKind.u64.wrap n).tmod ((m : Int) + 1)).toNat, by omega, ?_⟩
  rw [Int.toNat_of_nonneg h1]
  generalize (IntKind.u64.wrap n).tmod ((m : Int) + 1) = x at *
  unfold wrap64
  omega
theorem decs_enc (l : List UInt8) (h : fine l = true) : decs (enc l) = l := by
  unfold decs enc
  rw [List.map_map]
  conv => rhs; rw [← List.map_id l]
  refine List.map_congr_left fun c hc => ?_
  exact dec_code c (List.all_eq_true.1 h c hc)
theorem bytes_eta (s : ByteArray) : (⟨s.data.toList.toArray⟩ : ByteArray) = s := by cases s; simp
theorem head_list (s : ByteArray) (j : Nat) : (s.extract 0 j).data.toList = s.data.toList.take j := by
  rw [Lib.extract_data]; simp
theorem tail_list (s : ByteArray) (j : Nat) : (s.extract j s.size).data.toList = s.data.toList.drop j := by
  rw [Lib.extract_data, List.take_of_length_le (by simp)]

set_option maxHeartbeats 4000000 in
theorem walk_ebcdicPieces (w : World) (s : ByteArray) (_hs : s.size ≤ maxLen) (n : Int) (_hn : (Lit.int .i64 n).wf = true) :
    Calls Try.prog 8 #[.string s, .int .i64 n] w fun e w' => e = .returned (.bool true) ∧ Below w.heap.size w w' := by
  by_cases hbig : 3000 < s.size
  · go_enter Try.func8, Try.ntmps8
    go_wp2
    go_ret
    exact ⟨rfl, Below.refl _ _⟩
  · obtain ⟨j, hj, hcut⟩ := cut_at n s.size (by omega)
    have hsl : s.data.toList.length = s.size := by simp
    have e1 := head_list s j
    have e2 := tail_list s j
    have z1 : (s.extract 0 j).size ≤ 3000 := by
      have := congrArg List.length e1
      simp only [List.length_take] at this
      have hz : (s.extract 0 j).data.toList.length = (s.extract 0 j).size := by simp
      omega
    have z2 : (s.extract j s.size).size ≤ 3000 := by
      have := congrArg List.length e2
      simp only [List.length_drop] at this
      have hz : (s.extract j s.size).data.toList.length = (s.extract j s.size).size := by simp
      omega
    have hfine : fine s.data.toList = (fine (s.data.toList.take j) && fine (s.data.toList.drop j)) := by
      unfold fine
      rw [← List.all_append, List.take_append_drop]
    have henc : enc (s.data.toList.take j) ++ enc (s.data.toList.drop j) = enc s.data.toList := by
      unfold enc
      rw [← List.map_append, List.take_append_drop]
    obtain ⟨res, code, hcase, hen, _⟩ := encode_two s (by omega)
    obtain ⟨res1, code1, hcase1, hen1, _⟩ := encode_two (s.extract 0 j) (by omega)
    obtain ⟨res2, code2, hcase2, hen2, _⟩ := encode_two (s.extract j s.size) (by omega)
    have hsm := res_small hcase
    have hsm1 := res_small hcase1
    have hsm2 := res_small hcase2
    rw [e1] at hcase1
    rw [e2] at hcase2
    have HEN := Lib.hid hen
    have HEN1 := Lib.hid hen1
    have HEN2 := Lib.hid hen2
    have HCUT := Lib.hid hcut
    clear hen hen1 hen2 hcut e1 e2 hsl
    rcases hcase1 with ⟨rfl, f1, r1⟩ | ⟨rfl, f1, r1⟩
    · rcases hcase2 with ⟨rfl, f2, r2⟩ | ⟨rfl, f2, r2⟩
      · rcases hcase with ⟨rfl, f0, r0⟩ | ⟨rfl, f0, _⟩
        · have hr : res1 ++ res2 = res := by rw [r1, r2, r0, henc]
          have hd : (⟨(decs res).toArray⟩ : ByteArray) = s := by rw [r0, decs_enc _ f0, bytes_eta]
          have HR := Lib.hid hr
          have HD := Lib.hid hd
          clear hfine henc r0 r1 r2 f0 f1 f2 hr hd
          go_enter Try.func8, Try.ntmps8
          go_wp2_with fail
          rw [HCUT.out]
          refine (HEN.out _).mono ?_
          rintro e w1 ⟨A1, c1, rfl, hc1, o1, b1⟩
          have O1 := Lib.hid o1
          clear o1
          go_wp2_with fail
          refine (HEN1.out _).mono ?_
          rintro e w2 ⟨A2, c2, rfl, hc2, o2, b2⟩
          have O2 := Lib.hid o2
          clear o2
          go_wp2_with fail
          refine (HEN2.out _).mono ?_
          rintro e w3 ⟨A3, c3, rfl, hc3, o3, b3⟩
          have O3 := Lib.hid o3
          clear o3
          have hbase : w1.heap.size ≤ w3.heap.size := Nat.le_trans b2.size b3.size
          go_wp2_with (at_builtin; refine wpList_append_at rfl _ _ _ rfl byteElem w1.heap.size _ res1.length (Lib.byteCells res1) rfl (own_below O2.out b3) w3.heap.size A3 res2.length c3 (Lib.byteCells res2) rfl (own_at O3.out) (by rw [byteCells_len]; omega) (byteCells_one res2) (by unfold maxLen; omega) (by omega) hbase ?_; intro A4 c4 w4 o4 g4)
          have hl : res.length = res1.length + res2.length := by rw [← HR.out, List.length_append]
          have o4' : w4.ownsRow w1.heap.size 5 1 (.slice A4 (res1.length + res2.length) c4) (res1.length + res2.length) (Lib.byteCells res) := by
            rw [← HR.out]
            simpa [Lib.byteCells] using o4
          have b23 : Below w1.heap.size w1 w3 := b2.trans (b3.mono b2.size)
          have b14 : Below w1.heap.size w1 w4 := b23.grown g4 b23.size (own_ge O2.out)
          have b04 : Below w.heap.size w w4 := b1.trans (b14.mono b1.size)
          have O4 := Lib.hid o4'
          have HL := Lib.hid hl
          clear o4 o4' g4 hl
          go_wp2_with fail
          rw [← HL.out]
          have hO4 := O4.out
          rw [← HL.out] at hO4
          refine (same_yes A1 A4 res res.length c1 c4 _ w4.heap.size rfl (((own_at O1.out).below b14).mono b14.size) (own_at hO4) (by unfold maxLen; omega)).mono ?_
          rintro e w5 ⟨rfl, st5⟩
          clear hO4
          have b05 : Below w.heap.size w w5 := b04.trans (st5.mono b04.size)
          have b15 : Below w1.heap.size w1 w5 := b14.trans (st5.mono b14.size)
          go_wp2_with fail
          refine (decode_lit A1 res res.length c1 s _ (((own_at O1.out).below b15).mono b15.size) rfl HD.out (by omega)).mono ?_
          rintro e w6 ⟨rfl, b6⟩
          have b06 : Below w.heap.size w w6 := b05.trans (b6.mono b05.size)
          go_wp2_with fail
          refine (works_any _).mono ?_
          rintro e w7 ⟨rfl, b7⟩
          go_wp2
          go_ret
          exact ⟨rfl, b06.trans (b7.mono b06.size)⟩
        · rw [hfine, f1, f2] at f0; cases f0
      · rcases hcase with ⟨rfl, f0, _⟩ | ⟨rfl, _, _⟩
        · rw [hfine, f1, f2] at f0; cases f0
        · clear hfine henc f1 f2 r1 r2
          go_enter Try.func8, Try.ntmps8
          go_wp2_with fail
          rw [HCUT.out]
          refine (HEN.out _).mono ?_
          rintro e w1 ⟨A1, c1, rfl, hc1, _, b1⟩
          go_wp2_with fail
          refine (HEN1.out _).mono ?_
          rintro e w2 ⟨A2, c2, rfl, hc2, _, b2⟩
          go_wp2_with fail
          refine (HEN2.out _).mono ?_
          rintro e w3 ⟨A3, c3, rfl, hc3, _, b3⟩
          have b02 := b1.trans (b2.mono b1.size)
          have b03 := b02.trans (b3.mono b02.size)
          go_wp2_with fail
          refine (works_any _).mono ?_
          rintro e w7 ⟨rfl, b7⟩
          go_wp2
          go_ret
          exact ⟨rfl, b03.trans (b7.mono b03.size)⟩
    · rcases hcase with ⟨rfl, f0, _⟩ | ⟨rfl, _, _⟩
      · rw [hfine, f1] at f0; cases f0
      · have hc2 : (code2 == 0) = true ∨ (code2 == 0) = false := by cases (code2 == 0) <;> simp
        clear hfine henc f1 r1 hcase2
        go_enter Try.func8, Try.ntmps8
        go_wp2_with fail
        rw [HCUT.out]
        refine (HEN.out _).mono ?_
        rintro e w1 ⟨A1, c1, rfl, hc1, _, b1⟩
        go_wp2_with fail
        refine (HEN1.out _).mono ?_
        rintro e w2 ⟨A2, c2, rfl, hc2, _, b2⟩
        go_wp2_with fail
        refine (HEN2.out _).mono ?_
        rintro e w3 ⟨A3, c3, rfl, hc3, _, b3⟩
        have b02 := b1.trans (b2.mono b1.size)
        have b03 := b02.trans (b3.mono b02.size)
        go_wp2_with fail
        refine (works_any _).mono ?_
        rintro e w7 ⟨rfl, b7⟩
        go_wp2
        go_ret
        exact ⟨rfl, b03.trans (b7.mono b03.size)⟩

end Go.Proofs.Ytijkckhgaigbgaa
