/- passed of the reference. -/
import Derived.Test.YtbbokikjpabfkaaQWrite
namespace Go.Proofs.Ytbbokikjpabfkaa
open Go.RowKit

section
variable {W w w' : World} {F : List SA} {qb : Nat}
/-- check, on the cells alone. -/
theorem qcheckC (n : Int) {a0 a1 a2 a3 a4 a5 a6 a7 a8 : Value} (S : SL W (cel qb #[a0, a1, a2, a3, a4, a5, a6, a7, a8] 67 :: F) w) : Calls Try.prog 45 #[.pointer (some ⟨qb, 0, none⟩), .int .i64 n] w fun e w' => e = .returned (.agg #[.slice none 0 0, .int .i64 14, .int .i64 n]) ∧ SL W (cel qb #[a0, a1, a2, a3, .int .i64 n, a5, a6, a7, a8] 67 :: F) w' := by
  obtain ⟨L, K, z⟩ := S.look
  have H1 := Lib.hid ((SL.set (off := 4) (v := .int .i64 n) (cs' := #[a0, a1, a2, a3, .int .i64 n, a5, a6, a7, a8]) S rfl).allocC #[.slice none 0 0, .int .i64 14, .int .i64 n] 31)
  clear S
  go_enter Try.func45, Try.ntmps45
  go_wp2
  exact bodyPost_ret (v := .agg #[.slice none 0 0, .int .i64 14, .int .i64 n]) (by simp [results, Try.results45, go_sem]) rfl ⟨rfl, H1.out.drop⟩
set_option maxHeartbeats 8000000 in
theorem qpassed_any (A : Option Addr) (c : Nat) (b : Blk) (rd rv : Bool) {a0 a1 a2 a3 a5 a6 a7 a8 : Value} {se : Int} (S : SL W (cel qb #[a0, a1, a2, a3, .int .i64 se, a5, a6, a7, a8] 67 :: F) w) (hr : Rd W F A (Lib.byteCells b.data)) (hl : b.data.length ≤ 1073741824) :
    Calls Try.prog 56 #[.pointer (some ⟨qb, 0, none⟩), .agg #[.bool b.mark, .slice A b.data.length c, .bool b.bad], .bool rd, .bool rv] w fun e w' =>
      RetS W (cel qb #[a0, a1, a2, a3, .int .i64 (if (tpPassed b rd rv).2.1 = 14 then 8 else se), a5, a6, a7, a8] 67 :: F) (tpPassed b rd rv) e w' := by
  have HR := Lib.hid hr
  have HE := Lib.hid (And.intro qfine_any qexc_any)
  obtain ⟨l, mk, bd⟩ := b
  dsimp only at *
  have H1 : Hid (SL W (cel (w.heap.size + 1) #[.slice none 0 0, .int .i64 0, .int .i64 0] 31 :: cel w.heap.size #[.bool mk, .slice A l.length c, .bool bd] 25 :: cel qb #[a0, a1, a2, a3, .int .i64 se, a5, a6, a7, a8] 67 :: F) ((w.alloc (.cells #[.bool mk, .slice A l.length c, .bool bd] 25)).alloc (.cells #[.slice none 0 0, .int .i64 0, .int .i64 0] 31))) :=
    Lib.hid (by
      have h := (S.allocC #[.bool mk, .slice A l.length c, .bool bd] 25).allocC #[.slice none 0 0, .int .i64 0, .int .i64 0] 31
      rw [World.size_alloc] at h
      exact h)
  clear S hr
  cases mk with
  | true =>
    have e1 : tpPassed ⟨l, true, bd⟩ rd rv = ([], 13, 0) := rfl
    rw [e1, if_neg (by simp)]
    clear e1
    go_enter Try.func56, Try.ntmps56
    go_wp2_with ((with_reducible refine (HE.out.2 _).mono ?_); rintro e w2 ⟨rfl, b2⟩; have H2 := Lib.hid (H1.out.grow b2); clear b2; obtain ⟨L2, K2, z2⟩ := H2.out.look)
    refine bodyPost_ret (v := .agg #[.slice none 0 0, .int .i64 13, .int .i64 0]) (by simp [results, Try.results56, go_sem, L2]) rfl ?_
    exact RetS.of (st := 13) (sn := 0) H2.out.set3.drop.drop
  | false =>
    cases rd with
    | false =>
      have e1 : tpPassed ⟨l, false, bd⟩ false rv = ([], 12, 0) := rfl
      rw [e1, if_neg (by simp)]
      clear e1
      go_enter Try.func56, Try.ntmps56
      go_wp2_with ((with_reducible refine (HE.out.1 none 0 0 _).mono ?_); rintro e w2 ⟨rfl, b2⟩; have H2 := Lib.hid (H1.out.grow b2); clear b2; obtain ⟨L2, K2, z2⟩ := H2.out.look)
      refine bodyPost_ret (v := .agg #[.slice none 0 0, .int .i64 12, .int .i64 0]) (by simp [results, Try.results56, go_sem, L2]) rfl ?_
      exact RetS.of (st := 12) (sn := 0) H2.out.set3.drop.drop
    | true =>
      cases bd with
      | true =>
        have HC := Lib.hid (qcheckC 8 H1.out.s2)
        have e1 : tpPassed ⟨l, false, true⟩ true rv = ([], 14, 8) := rfl
        rw [e1, if_pos rfl]
        clear e1
        go_enter Try.func56, Try.ntmps56
        go_wp2_with ((with_reducible refine HC.out.mono ?_); rintro e w2 ⟨rfl, S2⟩; have H2 := Lib.hid S2.s1; clear S2; obtain ⟨L2, K2, z2⟩ := H2.out.look)
        refine bodyPost_ret (v := .agg #[.slice none 0 0, .int .i64 14, .int .i64 8]) (by simp [results, Try.results56, go_sem, L2]) rfl ?_
        exact RetS.of (st := 14) (sn := 8) H2.out.set3.drop.s1.drop
      | false =>
        obtain ⟨tl, htl⟩ : ∃ tl, (if rv then l.reverse else l) = tl := ⟨_, rfl⟩
        have htn : tl.length = l.length := by rw [← htl]; cases rv <;> simp
        have e1 : tpPassed ⟨l, false, false⟩ true rv = (tl, 12, 0) := by rw [← htl]; cases rv <;> rfl
        rw [e1, if_neg (by simp)]
        have HT := Lib.hid htn
        have HL := Lib.hid htl
        clear htl htn e1
        go_enter Try.func56, Try.ntmps56
        go_wp2
        generalize w.heap.size = xb at *
        go_loopw [9, 10] (fun o i wr => ∃ (k : Nat) (A3 : Option Addr) (c3 : Nat), k ≤ l.length ∧ i = .int .i64 (k : Int) ∧ o = .slice A3 k c3 ∧ SL W (rowS 5 1 (.slice A3 k c3) k (Lib.byteCells (tl.take k)) :: cel (xb + 1) #[.slice none 0 0, .int .i64 0, .int .i64 0] 31 :: cel xb #[.bool false, .slice A l.length c, .bool false] 25 :: cel qb #[a0, a1, a2, a3, .int .i64 se, a5, a6, a7, a8] 67 :: F) wr) (fun _ i _ => l.length - (intOf i).toNat)
        case atStart => exact ⟨0, none, 0, Nat.zero_le _, rfl, rfl, H1.out.nil _ _⟩
        case round =>
          obtain ⟨k, A3, c3, hk, rfl, rfl, S1⟩ := hrel
          have H2 := Lib.hid S1
          clear S1 H1
          obtain ⟨L, K, z⟩ := H2.out.s2.look
          by_cases hlt : k < l.length
          · cases rv with
            | true =>
              obtain ⟨m, hm⟩ : ∃ m, l.length - 1 - k = m := ⟨_, rfl⟩
              have e0 : (l.length : Int) - 1 - (k : Int) = (m : Int) := by omega
              have hm2 : m < l.length := by omega
              have hg : (Lib.byteCells l)[m]? = some (.int .u8 ((l[m]'hm2).toNat : Int)) := byteCells_get l m hm2
              obtain ⟨b, off, hA, hb, hc⟩ := HR.out wr H2.out.drop.drop.drop.drop (by intro h; rw [h] at hg; simp at hg)
              subst hA
              have q1 := hc m _ hg
              have hx : tl.take (k + 1) = tl.take k ++ [l[m]'hm2] := by
                rw [← HL.out, if_pos rfl, List.take_add_one, List.getElem?_reverse hlt, hm, List.getElem?_eq_getElem hm2]; rfl
              generalize l[m]'hm2 = x at q1 hx
              have HX := Lib.hid hx
              clear hc hg hx
              go_wp2_with (at_builtin; refine wpList_pushS rfl _ _ _ rfl bElem wr [.int .u8 (x.toNat : Int)] 1 rfl rfl (by simp [Value.oneCell']) _ k _ rfl rfl H2.out (by unfold maxLen; omega) (by omega) ?_
                           intro A6 c6 w6 S6
                           have H6 := Lib.hid S6
                           clear S6 H2)
              go_roundw
              case rel =>
                refine ⟨k + 1, A6, c6, by omega, by go_num, rfl, ?_⟩
                rw [HX.out]
                have h := H6.out
                have e : Lib.byteCells (tl.take k) ++ [.int .u8 (x.toNat : Int)] = Lib.byteCells (tl.take k ++ [x]) := by simp [Lib.byteCells]
                rw [e] at h
                exact h
              case measure => first | (simp [intOf]; done) | (simp [intOf]; omega)
            | false =>
              have hg : (Lib.byteCells l)[k]? = some (.int .u8 ((l[k]'hlt).toNat : Int)) := byteCells_get l k hlt
              obtain ⟨b, off, hA, hb, hc⟩ := HR.out wr H2.out.drop.drop.drop.drop (by intro h; rw [h] at hg; simp at hg)
              subst hA
              have q1 := hc k _ hg
              have hx : tl.take (k + 1) = tl.take k ++ [l[k]'hlt] := by
                rw [← HL.out, if_neg (by decide), List.take_add_one, List.getElem?_eq_getElem hlt]; rfl
              generalize l[k]'hlt = x at q1 hx
              have HX := Lib.hid hx
              clear hc hg hx
              go_wp2_with (at_builtin; refine wpList_pushS rfl _ _ _ rfl bElem wr [.int .u8 (x.toNat : Int)] 1 rfl rfl (by simp [Value.oneCell']) _ k _ rfl rfl H2.out (by unfold maxLen; omega) (by omega) ?_
                           intro A6 c6 w6 S6
                           have H6 := Lib.hid S6
                           clear S6 H2)
              go_roundw
              case rel =>
                refine ⟨k + 1, A6, c6, by omega, by go_num, rfl, ?_⟩
                rw [HX.out]
                have h := H6.out
                have e : Lib.byteCells (tl.take k) ++ [.int .u8 (x.toNat : Int)] = Lib.byteCells (tl.take k ++ [x]) := by simp [Lib.byteCells]
                rw [e] at h
                exact h
              case measure => first | (simp [intOf]; done) | (simp [intOf]; omega)
          · obtain rfl : k = l.length := by omega
            have hn : tl.take l.length = tl := by rw [← HT.out]; exact List.take_of_length_le (Nat.le_refl _)
            rw [hn] at H2
            clear hn
            go_wp2_with ((with_reducible refine (HE.out.1 A3 l.length c3 _).mono ?_); rintro e w4 ⟨rfl, b4⟩; have H4 := Lib.hid (H2.out.grow b4).s1; clear b4; obtain ⟨L2, K2, z2⟩ := H4.out.look)
            have H5 := H4.out.set3 (u0 := .slice A3 l.length c3) (u1 := .int .i64 12) (u2 := .int .i64 0)
            refine bodyPost_ret (v := .agg #[.slice A3 l.length c3, .int .i64 12, .int .i64 0]) (by simp [results, Try.results56, go_sem, L2]) rfl ?_
            rw [← HT.out] at H5 ⊢
            exact ⟨A3, c3, rfl, H5.drop.s1.drop⟩
end
end Go.Proofs.Ytbbokikjpabfkaa
