/- newDevice. -/
import Derived.Test.YtfhpaehfihnjaaaGreatNewM
import Derived.Test.YtfhpaehfihnjaaaGreatSetX
namespace Go.Proofs.YtfhpaehfihnjaaaGreat
open Go.RowKit
def confA (c : Conf) : Array Value := #[.int .i64 c.addr, .int .i64 c.kind, .string c.serial, .int .i64 c.cyls, .int .i64 c.heads]
def NewDev (W : World) (F : List SA) (c : Conf) (e : Ending) (w' : World) : Prop :=
  match confDev c with
  | some d => ∃ db, e = .returned (.tuple #[devV db d, .bool true]) ∧ SL W (devS db d :: F) w'
  | none => ∃ v, e = .returned (.tuple #[v, .bool false]) ∧ SL W F w'
theorem DeckNil (W : World) (F : List SA) : U.DeckRd W F none [] := ⟨0, 0, fun _ => (none, 0), fun w S j x h => by simp at h⟩
theorem BlksNil (W : World) (F : List SA) : T.BlksRd W F none [] := fun w S i b h => by simp at h
section
variable {W w : World} {F : List SA}
set_option maxRecDepth 100000 in
set_option maxHeartbeats 8000000 in
theorem newDevice_any (c : Conf) (hz : c.serial.size ≤ 140737488355328) (S : SL W F w) : Calls Tryz.prog 23 #[.agg (confA c)] w (NewDev W F c) := by
  obtain ⟨ca, ck, cs, cc, ch⟩ := c
  unfold confA
  dsimp only at hz ⊢
  have HB := Lib.hid (S.allocC #[.int .i64 ca, .int .i64 ck, .string cs, .int .i64 cc, .int .i64 ch] 68)
  obtain ⟨L, K, z⟩ := HB.out.look
  unfold NewDev confDev
  dsimp only
  clear S
  by_cases h1 : ck = 1
  · subst h1
    rw [if_pos rfl]
    dsimp only
    go_enter Tryz.func23, Tryz.ntmps23
    go_wp2_with fail
    refine (U.rnew_any [] none 0 HB.out (DeckNil _ _) (Nat.zero_le _)).mono ?_
    rintro e w1 ⟨h0, _⟩
    obtain ⟨rb, rfl, S1⟩ := h0 (by decide)
    have H1 := Lib.hid S1
    clear S1 h0
    go_wp2
    go_ret2
    exact ⟨rb, rfl, H1.out.s1.drop⟩
  rw [if_neg h1]
  have t1 : (ck == 1) = false := by simpa using h1
  by_cases h2 : ck = 2
  · subst h2
    rw [if_pos rfl]
    dsimp only
    go_enter Tryz.func23, Tryz.ntmps23
    go_wp2_with fail
    refine (U.punnew_any HB.out).mono ?_
    rintro e w1 ⟨rb, rfl, S1⟩
    have H1 := Lib.hid S1
    clear S1
    go_wp2
    go_ret2
    exact ⟨rb, rfl, H1.out.s1.drop⟩
  rw [if_neg h2]
  have t2 : (ck == 2) = false := by simpa using h2
  by_cases h3 : ck = 3
  · subst h3
    rw [if_pos rfl]
    dsimp only
    go_enter Tryz.func23, Tryz.ntmps23
    go_wp2_with fail
    refine (U.prnew_any HB.out).mono ?_
    rintro e w1 ⟨rb, rfl, S1⟩
    have H1 := Lib.hid S1
    clear S1
    go_wp2
    go_ret2
    exact ⟨rb, rfl, H1.out.s1.drop⟩
  rw [if_neg h3]
  have t3 : (ck == 3) = false := by simpa using h3
  by_cases h4 : ck = 4
  · subst h4
    rw [if_pos rfl]
    have HC := Lib.hid (T.new_any cs none [] 0 HB.out (BlksNil _ _) hz (Nat.zero_le _) (fun b h => by cases h))
    cases hs : T.serOk cs with
    | true =>
      have he : T.newErr cs [] = 0 := by unfold T.newErr; rw [hs]; rfl
      rw [if_pos rfl]
      dsimp only
      have HE := Lib.hid he
      clear he hs
      go_enter Tryz.func23, Tryz.ntmps23
      go_wp2_with fail
      refine HC.out.mono ?_
      rintro e w1 h
      unfold T.NewS at h
      rw [if_pos HE.out] at h
      obtain ⟨rb, rfl, S1⟩ := h
      have H1 := Lib.hid S1
      clear S1
      go_wp2
      go_ret2
      exact ⟨rb, rfl, H1.out.s1.drop⟩
    | false =>
      have he : T.newErr cs [] = 1 := by unfold T.newErr; rw [if_pos hs]
      rw [if_neg (by decide)]
      dsimp only
      have HE := Lib.hid he
      clear he hs
      go_enter Tryz.func23, Tryz.ntmps23
      go_wp2_with fail
      refine HC.out.mono ?_
      rintro e w1 h
      unfold T.NewS at h
      rw [if_neg (by rw [HE.out]; decide), HE.out] at h
      obtain ⟨rfl, S1⟩ := h
      have H1 := Lib.hid S1
      clear S1
      go_wp2
      go_ret2
      exact ⟨_, rfl, H1.out.drop⟩
  rw [if_neg h4]
  have t4 : (ck == 4) = false := by simpa using h4
  by_cases h5 : ck = 5
  · subst h5
    rw [if_pos rfl]
    have HC := Lib.hid (D.new_any cs hz cc ch HB.out)
    cases hs : D.newOk cs cc ch with
    | true =>
      rw [if_pos rfl]
      dsimp only
      have HE := Lib.hid hs
      clear hs
      go_enter Tryz.func23, Tryz.ntmps23
      go_wp2_with fail
      refine HC.out.mono ?_
      rintro e w1 h
      unfold D.NewR at h
      rw [if_pos HE.out] at h
      obtain ⟨rb, rfl, S1⟩ := h
      have H1 := Lib.hid S1
      clear S1
      go_wp2
      go_ret2
      exact ⟨rb, rfl, H1.out.s1.drop⟩
    | false =>
      rw [if_neg (by decide)]
      dsimp only
      have HE := Lib.hid hs
      clear hs
      go_enter Tryz.func23, Tryz.ntmps23
      go_wp2_with fail
      refine HC.out.mono ?_
      rintro e w1 h
      unfold D.NewR at h
      rw [if_neg (by rw [HE.out]; decide)] at h
      obtain ⟨rfl, S1⟩ := h
      have H1 := Lib.hid S1
      clear S1
      go_wp2
      go_ret2
      exact ⟨_, rfl, H1.out.drop⟩
  rw [if_neg h5]
  have t5 : (ck == 5) = false := by simpa using h5
  dsimp only
  clear h1 h2 h3 h4 h5
  go_enter Tryz.func23, Tryz.ntmps23
  go_wp2
  go_ret2
  exact ⟨_, rfl, HB.out.drop⟩
end
end Go.Proofs.YtfhpaehfihnjaaaGreat
