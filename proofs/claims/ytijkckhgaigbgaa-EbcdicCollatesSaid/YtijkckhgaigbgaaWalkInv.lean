import Derived.Test.YtijkckhgaigbgaaWorks
namespace Go.Proofs.Ytijkckhgaigbgaa
open Go.RowKit Job.Ebcdic

set_option maxHeartbeats 2000000 in
theorem walk_ebcdicInverse (w : World) (c b : UInt8) :
    Calls Try.prog 7 #[.int .u8 (c.toNat : Int), .int .u8 (b.toNat : Int)] w fun e w' => e = .returned (.bool true) ∧ Below w.heap.size w w' := by
  have hcc := char_code c
  have hch := hasChar_code c
  have hbb := code_char b
  have hbh := hasCode_char b
  have HCC := Lib.hid hcc
  have HCH := Lib.hid hch
  have HBB := Lib.hid hbb
  have HBH := Lib.hid hbh
  clear hcc hch hbb hbh
  cases hc : hasCode c
  · have hb : ¬ (32 ≤ c.toNat ∧ c.toNat ≤ 126) := by simpa [hasCode] using hc
    have HC := Lib.hid hc
    clear hc
    have hd : (decide (32 ≤ (c.toNat : Int)) = true ∧ decide ((c.toNat : Int) ≤ 126) = false) ∨ decide (32 ≤ (c.toNat : Int)) = false := by
      simp only [decide_eq_true_eq, decide_eq_false_iff_not]; omega
    rcases hd with ⟨d1, d2⟩ | d1
    all_goals
      go_enter Try.func7, Try.ntmps7
      go_wp2_with fail
      refine (code_any c _).mono ?_
      rw [HC.out]
      rintro e w1 ⟨rfl, rfl⟩
      go_wp2_with fail
      refine (char_any b _).mono ?_
      cases hhb : hasChar b
      · rintro e w1 ⟨rfl, rfl⟩
        go_wp2_with fail
        refine (works_any _).mono ?_
        rintro e w1 ⟨rfl, hb1⟩
        go_wp2
        go_ret
        exact ⟨rfl, hb1⟩
      · rintro e w1 ⟨rfl, rfl⟩
        have HHB := Lib.hid hhb
        clear hhb
        go_wp2_with fail
        refine (code_any (char b) _).mono ?_
        rw [HBB.out HHB.out, HBH.out HHB.out]
        rintro e w1 ⟨rfl, rfl⟩
        go_wp2_with fail
        refine (works_any _).mono ?_
        rintro e w1 ⟨rfl, hb1⟩
        go_wp2
        go_ret
        exact ⟨rfl, hb1⟩
  · have hb : 32 ≤ c.toNat ∧ c.toNat ≤ 126 := by simpa [hasCode] using hc
    obtain ⟨h1, h2⟩ := hb
    have HC := Lib.hid hc
    clear hc
    have d1 : decide (32 ≤ (c.toNat : Int)) = true := by simp only [decide_eq_true_eq]; omega
    have d2 : decide ((c.toNat : Int) ≤ 126) = true := by simp only [decide_eq_true_eq]; omega
    go_enter Try.func7, Try.ntmps7
    go_wp2_with fail
    refine (code_any c _).mono ?_
    rw [HC.out]
    rintro e w1 ⟨rfl, rfl⟩
    go_wp2_with fail
    refine (char_any (code c) _).mono ?_
    rw [HCC.out HC.out, HCH.out HC.out]
    rintro e w1 ⟨rfl, rfl⟩
    go_wp2_with fail
    refine (char_any b _).mono ?_
    cases hhb : hasChar b
    · rintro e w1 ⟨rfl, rfl⟩
      go_wp2_with fail
      refine (works_any _).mono ?_
      rintro e w1 ⟨rfl, hb1⟩
      go_wp2
      go_ret
      exact ⟨rfl, hb1⟩
    · rintro e w1 ⟨rfl, rfl⟩
      have HHB := Lib.hid hhb
      clear hhb
      go_wp2_with fail
      refine (code_any (char b) _).mono ?_
      rw [HBB.out HHB.out, HBH.out HHB.out]
      rintro e w1 ⟨rfl, rfl⟩
      go_wp2_with fail
      refine (works_any _).mono ?_
      rintro e w1 ⟨rfl, hb1⟩
      go_wp2
      go_ret
      exact ⟨rfl, hb1⟩

/-- jobshoplaw02.group -/
def grp (c : UInt8) : Int := if c.toNat = 32 then 1 else if 97 ≤ c.toNat ∧ c.toNat ≤ 122 then 2 else if 65 ≤ c.toNat ∧ c.toNat ≤ 90 then 3 else if 48 ≤ c.toNat ∧ c.toNat ≤ 57 then 4 else 0

set_option maxHeartbeats 1000000 in
theorem group_any (c : UInt8) (w : World) : Calls Try.prog 25 #[.int .u8 (c.toNat : Int)] w fun e w' => e = .returned (.int .i64 (grp c)) ∧ w = w' := by
  go_enter Try.func25, Try.ntmps25
  go_wp2
  all_goals go_ret
  all_goals refine ⟨ret_int ?_, rfl⟩
  all_goals unfold grp
  all_goals simp_all
  all_goals omega

theorem collates (c d : UInt8) (h : ¬ (grp c = 0 ∨ grp d = 0 ∨ grp d < grp c ∨ grp c = grp d ∧ d.toNat ≤ c.toNat)) : hasCode c = true ∧ hasCode d = true ∧ (code c).toNat < (code d).toNat := by
  have := every (fun c => (List.range 256).all fun n => let d := UInt8.ofNat n; decide (grp c = 0 ∨ grp d = 0 ∨ grp d < grp c ∨ grp c = grp d ∧ d.toNat ≤ c.toNat) || (hasCode c && hasCode d && decide ((code c).toNat < (code d).toNat))) (by decide +kernel) c
  have := List.all_eq_true.1 this d.toNat (by simpa using d.toNat_lt)
  simp only [UInt8.ofNat_toNat, Bool.or_eq_true, decide_eq_true_eq, Bool.and_eq_true] at this
  rcases this with h1 | ⟨⟨h1, h2⟩, h3⟩
  · exact absurd h1 h
  · exact ⟨h1, h2, h3⟩

theorem grp_bool (c d : UInt8) : (grp c = 0 ∨ grp d = 0 ∨ grp d < grp c ∨ grp c = grp d ∧ d.toNat ≤ c.toNat) ∨
    ((grp c == 0) = false ∧ (grp d == 0) = false ∧ decide (grp d < grp c) = false ∧ ((grp c == grp d) = false ∨ ((grp c == grp d) = true ∧ decide (d.toNat ≤ c.toNat) = false))) := by
  simp only [beq_eq_false_iff_ne, beq_iff_eq, decide_eq_false_iff_not]
  omega

set_option maxHeartbeats 2000000 in
theorem walk_ebcdicCollates (w : World) (c d : UInt8) :
    Calls Try.prog 9 #[.int .u8 (c.toNat : Int), .int .u8 (d.toNat : Int)] w fun e w' => e = .returned (.bool true) ∧ Below w.heap.size w w' := by
  have hgc : ∀ w, Calls Try.prog 25 #[.int .u8 (c.toNat : Int)] w fun e w' => e = .returned (.int .i64 (grp c)) ∧ w = w' := fun w => group_any c w
  have hgd : ∀ w, Calls Try.prog 25 #[.int .u8 (d.toNat : Int)] w fun e w' => e = .returned (.int .i64 (grp d)) ∧ w = w' := fun w => group_any d w
  have HGC := Lib.hid hgc
  have HGD := Lib.hid hgd
  clear hgc hgd
  by_cases hx : grp c = 0 ∨ grp d = 0 ∨ grp d < grp c ∨ grp c = grp d ∧ d.toNat ≤ c.toNat
  · have hbs : (grp c == 0) = true ∨ ((grp c == 0) = false ∧ (grp d == 0) = true) ∨ ((grp c == 0) = false ∧ (grp d == 0) = false ∧ decide (grp d < grp c) = true) ∨
        ((grp c == 0) = false ∧ (grp d == 0) = false ∧ decide (grp d < grp c) = false ∧ (grp c == grp d) = true ∧ decide (d.toNat ≤ c.toNat) = true) := by
      simp only [beq_eq_false_iff_ne, beq_iff_eq, decide_eq_false_iff_not, decide_eq_true_eq]
      omega
    clear hx
    generalize grp c = gc at *
    generalize grp d = gd at *
    rcases hbs with g1 | ⟨g1, g2⟩ | ⟨g1, g2, g3⟩ | ⟨g1, g2, g3, g4, g5⟩
    all_goals
      go_enter Try.func9, Try.ntmps9
      go_wp2_with fail
      refine (HGC.out _).mono ?_
      rintro e w1 ⟨rfl, rfl⟩
      go_wp2_with fail
      refine (HGD.out _).mono ?_
      rintro e w1 ⟨rfl, rfl⟩
      go_wp2_with fail
      refine (works_any _).mono ?_
      rintro e w1 ⟨rfl, hb1⟩
      go_wp2
      go_ret
      exact ⟨rfl, hb1⟩
  · obtain ⟨hc, hd, hlt⟩ := collates c d hx
    have hbs := (grp_bool c d).resolve_left hx
    have HC := Lib.hid hc
    have HD := Lib.hid hd
    have hlt' : decide ((code c).toNat < (code d).toNat) = true := by simp only [decide_eq_true_eq]; omega
    clear hx hc hd hlt
    generalize grp c = gc at *
    generalize grp d = gd at *
    obtain ⟨g1, g2, g3, g4 | ⟨g4, g5⟩⟩ := hbs
    all_goals
      go_enter Try.func9, Try.ntmps9
      go_wp2_with fail
      refine (HGC.out _).mono ?_
      rintro e w1 ⟨rfl, rfl⟩
      go_wp2_with fail
      refine (HGD.out _).mono ?_
      rintro e w1 ⟨rfl, rfl⟩
      go_wp2_with fail
      refine (code_any c _).mono ?_
      rw [HC.out]
      rintro e w1 ⟨rfl, rfl⟩
      go_wp2_with fail
      refine (code_any d _).mono ?_
      rw [HD.out]
      rintro e w1 ⟨rfl, rfl⟩
      go_wp2_with fail
      refine (works_any _).mono ?_
      rintro e w1 ⟨rfl, hb1⟩
      go_wp2
      go_ret
      exact ⟨rfl, hb1⟩

end Go.Proofs.Ytijkckhgaigbgaa
