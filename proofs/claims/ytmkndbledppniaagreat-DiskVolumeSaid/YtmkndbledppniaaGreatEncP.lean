/- Encode of the program. -/
import Derived.Test.YtmkndbledppniaaGreatRep
namespace Go.Proofs.YtmkndbledppniaaGreat
open Go.RowKit
def encE (c h : Int) (rs : List Rec) : Nat := if 0 ≤ c ∧ c ≤ 65535 ∧ 0 ≤ h ∧ h ≤ 65535 then (if validB rs && !(rs.any Rec.bad) then 0 else 1) else 6
def encB (c h : Int) (rs : List Rec) : List UInt8 := if encE c h rs = 0 then encL c.toNat h.toNat rs ++ ff8 else []
/-- What a function leaves that returns bytes in new memory and a number. -/
def RetBy (W : World) (F : List SA) (l : List UInt8) (er : Nat) (e : Ending) (w' : World) : Prop :=
  ∃ A c, e = .returned (.tuple #[.slice A l.length c, .int .i64 (er : Int)]) ∧ SL W (rowS 5 1 (.slice A l.length c) l.length (Lib.byteCells l) :: F) w'
theorem encR_len {c h : Nat} {x : Rec} : (encR c h x).length = 8 + x.key.length + x.data.length := by simp [encR, halfL]; omega
theorem encL_len {c h : Nat} : ∀ {rs : List Rec}, (encL c h rs).length ≤ usedN rs
  | [] => by simp [encL]
  | x :: rs => by
    have ih := encL_len (c := c) (h := h) (rs := rs)
    unfold encL usedN at *
    simp only [List.flatMap_cons, List.length_append, List.map_cons, List.sum_cons, encR_len, Rec.cost, costN]
    split <;> omega
theorem encL_take {c h : Nat} {rs : List Rec} {k : Nat} {x : Rec} (hx : rs[k]? = some x) : encL c h (rs.take (k + 1)) = encL c h (rs.take k) ++ encR c h x := by
  rw [List.take_add_one, hx]; simp [encL]
theorem used_take {rs : List Rec} (k : Nat) : usedN (rs.take k) ≤ usedN rs := by
  have h := usedN_app (rs.take k) (rs.drop k)
  rw [List.take_append_drop] at h
  omega
theorem used_mem {rs : List Rec} {k : Nat} {x : Rec} (hx : rs[k]? = some x) : x.cost ≤ usedN rs := by
  have h := usedN_take hx
  have := used_take (rs := rs) (k + 1)
  omega
theorem valid_rec {rs : List Rec} (hv : validB rs = true) {k : Nat} {x : Rec} (hx : rs[k]? = some x) : 1 ≤ x.r ∧ x.r ≤ 255 ∧ x.key.length ≤ 255 ∧ x.data.length ≤ 2016 := by
  obtain ⟨h1, h2⟩ := validB_iff.1 hv
  have h3 := h1 k (List.getElem?_eq_some_iff.1 hx).1
  have h4 : x.valid = true := by
    unfold okAt at h3
    rw [hx] at h3
    simp only [Bool.and_eq_true] at h3
    exact h3.1
  unfold Rec.valid valid1 at h4
  simp only [Bool.and_eq_true, decide_eq_true_iff] at h4
  have h5 := used_mem hx
  unfold Rec.cost costN at h5
  refine ⟨h4.1.1, h4.1.2, h4.2, ?_⟩
  split at h5 <;> omega
section
variable {W w : World} {F : List SA}
theorem RetBy.nil {w' : World} {er : Nat} {i : Int} (S : SL W F w') (h : (er : Int) = i) : RetBy W F [] er (.returned (.tuple #[.slice none 0 0, .int .i64 i])) w' :=
  ⟨none, 0, by rw [h]; rfl, S.nil _ _⟩
set_option maxHeartbeats 1000000 in
theorem bad1_any (x : Rec) (Ak Ad : Option Addr) (ck cd : Nat) (w : World) :
    Calls Tryz.prog 97 #[.agg #[.int .i64 x.r, .slice Ak x.key.length ck, .slice Ad x.data.length cd, .bool x.bad]] w fun e w' => e = .returned (.bool x.bad) ∧ Below w.heap.size w w' := by
  go_enter Tryz.func97, Tryz.ntmps97
  go_wp2
  go_ret
  exact ⟨rfl, by (repeat' (first | (with_reducible exact Below.refl _ _) | (with_reducible assumption) | (with_reducible refine below_drewN ?_ _) | (with_reducible refine Below.drew ?_) | (with_reducible refine Below.alloc ?_ ?_ _) | (with_reducible refine Below.setCell ?_ ?_ _) | (with_reducible refine below_row ?_ ?_ _) | (with_reducible exact Nat.le_refl _) | omega | (simp only [World.size_alloc, World.size_setCell, World.size_drew, World.size_drewN]; omega) | (simp; done) | (simp; omega)))⟩
set_option maxRecDepth 100000 in
set_option maxHeartbeats 4000000 in
theorem indexB_any (A : Option Addr) (rs : List Rec) (c : Nat) (w : World) (hr : RecsAt w A rs) (hl : rs.length ≤ maxLen) :
    Calls Tryz.prog 70 #[.slice A rs.length c, .func (.func 97) #[] #[]] w fun e w' => e = .returned (.int .i64 (idxV (rs.findIdx? Rec.bad))) ∧ Below w.heap.size w w' := by
  have HR := Lib.hid hr
  have hfl : rs.length ≤ 9223372036854775807 := by unfold maxLen at hl; omega
  clear hr hl
  go_enter Tryz.func70, Tryz.ntmps70
  go_wp2
  go_loopw [8] (fun i wr => ∃ k : Nat, k ≤ rs.length ∧ i = .int .i64 k ∧ (∀ j y, j < k → rs[j]? = some y → y.bad = false) ∧ Below w.heap.size w wr) (fun i _ => rs.length - (intOf i).toNat)
  case atStart => exact ⟨0, Nat.zero_le _, rfl, fun j y h => absurd h (by omega), Below.refl _ _⟩
  case round =>
    obtain ⟨k, hk, rfl, hok, b1⟩ := hrel
    have B1 := Lib.hid b1
    have HOK := Lib.hid hok
    clear b1 hok
    by_cases hlt : k < rs.length
    · have hx : rs[k]? = some rs[k] := by simp [hlt]
      generalize rs[k] = x at hx
      obtain ⟨g, off, Ak, ck, Ad, cd, hA, k0, k1, k2, k3, a1, _⟩ := HR.out.grow B1.out k x hx
      subst hA
      have HX := Lib.hid hx
      have HK := Lib.hid (bad1_any x Ak Ad ck cd wr)
      clear hx a1
      go_wp2_with fail
      refine HK.out.mono ?_
      rintro e w2 ⟨rfl, b2⟩
      have B2 := Lib.hid (B1.out.trans (b2.mono B1.out.size))
      clear b2 k0 k1 k2 k3 HK
      cases hp : x.bad
      · have HP := Lib.hid hp
        clear hp
        go_wp2
        go_roundw
        case rel => exact ⟨k + 1, by omega, by go_num, fun j y hj hy => (by
          rcases Nat.lt_succ_iff_lt_or_eq.1 hj with h | rfl
          · exact HOK.out j y h hy
          · have hx := HX.out
            rw [hy] at hx; injection hx with hx; subst hx; exact HP.out), B2.out⟩
        case measure => simp [intOf]; omega
      · have HF := Lib.hid (show rs.findIdx? Rec.bad = some k from findIdx_some HX.out hp HOK.out)
        clear hp
        go_wp2
        go_ret
        exact ⟨by rw [HF.out]; rfl, B2.out⟩
    · obtain rfl : k = rs.length := by omega
      have HF := Lib.hid (show rs.findIdx? Rec.bad = none from findIdx_none HOK.out)
      go_wp2
      go_ret
      exact ⟨by rw [HF.out]; rfl, B1.out⟩
theorem anyIdx {rs : List Rec} : decide ((0 : Int) ≤ idxV (rs.findIdx? Rec.bad)) = rs.any Rec.bad := by
  cases h : rs.findIdx? Rec.bad with
  | none =>
    have h2 := List.findIdx?_eq_none_iff.1 h
    have : rs.any Rec.bad = false := List.any_eq_false.2 fun x hx => by simp [h2 x hx]
    rw [this]; rfl
  | some i =>
    rw [List.findIdx?_eq_some_iff_getElem] at h
    obtain ⟨hi, hb, _⟩ := h
    have : rs.any Rec.bad = true := List.any_eq_true.2 ⟨_, List.getElem_mem hi, hb⟩
    rw [this]
    exact decide_eq_true (by show (0 : Int) ≤ (i : Int); omega)
set_option maxHeartbeats 2000000 in
theorem contains_any (A : Option Addr) (rs : List Rec) (c : Nat) (w : World) (hr : RecsAt w A rs) (hl : rs.length ≤ maxLen) :
    Calls Tryz.prog 96 #[.slice A rs.length c, .func (.func 97) #[] #[]] w fun e w' => e = .returned (.bool (rs.any Rec.bad)) ∧ Below w.heap.size w w' := by
  have HI := Lib.hid (indexB_any A rs c w hr hl)
  have HN := Lib.hid (anyIdx (rs := rs))
  generalize idxV (rs.findIdx? Rec.bad) = i at *
  clear hr
  go_enter Tryz.func96, Tryz.ntmps96
  go_wp2_with fail
  refine HI.out.mono ?_
  rintro e w2 ⟨rfl, b2⟩
  have B2 := Lib.hid b2
  clear b2 HI
  go_wp2
  go_ret
  exact ⟨by rw [← HN.out]; rfl, B2.out⟩
set_option maxRecDepth 100000 in
set_option maxHeartbeats 8000000 in
theorem encode_any (A : Option Addr) (rs : List Rec) (c : Nat) (cy hd : Int) (S : SL W F w) (hr : RecsAt w A rs) (hf : Fit rs) :
    Calls Tryz.prog 87 #[.int .i64 cy, .int .i64 hd, .slice A rs.length c] w (RetBy W F (encB cy hd rs) (encE cy hd rs)) := by
  have HS := Lib.hid S
  have HR := Lib.hid hr
  have HF := Lib.hid hf
  have hfl := hf.1
  clear S hr hf
  by_cases hrange : 0 ≤ cy ∧ cy ≤ 65535 ∧ 0 ≤ hd ∧ hd ≤ 65535
  · have HE := Lib.hid (show encE cy hd rs = if validB rs && !(rs.any Rec.bad) then 0 else 1 by unfold encE; rw [if_pos hrange])
    obtain ⟨a1, a2, a3, a4⟩ := hrange
    obtain ⟨cn, rfl⟩ : ∃ n : Nat, cy = n := ⟨cy.toNat, by omega⟩
    obtain ⟨hn, rfl⟩ : ∃ n : Nat, hd = n := ⟨hd.toNat, by omega⟩
    go_enter Tryz.func87, Tryz.ntmps87
    go_wp2_with fail
    refine (valid_any A rs c _ HR.out HF.out).mono ?_
    rintro e w1 ⟨rfl, b1⟩
    have B1 := Lib.hid b1
    clear b1
    cases hv : validB rs
    · have HE2 := Lib.hid (show encE cn hn rs = 1 by rw [HE.out, hv]; rfl)
      have HP := Lib.hid (show encB cn hn rs = [] by unfold encB; rw [HE2.out]; rfl)
      clear hv
      go_wp2
      go_ret2
      rw [HE2.out, HP.out]
      exact RetBy.nil (HS.out.grow B1.out) rfl
    have HV := Lib.hid hv
    clear hv
    go_wp2_with fail
    refine (contains_any A rs c w1 (HR.out.grow B1.out) (by unfold maxLen; omega)).mono ?_
    rintro e w2 ⟨rfl, b2⟩
    have B2 := Lib.hid (B1.out.trans (b2.mono B1.out.size))
    clear b2 B1
    cases hb : rs.any Rec.bad
    case true =>
      have HE2 := Lib.hid (show encE cn hn rs = 1 by rw [HE.out, hb, HV.out]; rfl)
      have HP := Lib.hid (show encB cn hn rs = [] by unfold encB; rw [HE2.out]; rfl)
      clear hb
      go_wp2
      go_ret2
      rw [HE2.out, HP.out]
      exact RetBy.nil (HS.out.grow B2.out) rfl
    have HE2 := Lib.hid (show encE cn hn rs = 0 by rw [HE.out, hb, HV.out]; rfl)
    have HP := Lib.hid (show encB cn hn rs = encL cn hn rs ++ ff8 by unfold encB; rw [HE2.out]; rfl)
    have HU := Lib.hid ((validB_iff.1 HV.out).2)
    clear hb
    go_wp2
    go_loopw [8, 34] (fun b i wr => ∃ (k : Nat) (A3 : Option Addr) (c3 : Nat) (l : List UInt8), k ≤ rs.length ∧ i = .int .i64 k ∧ l = encL cn hn (rs.take k) ∧ b = .slice A3 l.length c3 ∧
      SL w (rowS 5 1 (.slice A3 l.length c3) l.length (Lib.byteCells l) :: []) wr) (fun _ i _ => rs.length - (intOf i).toNat)
    case atStart => exact ⟨0, none, 0, [], Nat.zero_le _, rfl, rfl, rfl, ((SL.start w).grow B2.out).nil _ _⟩
    case round =>
      obtain ⟨k, A3, c3, l, hk, rfl, hl, rfl, S1⟩ := hrel
      have H1 := Lib.hid S1
      have hll : l.length ≤ 2048 := by
        rw [hl]
        have h1 := encL_len (c := cn) (h := hn) (rs := rs.take k)
        have h2 := used_take (rs := rs) k
        have h3 := HU.out
        omega
      have HL := Lib.hid hl
      clear S1 hl
      by_cases hlt : k < rs.length
      · have hb : rs[k]? = some rs[k] := by simp [hlt]
        generalize rs[k] = y at hb
        obtain ⟨g, off, Bk, dk, Bd, dd, hA, k0, k1, k2, k3, a1, a2⟩ := (RecsB.base HR.out _) wr H1.out k y hb
        subst hA
        obtain ⟨v1, v2, v3, v4⟩ := valid_rec HV.out hb
        have HLN := Lib.hid (show l ++ encR cn hn y = encL cn hn (rs.take (k + 1)) by rw [HL.out, encL_take hb])
        have HA := Lib.hid (And.intro a1 a2)
        clear hb a1 a2
        go_wp2_with fail
        refine (half_any _ l l.length cn (H1.out.allocC _ _).s1 (by omega) (by omega)).mono ?_
        rintro e w3 ⟨A4, c4, rfl, S3⟩
        have H3 := Lib.hid S3
        clear S3 H1 k0 k1 k2 k3
        generalize wr.heap.size = yb at *
        go_wp2_with fail
        refine (half_any _ (l ++ halfL cn) (l.length + 2) hn H3.out (by omega) (by omega)).mono ?_
        rintro e w4 ⟨A5, c5, rfl, S4⟩
        have H4 := Lib.hid S4
        clear S4 H3
        rw [show l.length + 2 + 2 = l.length + 4 from rfl] at *
        have hx1 : IntKind.u8.wrap y.r = y.r := by rw [IntKind.wrap_u8]; omega
        have hx2 : IntKind.u8.wrap (y.key.length : Int) = (y.key.length : Int) := by rw [IntKind.wrap_u8]; omega
        go_upto_region 10 with fail
        refine wp_region_order2 (fun wx => wx = w4.drew) (SL w [cel yb #[.int .i64 y.r, .slice Bk y.key.length dk, .slice Bd y.data.length dd, .bool y.bad] 62]) (fun wx e => SL.cast e H4.out.s1.only.drew) [0, 1, 4, 10] [2, 3, 5, 6, 7, 11, 12] [] [8, 9] [13, 14] (by kernel_rfl) (by kernel_rfl) rfl (by intro c a d v w h; cases d <;> exact h) ?_
        simp only [pick, List.filterMap_cons, List.filterMap_nil, List.getElem?_cons_zero, List.getElem?_cons_succ]
        (repeat (with_reducible refine wpPure_step ?_; intro K hK; go_simp; with_reducible refine hK _ ?_; clear hK K))
        refine wpPure_nil ?_
        (repeat (with_reducible refine wpLoads_step ?_; intro K hK; go_simp; first | (with_reducible refine hK _ ?_; clear hK K) | (rw [if_neg (by decide)]; with_reducible refine hK _ ?_; clear hK K) | (refine ⟨_, fun wx hx => (by obtain ⟨f0, f1, f2⟩ := hx.look; go_simp; with_reducible rfl), hK _ ?_⟩; clear hK K) | (refine ⟨_, fun _ _ => rfl, hK _ ?_⟩; clear hK K))); with_reducible refine wpLoads_nil ?_
        refine wpQuiet_nil ?_
        intro wq hwq
        subst hwq
        (with_reducible refine wpKeep_step ?_; intro K hK; go_simp)
        refine hK _ _ (H4.out.allocC _ _).s2.only.drew ?_
        clear hK K
        with_reducible refine wpKeep_step ?_
        intro K hK
        refine step_pushS (by rfl) _ _ _ (by rfl) bElem w4.drew [.int .u8 y.r, .int .u8 (y.key.length : Int)] 2 (by rfl) rfl (by simp [Value.oneCell']) _ (l.length + 4) _ (by rfl) (by rfl) H4.out.drew (by unfold maxLen; omega) (by omega) ?_
        intro A6 c6 w6 S6
        have HBY := Lib.hid (show Lib.byteCells [UInt8.ofNat y.r.toNat, UInt8.ofNat y.key.length] = [.int .u8 y.r, .int .u8 (y.key.length : Int)] by
          have h1 : ((UInt8.ofNat y.r.toNat).toNat : Int) = y.r := by rw [UInt8.toNat_ofNat']; omega
          have h2 : ((UInt8.ofNat y.key.length).toNat : Int) = (y.key.length : Int) := by rw [UInt8.toNat_ofNat']; omega
          show [Value.int .u8 ((UInt8.ofNat y.r.toNat).toNat : Int), Value.int .u8 ((UInt8.ofNat y.key.length).toNat : Int)] = _
          rw [h1, h2])
        refine hK _ _ S6.s1.only ?_
        clear hK K
        rw [← HBY.out, ← byteCells_app, show l.length + 4 + 2 = l.length + 6 from rfl] at S6
        have H6 := Lib.hid S6
        clear S6 H4 HBY hx1 hx2
        refine wpKeep_nil ?_
        rw [show l.length + 4 + 2 = l.length + 6 from rfl]
        show wpList _ _ _ _ _ _
        go_wp2_with fail
        refine (half_any _ _ (l.length + 6) y.data.length H6.out (by omega) (by omega)).mono ?_
        rintro e w7 ⟨A7, c7, rfl, S7⟩
        rw [show l.length + 6 + 2 = l.length + 8 from rfl] at *
        have H7 := Lib.hid S7
        clear S7 H6
        go_upto_region 11 with fail
        refine wp_region_order2 (fun wx => wx = w7.drew) (SL w [cel yb #[.int .i64 y.r, .slice Bk y.key.length dk, .slice Bd y.data.length dd, .bool y.bad] 62]) (fun wx e => SL.cast e H7.out.s1.only.drew) [0, 1, 4] [2, 5] [] [3] [6, 7] (by kernel_rfl) (by kernel_rfl) rfl (by intro c a d v w h; cases d <;> exact h) ?_
        simp only [pick, List.filterMap_cons, List.filterMap_nil, List.getElem?_cons_zero, List.getElem?_cons_succ]
        (repeat (with_reducible refine wpPure_step ?_; intro K hK; go_simp; with_reducible refine hK _ ?_; clear hK K))
        refine wpPure_nil ?_
        (repeat (with_reducible refine wpLoads_step ?_; intro K hK; go_simp; first | (with_reducible refine hK _ ?_; clear hK K) | (rw [if_neg (by decide)]; with_reducible refine hK _ ?_; clear hK K) | (refine ⟨_, fun wx hx => (by obtain ⟨f0, f1, f2⟩ := hx.look; go_simp; with_reducible rfl), hK _ ?_⟩; clear hK K) | (refine ⟨_, fun _ _ => rfl, hK _ ?_⟩; clear hK K))); with_reducible refine wpLoads_nil ?_
        refine wpQuiet_nil ?_
        intro wq hwq
        subst hwq
        with_reducible refine wpKeep_step ?_
        intro K hK
        have HKK := Lib.hid (HA.out.1.grow H7.out.1)
        refine step_appS (by rfl) _ _ _ (by rfl) bElem _ (l.length + 8) _ (by rfl) H7.out.drew _ Bk y.key.length dk (Lib.byteCells y.key) (by rfl) HKK.out.1 (by rw [byteCells_len, Nat.mul_one]) (byteCells_one _) (by unfold maxLen; omega) (by omega) ?_
        intro A8 c8 w8 S8
        refine hK _ _ S8.s1.only ?_
        clear hK K
        rw [← byteCells_app] at S8
        have H8 := Lib.hid S8
        clear S8 H7 HKK
        refine wpKeep_nil ?_
        show wpList _ _ _ _ _ _
        have HKK := Lib.hid (HA.out.2.grow H8.out.1)
        refine wpList_appS rfl _ _ _ rfl bElem _ (l.length + 8 + y.key.length) _ rfl H8.out _ Bd y.data.length dd (Lib.byteCells y.data) rfl HKK.out.1 (by rw [byteCells_len, Nat.mul_one]) (byteCells_one _) (by unfold maxLen; omega) (by omega) ?_
        intro A9 c9 w9 S9
        rw [← byteCells_app] at S9
        have H9 := Lib.hid S9
        clear S9 H8 HKK
        go_wp2
        go_roundw
        case rel =>
          have hn9 : (l ++ encR cn hn y).length = l.length + 8 + y.key.length + y.data.length := by rw [List.length_append, encR_len]; omega
          refine ⟨k + 1, A9, c9, l ++ encR cn hn y, by omega, by go_num, HLN.out, by rw [hn9], ?_⟩
          rw [hn9]
          have h := H9.out.s1.drop
          simp only [List.append_assoc] at h
          simp only [encR, List.append_assoc]
          exact h
        case measure => simp [intOf]; omega
      · obtain rfl : k = rs.length := by omega
        have HQ := Lib.hid (show encB cn hn rs = l ++ ff8 by rw [HP.out, HL.out, List.take_of_length_le (Nat.le_refl _)])
        clear HL HP
        go_wp2_with fail
        refine (repeat_any (some ⟨wr.heap.size, 0, none⟩) 1 (SL.lit H1.out #[.int .u8 255] 5 1 1 rfl (by decide)) (by rw [World.size_alloc]; exact at_lit wr [255] 5)).mono ?_
        rintro e w2 ⟨A2, c2, rfl, S2⟩
        have HAT := Lib.hid (S2.atT)
        have H2 := Lib.hid S2.s2
        clear S2 H1
        go_wp2_with (at_builtin; refine wpList_appS rfl _ _ _ rfl bElem _ l.length _ rfl H2.out _ A2 8 c2 (Lib.byteCells ff8) rfl HAT.out rfl (byteCells_one _) (by unfold maxLen; omega) (by omega) ?_
                     intro A9 c9 w9 S9
                     rw [← byteCells_app] at S9
                     have H9 := Lib.hid S9
                     clear S9 H2 HAT)
        go_ret2
        rw [HE2.out, HQ.out]
        exact ⟨A9, c9, by rw [List.length_append]; rfl, by rw [List.length_append]; exact HS.out.join H9.out.only⟩
  · have HE2 := Lib.hid (show encE cy hd rs = 6 by unfold encE; rw [if_neg hrange])
    have HP := Lib.hid (show encB cy hd rs = [] by unfold encB; rw [HE2.out]; rfl)
    have hcases : cy < 0 ∨ (0 ≤ cy ∧ 65535 < cy) ∨ ((0 ≤ cy ∧ cy ≤ 65535) ∧ hd < 0) ∨ ((0 ≤ cy ∧ cy ≤ 65535) ∧ (0 ≤ hd ∧ 65535 < hd)) := by omega
    clear hrange
    go_enter Tryz.func87, Tryz.ntmps87
    rcases hcases with h1 | ⟨h1, h2⟩ | ⟨⟨h1, h2⟩, h3⟩ | ⟨⟨h1, h2⟩, h3, h4⟩
    all_goals
      go_wp2
      go_ret2
      rw [HE2.out, HP.out]
      exact RetBy.nil HS.out rfl
end
end Go.Proofs.YtmkndbledppniaaGreat
