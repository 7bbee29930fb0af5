/- Search of the reference. -/
import Derived.Test.YtelfihgkbbaifaaSearch
namespace Go.Proofs.Ytelfihgkbbaifaa
open Go.RowKit
theorem less_eq : ∀ (a b : List UInt8), Op.bytesLess a b = decide (Lib.compareBytes a b < 0)
  | [], [] => by simp [Op.bytesLess, Lib.compareBytes]
  | [], _ :: _ => by simp [Op.bytesLess, Lib.compareBytes]
  | _ :: _, [] => by simp [Op.bytesLess, Lib.compareBytes]
  | x :: a, y :: b => by
    have ih := less_eq a b
    unfold Op.bytesLess Lib.compareBytes
    by_cases h : x < y
    · have h2 : x ≠ y := by rintro rfl; exact UInt8.lt_irrefl _ h
      simp [h]
    · by_cases h2 : y < x
      · have h3 : x ≠ y := by rintro rfl; exact UInt8.lt_irrefl _ h2
        simp [h, h2, h3]
      · have h3 : x = y := by
          apply UInt8.toNat_inj.1
          simp only [UInt8.lt_iff_toNat_lt] at h h2
          omega
        subst h3
        simp [ih]
theorem cmp_self : ∀ (a : List UInt8), Lib.compareBytes a a = 0
  | [] => rfl
  | x :: a => by unfold Lib.compareBytes; simp [UInt8.lt_irrefl, cmp_self a]
/-- The test of the reference. -/
def hitB (fr : Int) (key : List UInt8) (high : Bool) (i : Nat) (x : Rec) : Bool :=
  decide (fr ≤ i) && !decide (key.length = 0) && (if high then matchH key x else matchE key x)
theorem searchN_some {rs : List Rec} {fr : Int} {key : List UInt8} {high : Bool} {k : Nat} {x : Rec} (hx : rs[k]? = some x) (hp : hitB fr key high k x = true) (h : ∀ j y, j < k → rs[j]? = some y → hitB fr key high j y = false) : searchN rs fr key high = some k := by
  unfold hitB at hp
  simp only [Bool.and_eq_true, decide_eq_true_iff, Bool.not_eq_true', decide_eq_false_iff_not] at hp
  obtain ⟨⟨h1, h2⟩, h3⟩ := hp
  have hk := (List.getElem?_eq_some_iff.1 hx).1
  unfold searchN
  rw [if_neg (by rintro (h | h) <;> omega), findIdx_some (k := k - fr.toNat) (x := x) (by rw [List.getElem?_drop, ← hx]; congr 1; omega) (by cases high <;> exact h3)]
  · simp only [Option.map_some]; congr 1; omega
  · intro j y hj hy
    rw [List.getElem?_drop] at hy
    have := h _ y (by omega) hy
    unfold hitB at this
    rw [decide_eq_true (by omega : fr ≤ ((fr.toNat + j : Nat) : Int)), decide_eq_false h2] at this
    cases high <;> simpa using this
theorem searchN_none {rs : List Rec} {fr : Int} {key : List UInt8} {high : Bool} (h : ∀ j y, j < rs.length → rs[j]? = some y → hitB fr key high j y = false) : searchN rs fr key high = none := by
  unfold searchN
  split
  · rfl
  · rename_i hn
    rw [findIdx_none]
    · rfl
    · intro j y hj hy
      rw [List.length_drop] at hj
      rw [List.getElem?_drop] at hy
      have := h _ y (by omega) hy
      unfold hitB at this
      rw [decide_eq_true (by omega : fr ≤ ((fr.toNat + j : Nat) : Int)), decide_eq_false (by omega)] at this
      cases high <;> simpa using this
theorem hit_before {fr : Int} {key : List UInt8} {high : Bool} {i : Nat} {x : Rec} (h : (i : Int) < fr) : hitB fr key high i x = false := by
  unfold hitB; rw [decide_eq_false (by omega)]; rfl
theorem hit_bad {fr : Int} {key : List UInt8} {high : Bool} {i : Nat} {x : Rec} (h : x.bad = true) : hitB fr key high i x = false := by
  unfold hitB matchH matchE; rw [h]; cases high <;> simp
theorem hit_zero {fr : Int} {key : List UInt8} {high : Bool} {i : Nat} {x : Rec} (h : key.length = 0) : hitB fr key high i x = false := by
  unfold hitB; simp [h]
theorem hit_len {fr : Int} {key : List UInt8} {high : Bool} {i : Nat} {x : Rec} (h : x.key.length ≠ key.length) : hitB fr key high i x = false := by
  have h2 : x.key ≠ key := fun e => h (by rw [e])
  unfold hitB matchH matchE; cases high <;> simp [h, h2]
theorem hit_else {fr : Int} {key : List UInt8} {high : Bool} {i : Nat} {x : Rec} (h1 : fr ≤ i) (h2 : x.bad = false) (h3 : key.length ≠ 0) (h4 : x.key.length = key.length) : hitB fr key high i x = (decide (x.key = key) || (high && !(Op.bytesLess x.key key || decide (x.key = key)))) := by
  unfold hitB matchH matchE
  rw [decide_eq_true h1, decide_eq_false h3, h2]
  cases high
  · simp
  · simp only [if_true, h4, decide_true, less_eq]
    by_cases h : x.key = key
    · rw [h, cmp_self]; simp
    · by_cases h5 : Lib.compareBytes x.key key < 0
      · have h6 : ¬ (0 ≤ Lib.compareBytes x.key key) := by omega
        simp [h, h5, h6]
      · have h6 : 0 ≤ Lib.compareBytes x.key key := by omega
        simp [h, h5, h6]
theorem bytes_less (a b : List UInt8) : Op.bytesLess (⟨a.toArray⟩ : ByteArray).toList (⟨b.toArray⟩ : ByteArray).toList = Op.bytesLess a b := by
  rw [ByteArray.toList_eq, ByteArray.toList_eq]
set_option maxRecDepth 100000 in
set_option maxHeartbeats 8000000 in
theorem rsearch_any (A : Option Addr) (rs : List Rec) (c : Nat) (fr : Int) (A2 : Option Addr) (key : List UInt8) (c2 : Nat) (high : Bool) (w : World) (hr : RecsAt w A rs) (hl : rs.length ≤ maxLen) (hk : CardAt w A2 key c2) :
    Calls Try.prog 17 #[.slice A rs.length c, .int .i64 fr, .slice A2 key.length c2, .bool high] w fun e w' => e = .returned (.int .i64 (idxV (searchN rs fr key high))) ∧ Below w.heap.size w w' := by
  have HR := Lib.hid hr
  have hfl : rs.length ≤ 9223372036854775807 := by unfold maxLen at hl; omega
  have hz2 : key.length ≤ 9223372036854775807 := by have := hk.2; unfold maxLen at this; omega
  have HKX := Lib.hid hk
  clear hr hl hk
  go_enter Try.func17, Try.ntmps17
  go_wp2
  go_loopw [9] (fun i wr => ∃ k : Nat, k ≤ rs.length ∧ i = .int .i64 k ∧ (∀ j y, j < k → rs[j]? = some y → hitB fr key high j y = false) ∧ Below w.heap.size w wr) (fun i _ => rs.length - (intOf i).toNat)
  case atStart => exact ⟨0, Nat.zero_le _, rfl, fun j y h => absurd h (by omega), Below.refl _ _⟩
  case round =>
    obtain ⟨k, hk, rfl, hok, b1⟩ := hrel
    have B1 := Lib.hid b1
    have HOK := Lib.hid hok
    clear b1 hok
    by_cases hlt : k < rs.length
    · have hx : rs[k]? = some rs[k] := by simp [hlt]
      generalize rs[k] = x at hx
      obtain ⟨g, off, Ak, ck, Ad, cd, hA, k0, k1, k2, k3, a1, _⟩ := HR.out.grow B1.out k x hx
      subst hA
      have HNEXT := Lib.hid (fun (hp : hitB fr key high k x = false) j y (hj : j < k + 1) (hy : rs[j]? = some y) => (by
        rcases Nat.lt_succ_iff_lt_or_eq.1 hj with h | rfl
        · exact HOK.out j y h hy
        · rw [hy] at hx; injection hx with hx; subst hx; exact hp : hitB fr key high j y = false))
      have HF := Lib.hid (fun (hp : hitB fr key high k x = true) => (searchN_some hx hp HOK.out))
      have HA1 := Lib.hid a1
      have hz1 : x.key.length ≤ 9223372036854775807 := by have := a1.2; unfold maxLen at this; omega
      clear hx a1
      by_cases h1 : (k : Int) < fr
      · have HN := Lib.hid (HNEXT.out (hit_before h1))
        go_wp2
        go_roundw
        case rel => exact ⟨k + 1, by omega, by go_num, HN.out, B1.out⟩
        case measure => simp [intOf]; omega
      have h1' : fr ≤ (k : Int) := by omega
      by_cases h2 : x.bad = true
      · have HN := Lib.hid (HNEXT.out (hit_bad h2))
        rw [h2] at k3
        clear h2
        go_wp2
        go_roundw
        case rel => exact ⟨k + 1, by omega, by go_num, HN.out, B1.out⟩
        case measure => simp [intOf]; omega
      have h2' : x.bad = false := by simpa using h2
      rw [h2'] at k3
      by_cases h3 : key.length = 0
      · have HN := Lib.hid (HNEXT.out (hit_zero h3))
        clear h2 h2'
        rw [h3]
        go_wp2
        go_roundw
        case rel => exact ⟨k + 1, by omega, by go_num, HN.out, B1.out⟩
        case measure => simp [intOf]; omega
      have t3 : ((key.length : Int) == 0) = false := by rw [beq_eq_false_iff_ne]; omega
      by_cases h4 : x.key.length = key.length
      · have HQ := Lib.hid (hit_else (key := key) (high := high) h1' h2' h3 h4)
        have t4 : ((x.key.length : Int) != (key.length : Int)) = false := by simp; omega
        have HL := Lib.hid (fun (wx : World) (hx : Below wr.heap.size wr wx) => And.intro ((hx.cell (p := ⟨g, off + k * 4 + 1, none⟩) (World.block_lt_of_cell? wr _ k1)).trans k1) (And.intro
          (run_string_of_at (P := Try.prog) (w := wx) 23 9 5 Try.underlying23 Try.underlying5 Try.underlying9 x.key ck (HA1.out.grow hx).1)
          (run_string_of_at (P := Try.prog) (w := wx) 23 9 5 Try.underlying23 Try.underlying5 Try.underlying9 key c2 ((HKX.out.grow B1.out).grow hx).1)))
        have e1 := bytes_beq x.key key
        have e2 := bytes_less x.key key
        generalize (⟨x.key.toArray⟩ : ByteArray) = sk at *
        generalize (⟨key.toArray⟩ : ByteArray) = sl at *
        generalize Op.bytesLess x.key key = q2 at *
        generalize decide (x.key = key) = q1 at *
        clear h2 h2' h3 h4
        go_upto_region 5 with fail
        clear k0 k1 k2 k3
        cases q1
        · cases high
          · have HN := Lib.hid (HNEXT.out (by rw [HQ.out]; rfl))
            refine wp_region_quiet (C := Below wr.heap.size wr) (by kernel_rfl) (by kernel_rfl) (Below.refl _ _).drew ?_
            (repeat (with_reducible refine wpQuiet_step ?_; intro K hK; go_simp; first | (with_reducible refine hK _ ?_; clear hK K) | (rw [if_neg (by decide)]; with_reducible refine hK _ ?_; clear hK K) | (refine ⟨_, fun wx hx => (by obtain ⟨f1, s1, s2⟩ := HL.out wx hx; go_simp; with_reducible rfl), hK _ ?_⟩; clear hK K) | fail | (refine ⟨_, fun _ _ => rfl, hK _ ?_⟩; clear hK K))); with_reducible refine wpQuiet_nil ?_
            intro w3 hw3
            have B3 := Lib.hid (B1.out.trans (Below.mono hw3 B1.out.size))
            clear hw3
            go_wp2
            go_roundw
            case rel => exact ⟨k + 1, by omega, by go_num, HN.out, B3.out⟩
            case measure => simp [intOf]; omega
          · cases q2
            · have HFX := Lib.hid (HF.out (by rw [HQ.out]; rfl))
              refine wp_region_quiet (C := Below wr.heap.size wr) (by kernel_rfl) (by kernel_rfl) (Below.refl _ _).drew ?_
              (repeat (with_reducible refine wpQuiet_step ?_; intro K hK; go_simp; first | (with_reducible refine hK _ ?_; clear hK K) | (rw [if_neg (by decide)]; with_reducible refine hK _ ?_; clear hK K) | (refine ⟨_, fun wx hx => (by obtain ⟨f1, s1, s2⟩ := HL.out wx hx; go_simp; with_reducible rfl), hK _ ?_⟩; clear hK K) | fail | (refine ⟨_, fun _ _ => rfl, hK _ ?_⟩; clear hK K))); with_reducible refine wpQuiet_nil ?_
              intro w3 hw3
              have B3 := Lib.hid (B1.out.trans (Below.mono hw3 B1.out.size))
              clear hw3
              go_wp2
              go_ret
              exact ⟨by rw [HFX.out]; rfl, B3.out⟩
            · have HN := Lib.hid (HNEXT.out (by rw [HQ.out]; rfl))
              refine wp_region_quiet (C := Below wr.heap.size wr) (by kernel_rfl) (by kernel_rfl) (Below.refl _ _).drew ?_
              (repeat (with_reducible refine wpQuiet_step ?_; intro K hK; go_simp; first | (with_reducible refine hK _ ?_; clear hK K) | (rw [if_neg (by decide)]; with_reducible refine hK _ ?_; clear hK K) | (refine ⟨_, fun wx hx => (by obtain ⟨f1, s1, s2⟩ := HL.out wx hx; go_simp; with_reducible rfl), hK _ ?_⟩; clear hK K) | fail | (refine ⟨_, fun _ _ => rfl, hK _ ?_⟩; clear hK K))); with_reducible refine wpQuiet_nil ?_
              intro w3 hw3
              have B3 := Lib.hid (B1.out.trans (Below.mono hw3 B1.out.size))
              clear hw3
              go_wp2
              go_roundw
              case rel => exact ⟨k + 1, by omega, by go_num, HN.out, B3.out⟩
              case measure => simp [intOf]; omega
        · have HFX := Lib.hid (HF.out (by rw [HQ.out]; rfl))
          refine wp_region_quiet (C := Below wr.heap.size wr) (by kernel_rfl) (by kernel_rfl) (Below.refl _ _).drew ?_
          (repeat (with_reducible refine wpQuiet_step ?_; intro K hK; go_simp; first | (with_reducible refine hK _ ?_; clear hK K) | (rw [if_neg (by decide)]; with_reducible refine hK _ ?_; clear hK K) | (refine ⟨_, fun wx hx => (by obtain ⟨f1, s1, s2⟩ := HL.out wx hx; go_simp; with_reducible rfl), hK _ ?_⟩; clear hK K) | fail | (refine ⟨_, fun _ _ => rfl, hK _ ?_⟩; clear hK K))); with_reducible refine wpQuiet_nil ?_
          intro w3 hw3
          have B3 := Lib.hid (B1.out.trans (Below.mono hw3 B1.out.size))
          clear hw3
          go_wp2
          go_ret
          exact ⟨by rw [HFX.out]; rfl, B3.out⟩
      · have HN := Lib.hid (HNEXT.out (hit_len h4))
        have t4 : ((x.key.length : Int) != (key.length : Int)) = true := by simp; omega
        clear h2 h2' h3
        go_wp2
        go_roundw
        case rel => exact ⟨k + 1, by omega, by go_num, HN.out, B1.out⟩
        case measure => simp [intOf]; omega
    · obtain rfl : k = rs.length := by omega
      have HF := Lib.hid (show searchN rs fr key high = none from searchN_none HOK.out)
      go_wp2
      go_ret
      exact ⟨by rw [HF.out]; rfl, B1.out⟩
end Go.Proofs.Ytelfihgkbbaifaa
