import Derived.Test.YtheiickihjcdlaaWDec
namespace Go.Proofs.Ytheiickihjcdlaa
open Go.RowKit

theorem ofNat_mod (n : Nat) : (UInt8.ofNat n).toNat = n % 256 := UInt8.toNat_ofNat'
theorem adOf_ofNat (a : Nat) (h : a < 16777216) : adOf (UInt8.ofNat (a / 65536)) (UInt8.ofNat (a / 256)) (UInt8.ofNat a) = (a : Int) := by
  unfold adOf
  simp only [ofNat_mod]
  omega
theorem cntOf_ofNat (a : Nat) (h : a < 65536) : cntOf (UInt8.ofNat (a / 256)) (UInt8.ofNat a) = (a : Int) := by
  unfold cntOf
  simp only [ofNat_mod]
  omega
theorem fbit_flags (cd cc sli skip pci : Bool) : fbit (UInt8.ofNat (flagsN cd cc sli skip pci).toNat) 7 = cd ∧ fbit (UInt8.ofNat (flagsN cd cc sli skip pci).toNat) 6 = cc ∧ fbit (UInt8.ofNat (flagsN cd cc sli skip pci).toNat) 5 = sli ∧ fbit (UInt8.ofNat (flagsN cd cc sli skip pci).toNat) 4 = skip ∧ fbit (UInt8.ofNat (flagsN cd cc sli skip pci).toNat) 3 = pci ∧ (UInt8.ofNat (flagsN cd cc sli skip pci).toNat).toNat % 8 = 0 := by
  revert cd cc sli skip pci; decide

theorem dir_dirN (n : Nat) (h : n ≤ 255) : dir (n : Int) = (dirN n : Int) := by
  simp [dir, inB_yes (show (0 : Int) ≤ n by omega) (show (n : Int) ≤ 255 by omega)]

/-- What can be encoded is decoded as it was. -/
theorem back_ccw (op addr count : Int) (cd cc sli skip pci : Bool) (h : ccwErr op addr count cd cc sli skip pci = 0) :
    dC (ccwBytes op addr count cd cc sli skip pci) = ccwCells op addr count cd cc sli skip pci ∧ dB (ccwBytes op addr count cd cc sli skip pci) = true := by
  unfold ccwErr at h
  split at h
  · rename_i hin
    simp only [Bool.and_eq_true, inB_iff] at hin
    obtain ⟨⟨⟨o0, o1⟩, ⟨a0, a1⟩⟩, ⟨c0, c1⟩⟩ := hin
    obtain ⟨o, rfl⟩ := Int.eq_ofNat_of_zero_le o0
    obtain ⟨a, rfl⟩ := Int.eq_ofNat_of_zero_le a0
    obtain ⟨c, rfl⟩ := Int.eq_ofNat_of_zero_le c0
    rw [dir_dirN o (by omega)] at h
    obtain ⟨f7, f6, f5, f4, f3, fm⟩ := fbit_flags cd cc sli skip pci
    have hO : (UInt8.ofNat o).toNat = o := by rw [ofNat_mod]; omega
    show decC (UInt8.ofNat o) _ _ _ _ _ _ = _ ∧ decB (UInt8.ofNat o) _ _ _ = true
    unfold decC decB
    rw [hO, Int.toNat_natCast, Int.toNat_natCast, adOf_ofNat a (by omega), cntOf_ofNat c (by omega)]
    split at h
    · omega
    · rename_i h0
      have h0' : ¬ dirN o = 0 := by omega
      rw [if_neg h0', if_neg h0']
      split at h
      · rename_i h6
        have h6' : dirN o = 6 := by omega
        rw [if_pos h6', if_pos h6']
        split at h
        · rename_i hz
          obtain ⟨hf, hz0⟩ := hz
          refine ⟨?_, rfl⟩
          have hall : cd = false ∧ cc = false ∧ sli = false ∧ skip = false ∧ pci = false := by
            revert hf; revert cd cc sli skip pci; decide
          obtain ⟨rfl, rfl, rfl, rfl, rfl⟩ := hall
          obtain rfl : c = 0 := by omega
          rfl
        · omega
      · rename_i h6
        have h6' : ¬ dirN o = 6 := by omega
        rw [if_neg h6', if_neg h6']
        split at h
        · omega
        · rename_i hc
          have hbad : decBad (UInt8.ofNat (flagsN cd cc sli skip pci).toNat) (UInt8.ofNat (c / 256)) (UInt8.ofNat c) = false := by
            unfold decBad
            rw [cntOf_ofNat c (by omega), fm]
            simp
            omega
          rw [hbad, f7, f6, f5, f4, f3]
          exact ⟨rfl, rfl⟩
  · omega
theorem back_csw (key addr unit chan count : Int) (h : cswErr key addr unit chan count = 0) :
    sC (cswBytes key addr unit chan count) = cswCells key addr unit chan count ∧ sB (cswBytes key addr unit chan count) = true := by
  unfold cswErr at h
  split at h
  · rename_i hin
    simp only [Bool.and_eq_true, inB_iff] at hin
    obtain ⟨⟨⟨⟨⟨k0, k1⟩, ⟨a0, a1⟩⟩, ⟨u0, u1⟩⟩, ⟨n0, n1⟩⟩, ⟨c0, c1⟩⟩ := hin
    obtain ⟨k, rfl⟩ := Int.eq_ofNat_of_zero_le k0
    obtain ⟨a, rfl⟩ := Int.eq_ofNat_of_zero_le a0
    obtain ⟨u, rfl⟩ := Int.eq_ofNat_of_zero_le u0
    obtain ⟨n, rfl⟩ := Int.eq_ofNat_of_zero_le n0
    obtain ⟨c, rfl⟩ := Int.eq_ofNat_of_zero_le c0
    have hm : (UInt8.ofNat (16 * k)).toNat % 16 = 0 := by rw [ofNat_mod]; omega
    show decS (UInt8.ofNat (16 * k)) _ _ _ _ _ _ _ = _ ∧ decide ((UInt8.ofNat (16 * k)).toNat % 16 = 0) = true
    refine ⟨?_, decide_eq_true hm⟩
    unfold decS
    rw [if_pos hm]
    simp only [Int.toNat_natCast]
    rw [adOf_ofNat a (by omega), cntOf_ofNat c (by omega)]
    simp only [ofNat_mod]
    unfold cswCells
    rw [show 16 * k % 256 / 16 = k from by omega, Nat.mod_eq_of_lt (show u < 256 by omega), Nat.mod_eq_of_lt (show n < 256 by omega)]
  · omega
theorem back_caw (key addr : Int) (h : cawErr key addr = 0) : kK (cawBytes key addr) = key ∧ kA (cawBytes key addr) = addr ∧ kB (cawBytes key addr) = true := by
  unfold cawErr at h
  split at h
  · rename_i hin
    simp only [Bool.and_eq_true, inB_iff] at hin
    obtain ⟨⟨k0, k1⟩, ⟨a0, a1⟩⟩ := hin
    obtain ⟨k, rfl⟩ := Int.eq_ofNat_of_zero_le k0
    obtain ⟨a, rfl⟩ := Int.eq_ofNat_of_zero_le a0
    split at h
    · rename_i ha
      have hok : cawOk (UInt8.ofNat (16 * k)) (UInt8.ofNat a) = true := by
        unfold cawOk
        rw [ofNat_mod, ofNat_mod]
        simp
        omega
      show cawKey (UInt8.ofNat (16 * k)) (UInt8.ofNat a) = _ ∧ cawAddr (UInt8.ofNat (16 * k)) (UInt8.ofNat (a / 65536)) (UInt8.ofNat (a / 256)) (UInt8.ofNat a) = _ ∧ cawOk (UInt8.ofNat (16 * k)) (UInt8.ofNat a) = true
      unfold cawKey cawAddr
      rw [hok, if_pos rfl, if_pos rfl, adOf_ofNat a (by omega), ofNat_mod]
      exact ⟨by omega, rfl, rfl⟩
    · omega
  · omega

/-- What was decoded can be encoded. -/
theorem again_ccw (l : List UInt8) (h : dB l = true) : ∃ (op addr count : Int) (cd cc sli skip pci : Bool), dC l = ccwCells op addr count cd cc sli skip pci ∧ ccwErr op addr count cd cc sli skip pci = 0 := by
  rcases list8 l with ⟨x0, x1, x2, x3, x4, x5, x6, x7, rfl⟩ | ⟨_, _, h', _, _⟩
  · change decB x0 x4 x6 x7 = true at h
    show ∃ (op addr count : Int) (cd cc sli skip pci : Bool), decC x0 x1 x2 x3 x4 x6 x7 = ccwCells op addr count cd cc sli skip pci ∧ ccwErr op addr count cd cc sli skip pci = 0
    unfold decB at h
    unfold decC
    have l0 := x0.toNat_lt
    have l1 := x1.toNat_lt
    have l2 := x2.toNat_lt
    have l3 := x3.toNat_lt
    have l6 := x6.toNat_lt
    have l7 := x7.toNat_lt
    have ha : inB (adOf x1 x2 x3) 16777215 = true := by rw [inB_iff]; unfold adOf; omega
    have ho : inB (x0.toNat : Int) 255 = true := by rw [inB_iff]; omega
    have hc : inB (cntOf x6 x7) 65535 = true := by rw [inB_iff]; unfold cntOf; omega
    split at h
    · cases h
    · rename_i h0
      rw [if_neg h0]
      split at h
      · rename_i h6
        rw [if_pos h6]
        refine ⟨_, _, _, _, _, _, _, _, rfl, ?_⟩
        unfold ccwErr
        rw [ho, ha, inB_yes (by omega) (by omega), dir_dirN _ (by omega), h6]
        rfl
      · rename_i h6
        rw [if_neg h6]
        have hb : decBad x4 x6 x7 = false := by simpa using h
        rw [hb]
        refine ⟨_, _, _, _, _, _, _, _, rfl, ?_⟩
        unfold ccwErr
        rw [ho, ha, hc, dir_dirN _ (by omega)]
        have hn : ¬ cntOf x6 x7 = 0 := by
          intro e
          unfold decBad at hb
          simp [e] at hb
        rw [if_pos (by rfl), if_neg (by omega), if_neg (by omega), if_neg hn]
  · rw [h'] at h; cases h
theorem again_csw (l : List UInt8) (h : sB l = true) : ∃ (x0 x1 x2 x3 x4 x5 x6 x7 : UInt8) (key addr unit chan count : Int), l = [x0, x1, x2, x3, x4, x5, x6, x7] ∧ sC l = cswCells key addr unit chan count ∧ cswErr key addr unit chan count = 0 ∧ cswBytes key addr unit chan count = [x0, x1, x2, x3, x4, x5, x6, x7] := by
  rcases list8 l with ⟨x0, x1, x2, x3, x4, x5, x6, x7, rfl⟩ | ⟨_, _, _, _, h'⟩
  · change decide (x0.toNat % 16 = 0) = true at h
    have hm : x0.toNat % 16 = 0 := by simpa using h
    have l0 := x0.toNat_lt
    have l1 := x1.toNat_lt
    have l2 := x2.toNat_lt
    have l3 := x3.toNat_lt
    have l4 := x4.toNat_lt
    have l5 := x5.toNat_lt
    have l6 := x6.toNat_lt
    have l7 := x7.toNat_lt
    refine ⟨x0, x1, x2, x3, x4, x5, x6, x7, ((x0.toNat / 16 : Nat) : Int), adOf x1 x2 x3, x4.toNat, x5.toNat, cntOf x6 x7, rfl, ?_, ?_, ?_⟩
    · show decS x0 x1 x2 x3 x4 x5 x6 x7 = _
      unfold decS; rw [if_pos hm]
    · unfold cswErr adOf cntOf
      rw [inB_yes (by omega) (by omega), inB_yes (by omega) (by omega), inB_yes (by omega) (by omega), inB_yes (by omega) (by omega), inB_yes (by omega) (by omega)]
      rfl
    · unfold cswBytes word8 adOf cntOf
      simp only [Int.toNat_natCast]
      have key : ∀ (n : Nat) (x : UInt8), n % 256 = x.toNat → UInt8.ofNat n = x := fun n x e => UInt8.toNat_inj.1 (by rw [ofNat_mod]; exact e)
      rw [key _ x0 (by omega), key _ x1 (by omega), key _ x2 (by omega), key _ x3 (by omega), key _ x4 (by omega), key _ x5 (by omega), key _ x6 (by omega), key _ x7 (by omega)]
  · rw [h'] at h; cases h
end Go.Proofs.Ytheiickihjcdlaa
