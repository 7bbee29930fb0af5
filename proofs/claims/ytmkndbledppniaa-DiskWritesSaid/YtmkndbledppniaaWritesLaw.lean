/- DiskWrites: the plain law. -/
import Derived.Test.YtmkndbledppniaaLaws
namespace Go.Proofs.Ytmkndbledppniaa
open Go.RowKit
def idL (c h r : Nat) : List UInt8 := halfL c ++ halfL h ++ [UInt8.ofNat r]
def allL (c h r k : Nat) (b : List UInt8) : List UInt8 := idL c h r ++ [UInt8.ofNat k] ++ halfL (b.length - k) ++ b
theorem ofNat_small {n : Nat} (h : n ≤ 255) : (UInt8.ofNat n).toNat = n := by rw [UInt8.toNat_ofNat']; omega
theorem allL_len (c h r k : Nat) (b : List UInt8) : (allL c h r k b).length = 8 + b.length := by simp [allL, idL, halfL]; omega
theorem allL_drop (c h r k : Nat) (b : List UInt8) : (allL c h r k b).drop 8 = b := by simp [allL, idL, halfL]
section
variable {s : DK} {r k : Nat} {b : List UInt8}
theorem two_all0 (hc : s.cyl ≤ 65535) : two (allL s.cyl s.head r k b) 0 = s.cyl := halfL_val hc
theorem two_all2 (hh : s.head ≤ 65535) : two (allL s.cyl s.head r k b) 2 = s.head := halfL_val hh
theorem two_all6 (hn : b.length - k ≤ 65535) : two (allL s.cyl s.head r k b) 6 = b.length - k := halfL_val hn
theorem two_id0 (hc : s.cyl ≤ 65535) : two (idL s.cyl s.head r) 0 = s.cyl := halfL_val hc
theorem two_id2 (hh : s.head ≤ 65535) : two (idL s.cyl s.head r) 2 = s.head := halfL_val hh
theorem format_all (h : s.ok) (hr : 1 ≤ r ∧ r ≤ 255) (hk : k ≤ 255) (hkb : k ≤ b.length) (hn : b.length - k ≤ 65535) :
    dkFormat s (allL s.cyl s.head r k b) = if putE s.recs ⟨(r : Int), b.take k, b.drop k, false⟩ ≠ 0 then dkCheck s 4 else
      dkDone { dkChange s (putR s.recs ⟨(r : Int), b.take k, b.drop k, false⟩) r with next := (putR s.recs ⟨(r : Int), b.take k, b.drop k, false⟩).length } [] := by
  have hc : s.cyl ≤ 65535 := by have := h.cy; have := h.c1; omega
  have hh : s.head ≤ 65535 := by have := h.hd; have := h.h1; omega
  have e4 : (allL s.cyl s.head r k b)[4]?.getD 0 = UInt8.ofNat r := rfl
  have e5 : (allL s.cyl s.head r k b)[5]?.getD 0 = UInt8.ofNat k := rfl
  have r0 : UInt8.ofNat r ≠ 0 := fun e => by
    have := congrArg UInt8.toNat e
    rw [ofNat_small hr.2] at this
    simp at this; omega
  unfold dkFormat
  rw [e4, e5, ofNat_small hr.2, ofNat_small hk, two_all0 hc, two_all2 hh, two_all6 hn, allL_len, if_neg (by simp [r0]), if_neg (by omega)]
  have ed : (allL s.cyl s.head r k b).drop (8 + k) = b.drop k := by rw [← List.drop_drop, allL_drop]
  rw [allL_drop, ed]
theorem id_find (h : s.ok) (hr : r ≤ 255) {c hd : Nat} (ec : s.cyl = c) (eh : s.head = hd) : dkID s (idL c hd r) 0 = match findN s.recs (r : Int) with
    | some i => dkHit s i
    | none => dkCheck s 2 := by
  subst ec; subst eh
  have hc : s.cyl ≤ 65535 := by have := h.cy; have := h.c1; omega
  have hh : s.head ≤ 65535 := by have := h.hd; have := h.h1; omega
  have e4 : (idL s.cyl s.head r)[4]?.getD 0 = UInt8.ofNat r := rfl
  have el : (idL s.cyl s.head r).length = 5 := rfl
  unfold dkID
  rw [if_neg (by rw [el]; omega), if_pos ⟨two_id0 hc, two_id2 hh⟩, e4, ofNat_small hr]
  have ep : (fun x : Rec => decide (0 ≤ x.r - (r : Int)) && decide (x.r - (r : Int) ≤ 0)) = fun x => decide (x.r = (r : Int)) := funext fun x => by
    rw [← Bool.decide_and]
    exact decide_eq_decide.2 (by omega)
  rw [ep]
  rfl
theorem writes_law (h : s.ok) (hr : 1 ≤ r ∧ r ≤ 255) (hk : k ≤ 255) (hkb : k ≤ b.length) (hn : b.length - k ≤ 65535) :
    ((dkDo s 29 (allL s.cyl s.head r k b)).2 = ([], 14, 4)) ∨ ((dkDo s 29 (allL s.cyl s.head r k b)).2 = ([], 12, 0) ∧
      (dkDo (dkDo s 29 (allL s.cyl s.head r k b)).1 49 (idL s.cyl s.head r)).2 = ([], 76, 0) ∧
      (dkDo (dkDo (dkDo s 29 (allL s.cyl s.head r k b)).1 49 (idL s.cyl s.head r)).1 30 []).2 = (allL s.cyl s.head r k b, 12, 0)) := by
  have h1 : ({ s with last := none, found := false } : DK).ok := { h with fd := fun e => (by cases e), la := fun _ _ _ e => (by cases e) }
  have e1 : dkDo s 29 (allL s.cyl s.head r k b) = dkFormat { s with last := none, found := false } (allL s.cyl s.head r k b) := rfl
  have e2 := format_all h1 hr hk hkb hn
  have hok2 : (dkDo s 29 (allL s.cyl s.head r k b)).1.ok := do_ok h
  rw [e1] at hok2 ⊢
  rw [show ({ s with last := none, found := false } : DK).cyl = s.cyl from rfl, show ({ s with last := none, found := false } : DK).head = s.head from rfl, show ({ s with last := none, found := false } : DK).recs = s.recs from rfl] at e2
  rw [e2] at hok2 ⊢
  by_cases hp : putE s.recs ⟨(r : Int), b.take k, b.drop k, false⟩ = 0
  · right
    rw [if_neg (by simp [hp])] at hok2 ⊢
    obtain ⟨eR, hv, m, hm, hf, hx, _⟩ := put_keeps hp
    rw [eR] at hok2 ⊢
    generalize hN : putN s.recs ⟨(r : Int), b.take k, b.drop k, false⟩ = N at *
    refine ⟨rfl, ?_⟩
    have hs2 : (dkDone { dkChange { s with last := none, found := false } N r with next := N.length } []).1 = { dkChange { s with last := none, found := false } N r with next := N.length } := rfl
    rw [hs2] at hok2 ⊢
    have hrec : ({ dkChange { s with last := none, found := false } N r with next := N.length } : DK).recs = N := by
      show (s.tracks.set s.here N)[s.here]?.getD [] = N
      rw [List.getElem?_set, if_pos rfl, if_pos h.here_lt]; rfl
    have hcy : ({ dkChange { s with last := none, found := false } N r with next := N.length } : DK).cyl = s.cyl := rfl
    have hhd : ({ dkChange { s with last := none, found := false } N r with next := N.length } : DK).head = s.head := rfl
    generalize ({ dkChange { s with last := none, found := false } N r with next := N.length } : DK) = s2 at *
    have h3 : ({ s2 with last := none, found := false } : DK).ok := { hok2 with fd := fun e => (by cases e), la := fun _ _ _ e => (by cases e) }
    have e3 : dkDo s2 49 (idL s.cyl s.head r) = dkHit { s2 with last := none, found := false } m := by
      have e4 : dkDo s2 49 (idL s.cyl s.head r) = dkID { s2 with last := none, found := false } (idL s.cyl s.head r) 0 := rfl
      have e5 := id_find h3 hr.2 (c := s.cyl) (hd := s.head) hcy hhd
      rw [show ({ s2 with last := none, found := false } : DK).recs = s2.recs from rfl, hrec, hf] at e5
      rw [e4, e5]
    rw [e3]
    refine ⟨rfl, ?_⟩
    have e6 : dkDo (dkHit { s2 with last := none, found := false } m).1 30 [] = dkRead { s2 with last := none, found := false, next := m } true true := rfl
    rw [e6]
    unfold dkRead
    rw [show ({ s2 with last := none, found := false, next := m } : DK).recs = s2.recs from rfl, show ({ s2 with last := none, found := false, next := m } : DK).next = m from rfl, hrec, hx]
    dsimp only
    rw [if_neg (by simp), if_pos rfl, if_pos rfl, hcy, hhd]
    show (cntL s.cyl s.head ⟨(r : Int), b.take k, b.drop k, false⟩ ++ b.take k ++ b.drop k, 12, 0) = _
    rw [List.append_assoc _ (b.take k), List.take_append_drop]
    unfold cntL allL idL
    rw [Int.toNat_natCast, List.length_take, List.length_drop, Nat.min_eq_left hkb]
    simp
  · left
    rw [if_pos hp]; rfl
end
end Go.Proofs.Ytmkndbledppniaa
