/- bytes.Equal, bytes.Compare, and the two tests of a search. -/
import Derived.Test.YtmkndbledppniaaGreatFew
import Derived.Lib.Bytealg
import Derived.Lib.BytesEntry
import Derived.Laws.Externs
namespace Go.Proofs.YtmkndbledppniaaGreat
open Go.RowKit
theorem bytes_beq (a b : List UInt8) : ((⟨a.toArray⟩ : ByteArray).toList == (⟨b.toArray⟩ : ByteArray).toList) = decide (a = b) := by
  rw [ByteArray.toList_eq, ByteArray.toList_eq, Bool.eq_iff_iff]
  simp
def matchE (key : List UInt8) (x : Rec) : Bool := !x.bad && decide (x.key = key)
def matchH (key : List UInt8) (x : Rec) : Bool := !x.bad && (decide (x.key.length = key.length) && decide (0 ≤ Lib.compareBytes x.key key))
section
set_option maxRecDepth 100000 in
theorem equal_any (A A2 : Option Addr) (k l : List UInt8) (c c2 : Nat) (w : World) (h1 : CardAt w A k c) (h2 : CardAt w A2 l c2) :
    Calls Tryz.prog 109 #[.slice A k.length c, .slice A2 l.length c2] w fun e w' => e = .returned (.bool (decide (k = l))) ∧ Below w.heap.size w w' := by
  have HC1 := run_string_of_at (P := Tryz.prog) (w := w) 34 9 5 Tryz.underlying34 Tryz.underlying5 Tryz.underlying9 k c h1.1
  have HC2 := run_string_of_at (P := Tryz.prog) (w := w) 34 9 5 Tryz.underlying34 Tryz.underlying5 Tryz.underlying9 l c2 h2.1
  have hb := bytes_beq k l
  clear h1 h2
  generalize (⟨k.toArray⟩ : ByteArray) = sk at *
  generalize (⟨l.toArray⟩ : ByteArray) = sl at *
  generalize decide (k = l) = q at *
  go_enter Tryz.func109, Tryz.ntmps109
  go_wp2
  go_ret
  exact ⟨hb ▸ rfl, by (repeat' (first | (with_reducible exact Below.refl _ _) | (with_reducible assumption) | (with_reducible refine below_drewN ?_ _) | (with_reducible refine Below.drew ?_) | (with_reducible refine Below.alloc ?_ ?_ _) | (with_reducible refine Below.setCell ?_ ?_ _) | (with_reducible refine below_row ?_ ?_ _) | (with_reducible exact Nat.le_refl _) | omega | (simp only [World.size_alloc, World.size_setCell, World.size_drew, World.size_drewN]; omega) | (simp; done) | (simp; omega)))⟩
/-- bytes.Compare -/
theorem run_bytesOf {P : Program} {w : World} {B : Nat} {A : Option Addr} {l : List UInt8} {c : Nat} (h : At w B A (Lib.byteCells l)) : (Extern.Bytes.bytesOf (.slice A l.length c)).run P w = .ok ⟨l.toArray⟩ w := by
  cases A with
  | none =>
    have : l = [] := by
      rcases l with _ | ⟨x, l⟩
      · rfl
      · obtain ⟨b, off, h, _⟩ := h (by simp [Lib.byteCells])
        cases h
    subst this
    rfl
  | some a =>
    have hc : ∀ j x, (l.map fun b => (b.toNat : Int))[j]? = some x → w.cell? (a.add j) = some (.int .u8 x) := fun j x hj => by
      have hne : Lib.byteCells l ≠ [] := fun e => by
        have hl : l = [] := by simpa [Lib.byteCells] using e
        subst hl; simp at hj
      obtain ⟨b, off, e, _, hcc⟩ := h hne
      injection e with e
      subst e
      rw [add_none]
      refine hcc j _ ?_
      rw [List.getElem?_map] at hj
      rw [Lib.byteCells, List.getElem?_map]
      cases hh : l[j]? with
      | none => rw [hh] at hj; cases hj
      | some y => rw [hh] at hj; injection hj with hj; subst hj; rfl
    have hl := Lib.run_loadBytesX (P := P) w (l.map fun b => (b.toNat : Int)) a .empty hc
    rw [List.length_map] at hl
    show (Extern.Bytes.loadBytes a l.length .empty).run P w = _
    rw [hl]
    congr 1
    apply ByteArray.ext
    simp only [Lib.bytesOf, List.map_map]
    rw [show ((fun n : Int => n.toNat.toUInt8) ∘ fun b : UInt8 => (b.toNat : Int)) = id from funext fun b => by simp]
    simp
set_option maxRecDepth 100000 in
theorem compare_any (A A2 : Option Addr) (k l : List UInt8) (c c2 : Nat) (w : World) (h1 : CardAt w A k c) (h2 : CardAt w A2 l c2) :
    Calls Tryz.prog 110 #[.slice A k.length c, .slice A2 l.length c2] w fun e w' => e = .returned (.int .i64 (Lib.compareBytes k l)) ∧ w = w' := by
  have hrun : (Extern.BytealgCompare.compare #[.slice A k.length c, .slice A2 l.length c2]).run Tryz.prog w = .ok (.int .i64 (Lib.compareBytes k l)) w := by
    change Sem.run Tryz.prog (do pure (goInt (Extern.BytealgCompare.cmp (← Extern.Bytes.bytesOf (.slice A k.length c)) (← Extern.Bytes.bytesOf (.slice A2 l.length c2))))) w = _
    simp only [Sem.run_bind, Sem.run_pure, run_bytesOf h1.1, run_bytesOf h2.1, Result.andThen]
    rw [Lib.cmp_eq]
    rfl
  have HR := Lib.hid hrun
  clear hrun h1 h2
  go_enter Tryz.func110, Tryz.ntmps110
  go_wp2
  rw [run_callFunc_extern Tryz.func113 (by kernel_rfl) (by kernel_rfl) (by kernel_rfl) (e := Extern.BytealgCompare.compare) (by kernel_rfl), HR.out]
  simp only [Result.andThen]
  rw [Oper.upon_value]
  go_wp2
  go_ret
  exact ⟨rfl, rfl⟩
set_option maxRecDepth 100000 in
set_option maxHeartbeats 2000000 in
theorem wequal_any (x : Rec) (key : List UInt8) (A2 Ak Ad : Option Addr) (c2 ck cd : Nat) (w : World) (h1 : CardAt w A2 key c2) (h2 : CardAt w Ak x.key ck) :
    Calls Tryz.prog 104 #[.slice A2 key.length c2, .agg #[.int .i64 x.r, .slice Ak x.key.length ck, .slice Ad x.data.length cd, .bool x.bad]] w fun e w' => e = .returned (.bool (matchE key x)) ∧ Below w.heap.size w w' := by
  have HE := Lib.hid (fun (wx : World) (hx : Below w.heap.size w wx) => equal_any Ak A2 x.key key ck c2 wx (h2.grow hx) (h1.grow hx))
  clear h1 h2
  have hm : matchE key x = (!x.bad && decide (x.key = key)) := rfl
  generalize matchE key x = m at *
  generalize decide (x.key = key) = q at *
  obtain ⟨r, k, d, b⟩ := x
  dsimp only at *
  have BA := Lib.hid (show Below w.heap.size w (w.alloc (.cells #[.int .i64 r, .slice Ak k.length ck, .slice Ad d.length cd, .bool b] 62)) by (repeat' (first | (with_reducible exact Below.refl _ _) | (with_reducible assumption) | (with_reducible refine below_drewN ?_ _) | (with_reducible refine Below.drew ?_) | (with_reducible refine Below.alloc ?_ ?_ _) | (with_reducible refine Below.setCell ?_ ?_ _) | (with_reducible refine below_row ?_ ?_ _) | (with_reducible exact Nat.le_refl _) | omega | (simp only [World.size_alloc, World.size_setCell, World.size_drew, World.size_drewN]; omega) | (simp; done) | (simp; omega))))
  go_enter Tryz.func104, Tryz.ntmps104
  cases b
  · go_wp2_with fail
    refine (HE.out _ BA.out).mono ?_
    rintro e w2 ⟨rfl, b2⟩
    have B2 := Lib.hid (BA.out.trans (b2.mono BA.out.size))
    clear b2
    go_wp2
    go_ret
    exact ⟨by rw [hm]; simp, B2.out⟩
  · go_wp2
    go_ret
    exact ⟨by rw [hm]; rfl, BA.out⟩
set_option maxRecDepth 100000 in
set_option maxHeartbeats 2000000 in
theorem wreached_any (x : Rec) (key : List UInt8) (A2 Ak Ad : Option Addr) (c2 ck cd : Nat) (w : World) (h1 : CardAt w A2 key c2) (h2 : CardAt w Ak x.key ck) :
    Calls Tryz.prog 105 #[.slice A2 key.length c2, .agg #[.int .i64 x.r, .slice Ak x.key.length ck, .slice Ad x.data.length cd, .bool x.bad]] w fun e w' => e = .returned (.bool (matchH key x)) ∧ Below w.heap.size w w' := by
  have HE := Lib.hid (fun (wx : World) (hx : Below w.heap.size w wx) => compare_any Ak A2 x.key key ck c2 wx (h2.grow hx) (h1.grow hx))
  have hz1 : x.key.length ≤ 9223372036854775807 := by have := h2.2; unfold maxLen at this; omega
  have hz2 : key.length ≤ 9223372036854775807 := by have := h1.2; unfold maxLen at this; omega
  clear h1 h2
  have hm : matchH key x = (!x.bad && (decide (x.key.length = key.length) && decide (0 ≤ Lib.compareBytes x.key key))) := rfl
  generalize matchH key x = m at *
  generalize Lib.compareBytes x.key key = q at *
  obtain ⟨r, k, d, b⟩ := x
  dsimp only at *
  have BA := Lib.hid (show Below w.heap.size w (w.alloc (.cells #[.int .i64 r, .slice Ak k.length ck, .slice Ad d.length cd, .bool b] 62)) by (repeat' (first | (with_reducible exact Below.refl _ _) | (with_reducible assumption) | (with_reducible refine below_drewN ?_ _) | (with_reducible refine Below.drew ?_) | (with_reducible refine Below.alloc ?_ ?_ _) | (with_reducible refine Below.setCell ?_ ?_ _) | (with_reducible refine below_row ?_ ?_ _) | (with_reducible exact Nat.le_refl _) | omega | (simp only [World.size_alloc, World.size_setCell, World.size_drew, World.size_drewN]; omega) | (simp; done) | (simp; omega))))
  have HM := Lib.hid hm
  clear hm
  go_enter Tryz.func105, Tryz.ntmps105
  cases b
  · by_cases h : k.length = key.length
    · have hd : ((k.length : Int) == (key.length : Int)) = true := by simp; omega
      have hd' : decide (k.length = key.length) = true := by simp; omega
      have HH := Lib.hid h
      clear h
      generalize k.length = nk at *
      generalize key.length = nl at *
      go_wp2_with fail
      refine (HE.out _ BA.out).mono ?_
      rintro e w2 ⟨rfl, rfl⟩
      go_wp2
      go_ret
      exact ⟨by rw [HM.out, hd']; simp, BA.out⟩
    · have hd : ((k.length : Int) == (key.length : Int)) = false := by simp; omega
      have hd' : decide (k.length = key.length) = false := by simp; omega
      clear h
      go_wp2
      go_ret
      exact ⟨by rw [HM.out, hd']; simp, BA.out⟩
  · go_wp2
    go_ret
    exact ⟨by rw [HM.out]; rfl, BA.out⟩
end
end Go.Proofs.YtmkndbledppniaaGreat
