import Derived.Test.YtgklbilkfmieoaaBase
import Derived.Test.YtgklbilkfmieoaaCodeSpec
import Derived.Test.YtgklbilkfmieoaaShelf
namespace Go.Proofs.Ytgklbilkfmieoaa
open Go.RowKit Job.Ebcdic

def codeText : ByteArray := ⟨⟨codes⟩⟩
theorem codeText_size : codeText.size = 95 := rfl
theorem codeText_get (k : Nat) (h : k < codeText.size) : codeText[k]'h = codes.getD k 0 := by
  show codes[k]'_ = _
  rw [List.getD_eq_getElem?_getD, List.getElem?_eq_getElem]; rfl

def tableCells : Array Value := (codes.map fun b => Value.int .u8 (b.toNat : Int)).toArray
theorem tableCells_get (k : Nat) (hk : k < 95) : tableCells[k]? = some (.int .u8 ((codes.getD k 0).toNat : Int)) := by
  have hl : codes.length = 95 := rfl
  unfold tableCells
  rw [List.getElem?_toArray, List.getElem?_map, List.getElem?_eq_getElem (by omega), List.getD_eq_getElem?_getD, List.getElem?_eq_getElem (by omega)]; rfl
theorem table_cell (w : World) (t : TypeId) (k : Nat) (hk : k < 95) : (w.alloc (.cells tableCells t)).cell? ⟨w.heap.size, k, none⟩ = some (.int .u8 ((codes.getD k 0).toNat : Int)) := by
  rw [← tableCells_get k hk]
  exact cell_of_row _ _ _ _ t (0, 0) (heap_alloc_new w _)

/-- jobshopref02.table -/
theorem rtable_any (w : World) :
    Calls Try.prog 74 #[] w fun e w' => e = .returned (.slice (some ⟨w.heap.size, 0, none⟩) 95 95) ∧ w.alloc (.cells tableCells 5) = w' := by
  go_enter Try.func74, Try.ntmps74
  go_wp2_with (refine wpList_literal _ _ _ rfl rfl (.slice (some ⟨w.heap.size, 0, none⟩) 95 95) (w.alloc (.cells tableCells 5)) (by kernel_rfl) ?_)
  go_ret
  exact ⟨rfl, rfl⟩

/-- ebcdic.Char -/
theorem char_any (b : UInt8) (w : World) :
    Calls Try.prog 68 #[.int .u8 (b.toNat : Int)] w fun e w' => e = .returned (.tuple #[.int .u8 ((char b).toNat : Int), .bool (hasChar b)]) ∧ w = w' := by
  have hu : ((b.toNat : Int)).toNat.toUInt8 = b := by simp
  cases hc : hasChar b
  · have hi := index_no b hc
    have h0 := char_no b hc
    have H0 := Lib.hid h0
    have HI := Lib.hid hi
    have HU := Lib.hid hu
    clear h0 hi hu hc
    go_enter Try.func68, Try.ntmps68
    go_wp2_with fail
    refine (Try.strings_IndexByte codeText _ _).mono ?_
    rw [HU.out, show codeText.data.toList = codes from rfl, HI.out]
    rintro e w' ⟨rfl, rfl⟩
    go_wp2
    go_ret2
    exact ⟨ret_ib (by rw [H0.out]; rfl) rfl, rfl⟩
  · obtain ⟨hi, h1, h2⟩ := index_yes b hc
    have HI := Lib.hid hi
    have HU := Lib.hid hu
    clear hi hu hc
    go_enter Try.func68, Try.ntmps68
    go_wp2_with fail
    refine (Try.strings_IndexByte codeText _ _).mono ?_
    rw [HU.out, show codeText.data.toList = codes from rfl, HI.out]
    rintro e w' ⟨rfl, rfl⟩
    go_wp2
    go_ret2
    refine ⟨ret_ib ?_ rfl, rfl⟩
    omega

def NoneTo (b : UInt8) (k : Nat) : Prop := ∀ j, j < k → codes.getD j 0 ≠ b
theorem NoneTo.succ {b : UInt8} {k : Nat} (h : NoneTo b k) (hk : codes.getD k 0 ≠ b) : NoneTo b (k + 1) := fun j hj => by
  rcases Nat.lt_or_ge j k with h' | h'
  · exact h j h'
  · have : j = k := by omega
    subst this; exact hk

set_option maxHeartbeats 400000 in
/-- jobshopref02.Char -/
theorem rchar_any (b : UInt8) (w : World) :
    Calls Try.prog 71 #[.int .u8 (b.toNat : Int)] w fun e w' => e = .returned (.tuple #[.int .u8 ((char b).toNat : Int), .bool (hasChar b)]) ∧ Below w.heap.size w w' := by
  have hbel : Below w.heap.size w (w.alloc (.cells tableCells 5)) := (Below.refl _ _).alloc (Nat.le_refl _) _
  go_enter Try.func71, Try.ntmps71
  go_wp2_with (go_at_call 74; refine (rtable_any _).mono ?_; rintro e w' ⟨rfl, rfl⟩)
  go_loop [5] (fun i => ∃ k : Nat, k ≤ 95 ∧ i = .int .i64 k ∧ NoneTo b k) (fun i => 95 - (intOf i).toNat)
  case atStart => exact ⟨0, by omega, rfl, fun j hj => by omega⟩
  case round =>
    obtain ⟨k, hk, rfl, hnone⟩ := hrel
    by_cases hlt : k < 95
    · have hcell := table_cell w 5 k hlt
      generalize hx : codes.getD k 0 = x at hcell
      have HX := Lib.hid hx
      clear hx
      by_cases he : x = b
      · have hbe : (((x.toNat : Int)) == (b.toNat : Int)) = true := by simp [he]
        obtain ⟨r1, r2⟩ := char_at b k hlt (by rw [HX.out, he])
        have HR := Lib.hid r1
        have HR2 := Lib.hid r2
        clear he r1 r2
        go_wp2
        go_ret2
        refine ⟨ret_ib ?_ HR.out.symm, hbel⟩
        rw [HR2.out]; omega
      · have hbe : (((x.toNat : Int)) == (b.toNat : Int)) = false := by
          rw [beq_eq_false_iff_ne]; exact fun h => he (UInt8.toNat_inj.1 (by exact_mod_cast h))
        have HE := Lib.hid he
        clear he
        go_wp2
        go_round
        case rel => exact ⟨k + 1, by omega, by go_num, hnone.succ (by rw [HX.out]; exact HE.out)⟩
        case measure => simp [intOf]; omega
    · have h1 : hasChar b = false := char_none b (fun j hj => hnone j (by omega))
      have h2 := char_no b h1
      have H1 := Lib.hid h1
      have H2 := Lib.hid h2
      clear h1 h2
      go_wp2
      go_ret2
      exact ⟨ret_ib (by rw [H2.out]; rfl) H1.out.symm, hbel⟩

end Go.Proofs.Ytgklbilkfmieoaa
