/- USpec, UCodeSpec, UCode, UBuilder, UDec. -/
import Derived.Lib.Bytealg
import Derived.Test.YtfhpaehfihnjaaaGreatKitA
import Derived.Test.YtfhpaehfihnjaaaGreatShelf
set_option maxRecDepth 100000
namespace Job.Ebcdic
def codes : List UInt8 := [0x40,0x5a,0x7f,0x7b,0x5b,0x6c,0x50,0x7d,0x4d,0x5d,0x5c,0x4e,0x6b,0x60,0x4b,0x61,0xf0,0xf1,0xf2,0xf3,0xf4,0xf5,0xf6,0xf7,0xf8,0xf9,0x7a,0x5e,0x4c,0x7e,0x6e,0x6f,0x7c,0xc1,0xc2,0xc3,0xc4,0xc5,0xc6,0xc7,0xc8,0xc9,0xd1,0xd2,0xd3,0xd4,0xd5,0xd6,0xd7,0xd8,0xd9,0xe2,0xe3,0xe4,0xe5,0xe6,0xe7,0xe8,0xe9,0xba,0xe0,0xbb,0xb0,0x6d,0x79,0x81,0x82,0x83,0x84,0x85,0x86,0x87,0x88,0x89,0x91,0x92,0x93,0x94,0x95,0x96,0x97,0x98,0x99,0xa2,0xa3,0xa4,0xa5,0xa6,0xa7,0xa8,0xa9,0xc0,0x4f,0xd0,0xa1]
def hasCode (c : UInt8) : Bool := 32 ≤ c.toNat && c.toNat ≤ 126
def code (c : UInt8) : UInt8 := if hasCode c then codes.getD (c.toNat - 32) 0 else 0
def hasChar (b : UInt8) : Bool := codes.contains b
def char (b : UInt8) : UInt8 := if hasChar b then UInt8.ofNat (32 + codes.idxOf b) else 0
def dec (b : UInt8) : UInt8 := if hasChar b then char b else 46
theorem every (P : UInt8 → Bool) (h : (List.range 256).all (fun n => P (UInt8.ofNat n)) = true) (c : UInt8) : P c = true := by
  have := List.all_eq_true.1 h c.toNat (by simpa using c.toNat_lt)
  simpa using this
theorem hasChar_code (c : UInt8) (h : hasCode c = true) : hasChar (code c) = true := by
  have := every (fun c => !hasCode c || hasChar (code c)) (by decide +kernel) c
  simp [h] at this; exact this
theorem char_code (c : UInt8) (h : hasCode c = true) : char (code c) = c := by
  have := every (fun c => !hasCode c || char (code c) == c) (by decide +kernel) c
  simp [h] at this; exact this
theorem hasCode_char (b : UInt8) (h : hasChar b = true) : hasCode (char b) = true := by
  have := every (fun b => !hasChar b || hasCode (char b)) (by decide +kernel) b
  simp [h] at this; exact this
theorem code_char (b : UInt8) (h : hasChar b = true) : code (char b) = b := by
  have := every (fun b => !hasChar b || code (char b) == b) (by decide +kernel) b
  simp [h] at this; exact this
theorem dec_code (c : UInt8) (h : hasCode c = true) : dec (code c) = c := by
  unfold dec; rw [if_pos (hasChar_code c h), char_code c h]
def fine (s : List UInt8) : Bool := s.all hasCode
def enc (s : List UInt8) : List UInt8 := s.map code
def decs (b : List UInt8) : List UInt8 := b.map dec
def strip (x : UInt8) (b : List UInt8) : List UInt8 := (b.reverse.dropWhile (· == x)).reverse
def trim (b : List UInt8) : List UInt8 := decs (strip 0x40 b)
end Job.Ebcdic
namespace Job.Ebcdic
theorem index_yes (b : UInt8) (h : hasChar b = true) : Go.Lib.indexByte codes b = ((char b).toNat : Int) - 32 ∧ 32 ≤ (char b).toNat ∧ (char b).toNat ≤ 126 := by
  have := every (fun b => !hasChar b || (decide (Go.Lib.indexByte codes b = ((char b).toNat : Int) - 32) && decide (32 ≤ (char b).toNat) && decide ((char b).toNat ≤ 126))) (by decide +kernel) b
  simpa [h, and_assoc] using this
theorem index_no (b : UInt8) (h : hasChar b = false) : Go.Lib.indexByte codes b = -1 := by
  have := every (fun b => hasChar b || decide (Go.Lib.indexByte codes b = -1)) (by decide +kernel) b
  simpa [h] using this
theorem char_no (b : UInt8) (h : hasChar b = false) : char b = 0 := by unfold char; rw [h]; rfl
theorem code_no (c : UInt8) (h : hasCode c = false) : code c = 0 := by unfold code; rw [h]; rfl
theorem code_yes (c : UInt8) (h : hasCode c = true) : codes[c.toNat - 32]? = some (code c) := by
  have h' := h
  simp only [hasCode, Bool.and_eq_true, decide_eq_true_eq] at h'
  have hl : codes.length = 95 := rfl
  unfold code
  rw [if_pos h, List.getD_eq_getElem?_getD, List.getElem?_eq_getElem (by omega)]; rfl
theorem char_at (b : UInt8) (k : Nat) (hk : k < 95) (h : codes.getD k 0 = b) : hasChar b = true ∧ (char b).toNat = 32 + k := by
  have hall : (List.range 95).all (fun k => hasChar (codes.getD k 0) && (char (codes.getD k 0)).toNat == 32 + k) = true := by decide +kernel
  have := List.all_eq_true.1 hall k (by simpa using hk)
  rw [h] at this
  simpa using this
theorem char_none (b : UInt8) (h : ∀ k, k < 95 → codes.getD k 0 ≠ b) : hasChar b = false := by
  cases hb : hasChar b
  · rfl
  · exfalso
    have hm : b ∈ codes := by simpa [hasChar] using hb
    obtain ⟨k, hk, he⟩ := List.getElem_of_mem hm
    refine h k (by have hl : codes.length = 95 := rfl; omega) ?_
    rw [List.getD_eq_getElem?_getD, List.getElem?_eq_getElem hk]; exact he
end Job.Ebcdic
namespace Go.Proofs.YtfhpaehfihnjaaaGreat.U
open Go.RowKit Job.Ebcdic
def codeText : ByteArray := ⟨⟨codes⟩⟩
theorem codeText_size : codeText.size = 95 := rfl
theorem codeText_get (k : Nat) (h : k < codeText.size) : codeText[k]'h = codes.getD k 0 := by
  show codes[k]'_ = _
  rw [List.getD_eq_getElem?_getD, List.getElem?_eq_getElem]; rfl
def tableCells : Array Value := (codes.map fun b => Value.int .u8 (b.toNat : Int)).toArray
theorem tableCells_get (k : Nat) (hk : k < 95) : tableCells[k]? = some (.int .u8 ((codes.getD k 0).toNat : Int)) := by
  have hl : codes.length = 95 := rfl
  unfold tableCells
  rw [List.getElem?_toArray, List.getElem?_map, List.getElem?_eq_getElem (by omega), List.getD_eq_getElem?_getD, List.getElem?_eq_getElem (by omega)]; rfl
theorem table_cell (w : World) (t : TypeId) (k : Nat) (hk : k < 95) : (w.alloc (.cells tableCells t)).cell? ⟨w.heap.size, k, none⟩ = some (.int .u8 ((codes.getD k 0).toNat : Int)) := by
  rw [← tableCells_get k hk]
  exact cell_of_row _ _ _ _ t (0, 0) (heap_alloc_new w _)
theorem rtable_any (w : World) :
    Calls Tryz.prog 158 #[] w fun e w' => e = .returned (.slice (some ⟨w.heap.size, 0, none⟩) 95 95) ∧ w.alloc (.cells tableCells 5) = w' := by
  go_enter Tryz.func158, Tryz.ntmps158
  go_wp2_with (refine wpList_literal _ _ _ rfl rfl (.slice (some ⟨w.heap.size, 0, none⟩) 95 95) (w.alloc (.cells tableCells 5)) (by kernel_rfl) ?_)
  go_ret
  exact ⟨rfl, rfl⟩
theorem char_any (b : UInt8) (w : World) :
    Calls Tryz.prog 205 #[.int .u8 (b.toNat : Int)] w fun e w' => e = .returned (.tuple #[.int .u8 ((char b).toNat : Int), .bool (hasChar b)]) ∧ w = w' := by
  have hu : ((b.toNat : Int)).toNat.toUInt8 = b := by simp
  cases hc : hasChar b
  · have hi := index_no b hc
    have h0 := char_no b hc
    have H0 := Lib.hid h0
    have HI := Lib.hid hi
    have HU := Lib.hid hu
    clear h0 hi hu hc
    go_enter Tryz.func205, Tryz.ntmps205
    go_wp2_with fail
    refine (Tryz.strings_IndexByte codeText _ _).mono ?_
    rw [HU.out, show codeText.data.toList = codes from rfl, HI.out]
    rintro e w' ⟨rfl, rfl⟩
    go_wp2
    go_ret2
    exact ⟨ret_ib (by rw [H0.out]; rfl) rfl, rfl⟩
  · obtain ⟨hi, h1, h2⟩ := index_yes b hc
    have HI := Lib.hid hi
    have HU := Lib.hid hu
    clear hi hu hc
    go_enter Tryz.func205, Tryz.ntmps205
    go_wp2_with fail
    refine (Tryz.strings_IndexByte codeText _ _).mono ?_
    rw [HU.out, show codeText.data.toList = codes from rfl, HI.out]
    rintro e w' ⟨rfl, rfl⟩
    go_wp2
    go_ret2
    refine ⟨ret_ib ?_ rfl, rfl⟩
    omega
def NoneTo (b : UInt8) (k : Nat) : Prop := ∀ j, j < k → codes.getD j 0 ≠ b
theorem NoneTo.succ {b : UInt8} {k : Nat} (h : NoneTo b k) (hk : codes.getD k 0 ≠ b) : NoneTo b (k + 1) := fun j hj => by
  rcases Nat.lt_or_ge j k with h' | h'
  · exact h j h'
  · have : j = k := by omega
    subst this; exact hk
set_option maxHeartbeats 400000 in
theorem rchar_any (b : UInt8) (w : World) :
    Calls Tryz.prog 156 #[.int .u8 (b.toNat : Int)] w fun e w' => e = .returned (.tuple #[.int .u8 ((char b).toNat : Int), .bool (hasChar b)]) ∧ Below w.heap.size w w' := by
  have hbel : Below w.heap.size w (w.alloc (.cells tableCells 5)) := (Below.refl _ _).alloc (Nat.le_refl _) _
  go_enter Tryz.func156, Tryz.ntmps156
  go_wp2_with (go_at_call 158; refine (rtable_any _).mono ?_; rintro e w' ⟨rfl, rfl⟩)
  go_loop [5] (fun i => ∃ k : Nat, k ≤ 95 ∧ i = .int .i64 k ∧ NoneTo b k) (fun i => 95 - (intOf i).toNat)
  case atStart => exact ⟨0, by omega, rfl, fun j hj => by omega⟩
  case round =>
    obtain ⟨k, hk, rfl, hnone⟩ := hrel
    by_cases hlt : k < 95
    · have hcell := table_cell w 5 k hlt
      generalize hx : codes.getD k 0 = x at hcell
      have HX := Lib.hid hx
      clear hx
      by_cases he : x = b
      · have hbe : (((x.toNat : Int)) == (b.toNat : Int)) = true := by simp [he]
        obtain ⟨r1, r2⟩ := char_at b k hlt (by rw [HX.out, he])
        have HR := Lib.hid r1
        have HR2 := Lib.hid r2
        clear he r1 r2
        go_wp2
        go_ret2
        refine ⟨ret_ib ?_ HR.out.symm, hbel⟩
        rw [HR2.out]; omega
      · have hbe : (((x.toNat : Int)) == (b.toNat : Int)) = false := by
          rw [beq_eq_false_iff_ne]; exact fun h => he (UInt8.toNat_inj.1 (by exact_mod_cast h))
        have HE := Lib.hid he
        clear he
        go_wp2
        go_round
        case rel => exact ⟨k + 1, by omega, by go_num, hnone.succ (by rw [HX.out]; exact HE.out)⟩
        case measure => simp [intOf]; omega
    · have h1 : hasChar b = false := char_none b (fun j hj => hnone j (by omega))
      have h2 := char_no b h1
      have H1 := Lib.hid h1
      have H2 := Lib.hid h2
      clear h1 h2
      go_wp2
      go_ret2
      exact ⟨ret_ib (by rw [H2.out]; rfl) H1.out.symm, hbel⟩
end Go.Proofs.YtfhpaehfihnjaaaGreat.U
namespace Go.Proofs.YtfhpaehfihnjaaaGreat.U
open Go.RowKit
theorem size_builder : (Tryz.prog.info? 248).map (·.size) = some 2 := by kernel_rfl
theorem lies_builder : liesAt Tryz.prog Tryz.prog.depth 248 (2 / Tryz.prog.cellsOf 248) 0 248 1 = true := by kernel_rfl
theorem bElem : Elem Tryz.prog 50 5 (.int .u8 0) 1 1 := ⟨Tryz.underlying50, by kernel_rfl, rfl, by omega⟩
set_option maxHeartbeats 1000000 in
theorem copyCheck_used (b : Nat) (w : World) (h0 : w.cell? ⟨b, 0, none⟩ = some (.pointer (some ⟨b, 0, none⟩))) :
    Calls Tryz.prog 209 #[.pointer (some ⟨b, 0, none⟩)] w fun e w' => e = .returned (.tuple #[]) ∧ w = w' := by
  obtain ⟨j, hj, _⟩ := Option.map_eq_some_iff.1 size_builder
  go_enter Tryz.func209, Tryz.ntmps209
  go_wp2
  rw [Lib.run_neq_ptr_same w _ Tryz.underlying246 hj]
  go_wp2
  go_end0
  exact ⟨rfl, rfl⟩
set_option maxHeartbeats 1000000 in
theorem copyCheck_fresh (b : Nat) (w : World) (h0 : w.cell? ⟨b, 0, none⟩ = some (.pointer none)) (hsh : w.shape? b = some (248, 2)) (hfz : w.frozen? ⟨b, 0, none⟩ = false) :
    Calls Tryz.prog 209 #[.pointer (some ⟨b, 0, none⟩)] w fun e w' => e = .returned (.tuple #[]) ∧ w.setCell ⟨b, 0, none⟩ (.pointer (some ⟨b, 0, none⟩)) = w' := by
  obtain ⟨j, hj, hjs⟩ := Option.map_eq_some_iff.1 size_builder
  go_enter Tryz.func209, Tryz.ntmps209
  go_wp2
  rw [Lib.run_to_unsafe w ⟨b, 0, none⟩ Tryz.underlying246 Tryz.underlying253 hj (by rw [hjs]; decide) hsh (Nat.zero_lt_succ 1)]
  simp only [Result.andThen]
  rw [Oper.upon_value]
  go_wp2
  rw [run_callFunc_extern Tryz.func211 (by kernel_rfl) (by kernel_rfl) (by kernel_rfl) (e := Extern.AbiNoEscape.same) (by kernel_rfl)]
  rw [Lib.run_noEscape]
  simp only [Result.andThen]
  rw [Oper.upon_value]
  go_wp2
  rw [Lib.run_from_unsafe w ⟨b, 0, none⟩ Tryz.underlying253 Tryz.underlying246 hj hsh lies_builder]
  simp only [Result.andThen]
  rw [Oper.upon_value]
  go_wp2
  go_end0
  exact ⟨rfl, rfl⟩
abbrev IsB (b : Nat) (B : Nat) (l : List UInt8) (w : World) : Prop := Lib.IsBuilder 248 5 B b (Lib.byteCells l) w
theorem copyCheck_any (B b : Nat) (bs : List Value) (w : World) (h : Lib.IsBuilder 248 5 B b bs w) :
    Calls Tryz.prog 209 #[.pointer (some ⟨b, 0, none⟩)] w fun e w' => e = .returned (.tuple #[]) ∧ (Lib.BuilderAt 248 5 B b (.pointer (some ⟨b, 0, none⟩)) bs w' ∧ Below B w w') := by
  rcases h with h | h
  · refine (copyCheck_fresh b w h.cell0 h.shape h.frozen0).mono ?_
    rintro e w' ⟨rfl, rfl⟩
    exact ⟨rfl, h.used _, (Below.refl B w).setCell (p := ⟨b, 0, none⟩) h.1 _⟩
  · refine (copyCheck_used b w h.cell0).mono ?_
    rintro e w' ⟨rfl, rfl⟩
    exact ⟨rfl, h, Below.refl B _⟩
set_option maxHeartbeats 1000000 in
theorem writeByte_any (B b : Nat) (l : List UInt8) (c : UInt8) (w : World) (h : Lib.IsBuilder 248 5 B b (Lib.byteCells l) w) (hlen : l.length + 1 ≤ 140737488355328) (hBw : B ≤ w.heap.size) :
    Calls Tryz.prog 206 #[.pointer (some ⟨b, 0, none⟩), .int .u8 (c.toNat : Int)] w fun e w' => e = .returned .nilIface ∧ (Lib.IsBuilder 248 5 B b (Lib.byteCells (l ++ [c])) w' ∧ Below B w w') := by
  have hl := byteCells_len l
  have HL := Lib.hid hl
  clear hl
  go_enter Tryz.func206, Tryz.ntmps206
  go_wp2_with (go_at_call 209; refine (copyCheck_any B b _ _ h).mono ?_)
  rintro e w1 ⟨rfl, h1, hb1⟩
  obtain ⟨hB, v, hbk, hown, hne⟩ := h1
  obtain ⟨A, cap, rfl, _, _⟩ := own_slice hown
  have c0 : w1.cell? ⟨b, 0, none⟩ = some (.pointer (some ⟨b, 0, none⟩)) := by rw [Lib.cell_of_heap hbk]; rfl
  have c1 : w1.cell? ⟨b, 1, none⟩ = some (.slice A (Lib.byteCells l).length cap) := by rw [Lib.cell_of_heap hbk]; rfl
  have HO := Lib.hid hown
  have HB := Lib.hid hbk
  have HN := Lib.hid hne
  clear hown hbk hne
  go_wp2_with (at_builtin; refine wpList_push rfl _ _ _ rfl bElem w1 [.int .u8 (c.toNat : Int)] rfl rfl (by simp [Value.oneCell']) B _ _ _ rfl rfl HO.out (by rw [HL.out]; unfold maxLen; omega) (by rw [HL.out]; omega) (Nat.le_trans hBw hb1.size) ?_)
  intro A2 c2 w2 hown' hgrow
  have hbk := HB.out
  have hne := HN.out
  have hlt : b < w1.heap.size := (Array.getElem?_eq_some_iff.1 hbk).1
  have hb2 : w2.heap[b]? = some (.cells #[.pointer (some ⟨b, 0, none⟩), .slice A (Lib.byteCells l).length cap] 248 (0, 0)) := by
    rw [hgrow.block b hlt (fun e => hne e.symm)]
    exact hbk
  have d0 : w2.cell? ⟨b, 0, none⟩ = some (.pointer (some ⟨b, 0, none⟩)) := by rw [Lib.cell_of_heap hb2]; rfl
  have d1 : w2.cell? ⟨b, 1, none⟩ = some (.slice A (Lib.byteCells l).length cap) := by rw [Lib.cell_of_heap hb2]; rfl
  have f1 : w2.frozen? ⟨b, 1, none⟩ = false := Lib.frozen_of_heap hb2 1
  have HB2 := Lib.hid hb2
  have HO2 := Lib.hid hown'
  clear hbk hne hb2 hown'
  go_wp2
  go_ret
  have e : Lib.byteCells (l ++ [c]) = Lib.byteCells l ++ [.int .u8 (c.toNat : Int)] := by simp [Lib.byteCells]
  refine ⟨rfl, .inr ?_, ?_⟩
  · rw [e]
    exact Lib.BuilderAt.put (T := 248) (e := 5) hB HB2.out (bs' := Lib.byteCells l ++ [.int .u8 (c.toNat : Int)]) (by have := HO2.out; simpa using this) (by decide)
  · exact (hb1.grown hgrow (Nat.le_trans hBw hb1.size) (own_ge HO.out)).setCell (p := ⟨b, 1, none⟩) hB _
end Go.Proofs.YtfhpaehfihnjaaaGreat.U
namespace Go.Proofs.YtfhpaehfihnjaaaGreat.U
open Go.RowKit Job.Ebcdic
theorem decs_take_succ (l : List UInt8) (k : Nat) (h : k < l.length) : decs (l.take k) ++ [dec l[k]] = decs (l.take (k + 1)) := by
  rw [List.take_succ_eq_append_getElem h]; simp only [decs, List.map_append, List.map_cons, List.map_nil]
theorem dec_yes (b : UInt8) (h : hasChar b = true) : dec b = char b := by unfold dec; rw [if_pos h]
theorem dec_no (b : UInt8) (h : hasChar b = false) : dec b = 46 := by unfold dec; rw [h]; rfl
set_option maxHeartbeats 1000000 in
theorem decode_any (A : Option Addr) (l : List UInt8) (c : Nat) (w : World) (ha : At w w.heap.size A (Lib.byteCells l)) (hl : l.length ≤ 140737488351232) :
    Calls Tryz.prog 204 #[.slice A l.length c] w fun e w' => e = .returned (.string ⟨(decs l).toArray⟩) ∧ Below w.heap.size w w' := by
  go_enter Tryz.func204, Tryz.ntmps204
  go_wp2
  go_loopw [10] (fun i wr => ∃ k : Nat, k ≤ l.length ∧ i = .int .i64 k ∧ Lib.IsBuilder 248 5 w.heap.size w.heap.size (Lib.byteCells (decs (l.take k))) wr ∧ Below w.heap.size w wr) (fun i _ => l.length - (intOf i).toNat)
  case atStart => exact ⟨0, Nat.zero_le _, rfl, by simpa [decs, Lib.byteCells] using Lib.fresh_isBuilder 248 5 w, (Below.refl _ _).alloc (Nat.le_refl _) _⟩
  case round =>
    obtain ⟨k, hk, rfl, hB, hb⟩ := hrel
    have HB := Lib.hid hB
    clear hB
    by_cases hlt : k < l.length
    · obtain ⟨b, off, rfl, _, hca⟩ := (ha.below hb).cell (byteCells_get l k hlt)
      have hdl : (decs (l.take k)).length ≤ l.length := by simp [decs]; omega
      cases hc : hasChar (l[k])
      · have HD := Lib.hid (dec_no _ hc)
        have HC := Lib.hid hc
        clear hc
        go_wp2_with (first
          | (go_at_call 205; refine (char_any l[k] _).mono ?_; rw [HC.out]; rintro e w1 ⟨rfl, rfl⟩)
          | (go_at_call 206; refine (writeByte_any w.heap.size w.heap.size _ 46 _ HB.out (by omega) hb.size).mono ?_; rintro e w1 ⟨rfl, hB1, hb1⟩))
        go_roundw
        case rel =>
          refine ⟨k + 1, by omega, by go_num, ?_, hb.trans hb1⟩
          rw [← decs_take_succ _ k hlt, HD.out]; exact hB1
        case measure => simp [intOf]; omega
      · have HD := Lib.hid (dec_yes _ hc)
        have HC := Lib.hid hc
        clear hc
        go_wp2_with (first
          | (go_at_call 205; refine (char_any l[k] _).mono ?_; rw [HC.out]; rintro e w1 ⟨rfl, rfl⟩)
          | (go_at_call 206; refine (writeByte_any w.heap.size w.heap.size _ (char l[k]) _ HB.out (by omega) hb.size).mono ?_; rintro e w1 ⟨rfl, hB1, hb1⟩))
        go_roundw
        case rel =>
          refine ⟨k + 1, by omega, by go_num, ?_, hb.trans hb1⟩
          rw [← decs_take_succ _ k hlt, HD.out]; exact hB1
        case measure => simp [intOf]; omega
    · obtain rfl : k = l.length := by omega
      have ht : l.take l.length = l := List.take_of_length_le (Nat.le_refl _)
      have HT := Lib.hid ht
      clear ht
      go_wp2_with (go_at_call 207; refine (Tryz.Builder_String_any w.heap.size w.heap.size _ _ HB.out hb.size).mono ?_; rw [HT.out]; rintro e w1 ⟨rfl, hb1⟩)
      go_ret
      exact ⟨rfl, hb.trans hb1⟩
set_option maxHeartbeats 1000000 in
theorem rdecode_any (A : Option Addr) (l : List UInt8) (c : Nat) (w : World) (ha : At w w.heap.size A (Lib.byteCells l)) (hl : l.length ≤ 140737488351232) :
    Calls Tryz.prog 151 #[.slice A l.length c] w fun e w' => e = .returned (.string ⟨(decs l).toArray⟩) ∧ Below w.heap.size w w' := by
  go_enter Tryz.func151, Tryz.ntmps151
  go_wp2
  go_loopw [3, 4] (fun v i wr => ∃ k : Nat, k ≤ l.length ∧ i = .int .i64 k ∧ (∃ A c, v = .slice A k c) ∧ wr.ownsRow w.heap.size 5 1 v k (Lib.byteCells (decs (l.take k))) ∧ Below w.heap.size w wr) (fun _ i _ => l.length - (intOf i).toNat)
  case atStart => exact ⟨0, Nat.zero_le _, rfl, ⟨none, 0, rfl⟩, World.ownsRow_nil _ _ _ _, Below.refl _ _⟩
  case round =>
    obtain ⟨k, hk, rfl, ⟨A2, c2, rfl⟩, hown, hb⟩ := hrel
    have HO := Lib.hid hown
    clear hown
    by_cases hlt : k < l.length
    · obtain ⟨b, off, rfl, _, hca⟩ := (ha.below hb).cell (byteCells_get l k hlt)
      cases hc : hasChar (l[k])
      · have HD := Lib.hid (dec_no _ hc)
        have HC := Lib.hid hc
        clear hc
        go_wp2_with (first
          | (go_at_call 156; refine (rchar_any l[k] _).mono ?_; rw [HC.out]; rintro e w1 ⟨rfl, hb1⟩)
          | (at_builtin; refine wpList_push rfl _ _ _ rfl bElem w1 [.int .u8 46] rfl rfl (by simp [Value.oneCell']) w.heap.size _ k _ rfl rfl (own_below HO.out hb1) (by unfold maxLen; omega) (by omega) (Nat.le_trans hb.size hb1.size) ?_; intro A3 c3 w2 hown2 hg2))
        have hb2 : Below w.heap.size w w2 := (hb.trans (hb1.mono hb.size)).grown hg2 (Nat.le_trans hb.size hb1.size) (own_ge HO.out)
        go_roundw
        case rel =>
          refine ⟨k + 1, by omega, by go_num, ⟨_, _, rfl⟩, ?_, hb2⟩
          rw [← decs_take_succ _ k hlt, HD.out]; simpa [Lib.byteCells] using hown2
        case measure => simp [intOf]; omega
      · have HD := Lib.hid (dec_yes _ hc)
        have HC := Lib.hid hc
        clear hc
        go_wp2_with (first
          | (go_at_call 156; refine (rchar_any l[k] _).mono ?_; rw [HC.out]; rintro e w1 ⟨rfl, hb1⟩)
          | (at_builtin; refine wpList_push rfl _ _ _ rfl bElem w1 [.int .u8 ((char l[k]).toNat : Int)] rfl rfl (by simp [Value.oneCell']) w.heap.size _ k _ rfl rfl (own_below HO.out hb1) (by unfold maxLen; omega) (by omega) (Nat.le_trans hb.size hb1.size) ?_; intro A3 c3 w2 hown2 hg2))
        have hb2 : Below w.heap.size w w2 := (hb.trans (hb1.mono hb.size)).grown hg2 (Nat.le_trans hb.size hb1.size) (own_ge HO.out)
        go_roundw
        case rel =>
          refine ⟨k + 1, by omega, by go_num, ⟨_, _, rfl⟩, ?_, hb2⟩
          rw [← decs_take_succ _ k hlt, HD.out]; simpa [Lib.byteCells] using hown2
        case measure => simp [intOf]; omega
    · obtain rfl : k = l.length := by omega
      have ho := HO.out
      rw [List.take_of_length_le (Nat.le_refl _)] at ho
      have hconv := run_string_of_at (P := Tryz.prog) (w := wr) 50 9 5 Tryz.underlying50 Tryz.underlying5 Tryz.underlying9 (decs l) c2 (own_at ho)
      rw [show (decs l).length = l.length from by simp [decs]] at hconv
      clear ho
      go_wp2
      go_ret
      exact ⟨rfl, hb⟩
theorem strip_snoc (x : UInt8) (l : List UInt8) (y : UInt8) : strip x (l ++ [y]) = if y == x then strip x l else l ++ [y] := by
  unfold strip
  rw [List.reverse_append]
  simp only [List.reverse_cons, List.reverse_nil, List.nil_append, List.singleton_append, List.dropWhile_cons]
  split <;> simp
theorem strip_take (x : UInt8) (l : List UInt8) (k : Nat) (h : k < l.length) : strip x (l.take (k + 1)) = if l[k] == x then strip x (l.take k) else l.take (k + 1) := by
  rw [List.take_succ_eq_append_getElem h, strip_snoc]
set_option maxHeartbeats 1000000 in
theorem trim_any (A : Option Addr) (l : List UInt8) (c : Nat) (w : World) (ha : At w w.heap.size A (Lib.byteCells l)) (hl : l.length ≤ 140737488351232) (hlc : l.length ≤ c) :
    Calls Tryz.prog 202 #[.slice A l.length c] w fun e w' => e = .returned (.string ⟨(trim l).toArray⟩) ∧ Below w.heap.size w w' := by
  go_enter Tryz.func202, Tryz.ntmps202
  go_wp2
  go_loop [3] (fun i => ∃ k : Nat, k ≤ l.length ∧ i = .int .i64 k ∧ strip 64 (l.take k) = strip 64 l) (fun i => (intOf i).toNat)
  case atStart => exact ⟨l.length, Nat.le_refl _, rfl, by rw [List.take_of_length_le (Nat.le_refl _)]⟩
  case round =>
    obtain ⟨k, hk, rfl, hs⟩ := hrel
    have HS := Lib.hid hs
    clear hs
    have hlt : (l.take k).length = k := by simp; omega
    have HLT := Lib.hid hlt
    clear hlt
    have hcall : ∀ h : strip 64 (l.take k) = l.take k, Calls Tryz.prog 204 #[.slice A k c] w fun e w' => e = .returned (.string ⟨(trim l).toArray⟩) ∧ Below w.heap.size w w' := by
      intro h
      have h1 := decode_any A (l.take k) c w (by have := ha.take k; rwa [show (Lib.byteCells l).take k = Lib.byteCells (l.take k) from by simp [Lib.byteCells]] at this) (by rw [HLT.out]; omega)
      rw [HLT.out] at h1
      unfold trim
      rw [← HS.out, h]
      exact h1
    have HCALL := Lib.hid hcall
    clear hcall
    by_cases h0 : k = 0
    · subst h0
      go_wp2_with (go_at_call 204; refine (HCALL.out rfl).mono ?_; rintro e w1 ⟨rfl, hb1⟩)
      go_ret
      exact ⟨rfl, hb1⟩
    · obtain ⟨j, rfl⟩ : ∃ j, k = j + 1 := ⟨k - 1, by omega⟩
      have hjl : j < l.length := by omega
      obtain ⟨b, off, rfl, _, hca⟩ := ha.cell (byteCells_get l j hjl)
      have hst := strip_take 64 l j hjl
      by_cases he : l[j] = 64
      · have hb : ((l[j].toNat : Int) == 64) = true := by rw [he]; rfl
        have hst' : strip 64 (l.take (j + 1)) = strip 64 (l.take j) := by rw [hst, if_pos (by rw [he]; rfl)]
        have HST := Lib.hid hst'
        clear hst hst' he
        go_wp2
        go_round
        case rel => exact ⟨j, by omega, by go_num, by rw [← HST.out]; exact HS.out⟩
        case measure => simp [intOf] <;> omega
      · have hb : ((l[j].toNat : Int) == 64) = false := byte_beq_no (y := 64) he
        have hst' : strip 64 (l.take (j + 1)) = l.take (j + 1) := by rw [hst, if_neg (by simpa using he)]
        have HST := Lib.hid hst'
        clear hst hst' he
        go_wp2_with (go_at_call 204; refine (HCALL.out HST.out).mono ?_; rintro e w1 ⟨rfl, hb1⟩)
        go_ret
        exact ⟨rfl, hb1⟩
set_option maxHeartbeats 1000000 in
theorem rtrim_any (A : Option Addr) (l : List UInt8) (c : Nat) (w : World) (ha : At w w.heap.size A (Lib.byteCells l)) (hl : l.length ≤ 140737488351232) (hlc : l.length ≤ c) :
    Calls Tryz.prog 140 #[.slice A l.length c] w fun e w' => e = .returned (.string ⟨(trim l).toArray⟩) ∧ Below w.heap.size w w' := by
  go_enter Tryz.func140, Tryz.ntmps140
  go_wp2
  go_loop [3] (fun i => ∃ k : Nat, k ≤ l.length ∧ i = .int .i64 k ∧ strip 64 (l.take k) = strip 64 l) (fun i => (intOf i).toNat)
  case atStart => exact ⟨l.length, Nat.le_refl _, rfl, by rw [List.take_of_length_le (Nat.le_refl _)]⟩
  case round =>
    obtain ⟨k, hk, rfl, hs⟩ := hrel
    have HS := Lib.hid hs
    clear hs
    have hlt : (l.take k).length = k := by simp; omega
    have HLT := Lib.hid hlt
    clear hlt
    have hcall : ∀ h : strip 64 (l.take k) = l.take k, Calls Tryz.prog 151 #[.slice A k c] w fun e w' => e = .returned (.string ⟨(trim l).toArray⟩) ∧ Below w.heap.size w w' := by
      intro h
      have h1 := rdecode_any A (l.take k) c w (by have := ha.take k; rwa [show (Lib.byteCells l).take k = Lib.byteCells (l.take k) from by simp [Lib.byteCells]] at this) (by rw [HLT.out]; omega)
      rw [HLT.out] at h1
      unfold trim
      rw [← HS.out, h]
      exact h1
    have HCALL := Lib.hid hcall
    clear hcall
    by_cases h0 : k = 0
    · subst h0
      go_wp2_with (go_at_call 151; refine (HCALL.out rfl).mono ?_; rintro e w1 ⟨rfl, hb1⟩)
      go_ret
      exact ⟨rfl, hb1⟩
    · obtain ⟨j, rfl⟩ : ∃ j, k = j + 1 := ⟨k - 1, by omega⟩
      have hjl : j < l.length := by omega
      obtain ⟨b, off, rfl, _, hca⟩ := ha.cell (byteCells_get l j hjl)
      have hst := strip_take 64 l j hjl
      by_cases he : l[j] = 64
      · have hb : ((l[j].toNat : Int) == 64) = true := by rw [he]; rfl
        have hst' : strip 64 (l.take (j + 1)) = strip 64 (l.take j) := by rw [hst, if_pos (by rw [he]; rfl)]
        have HST := Lib.hid hst'
        clear hst hst' he
        go_wp2
        go_round
        case rel => exact ⟨j, by omega, by go_num, by rw [← HST.out]; exact HS.out⟩
        case measure => simp [intOf] <;> omega
      · have hb : ((l[j].toNat : Int) == 64) = false := byte_beq_no (y := 64) he
        have hst' : strip 64 (l.take (j + 1)) = l.take (j + 1) := by rw [hst, if_neg (by simpa using he)]
        have HST := Lib.hid hst'
        clear hst hst' he
        go_wp2_with (go_at_call 151; refine (HCALL.out HST.out).mono ?_; rintro e w1 ⟨rfl, hb1⟩)
        go_ret
        exact ⟨rfl, hb1⟩
end Go.Proofs.YtfhpaehfihnjaaaGreat.U
