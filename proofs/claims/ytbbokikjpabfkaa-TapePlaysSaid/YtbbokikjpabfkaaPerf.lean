/- perform. -/
import Derived.Test.YtbbokikjpabfkaaMoveB
namespace Go.Proofs.Ytbbokikjpabfkaa
open Go.RowKit

section
variable {W w w' : World} {F : List SA} {tb : Nat} {name : ByteArray} {s : TP}
theorem resS (S : SL W F w) : SL W (cel w.heap.size #[.slice none 0 0, .int .i64 0, .int .i64 0] 31 :: F) (w.alloc (.cells #[.slice none 0 0, .int .i64 0, .int .i64 0] 31)) := S.allocC _ _
set_option maxHeartbeats 4000000 in
theorem perf_nop (A : Option Addr) (n c : Nat) (S : SL W (tapeS tb name s :: F) w) :
    Calls Try.prog 32 #[.pointer (some ⟨tb, 0, none⟩), .int .i64 3, .slice A n c] w fun e w' => RetS W (tapeS tb name s :: F) ([], 12, 0) e w' := by
  have HE := Lib.hid done_any
  have H1 := Lib.hid (resS S)
  clear S
  go_enter Try.func32, Try.ntmps32
  go_wp2_with (refine (HE.out none 0 0 _).mono ?_; rintro e w4 ⟨rfl, b4⟩; have H4 := Lib.hid (H1.out.grow b4); clear b4; obtain ⟨g3, g4, g5⟩ := H4.out.look)
  refine bodyPost_ret (v := .agg #[.slice none 0 0, .int .i64 12, .int .i64 0]) (by simp [results, Try.results32, go_sem, g3]) rfl ?_
  exact RetS.of (st := 12) (sn := 0) H4.out.set3.drop
set_option maxHeartbeats 4000000 in
theorem perf_sense (A : Option Addr) (n c : Nat) (hs : s.sense < 256) (S : SL W (tapeS tb name s :: F) w) :
    Calls Try.prog 32 #[.pointer (some ⟨tb, 0, none⟩), .int .i64 4, .slice A n c] w fun e w' => RetS W (tapeS tb name s :: F) ([UInt8.ofNat s.sense], 12, 0) e w' := by
  have HE := Lib.hid done_any
  obtain ⟨v, lp, S1⟩ := tapeS_open S
  obtain ⟨L, K, z⟩ := S1.look
  have H1 := Lib.hid ((resS S).lit #[.int .u8 (s.sense : Int)] 5 1 1 rfl (by decide))
  clear S S1
  have H2 : Hid (SL W (rowS 5 1 (.slice (some ⟨w.heap.size + 1, 0, none⟩) 1 1) 1 [.int .u8 (s.sense : Int)] :: cel w.heap.size #[.slice none 0 0, .int .i64 0, .int .i64 0] 31 :: tapeS tb name s :: F) ((w.alloc (.cells #[.slice none 0 0, .int .i64 0, .int .i64 0] 31)).alloc (.cells #[.int .u8 (s.sense : Int)] 5))) := Lib.hid (by have h := H1.out; rw [World.size_alloc] at h; exact h)
  clear H1
  go_enter Try.func32, Try.ntmps32
  go_wp2_with (refine (HE.out (some ⟨w.heap.size + 1, 0, none⟩) 1 1 _).mono ?_; rintro e w4 ⟨rfl, b4⟩; have H4 := Lib.hid (H2.out.grow b4).s1; clear b4; obtain ⟨g3, g4, g5⟩ := H4.out.look)
  refine bodyPost_ret (v := .agg #[.slice (some ⟨w.heap.size + 1, 0, none⟩) 1 1, .int .i64 12, .int .i64 0]) (by simp [results, Try.results32, go_sem, g3]) rfl ?_
  have e : Lib.byteCells [UInt8.ofNat s.sense] = [.int .u8 (s.sense : Int)] := by
    simp [Lib.byteCells, UInt8.toNat_ofNat']
    omega
  refine ⟨_, _, rfl, ?_⟩
  show SL W (rowS 5 1 _ 1 (Lib.byteCells [UInt8.ofNat s.sense]) :: _) _
  rw [e]
  exact H4.out.set3.drop
set_option maxHeartbeats 4000000 in
theorem perf_rej (op : Int) (A : Option Addr) (n c : Nat) (hop : op ∉ [1, 2, 3, 4, 7, 12, 15, 23, 31, 39, 47, 55, 63]) (S : SL W (tapeS tb name s :: F) w) :
    Calls Try.prog 32 #[.pointer (some ⟨tb, 0, none⟩), .int .i64 op, .slice A n c] w fun e w' => RetS W (tapeS tb name s :: F) ([], 14, 128) e w' := by
  have HD := Lib.hid (check_any 128)
  have H1 := Lib.hid (resS S)
  clear S
  simp only [List.mem_cons, List.not_mem_nil, or_false, not_or] at hop
  obtain ⟨h1, h2, h3, h4, h7, h12, h15, h23, h31, h39, h47, h55, h63⟩ := hop
  go_enter Try.func32, Try.ntmps32
  go_wp2_with (refine (HD.out _).mono ?_; rintro e w4 ⟨rfl, b4⟩; have H4 := Lib.hid (H1.out.grow b4); clear b4; obtain ⟨g3, g4, g5⟩ := H4.out.look)
  refine bodyPost_ret (v := .agg #[.slice none 0 0, .int .i64 14, .int .i64 128]) (by simp [results, Try.results32, go_sem, g3]) rfl ?_
  exact RetS.of (st := 14) (sn := 128) H4.out.set3.drop
set_option maxHeartbeats 8000000 in
theorem perf_off (op : Int) (A : Option Addr) (n c : Nat) (hop : op ∈ [1, 2, 7, 12, 15, 23, 31, 39, 47, 55, 63]) (hl : s.loaded = false) (S : SL W (tapeS tb name s :: F) w) :
    Calls Try.prog 32 #[.pointer (some ⟨tb, 0, none⟩), .int .i64 op, .slice A n c] w fun e w' => RetS W (tapeS tb name s :: F) ([], 14, 64) e w' := by
  have HD := Lib.hid (check_any 64)
  obtain ⟨v, lp, S1⟩ := tapeS_open S
  rw [hl] at S1
  obtain ⟨L, K, z⟩ := S1.look
  have H1 := Lib.hid (resS S)
  clear S S1
  simp only [List.mem_cons, List.not_mem_nil, or_false] at hop
  rcases hop with rfl | rfl | rfl | rfl | rfl | rfl | rfl | rfl | rfl | rfl | rfl
  all_goals
    go_enter Try.func32, Try.ntmps32
    go_wp2_with (refine (HD.out _).mono ?_; rintro e w4 ⟨rfl, b4⟩; have H4 := Lib.hid (H1.out.grow b4); clear b4; obtain ⟨g3, g4, g5⟩ := H4.out.look)
    refine bodyPost_ret (v := .agg #[.slice none 0 0, .int .i64 14, .int .i64 64]) (by simp [results, Try.results32, go_sem, g3]) rfl ?_
    exact RetS.of (st := 14) (sn := 64) H4.out.set3.drop
end
end Go.Proofs.Ytbbokikjpabfkaa
