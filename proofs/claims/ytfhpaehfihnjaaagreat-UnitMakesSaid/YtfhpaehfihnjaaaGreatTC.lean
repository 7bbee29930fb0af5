/- TPerf, TPerfB, TPerfC. -/
import Derived.Test.YtfhpaehfihnjaaaGreatTB
set_option maxRecDepth 100000
namespace Go.Proofs.YtfhpaehfihnjaaaGreat.T
open Go.RowKit
section
variable {W w w' : World} {F : List SA} {tb : Nat} {name : ByteArray} {s : TP}
theorem resS (S : SL W F w) : SL W (cel w.heap.size #[.slice none 0 0, .int .i64 0, .int .i64 0] 55 :: F) (w.alloc (.cells #[.slice none 0 0, .int .i64 0, .int .i64 0] 55)) := S.allocC _ _
set_option maxHeartbeats 4000000 in
theorem perf_nop (A : Option Addr) (n c : Nat) (S : SL W (tapeS tb name s :: F) w) :
    Calls Tryz.prog 179 #[.pointer (some ⟨tb, 0, none⟩), .int .i64 3, .slice A n c] w fun e w' => RetS W (tapeS tb name s :: F) ([], 12, 0) e w' := by
  have HE := Lib.hid done_any
  have H1 := Lib.hid (resS S)
  clear S
  go_enter Tryz.func179, Tryz.ntmps179
  go_wp2_with (refine (HE.out none 0 0 _).mono ?_; rintro e w4 ⟨rfl, b4⟩; have H4 := Lib.hid (H1.out.grow b4); clear b4; obtain ⟨g3, g4, g5⟩ := H4.out.look)
  refine bodyPost_ret (v := .agg #[.slice none 0 0, .int .i64 12, .int .i64 0]) (by simp [results, Tryz.results179, go_sem, g3]) rfl ?_
  exact RetS.of (st := 12) (sn := 0) H4.out.set3.drop
set_option maxHeartbeats 4000000 in
theorem perf_sense (A : Option Addr) (n c : Nat) (hs : s.sense < 256) (S : SL W (tapeS tb name s :: F) w) :
    Calls Tryz.prog 179 #[.pointer (some ⟨tb, 0, none⟩), .int .i64 4, .slice A n c] w fun e w' => RetS W (tapeS tb name s :: F) ([UInt8.ofNat s.sense], 12, 0) e w' := by
  have HE := Lib.hid done_any
  obtain ⟨v, lp, S1⟩ := tapeS_open S
  obtain ⟨L, K, z⟩ := S1.look
  have H1 := Lib.hid ((resS S).lit #[.int .u8 (s.sense : Int)] 5 1 1 rfl (by decide))
  clear S S1
  have H2 : Hid (SL W (rowS 5 1 (.slice (some ⟨w.heap.size + 1, 0, none⟩) 1 1) 1 [.int .u8 (s.sense : Int)] :: cel w.heap.size #[.slice none 0 0, .int .i64 0, .int .i64 0] 55 :: tapeS tb name s :: F) ((w.alloc (.cells #[.slice none 0 0, .int .i64 0, .int .i64 0] 55)).alloc (.cells #[.int .u8 (s.sense : Int)] 5))) := Lib.hid (by have h := H1.out; rw [World.size_alloc] at h; exact h)
  clear H1
  go_enter Tryz.func179, Tryz.ntmps179
  go_wp2_with (refine (HE.out (some ⟨w.heap.size + 1, 0, none⟩) 1 1 _).mono ?_; rintro e w4 ⟨rfl, b4⟩; have H4 := Lib.hid (H2.out.grow b4).s1; clear b4; obtain ⟨g3, g4, g5⟩ := H4.out.look)
  refine bodyPost_ret (v := .agg #[.slice (some ⟨w.heap.size + 1, 0, none⟩) 1 1, .int .i64 12, .int .i64 0]) (by simp [results, Tryz.results179, go_sem, g3]) rfl ?_
  have e : Lib.byteCells [UInt8.ofNat s.sense] = [.int .u8 (s.sense : Int)] := by
    simp [Lib.byteCells, UInt8.toNat_ofNat']
    omega
  refine ⟨_, _, rfl, ?_⟩
  show SL W (rowS 5 1 _ 1 (Lib.byteCells [UInt8.ofNat s.sense]) :: _) _
  rw [e]
  exact H4.out.set3.drop
set_option maxHeartbeats 4000000 in
theorem perf_rej (op : Int) (A : Option Addr) (n c : Nat) (hop : op ∉ [1, 2, 3, 4, 7, 12, 15, 23, 31, 39, 47, 55, 63]) (S : SL W (tapeS tb name s :: F) w) :
    Calls Tryz.prog 179 #[.pointer (some ⟨tb, 0, none⟩), .int .i64 op, .slice A n c] w fun e w' => RetS W (tapeS tb name s :: F) ([], 14, 128) e w' := by
  have HD := Lib.hid (check_any 128)
  have H1 := Lib.hid (resS S)
  clear S
  simp only [List.mem_cons, List.not_mem_nil, or_false, not_or] at hop
  obtain ⟨h1, h2, h3, h4, h7, h12, h15, h23, h31, h39, h47, h55, h63⟩ := hop
  go_enter Tryz.func179, Tryz.ntmps179
  go_wp2_with (refine (HD.out _).mono ?_; rintro e w4 ⟨rfl, b4⟩; have H4 := Lib.hid (H1.out.grow b4); clear b4; obtain ⟨g3, g4, g5⟩ := H4.out.look)
  refine bodyPost_ret (v := .agg #[.slice none 0 0, .int .i64 14, .int .i64 128]) (by simp [results, Tryz.results179, go_sem, g3]) rfl ?_
  exact RetS.of (st := 14) (sn := 128) H4.out.set3.drop
set_option maxHeartbeats 8000000 in
theorem perf_off (op : Int) (A : Option Addr) (n c : Nat) (hop : op ∈ [1, 2, 7, 12, 15, 23, 31, 39, 47, 55, 63]) (hl : s.loaded = false) (S : SL W (tapeS tb name s :: F) w) :
    Calls Tryz.prog 179 #[.pointer (some ⟨tb, 0, none⟩), .int .i64 op, .slice A n c] w fun e w' => RetS W (tapeS tb name s :: F) ([], 14, 64) e w' := by
  have HD := Lib.hid (check_any 64)
  obtain ⟨v, lp, S1⟩ := tapeS_open S
  rw [hl] at S1
  obtain ⟨L, K, z⟩ := S1.look
  have H1 := Lib.hid (resS S)
  clear S S1
  simp only [List.mem_cons, List.not_mem_nil, or_false] at hop
  rcases hop with rfl | rfl | rfl | rfl | rfl | rfl | rfl | rfl | rfl | rfl | rfl
  all_goals
    go_enter Tryz.func179, Tryz.ntmps179
    go_wp2_with (refine (HD.out _).mono ?_; rintro e w4 ⟨rfl, b4⟩; have H4 := Lib.hid (H1.out.grow b4); clear b4; obtain ⟨g3, g4, g5⟩ := H4.out.look)
    refine bodyPost_ret (v := .agg #[.slice none 0 0, .int .i64 14, .int .i64 64]) (by simp [results, Tryz.results179, go_sem, g3]) rfl ?_
    exact RetS.of (st := 14) (sn := 64) H4.out.set3.drop
end
end Go.Proofs.YtfhpaehfihnjaaaGreat.T
namespace Go.Proofs.YtfhpaehfihnjaaaGreat.T
open Go.RowKit
section
variable {W w w' : World} {F : List SA} {tb : Nat} {name : ByteArray} {s : TP}
set_option maxHeartbeats 8000000 in
theorem perf_move (op : Int) (A : Option Addr) (n c : Nat) (hop : op = 2 ∨ op = 55 ∨ op = 12 ∨ op = 39 ∨ op = 63 ∨ op = 47) (hl : s.loaded = true) (S : SL W (tapeS tb name s :: F) w) (hp : s.pos ≤ s.bs.length) (hf : Fit s.bs) :
    Calls Tryz.prog 179 #[.pointer (some ⟨tb, 0, none⟩), .int .i64 op, .slice A n c] w fun e w' => RetS W (tapeS tb name (tpMove s op).1 :: F) (tpMove s op).2 e w' := by
  obtain ⟨v, lp, S1⟩ := tapeS_open S
  rw [hl] at S1
  obtain ⟨L, K, z⟩ := S1.look
  have H1 := Lib.hid (S.allocC #[.slice none 0 0, .int .i64 0, .int .i64 0] 55)
  have HM := Lib.hid (move_any (name := name) (F := cel w.heap.size #[.slice none 0 0, .int .i64 0, .int .i64 0] 55 :: F) op hop H1.out.s1 hp hf)
  clear S S1
  generalize hr : tpMove s op = r at HM ⊢
  obtain ⟨s2, rd, st, sn⟩ := r
  dsimp only at *
  clear hr
  rcases hop with rfl | rfl | rfl | rfl | rfl | rfl
  all_goals
    go_enter Tryz.func179, Tryz.ntmps179
    go_wp2_with (refine HM.out.mono ?_; rintro e w4 ⟨A4, c4, rfl, S4⟩; have H4 := Lib.hid S4.s2; clear S4; obtain ⟨g3, g4, g5⟩ := H4.out.look)
    refine bodyPost_ret (v := .agg #[.slice A4 rd.length c4, .int .i64 (st : Int), .int .i64 (sn : Int)]) (by simp [results, Tryz.results179, go_sem, g3]) rfl ?_
    exact ⟨A4, c4, rfl, H4.out.set3.drop⟩
end
end Go.Proofs.YtfhpaehfihnjaaaGreat.T
namespace Go.Proofs.YtfhpaehfihnjaaaGreat.T
open Go.RowKit
section
variable {W w w' : World} {F : List SA} {tb : Nat} {name : ByteArray} {s : TP}
set_option maxHeartbeats 4000000 in
theorem perf_mark (A : Option Addr) (n c : Nat) (hl : s.loaded = true) (S : SL W (tapeS tb name s :: F) w) (hp : s.pos ≤ s.bs.length) (hf : Fit s.bs) (h40 : s.bs.length ≤ 4096) :
    Calls Tryz.prog 179 #[.pointer (some ⟨tb, 0, none⟩), .int .i64 31, .slice A n c] w fun e w' => RetS W (tapeS tb name (tpWrite s ⟨[], true, false⟩).1 :: F) (tpWrite s ⟨[], true, false⟩).2 e w' := by
  obtain ⟨v, lp, S1⟩ := tapeS_open S
  rw [hl] at S1
  obtain ⟨L, K, z⟩ := S1.look
  have H1 := Lib.hid (S.allocC #[.slice none 0 0, .int .i64 0, .int .i64 0] 55)
  have HM := Lib.hid (write_any (name := name) (F := cel w.heap.size #[.slice none 0 0, .int .i64 0, .int .i64 0] 55 :: F) ⟨[], true, false⟩ none 0 (H1.out.s1.nil 5 1) hp hf h40)
  clear S S1
  generalize hr : tpWrite s ⟨[], true, false⟩ = r at HM ⊢
  obtain ⟨s2, rd, st, sn⟩ := r
  dsimp only at *
  clear hr
  go_enter Tryz.func179, Tryz.ntmps179
  go_wp2_with (refine HM.out.mono ?_; rintro e w4 ⟨A4, c4, rfl, S4⟩; have H4 := Lib.hid S4.s2; clear S4; obtain ⟨g3, g4, g5⟩ := H4.out.look)
  refine bodyPost_ret (v := .agg #[.slice A4 rd.length c4, .int .i64 (st : Int), .int .i64 (sn : Int)]) (by simp [results, Tryz.results179, go_sem, g3]) rfl ?_
  exact ⟨A4, c4, rfl, H4.out.set3.drop⟩
set_option maxHeartbeats 4000000 in
theorem perf_long (A : Option Addr) (n c : Nat) (hn : n < 1 ∨ 1024 < n) (h63 : n ≤ 1073741824) (hl : s.loaded = true) (S : SL W (tapeS tb name s :: F) w) :
    Calls Tryz.prog 179 #[.pointer (some ⟨tb, 0, none⟩), .int .i64 1, .slice A n c] w fun e w' => RetS W (tapeS tb name s :: F) ([], 14, 128) e w' := by
  have HD := Lib.hid (check_any 128)
  obtain ⟨v, lp, S1⟩ := tapeS_open S
  rw [hl] at S1
  obtain ⟨L, K, z⟩ := S1.look
  have H1 := Lib.hid (resS S)
  clear S S1
  rcases hn with hn | hn
  all_goals
    go_enter Tryz.func179, Tryz.ntmps179
    go_wp2_with (refine (HD.out _).mono ?_; rintro e w4 ⟨rfl, b4⟩; have H4 := Lib.hid (H1.out.grow b4); clear b4; obtain ⟨g3, g4, g5⟩ := H4.out.look)
    refine bodyPost_ret (v := .agg #[.slice none 0 0, .int .i64 14, .int .i64 128]) (by simp [results, Tryz.results179, go_sem, g3]) rfl ?_
    exact RetS.of (st := 14) (sn := 128) H4.out.set3.drop
set_option maxHeartbeats 4000000 in
theorem perf_write (A : Option Addr) (l : List UInt8) (c : Nat) (h1 : 1 ≤ l.length) (h2 : l.length ≤ 1024) (hl : s.loaded = true) (S : SL W (tapeS tb name s :: F) w) (hr : Rd W (tapeS tb name s :: F) A (Lib.byteCells l)) (hp : s.pos ≤ s.bs.length) (hf : Fit s.bs) (h40 : s.bs.length ≤ 4096) :
    Calls Tryz.prog 179 #[.pointer (some ⟨tb, 0, none⟩), .int .i64 1, .slice A l.length c] w fun e w' => RetS W (tapeS tb name (tpWrite s ⟨l, false, false⟩).1 :: F) (tpWrite s ⟨l, false, false⟩).2 e w' := by
  obtain ⟨v, lp, S1⟩ := tapeS_open S
  rw [hl] at S1
  obtain ⟨L, K, z⟩ := S1.look
  have H1 := Lib.hid (S.allocC #[.slice none 0 0, .int .i64 0, .int .i64 0] 55)
  have HR := Lib.hid (hr.cons (P := cel w.heap.size #[.slice none 0 0, .int .i64 0, .int .i64 0] 55))
  have HM : ∀ (w2 : World) (A2 : Option Addr) (c2 : Nat), SL W (datS (.slice A2 l.length c2, ⟨l, false, false⟩) :: tapeS tb name s :: cel w.heap.size #[.slice none 0 0, .int .i64 0, .int .i64 0] 55 :: F) w2 → Calls Tryz.prog 181 #[.pointer (some ⟨tb, 0, none⟩), .agg #[.bool false, .slice A2 l.length c2, .bool false]] w2 fun e w' => RetS W (tapeS tb name (tpWrite s ⟨l, false, false⟩).1 :: cel w.heap.size #[.slice none 0 0, .int .i64 0, .int .i64 0] 55 :: F) (tpWrite s ⟨l, false, false⟩).2 e w' := fun w2 A2 c2 S2 => write_any ⟨l, false, false⟩ A2 c2 S2 hp hf h40
  have HM := Lib.hid HM
  clear S S1 hr
  generalize hr : tpWrite s ⟨l, false, false⟩ = r at HM ⊢
  obtain ⟨s2, rd, st, sn⟩ := r
  dsimp only at *
  clear hr
  go_enter Tryz.func179, Tryz.ntmps179
  go_wp2_with (first
    | (refine (sclone_any A l c H1.out HR.out (by omega)).mono ?_; rintro e w2 ⟨v2, rfl, S2⟩; obtain ⟨A2, c2, rfl, _, _⟩ := own_slice S2.own; have H2 := Lib.hid S2.s2.s1; clear S2)
    | (refine (HM.out _ A2 c2 H2.out).mono ?_; rintro e w4 ⟨A4, c4, rfl, S4⟩; have H4 := Lib.hid S4.s2; clear S4; obtain ⟨g3, g4, g5⟩ := H4.out.look))
  refine bodyPost_ret (v := .agg #[.slice A4 rd.length c4, .int .i64 (st : Int), .int .i64 (sn : Int)]) (by simp [results, Tryz.results179, go_sem, g3]) rfl ?_
  exact ⟨A4, c4, rfl, H4.out.set3.drop⟩
set_option maxHeartbeats 4000000 in
theorem perf_erase (A : Option Addr) (n c : Nat) (hl : s.loaded = true) (S : SL W (tapeS tb name s :: F) w) (hp : s.pos ≤ s.bs.length) (hf : Fit s.bs) :
    Calls Tryz.prog 179 #[.pointer (some ⟨tb, 0, none⟩), .int .i64 23, .slice A n c] w fun e w' => RetS W (tapeS tb name (tpCut s false) :: F) ([], 12, 0) e w' := by
  have HE := Lib.hid done_any
  obtain ⟨v, lp, S1⟩ := tapeS_open S
  rw [hl] at S1
  obtain ⟨L, K, z⟩ := S1.look
  have H1 := Lib.hid (resS S)
  have HM := Lib.hid (cut_any (name := name) false H1.out.s1 hp hf)
  clear S S1
  go_enter Tryz.func179, Tryz.ntmps179
  go_wp2_with (first
    | (refine HM.out.mono ?_; rintro e w2 ⟨rfl, S2⟩; have H2 := Lib.hid S2.s1; clear S2)
    | (refine (HE.out none 0 0 _).mono ?_; rintro e w4 ⟨rfl, b4⟩; have H4 := Lib.hid (H2.out.grow b4); clear b4; obtain ⟨g3, g4, g5⟩ := H4.out.look))
  refine bodyPost_ret (v := .agg #[.slice none 0 0, .int .i64 12, .int .i64 0]) (by simp [results, Tryz.results179, go_sem, g3]) rfl ?_
  exact RetS.of (st := 12) (sn := 0) H4.out.set3.drop
set_option maxHeartbeats 4000000 in
theorem perf_rew (A : Option Addr) (n c : Nat) (hl : s.loaded = true) (S : SL W (tapeS tb name s :: F) w) :
    Calls Tryz.prog 179 #[.pointer (some ⟨tb, 0, none⟩), .int .i64 7, .slice A n c] w fun e w' => RetS W (tapeS tb name { s with pos := 0 } :: F) ([], 12, 0) e w' := by
  have HE := Lib.hid done_any
  obtain ⟨v, lp, S1⟩ := tapeS_open S
  rw [hl] at S1
  obtain ⟨L, K, z⟩ := S1.look
  have H1 : Hid (SL W (cel w.heap.size #[.slice none 0 0, .int .i64 0, .int .i64 0] 55 :: cel tb #[.string name, v, .int .i64 0, .bool true, .int .u8 (s.sense : Int), .pointer lp] 126 :: blksS v s.bs :: lastS lp s.last :: F) ((w.setCell ⟨tb, 2, none⟩ (.int .i64 0)).alloc (.cells #[.slice none 0 0, .int .i64 0, .int .i64 0] 55))) := Lib.hid (by
    have h := resS (SL.set (off := 2) (v := .int .i64 0) (cs' := #[.string name, v, .int .i64 0, .bool true, .int .u8 (s.sense : Int), .pointer lp]) S1 rfl)
    rw [World.size_setCell] at h
    exact h)
  clear S S1
  go_enter Tryz.func179, Tryz.ntmps179
  go_wp2_with (refine (HE.out none 0 0 _).mono ?_; rintro e w4 ⟨rfl, b4⟩; have H4 := Lib.hid (H1.out.grow b4); clear b4; obtain ⟨g3, g4, g5⟩ := H4.out.look)
  refine bodyPost_ret (v := .agg #[.slice none 0 0, .int .i64 12, .int .i64 0]) (by simp [results, Tryz.results179, go_sem, g3]) rfl ?_
  rw [← hl] at H4
  exact RetS.of (st := 12) (sn := 0) (tapeS_close (s := { s with pos := 0 }) H4.out.set3.drop)
set_option maxHeartbeats 4000000 in
theorem perf_unl (A : Option Addr) (n c : Nat) (hl : s.loaded = true) (S : SL W (tapeS tb name s :: F) w) :
    Calls Tryz.prog 179 #[.pointer (some ⟨tb, 0, none⟩), .int .i64 15, .slice A n c] w fun e w' => RetS W (tapeS tb name { s with pos := 0, loaded := false } :: F) ([], 12, 0) e w' := by
  have HE := Lib.hid done_any
  obtain ⟨v, lp, S1⟩ := tapeS_open S
  rw [hl] at S1
  obtain ⟨L, K, z⟩ := S1.look
  have H1 : Hid (SL W (cel w.heap.size #[.slice none 0 0, .int .i64 0, .int .i64 0] 55 :: cel tb #[.string name, v, .int .i64 0, .bool false, .int .u8 (s.sense : Int), .pointer lp] 126 :: blksS v s.bs :: lastS lp s.last :: F) (((w.setCell ⟨tb, 2, none⟩ (.int .i64 0)).setCell ⟨tb, 3, none⟩ (.bool false)).alloc (.cells #[.slice none 0 0, .int .i64 0, .int .i64 0] 55))) := Lib.hid (by
    have h := resS (SL.set (off := 3) (v := .bool false) (cs' := #[.string name, v, .int .i64 0, .bool false, .int .u8 (s.sense : Int), .pointer lp]) (SL.set (off := 2) (v := .int .i64 0) (cs' := #[.string name, v, .int .i64 0, .bool true, .int .u8 (s.sense : Int), .pointer lp]) S1 rfl) rfl)
    rw [World.size_setCell, World.size_setCell] at h
    exact h)
  clear S S1
  go_enter Tryz.func179, Tryz.ntmps179
  go_wp2_with (refine (HE.out none 0 0 _).mono ?_; rintro e w4 ⟨rfl, b4⟩; have H4 := Lib.hid (H1.out.grow b4); clear b4; obtain ⟨g3, g4, g5⟩ := H4.out.look)
  refine bodyPost_ret (v := .agg #[.slice none 0 0, .int .i64 12, .int .i64 0]) (by simp [results, Tryz.results179, go_sem, g3]) rfl ?_
  exact RetS.of (st := 12) (sn := 0) (tapeS_close (s := { s with pos := 0, loaded := false }) H4.out.set3.drop)
end
end Go.Proofs.YtfhpaehfihnjaaaGreat.T
