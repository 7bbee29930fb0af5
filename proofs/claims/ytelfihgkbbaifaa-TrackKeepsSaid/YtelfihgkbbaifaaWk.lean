/- rec, at and the function literal of works. -/
import Derived.Test.YtelfihgkbbaifaaSameR
import Derived.Laws.IdiomStrings
namespace Go.Proofs.Ytelfihgkbbaifaa
open Go.RowKit
theorem bytes_str {P : Program} (w : World) (src dst e : TypeId) (l : List UInt8) (hs : P.underlying src = some .string) (hd : P.underlying dst = some (.slice e)) (he : P.underlying e = some (.int .u8)) (hl : l.length ≤ 1073741824) :
    ∃ c w', (convert src dst (.string ⟨l.toArray⟩)).run P w = .ok (.slice (some ⟨w.heap.size, 0, none⟩) l.length c) w' ∧ CardAt w' (some ⟨w.heap.size, 0, none⟩) l c ∧ Below w.heap.size w w' := by
  have hz : (⟨l.toArray⟩ : ByteArray).size = l.length := by show l.toArray.size = _; simp
  refine ⟨_, _, (by have h := run_bytes_of_string w src dst e ⟨l.toArray⟩ hs hd he; rw [hz] at h; exact h), ⟨fun _ => ⟨_, 0, rfl, by simp, fun j u hu => ?_⟩, ?_, ?_⟩, ((Below.refl _ _).drew).alloc (Nat.le_refl _) _⟩
  · have hrow : ∀ (C : Array Value) (fr : Nat × Nat), (w.drew.alloc (.cells C e fr)).cell? ⟨w.heap.size, 0 + j, none⟩ = C[j]? := fun C fr => by
      rw [Nat.zero_add]
      exact cell_of_row _ _ j C e fr (heap_alloc_new w.drew _)
    rw [hrow]
    have hb : bytesRow ⟨l.toArray⟩ (grownCap w l.length 0 e) = (Lib.byteCells l).toArray ++ Array.replicate (grownCap w l.length 0 e - l.length) (.int .u8 0) := by
      unfold bytesRow
      rw [hz]
      congr 1
      simp [Lib.byteCells]
    rw [hb, Array.getElem?_append_left (by have := (List.getElem?_eq_some_iff.1 hu).1; simpa using this)]
    simpa using hu
  · exact grownCap_ge w l.length 0 e
  · exact grownCap_le_maxLen w l.length 0 e (by unfold maxLen; omega)
theorem CardAt.far {w : World} {b off : Nat} {l : List UInt8} {c : Nat} (h : CardAt w (some ⟨b, off, none⟩) l c) {p : Addr} (v : Value) (hne : p.block ≠ b) : CardAt (w.setCell p v) (some ⟨b, off, none⟩) l c := by
  refine ⟨fun hx => ?_, h.2⟩
  obtain ⟨b2, off2, e, hb, hc⟩ := h.1 hx
  injection e with e; injection e with e1 e2
  subst e1; subst e2
  exact ⟨b, off, rfl, by rw [World.size_setCell]; exact hb, fun j u hu => (World.cell?_setCell_far w p ⟨b, off + j, none⟩ v hne).trans (hc j u hu)⟩
theorem zeros_made (n : Nat) : Lib.byteCells (List.replicate n 0) = (madeCells (Value.int .u8 0).cells (n * 1)).toList := by
  refine List.ext_getElem? fun j => ?_
  simp only [Lib.byteCells, List.map_replicate, List.getElem?_replicate, Array.getElem?_toList, madeCells, Nat.mul_one]
  by_cases h : j < n
  · rw [if_pos h, Array.getElem?_map, Array.getElem?_range, if_pos h]
    simp only [Option.map_some]
    have h0 : j % (Value.int .u8 0).cells.size = 0 := Nat.mod_one j
    show some (Value.int .u8 0) = some ((Value.int .u8 0).cells[j % (Value.int .u8 0).cells.size]!)
    rw [h0]; rfl
  · rw [if_neg h, Array.getElem?_map, Array.getElem?_range, if_neg h]; rfl
/-- A record whose key and data lie at addresses. -/
abbrev recV (x : Rec) (Ak Ad : Option Addr) (ck cd : Nat) : Value := .agg #[.int .i64 x.r, .slice Ak x.key.length ck, .slice Ad x.data.length cd, .bool x.bad]
section
set_option maxRecDepth 100000 in
set_option maxHeartbeats 4000000 in
theorem rec_any (n : Int) (k d : List UInt8) (w : World) (hk : k.length ≤ 1000) (hd : d.length ≤ 1000) :
    Calls Try.prog 30 #[.int .i64 n, .string ⟨k.toArray⟩, .string ⟨d.toArray⟩] w fun e w' => ∃ Ak ck Ad cd, e = .returned (.agg #[.int .i64 n, .slice Ak k.length ck, .slice Ad d.length cd, .bool false]) ∧ CardAt w' Ak k ck ∧ CardAt w' Ad d cd ∧ Below w.heap.size w w' := by
  have b0 : Below w.heap.size w (w.alloc (.cells #[.int .i64 0, .slice none 0 0, .slice none 0 0, .bool false] 25)) := ((Below.refl _ _).alloc (Nat.le_refl _) _)
  obtain ⟨c1, w1, r1, h1, b1⟩ := bytes_str (P := Try.prog) (w.alloc (.cells #[.int .i64 0, .slice none 0 0, .slice none 0 0, .bool false] 25)) 9 23 5 k Try.underlying9 Try.underlying23 Try.underlying5 (by omega)
  obtain ⟨c2, w2, r2, h2, b2⟩ := bytes_str (P := Try.prog) w1 9 23 5 d Try.underlying9 Try.underlying23 Try.underlying5 (by omega)
  have hA1 : (w.alloc (.cells #[.int .i64 0, .slice none 0 0, .slice none 0 0, .bool false] 25)).heap.size ≠ w.heap.size := by simp
  have hA2 : w1.heap.size ≠ w.heap.size := by have := b1.size; simp at this; omega
  have hrow : w2.heap[w.heap.size]? = some (.cells #[.int .i64 0, .slice none 0 0, .slice none 0 0, .bool false] 25 (0, 0)) := hl_grow b2 (hl_grow b1 (hl_new rfl))
  obtain ⟨L, K, z⟩ := row_look hrow
  have HB := Lib.hid (show Below w.heap.size w w2 from b0.trans ((b1.mono b0.size).trans (b2.mono (Nat.le_trans b0.size b1.size))))
  have H1 := Lib.hid (h1.grow b2)
  have H2 := Lib.hid h2
  have HR := Lib.hid hrow
  clear b0 b1 b2 h1 h2 hrow
  generalize (w.alloc (.cells #[.int .i64 0, .slice none 0 0, .slice none 0 0, .bool false] 25)).heap.size = q1 at *
  generalize w1.heap.size = q2 at *
  generalize (⟨k.toArray⟩ : ByteArray) = sk at *
  generalize (⟨d.toArray⟩ : ByteArray) = sd at *
  go_enter Try.func30, Try.ntmps30
  go_wp2
  have hr : (((((w2.setCell ⟨w.heap.size, 0, none⟩ (.int .i64 n)).setCell ⟨w.heap.size, 1, none⟩ (.slice (some ⟨q1, 0, none⟩) k.length c1)).setCell ⟨w.heap.size, 2, none⟩ (.slice (some ⟨q2, 0, none⟩) d.length c2)).setCell ⟨w.heap.size, 3, none⟩ (.bool false))).heap[w.heap.size]? = some (.cells #[.int .i64 n, .slice (some ⟨q1, 0, none⟩) k.length c1, .slice (some ⟨q2, 0, none⟩) d.length c2, .bool false] 25 (0, 0)) :=
    hl_set (off := 3) (v := .bool false) (cs := #[.int .i64 n, .slice (some ⟨q1, 0, none⟩) k.length c1, .slice (some ⟨q2, 0, none⟩) d.length c2, .bool false]) rfl (hl_set (off := 2) (v := .slice (some ⟨q2, 0, none⟩) d.length c2) (cs := #[.int .i64 n, .slice (some ⟨q1, 0, none⟩) k.length c1, .slice none 0 0, .bool false]) rfl (hl_set (off := 1) (v := .slice (some ⟨q1, 0, none⟩) k.length c1) (cs := #[.int .i64 n, .slice none 0 0, .slice none 0 0, .bool false]) rfl (hl_set (off := 0) (v := .int .i64 n) (cs := #[.int .i64 0, .slice none 0 0, .slice none 0 0, .bool false]) rfl HR.out)))
  obtain ⟨L, _, _⟩ := row_look hr
  refine bodyPost_ret (v := .agg #[.int .i64 n, .slice (some ⟨q1, 0, none⟩) k.length c1, .slice (some ⟨q2, 0, none⟩) d.length c2, .bool false]) (by simp [results, Try.results30, go_sem, L]) rfl ⟨_, _, _, _, rfl, ?_, ?_, ?_⟩
  · exact (((H1.out.far _ hA1.symm).far _ hA1.symm).far _ hA1.symm).far _ hA1.symm
  · exact (((H2.out.far _ hA2.symm).far _ hA2.symm).far _ hA2.symm).far _ hA2.symm
  · exact (((HB.out.setCell (p := ⟨w.heap.size, 0, none⟩) (Nat.le_refl _) _).setCell (p := ⟨w.heap.size, 1, none⟩) (Nat.le_refl _) _).setCell (p := ⟨w.heap.size, 2, none⟩) (Nat.le_refl _) _).setCell (p := ⟨w.heap.size, 3, none⟩) (Nat.le_refl _) _
set_option maxRecDepth 100000 in
set_option maxHeartbeats 4000000 in
theorem data_any (n : Nat) (k : List UInt8) (w : World) (hk : k.length ≤ 1000) (hn : n ≤ 100000) :
    Calls Try.prog 40 #[.int .i64 (n : Int), .string ⟨k.toArray⟩] w fun e w' => ∃ Ak ck Ad, e = .returned (.agg #[.int .i64 1, .slice Ak k.length ck, .slice Ad n n, .bool false]) ∧ CardAt w' Ak k ck ∧ CardAt w' Ad (List.replicate n 0) n ∧ Below w.heap.size w w' := by
  have b0 : Below w.heap.size w (w.alloc (.cells #[.int .i64 0, .slice none 0 0, .slice none 0 0, .bool false] 25)) := ((Below.refl _ _).alloc (Nat.le_refl _) _)
  obtain ⟨c1, w1, r1, h1, b1⟩ := bytes_str (P := Try.prog) (w.alloc (.cells #[.int .i64 0, .slice none 0 0, .slice none 0 0, .bool false] 25)) 9 23 5 k Try.underlying9 Try.underlying23 Try.underlying5 (by omega)
  have hA1 : (w.alloc (.cells #[.int .i64 0, .slice none 0 0, .slice none 0 0, .bool false] 25)).heap.size ≠ w.heap.size := by simp
  have hA2 : w1.heap.size ≠ w.heap.size := by have := b1.size; simp at this; omega
  have hrow := hl_grow b1 (hl_new (w := w) (o := .cells #[.int .i64 0, .slice none 0 0, .slice none 0 0, .bool false] 25) rfl)
  have HB := Lib.hid (show Below w.heap.size w w1 from b0.trans (b1.mono b0.size))
  have H1 := Lib.hid h1
  have HR := Lib.hid hrow
  have HS := Lib.hid (show SL w [] w1 from (SL.start w).grow HB.out)
  clear b0 b1 h1 hrow
  generalize (w.alloc (.cells #[.int .i64 0, .slice none 0 0, .slice none 0 0, .bool false] 25)).heap.size = q1 at *
  generalize (⟨k.toArray⟩ : ByteArray) = sk at *
  go_enter Try.func40, Try.ntmps40
  go_wp2_with (at_make; refine wpList_make rfl _ _ _ rfl bElem _ _ _ _ n rfl rfl rfl rfl (by omega) (by unfold maxLen; omega) ?_
               intro w2 o2 b2
               have HR2 := Lib.hid (hl_grow b2 HR.out)
               have HO2 := Lib.hid o2
               have HB2 := Lib.hid b2
               have H12 := Lib.hid (H1.out.grow b2)
               clear o2 b2
               obtain ⟨L, K, z⟩ := row_look HR2.out)
  have hr : (((((w2.setCell ⟨w.heap.size, 0, none⟩ (.int .i64 1)).setCell ⟨w.heap.size, 1, none⟩ (.slice (some ⟨q1, 0, none⟩) k.length c1)).setCell ⟨w.heap.size, 2, none⟩ (.slice (some ⟨w1.heap.size, 0, none⟩) n n)).setCell ⟨w.heap.size, 3, none⟩ (.bool false))).heap[w.heap.size]? = some (.cells #[.int .i64 1, .slice (some ⟨q1, 0, none⟩) k.length c1, .slice (some ⟨w1.heap.size, 0, none⟩) n n, .bool false] 25 (0, 0)) :=
    hl_set (off := 3) (v := .bool false) (cs := #[.int .i64 1, .slice (some ⟨q1, 0, none⟩) k.length c1, .slice (some ⟨w1.heap.size, 0, none⟩) n n, .bool false]) rfl (hl_set (off := 2) (v := .slice (some ⟨w1.heap.size, 0, none⟩) n n) (cs := #[.int .i64 1, .slice (some ⟨q1, 0, none⟩) k.length c1, .slice none 0 0, .bool false]) rfl (hl_set (off := 1) (v := .slice (some ⟨q1, 0, none⟩) k.length c1) (cs := #[.int .i64 1, .slice none 0 0, .slice none 0 0, .bool false]) rfl (hl_set (off := 0) (v := .int .i64 1) (cs := #[.int .i64 0, .slice none 0 0, .slice none 0 0, .bool false]) rfl HR2.out)))
  obtain ⟨L, _, _⟩ := row_look hr
  have hz : Lib.byteCells (List.replicate n 0) = (madeCells (Value.int .u8 0).cells (n * 1)).toList := zeros_made n
  have HZ : CardAt w2 (some ⟨w1.heap.size, 0, none⟩) (List.replicate n 0) n := ⟨by rw [hz]; exact own_at HO2.out, by simp, by unfold maxLen; omega⟩
  refine bodyPost_ret (v := .agg #[.int .i64 1, .slice (some ⟨q1, 0, none⟩) k.length c1, .slice (some ⟨w1.heap.size, 0, none⟩) n n, .bool false]) (by simp [results, Try.results40, go_sem, L]) rfl ⟨_, _, _, rfl, ?_, ?_, ?_⟩
  · exact (((H12.out.far _ hA1.symm).far _ hA1.symm).far _ hA1.symm).far _ hA1.symm
  · exact (((HZ.far _ hA2.symm).far _ hA2.symm).far _ hA2.symm).far _ hA2.symm
  · exact ((((HB.out.trans (HB2.out.mono HB.out.size)).setCell (p := ⟨w.heap.size, 0, none⟩) (Nat.le_refl _) _).setCell (p := ⟨w.heap.size, 1, none⟩) (Nat.le_refl _) _).setCell (p := ⟨w.heap.size, 2, none⟩) (Nat.le_refl _) _).setCell (p := ⟨w.heap.size, 3, none⟩) (Nat.le_refl _) _
/-- What at of the law returns. -/
def atB (rs : List Rec) (fr : Int) (key : List UInt8) (high : Bool) (want : Int) : Bool :=
  match searchN rs fr key high with
  | none => decide (want < 0)
  | some i => decide (0 ≤ want) && decide ((i : Int) = want)
set_option maxRecDepth 100000 in
set_option maxHeartbeats 4000000 in
theorem lat_any (A : Option Addr) (rs : List Rec) (c : Nat) (fr : Int) (key : List UInt8) (high : Bool) (want : Int) (w : World) (hr : RecsAt w A rs) (hc : rs.length ≤ c) (hcm : c ≤ maxLen) (hk : key.length ≤ 1000) :
    Calls Try.prog 33 #[.slice A rs.length c, .int .i64 fr, .string ⟨key.toArray⟩, .bool high, .int .i64 want] w fun e w' => e = .returned (.bool (atB rs fr key high want)) ∧ Below w.heap.size w w' := by
  obtain ⟨c1, w1, r1, h1, b1⟩ := bytes_str (P := Try.prog) w 9 23 5 key Try.underlying9 Try.underlying23 Try.underlying5 (by omega)
  have HC := Lib.hid (search_any A rs c fr (some ⟨w.heap.size, 0, none⟩) key c1 high w1 (hr.grow b1) hc hcm h1)
  have B1 := Lib.hid b1
  have HA := Lib.hid (show atB rs fr key high want = match searchN rs fr key high with | none => decide (want < 0) | some i => decide (0 ≤ want) && decide ((i : Int) = want) from rfl)
  generalize atB rs fr key high want = q at *
  clear b1 h1 hr
  generalize (⟨key.toArray⟩ : ByteArray) = sk at *
  generalize searchN rs fr key high = s at *
  go_enter Try.func33, Try.ntmps33
  go_wp2_with fail
  refine HC.out.mono ?_
  rintro e w2 ⟨rfl, b2⟩
  have B2 := Lib.hid (B1.out.trans (b2.mono B1.out.size))
  clear b2 HC B1
  cases s with
  | none =>
    simp only [Option.getD_none, Option.isSome_none] at HA ⊢
    by_cases hw : want < 0
    · go_wp2
      go_ret
      exact ⟨by rw [HA.out, decide_eq_true hw]; rfl, B2.out⟩
    · go_wp2
      go_ret
      exact ⟨by rw [HA.out, decide_eq_false (by omega : ¬ want < 0)]; rfl, B2.out⟩
  | some i =>
    simp only [Option.getD_some, Option.isSome_some] at HA ⊢
    by_cases hw : want < 0
    · go_wp2
      go_ret
      exact ⟨by rw [HA.out, decide_eq_false (by omega : ¬ (0 ≤ want))]; rfl, B2.out⟩
    · have h0 : decide (0 ≤ want) = true := by simp; omega
      by_cases hi : (i : Int) = want
      · have hb : ((i : Int) == want) = true := by rw [beq_iff_eq]; exact hi
        have HI := Lib.hid hi
        clear hi
        go_wp2
        go_ret
        exact ⟨by rw [HA.out, decide_eq_true HI.out, h0]; rfl, B2.out⟩
      · have hb : ((i : Int) == want) = false := by rw [beq_eq_false_iff_ne]; exact hi
        have HI := Lib.hid hi
        clear hi
        go_wp2
        go_ret
        exact ⟨by rw [HA.out, decide_eq_false HI.out, h0]; rfl, B2.out⟩
end
end Go.Proofs.Ytelfihgkbbaifaa
