/- The tape unit in memory; its small functions. -/
import Derived.Test.YtbbokikjpabfkaaBClone
namespace Go.Proofs.Ytbbokikjpabfkaa
open Go.RowKit

/-- A result with new data. -/
def RetS (W : World) (F : List SA) (r : Rep) (e : Ending) (w' : World) : Prop :=
  ∃ A c, e = .returned (.agg #[.slice A r.1.length c, .int .i64 (r.2.1 : Int), .int .i64 (r.2.2 : Int)]) ∧ SL W (rowS 5 1 (.slice A r.1.length c) r.1.length (Lib.byteCells r.1) :: F) w'
theorem RetS.of {W w' : World} {F : List SA} {st sn : Nat} (S : SL W F w') : RetS W F ([], st, sn) (.returned (.agg #[.slice none 0 0, .int .i64 (st : Int), .int .i64 (sn : Int)])) w' := ⟨none, 0, rfl, S.nil _ _⟩
def lastS (lp : Option Addr) : Option (Nat × List Blk × Bool) → SA
  | none => fun _ => lp = none
  | some (a, old, b) => fun h => ∃ p : Nat × Value, lp = some ⟨p.1, 0, none⟩ ∧ star [cel p.1 #[.int .i64 (a : Int), p.2, .bool b] 65, blksS p.2 old] h
def tapeS (tb : Nat) (name : ByteArray) (s : TP) : SA := fun h => ∃ p : Value × Option Addr, True ∧
  star [cel tb #[.string name, p.1, .int .i64 (s.pos : Int), .bool s.loaded, .int .u8 (s.sense : Int), .pointer p.2] 57, blksS p.1 s.bs, lastS p.2 s.last] h
section
variable {W w w' : World} {F : List SA} {tb : Nat} {name : ByteArray} {s : TP}
theorem tapeS_open (S : SL W (tapeS tb name s :: F) w) : ∃ v lp, SL W (cel tb #[.string name, v, .int .i64 (s.pos : Int), .bool s.loaded, .int .u8 (s.sense : Int), .pointer lp] 57 :: blksS v s.bs :: lastS lp s.last :: F) w := by
  obtain ⟨p, _, h⟩ := S.unpack (α := Value × Option Addr) (φ := fun _ => True) (K := fun p => [cel tb #[.string name, p.1, .int .i64 (s.pos : Int), .bool s.loaded, .int .u8 (s.sense : Int), .pointer p.2] 57, blksS p.1 s.bs, lastS p.2 s.last]) (fun h p => p)
  exact ⟨p.1, p.2, h⟩
theorem tapeS_close {v : Value} {lp : Option Addr} (S : SL W (cel tb #[.string name, v, .int .i64 (s.pos : Int), .bool s.loaded, .int .u8 (s.sense : Int), .pointer lp] 57 :: blksS v s.bs :: lastS lp s.last :: F) w) : SL W (tapeS tb name s :: F) w :=
  SL.pack (L := [cel tb #[.string name, v, .int .i64 (s.pos : Int), .bool s.loaded, .int .u8 (s.sense : Int), .pointer lp] 57, blksS v s.bs, lastS lp s.last]) S fun _ h => ⟨(v, lp), trivial, h⟩
theorem lastS_none (S : SL W F w) : SL W (lastS none none :: F) w := (S.nil 5 1).head fun _ _ => rfl
theorem lastS_of_none {lp : Option Addr} (S : SL W (lastS lp none :: F) w) : lp = none := S.pure (φ := lp = none) fun _ h => h
theorem lastS_open {lp : Option Addr} {a : Nat} {old : List Blk} {b : Bool} (S : SL W (lastS lp (some (a, old, b)) :: F) w) : ∃ lb v, lp = some ⟨lb, 0, none⟩ ∧ SL W (cel lb #[.int .i64 (a : Int), v, .bool b] 65 :: blksS v old :: F) w := by
  obtain ⟨p, h1, h⟩ := S.unpack (α := Nat × Value) (φ := fun p => lp = some ⟨p.1, 0, none⟩) (K := fun p => [cel p.1 #[.int .i64 (a : Int), p.2, .bool b] 65, blksS p.2 old]) (fun h p => p)
  exact ⟨p.1, p.2, h1, h⟩
theorem lastS_close {lb a : Nat} {old : List Blk} {b : Bool} {v : Value} (S : SL W (cel lb #[.int .i64 (a : Int), v, .bool b] 65 :: blksS v old :: F) w) : SL W (lastS (some ⟨lb, 0, none⟩) (some (a, old, b)) :: F) w :=
  SL.pack (L := [cel lb #[.int .i64 (a : Int), v, .bool b] 65, blksS v old]) S fun _ h => ⟨(lb, v), rfl, h⟩
theorem blksS_slice {v : Value} {bs : List Blk} (S : SL W (blksS v bs :: F) w) : ∃ A c, v = .slice A bs.length c ∧ bs.length ≤ c ∧ c ≤ maxLen := by
  obtain ⟨ps, rfl, S1⟩ := blksS_open S
  rw [List.length_map]
  rcases S1.rowTo with ⟨rfl, h, _⟩ | ⟨g, cap, cur, rfl, h1, h2, _⟩
  · rw [h]; exact ⟨none, 0, rfl, Nat.le_refl _, by unfold maxLen; omega⟩
  · exact ⟨_, cap, rfl, h1, h2⟩
theorem datS_slice {p : BV} (S : SL W (datS p :: F) w) : ∃ A c, p.1 = .slice A p.2.data.length c ∧ p.2.data.length ≤ c ∧ c ≤ maxLen ∧ At w w.heap.size A (Lib.byteCells p.2.data) := by
  obtain ⟨A, c, e, h1, h2⟩ := own_slice (SL.own S)
  unfold datS at S
  rw [e] at S
  exact ⟨A, c, e, h1, h2, S.at_⟩
theorem blksS_at {A : Option Addr} {n c : Nat} {bs : List Blk} (S : SL W (blksS (.slice A n c) bs :: F) w) : BlksAt w A bs := by
  intro i b hb
  obtain ⟨ps, rfl, S1⟩ := blksS_open S
  rw [List.getElem?_map, Option.map_eq_some_iff] at hb
  obtain ⟨p, hp, rfl⟩ := hb
  have hlen : i < ps.length := by
    rw [List.getElem?_eq_some_iff] at hp; exact hp.1
  have g0 := blkCells_get ps i 0 p hp (by omega)
  have g1 := blkCells_get ps i 1 p hp (by omega)
  have g2 := blkCells_get ps i 2 p hp (by omega)
  have e : n = ps.length := by
    rcases S1.rowTo with ⟨h1, h2, _⟩ | ⟨g, cap, cur, h1, _⟩
    · injection h1; omega
    · injection h1
  subst e
  obtain ⟨g, hA, _, k0⟩ := S1.cellT (j := i * 3) (u := .bool p.2.mark) (by rw [show i * 3 = i * 3 + 0 by rfl, g0]; rfl)
  obtain ⟨g', hA', _, k1⟩ := S1.cellT (j := i * 3 + 1) (u := p.1) (by rw [g1]; rfl)
  obtain ⟨g'', hA'', _, k2⟩ := S1.cellT (j := i * 3 + 2) (u := .bool p.2.bad) (by rw [g2]; rfl)
  rw [hA] at hA' hA''
  injection hA' with hA'; injection hA' with hA'; subst hA'
  injection hA'' with hA''; injection hA'' with hA''; subst hA''
  obtain ⟨A2, c2, e2, h1, h2, h3⟩ := datS_slice (S1.s1.take (i := i) (P := datS p) (by rw [List.getElem?_map, hp]; rfl))
  rw [e2] at k1
  exact ⟨g, 0, A2, c2, hA, by rw [Nat.zero_add]; exact k0, by rw [Nat.zero_add]; exact k1, by rw [Nat.zero_add]; exact k2, h3, h1, h2⟩
theorem BlksRd.head {A : Option Addr} {n c : Nat} {bs : List Blk} : BlksRd W (blksS (.slice A n c) bs :: F) A bs := fun _ S => blksS_at S
theorem BlksRd.cons {A : Option Addr} {bs : List Blk} {P : SA} (h : BlksRd W F A bs) : BlksRd W (P :: F) A bs := fun w S => h w S.drop
theorem BlksAt.drop {A : Option Addr} {bs : List Blk} (h : BlksAt w A bs) (k : Nat) : BlksAt w (A.map fun a => a.add (k * 3)) (bs.drop k) := by
  intro i b hb
  rw [List.getElem?_drop] at hb
  obtain ⟨g, off, A', c', rfl, h1, h2, h3, h4⟩ := h _ b hb
  refine ⟨g, off + k * 3, A', c', by simp [Addr.add], ?_, ?_, ?_, h4⟩
  · rw [← h1]; congr 2; omega
  · rw [← h2]; congr 2; omega
  · rw [← h3]; congr 2; omega
end
section
variable {W w w' : World} {F : List SA}
theorem done_any (A : Option Addr) (n c : Nat) (w : World) : Calls Try.prog 40 #[.slice A n c] w fun e w' => e = .returned (.agg #[.slice A n c, .int .i64 12, .int .i64 0]) ∧ Below w.heap.size w w' := by
  go_enter Try.func40, Try.ntmps40
  go_wp2
  exact bodyPost_ret (v := .agg #[.slice A n c, .int .i64 12, .int .i64 0]) (by simp [results, Try.results40, go_sem]) rfl ⟨rfl, by (repeat' (first | (with_reducible exact Below.refl _ _) | (with_reducible assumption) | (with_reducible refine below_drewN ?_ _) | (with_reducible refine Below.drew ?_) | (with_reducible refine Below.alloc ?_ ?_ _) | (with_reducible refine Below.setCell ?_ ?_ _) | (with_reducible refine below_row ?_ ?_ _) | (with_reducible exact Nat.le_refl _) | omega | (simp only [World.size_alloc, World.size_setCell, World.size_drew, World.size_drewN]; omega) | (simp; done) | (simp; omega)))⟩
theorem mark_any (w : World) : Calls Try.prog 55 #[] w fun e w' => e = .returned (.agg #[.slice none 0 0, .int .i64 13, .int .i64 0]) ∧ Below w.heap.size w w' := by
  go_enter Try.func55, Try.ntmps55
  go_wp2
  exact bodyPost_ret (v := .agg #[.slice none 0 0, .int .i64 13, .int .i64 0]) (by simp [results, Try.results55, go_sem]) rfl ⟨rfl, by (repeat' (first | (with_reducible exact Below.refl _ _) | (with_reducible assumption) | (with_reducible refine below_drewN ?_ _) | (with_reducible refine Below.drew ?_) | (with_reducible refine Below.alloc ?_ ?_ _) | (with_reducible refine Below.setCell ?_ ?_ _) | (with_reducible refine below_row ?_ ?_ _) | (with_reducible exact Nat.le_refl _) | omega | (simp only [World.size_alloc, World.size_setCell, World.size_drew, World.size_drewN]; omega) | (simp; done) | (simp; omega)))⟩
theorem check_any (n : Int) (w : World) : Calls Try.prog 31 #[.int .i64 n] w fun e w' => e = .returned (.agg #[.slice none 0 0, .int .i64 14, .int .i64 n]) ∧ Below w.heap.size w w' := by
  go_enter Try.func31, Try.ntmps31
  go_wp2
  exact bodyPost_ret (v := .agg #[.slice none 0 0, .int .i64 14, .int .i64 n]) (by simp [results, Try.results31, go_sem]) rfl ⟨rfl, by (repeat' (first | (with_reducible exact Below.refl _ _) | (with_reducible assumption) | (with_reducible refine below_drewN ?_ _) | (with_reducible refine Below.drew ?_) | (with_reducible refine Below.alloc ?_ ?_ _) | (with_reducible refine Below.setCell ?_ ?_ _) | (with_reducible refine below_row ?_ ?_ _) | (with_reducible exact Nat.le_refl _) | omega | (simp only [World.size_alloc, World.size_setCell, World.size_drew, World.size_drewN]; omega) | (simp; done) | (simp; omega)))⟩
variable {tb : Nat} {name : ByteArray} {s : TP}
theorem at_any (S : SL W (tapeS tb name s :: F) w) : Calls Try.prog 14 #[.pointer (some ⟨tb, 0, none⟩)] w fun e w' => e = .returned (.int .i64 (s.pos : Int)) ∧ SL W (tapeS tb name s :: F) w' := by
  have HS := Lib.hid S
  obtain ⟨v, lp, S1⟩ := tapeS_open S
  obtain ⟨L, K, z⟩ := S1.look
  clear S S1
  go_enter Try.func14, Try.ntmps14
  go_wp2
  go_ret
  exact ⟨rfl, HS.out⟩
theorem loaded_any (S : SL W (tapeS tb name s :: F) w) : Calls Try.prog 25 #[.pointer (some ⟨tb, 0, none⟩)] w fun e w' => e = .returned (.bool s.loaded) ∧ SL W (tapeS tb name s :: F) w' := by
  have HS := Lib.hid S
  obtain ⟨v, lp, S1⟩ := tapeS_open S
  obtain ⟨L, K, z⟩ := S1.look
  clear S S1
  go_enter Try.func25, Try.ntmps25
  go_wp2
  go_ret
  exact ⟨rfl, HS.out⟩
theorem serial_any (S : SL W (tapeS tb name s :: F) w) : Calls Try.prog 26 #[.pointer (some ⟨tb, 0, none⟩)] w fun e w' => e = .returned (.string name) ∧ SL W (tapeS tb name s :: F) w' := by
  have HS := Lib.hid S
  obtain ⟨v, lp, S1⟩ := tapeS_open S
  obtain ⟨L, K, z⟩ := S1.look
  clear S S1
  go_enter Try.func26, Try.ntmps26
  go_wp2
  go_ret
  exact ⟨rfl, HS.out⟩
theorem blocks_any (S : SL W (tapeS tb name s :: F) w) (hf : Fit s.bs) : Calls Try.prog 12 #[.pointer (some ⟨tb, 0, none⟩)] w fun e w' => ∃ v, e = .returned v ∧ SL W (blksS v s.bs :: tapeS tb name s :: F) w' := by
  obtain ⟨v, lp, S1⟩ := tapeS_open S
  obtain ⟨L, K, z⟩ := S1.look
  have H1 := Lib.hid S1
  obtain ⟨A, c, rfl, _, _⟩ := blksS_slice S1.s1
  clear S S1
  go_enter Try.func12, Try.ntmps12
  go_wp2_with fail
  refine (bclone_any A s.bs c H1.out (fun w2 S2 => blksS_at S2.s1) hf).mono ?_
  rintro e w2 ⟨v2, rfl, S2⟩
  have H2 := Lib.hid S2
  clear S2
  go_wp2
  go_ret
  exact ⟨_, rfl, SL.s1 (tapeS_close H2.out.b3)⟩
theorem mounted_yes (hn : name.toList.isEmpty = false) (S : SL W (tapeS tb name s :: F) w) : Calls Try.prog 30 #[.pointer (some ⟨tb, 0, none⟩)] w fun e w' => e = .returned (.bool true) ∧ w' = w := by
  obtain ⟨v, lp, S1⟩ := tapeS_open S
  obtain ⟨L, K, z⟩ := S1.look
  clear S S1
  go_enter Try.func30, Try.ntmps30
  go_wp2
  go_ret
  exact ⟨rfl, rfl⟩
theorem power_any (hn : name.toList.isEmpty = false) (S : SL W (tapeS tb name s :: F) w) : Calls Try.prog 15 #[.pointer (some ⟨tb, 0, none⟩)] w fun e w' => e = .returned (.tuple #[]) ∧ SL W (tapeS tb name (tpPower s) :: F) w' := by
  have HM := Lib.hid (mounted_yes hn S)
  have HS := Lib.hid S
  obtain ⟨v, lp, S1⟩ := tapeS_open S
  obtain ⟨L, K, z⟩ := S1.look
  have H1 := Lib.hid S1
  clear S S1
  go_enter Try.func15, Try.ntmps15
  go_wp2_with fail
  refine HM.out.mono ?_
  rintro e w2 ⟨rfl, rfl⟩
  go_wp2
  refine bodyPost_end (v := .tuple #[]) (by simp [results, Try.results15, go_sem]) rfl ⟨rfl, ?_⟩
  have S2 := (((H1.out.set (off := 3) (v := .bool true) rfl).set (off := 2) (v := .int .i64 0) rfl).set (off := 4) (v := .int .u8 0) rfl).set (off := 5) (v := .pointer none) rfl
  exact tapeS_close (s := tpPower s) ((lastS_none S2.s2.drop).b2)
end
end Go.Proofs.Ytbbokikjpabfkaa
