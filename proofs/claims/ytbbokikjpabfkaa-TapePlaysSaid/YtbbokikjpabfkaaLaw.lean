/- What the laws share: Big, Many, the calls among the arguments; what a command does to the blocks. -/
import Derived.Test.YtbbokikjpabfkaaWorks
import Derived.Test.YtbbokikjpabfkaaArgs
namespace Go.Proofs.Ytbbokikjpabfkaa
open Go.RowKit

/-- The command changed the tape. -/
def changed (op : Int) (r : Rep) : Bool := decide (r.2.1 = 12) && (op == 1 || op == 31 || op == 23)
theorem write_changes (s : TP) (b : Blk) (ok : s.ok) : (s.pos = 4096 ∧ tpWrite s b = (s, [], 14, 1)) ∨ (s.pos ≠ 4096 ∧ tpWrite s b = (⟨s.bs.take s.pos ++ [b], s.pos + 1, s.loaded, s.sense, some (s.pos, s.bs.drop s.pos, !b.mark)⟩, [], 12, 0)) := by
  unfold tpWrite
  by_cases h : s.pos = 4096
  · left; rw [if_pos h]; exact ⟨h, rfl⟩
  · right; rw [if_neg h]; exact ⟨h, rfl⟩
/-- What the tape is behind a command. -/
structure DoS (s : TP) (op : Int) (r : TP × Rep) : Prop where
  same : changed op r.2 = false → r.1.last = none ∧ r.1.bs = s.bs
  wrote : changed op r.2 = true → (∃ k, r.1.last = some (s.pos, s.bs.drop s.pos, k)) ∧ r.1.bs.take s.pos = s.bs.take s.pos ∧ r.1.pos = r.1.bs.length ∧ s.pos ≤ r.1.bs.length
theorem passed_st (b : Blk) (x y : Bool) (p : TP) (e : p.last = none) : p.last = none := e
theorem move_same (s : TP) (op : Int) : (tpMove s op).1.last = s.last ∧ (tpMove s op).1.bs = s.bs := by
  unfold tpMove
  repeat' split
  all_goals exact ⟨rfl, rfl⟩
theorem perform_changes (s : TP) (op : Int) (l : List UInt8) (ok : s.ok) (hn : s.last = none) : DoS s op (tpPerform s op l) := by
  have hp := ok.pos
  have hw : ∀ b : Blk, (op = 1 ∨ op = 31) → DoS s op (tpWrite s b) := fun b ho => by
    have e2 : (op == 1 || op == 31 || op == 23) = true := by rcases ho with rfl | rfl <;> rfl
    rcases write_changes s b ok with ⟨_, e⟩ | ⟨_, e⟩
    · rw [e]; exact ⟨fun _ => ⟨hn, rfl⟩, fun h => by simp [changed] at h⟩
    · rw [e]
      refine ⟨fun h => by simp [changed] at h; rcases ho with rfl | rfl <;> simp at h, fun _ => ⟨⟨_, rfl⟩, ?_, ?_, ?_⟩⟩
      · dsimp only
        rw [List.take_append_of_le_length (by simp; omega), List.take_take, Nat.min_self]
      · simp; omega
      · simp; omega
  unfold tpPerform
  split
  · rename_i h; subst h
    exact ⟨fun _ => ⟨hn, rfl⟩, fun h => by simp [changed] at h⟩
  split
  · rename_i h; subst h
    exact ⟨fun _ => ⟨hn, rfl⟩, fun h => by simp [changed] at h⟩
  split
  · exact ⟨fun _ => ⟨hn, rfl⟩, fun h => by simp [changed] at h⟩
  split
  · exact ⟨fun _ => ⟨hn, rfl⟩, fun h => by simp [changed] at h⟩
  split
  · rename_i h
    split
    · exact ⟨fun _ => ⟨hn, rfl⟩, fun h => by simp [changed] at h⟩
    · exact hw _ (Or.inl h)
  split
  · rename_i h
    exact hw _ (Or.inr h)
  split
  · rename_i h; subst h
    refine ⟨fun h => by simp [changed] at h, fun _ => ⟨⟨_, rfl⟩, ?_, ?_, ?_⟩⟩
    · show List.take s.pos (List.take s.pos s.bs) = _
      rw [List.take_take, Nat.min_self]
    · simp [tpCut]; omega
    · simp [tpCut]; omega
  split
  · rename_i h; subst h
    exact ⟨fun _ => ⟨hn, rfl⟩, fun h => by simp [changed] at h⟩
  split
  · rename_i h; subst h
    exact ⟨fun _ => ⟨hn, rfl⟩, fun h => by simp [changed] at h⟩
  · rename_i h1 h31 h23 h7 h15
    obtain ⟨a, b⟩ := move_same s op
    exact ⟨fun _ => ⟨a.trans hn, b⟩, fun h => by simp [changed, h1, h31, h23] at h⟩
theorem do_changes (s : TP) (op : Int) (l : List UInt8) (ok : s.ok) : DoS s op (tpDo s op l) := by
  have h := perform_changes _ op l ok.off rfl
  unfold tpDo
  dsimp only
  split
  · exact ⟨h.same, h.wrote⟩
  · exact ⟨h.same, h.wrote⟩
theorem undo_back (s : TP) (op : Int) (l : List UInt8) (ok : s.ok) : ∃ s2, tpUndo (tpDo s op l).1 1 = (s2, changed op (tpDo s op l).2) ∧ s2.last = none ∧ s2.bs = s.bs ∧ (changed op (tpDo s op l).2 = true → s2.pos = s.pos) := by
  have h := do_changes s op l ok
  cases hc : changed op (tpDo s op l).2 with
  | false =>
    obtain ⟨h1, h2⟩ := h.same hc
    refine ⟨(tpDo s op l).1, ?_, h1, h2, fun h => by cases h⟩
    unfold tpUndo
    rw [h1]
  | true =>
    obtain ⟨⟨k, h1⟩, h2, _, _⟩ := h.wrote hc
    refine ⟨{ (tpDo s op l).1 with last := none, bs := (tpDo s op l).1.bs.take s.pos ++ s.bs.drop s.pos, pos := s.pos }, ?_, rfl, ?_, fun _ => rfl⟩
    · unfold tpUndo
      rw [h1]
      dsimp only
      rw [if_neg (by decide), if_neg (by simp), if_pos (by decide)]
    · dsimp only
      rw [h2, List.take_append_drop]
theorem act_cells {W w : World} {F : List SA} {A : Option Addr} {l : List ActV} {i : Nat} {a : ActV} (hr : Rd W F A (l.flatMap actCells)) (S : SL W F w) (ha : l[i]? = some a) : ∃ b off, A = some ⟨b, off, none⟩ ∧ b < w.heap.size ∧ w.cell? ⟨b, off + i * 4, none⟩ = some (.int .i64 a.kind) ∧ w.cell? ⟨b, off + i * 4 + 1, none⟩ = some (.int .i64 a.op) ∧ w.cell? ⟨b, off + i * 4 + 2, none⟩ = some (cardV a.data) ∧ w.cell? ⟨b, off + i * 4 + 3, none⟩ = some (.int .i64 a.how) := by
  have hg : ∀ k, k < 4 → (l.flatMap actCells)[i * 4 + k]? = (actCells a)[k]? := fun k hk => by
    rw [flat_get actCells 4 (by omega) (fun _ => rfl), show (i * 4 + k) / 4 = i by omega, show (i * 4 + k) % 4 = k by omega, ha]
    rfl
  have hne : l.flatMap actCells ≠ [] := fun h => by
    have := hg 0 (by omega)
    rw [h] at this
    simp [actCells] at this
  obtain ⟨b, off, hA, hb, hc⟩ := hr w S hne
  exact ⟨b, off, hA, hb, hc _ _ (hg 0 (by omega)), hc _ _ (hg 1 (by omega)), hc _ _ (hg 2 (by omega)), hc _ _ (hg 3 (by omega))⟩
section
variable {W w : World} {F : List SA}
set_option maxHeartbeats 4000000 in
theorem big_any (A : Option Addr) (bs : List Blk) (c : Nat) (S : SL W F w) (hr : BlksRd W F A bs) (hb : bs.length ≤ maxLen) :
    Calls Try.prog 17 #[.slice A bs.length c] w fun e w' => ∃ q, e = .returned (.bool q) ∧ SL W F w' ∧ (q = false → bs.length ≤ 100 ∧ ∀ b ∈ bs, b.data.length ≤ 1100) ∧ (q = true → ¬ (bs.length ≤ 100 ∧ ∀ b ∈ bs, b.data.length ≤ 1100)) := by
  have HS := Lib.hid S
  have HR := Lib.hid hr
  have hz : bs.length ≤ 9223372036854775807 := by unfold maxLen at hb; omega
  clear S hr hb
  go_enter Try.func17, Try.ntmps17
  go_wp2
  go_loopw [3] (fun i wr => ∃ k : Nat, k ≤ bs.length ∧ k ≤ 100 ∧ i = .int .i64 k ∧ (∀ j b, j < k → bs[j]? = some b → b.data.length ≤ 1100) ∧ SL W F wr) (fun i _ => bs.length - (intOf i).toNat)
  case atStart => exact ⟨0, Nat.zero_le _, by omega, rfl, fun j b h => by omega, HS.out⟩
  case round =>
    obtain ⟨k, hk, hk2, rfl, hall, S1⟩ := hrel
    have H1 := Lib.hid S1
    have HA := Lib.hid hall
    clear S1 HS hall
    by_cases hlt : k < bs.length
    · by_cases hlt2 : k < 100
      · have hb : bs[k]? = some bs[k] := by simp [hlt]
        generalize bs[k] = b at hb
        obtain ⟨g, off, A4, c4, hA, k0, k1, k2, a4, h4, h5⟩ := HR.out wr H1.out k b hb
        subst hA
        have hz4 : b.data.length ≤ 9223372036854775807 := by unfold maxLen at h5; omega
        have HB := Lib.hid hb
        clear hb a4
        by_cases hbig : 1100 < b.data.length
        · go_wp2
          go_ret
          exact ⟨_, rfl, H1.out, fun h => (by cases h), fun _ h => by have := h.2 _ (List.mem_of_getElem? HB.out); (try dsimp only at this); omega⟩
        · go_wp2
          go_roundw
          case rel =>
            refine ⟨k + 1, by omega, by omega, by go_num, fun j c hj hc => ?_, H1.out⟩
            by_cases e : j = k
            · subst e
              have h := HB.out
              rw [hc] at h
              injection h with h
              rw [h]; omega
            · exact HA.out j c (by omega) hc
          case measure => simp [intOf]; omega
      · have hk3 : 100 < bs.length := by omega
        go_wp2
        go_ret
        exact ⟨true, by first | rfl | (simp; omega), H1.out, fun h => (by cases h), fun _ h => by have := h.1; omega⟩
    · obtain rfl : k = bs.length := by omega
      go_wp2
      go_ret
      refine ⟨false, by first | rfl | (simp; omega), H1.out, fun _ => ⟨hk2, fun b hb => ?_⟩, fun h => by cases h⟩
      obtain ⟨j, hj, rfl⟩ := List.getElem_of_mem hb
      exact HA.out j _ hj (List.getElem?_eq_getElem hj)
set_option maxHeartbeats 4000000 in
theorem many_any (A : Option Addr) (l : List ActV) (c : Nat) (S : SL W F w) (hr : Rd W F A (l.flatMap actCells)) (hb : l.length ≤ maxLen) (hd : ∀ a ∈ l, a.data.2.1.length ≤ maxLen) :
    Calls Try.prog 18 #[.slice A l.length c] w fun e w' => ∃ q, e = .returned (.bool q) ∧ SL W F w' ∧ (q = false → l.length ≤ 100 ∧ ∀ a ∈ l, a.data.2.1.length ≤ 1100) ∧ (q = true → ¬ (l.length ≤ 100 ∧ ∀ a ∈ l, a.data.2.1.length ≤ 1100)) := by
  have HS := Lib.hid S
  have HR := Lib.hid hr
  have HD := Lib.hid hd
  have hz : l.length ≤ 9223372036854775807 := by unfold maxLen at hb; omega
  clear S hr hb hd
  go_enter Try.func18, Try.ntmps18
  go_wp2
  go_loopw [3] (fun i wr => ∃ k : Nat, k ≤ l.length ∧ k ≤ 100 ∧ i = .int .i64 k ∧ (∀ j a, j < k → l[j]? = some a → a.data.2.1.length ≤ 1100) ∧ SL W F wr) (fun i _ => l.length - (intOf i).toNat)
  case atStart => exact ⟨0, Nat.zero_le _, by omega, rfl, fun j b h => by omega, HS.out⟩
  case round =>
    obtain ⟨k, hk, hk2, rfl, hall, S1⟩ := hrel
    have H1 := Lib.hid S1
    have HA := Lib.hid hall
    clear S1 HS hall
    by_cases hlt : k < l.length
    · by_cases hlt2 : k < 100
      · have hb : l[k]? = some l[k] := by simp [hlt]
        have hz4 := HD.out l[k] (List.getElem_mem hlt)
        generalize l[k] = b at hb hz4
        obtain ⟨g, off, hA, _, k0, k1, k2, k3⟩ := act_cells HR.out H1.out hb
        subst hA
        have HB := Lib.hid hb
        clear hb
        obtain ⟨kd, op, ⟨A5, d5, c5⟩, how⟩ := b
        dsimp only [cardV] at *
        have hz5 : d5.length ≤ 9223372036854775807 := by unfold maxLen at hz4; omega
        clear hz4
        by_cases hbig : 1100 < d5.length
        · go_wp2
          go_ret
          exact ⟨_, rfl, H1.out, fun h => (by cases h), fun _ h => by have := h.2 _ (List.mem_of_getElem? HB.out); (try dsimp only at this); omega⟩
        · go_wp2
          go_roundw
          case rel =>
            refine ⟨k + 1, by omega, by omega, by go_num, fun j c hj hc => ?_, H1.out⟩
            by_cases e : j = k
            · subst e
              have h := HB.out
              rw [hc] at h
              injection h with h
              rw [h]; dsimp only; omega
            · exact HA.out j c (by omega) hc
          case measure => simp [intOf]; omega
      · have hk3 : 100 < l.length := by omega
        go_wp2
        go_ret
        exact ⟨true, by first | rfl | (simp; omega), H1.out, fun h => (by cases h), fun _ h => by have := h.1; omega⟩
    · obtain rfl : k = l.length := by omega
      go_wp2
      go_ret
      refine ⟨false, by first | rfl | (simp; omega), H1.out, fun _ => ⟨hk2, fun b hb => ?_⟩, fun h => by cases h⟩
      obtain ⟨j, hj, rfl⟩ := List.getElem_of_mem hb
      exact HA.out j _ hj (List.getElem?_eq_getElem hj)
theorem act_cells2 {b off i : Nat} {l : List ActV} {a : ActV} (hr : Rd W F (some ⟨b, off, none⟩) (l.flatMap actCells)) (S : SL W F w) (ha : l[i]? = some a) : w.cell? ⟨b, off + i * 4, none⟩ = some (.int .i64 a.kind) ∧ w.cell? ⟨b, off + i * 4 + 1, none⟩ = some (.int .i64 a.op) ∧ w.cell? ⟨b, off + i * 4 + 2, none⟩ = some (cardV a.data) ∧ w.cell? ⟨b, off + i * 4 + 3, none⟩ = some (.int .i64 a.how) := by
  obtain ⟨b', off', hA, _, h⟩ := act_cells hr S ha
  injection hA with hA; injection hA with h1 h2
  subst h1; subst h2
  exact h
theorem BlksRd.base {A : Option Addr} {bs : List Blk} (h : BlksAt W A bs) : BlksRd W F A bs := fun w S i b hb => by
  obtain ⟨g, off, A', c', hA, k0, k1, k2, h3, h4⟩ := h i b hb
  have lt : ∀ {p : Addr} {v : Value}, W.cell? p = some v → w.cell? p = some v := fun {p v} e => (S.below.cell (World.block_lt_of_cell? _ _ e)).trans e
  exact ⟨g, off, A', c', hA, lt k0, lt k1, lt k2, (h3.below S.below).mono S.size, h4⟩
theorem big_no (A : Option Addr) (bs : List Blk) (c : Nat) (S : SL W F w) (hr : BlksRd W F A bs) (hb : bs.length ≤ maxLen) (h : bs.length ≤ 100 ∧ ∀ b ∈ bs, b.data.length ≤ 1100) : Calls Try.prog 17 #[.slice A bs.length c] w fun e w' => e = .returned (.bool false) ∧ SL W F w' :=
  (big_any A bs c S hr hb).mono fun e w' ⟨q, he, hs, h1, h2⟩ => by
    cases q with
    | false => exact ⟨he, hs⟩
    | true => exact absurd h (h2 rfl)
theorem big_yes (A : Option Addr) (bs : List Blk) (c : Nat) (S : SL W F w) (hr : BlksRd W F A bs) (hb : bs.length ≤ maxLen) (h : ¬ (bs.length ≤ 100 ∧ ∀ b ∈ bs, b.data.length ≤ 1100)) : Calls Try.prog 17 #[.slice A bs.length c] w fun e w' => e = .returned (.bool true) ∧ SL W F w' :=
  (big_any A bs c S hr hb).mono fun e w' ⟨q, he, hs, h1, h2⟩ => by
    cases q with
    | true => exact ⟨he, hs⟩
    | false => exact absurd (h1 rfl) h
theorem many_no (A : Option Addr) (l : List ActV) (c : Nat) (S : SL W F w) (hr : Rd W F A (l.flatMap actCells)) (hb : l.length ≤ maxLen) (hd : ∀ a ∈ l, a.data.2.1.length ≤ maxLen) (h : l.length ≤ 100 ∧ ∀ a ∈ l, a.data.2.1.length ≤ 1100) : Calls Try.prog 18 #[.slice A l.length c] w fun e w' => e = .returned (.bool false) ∧ SL W F w' :=
  (many_any A l c S hr hb hd).mono fun e w' ⟨q, he, hs, h1, h2⟩ => by
    cases q with
    | false => exact ⟨he, hs⟩
    | true => exact absurd h (h2 rfl)
theorem many_yes (A : Option Addr) (l : List ActV) (c : Nat) (S : SL W F w) (hr : Rd W F A (l.flatMap actCells)) (hb : l.length ≤ maxLen) (hd : ∀ a ∈ l, a.data.2.1.length ≤ maxLen) (h : ¬ (l.length ≤ 100 ∧ ∀ a ∈ l, a.data.2.1.length ≤ 1100)) : Calls Try.prog 18 #[.slice A l.length c] w fun e w' => e = .returned (.bool true) ∧ SL W F w' :=
  (many_any A l c S hr hb hd).mono fun e w' ⟨q, he, hs, h1, h2⟩ => by
    cases q with
    | true => exact ⟨he, hs⟩
    | false => exact absurd (h1 rfl) h
def BigP (bs : List Blk) : Prop := bs.length ≤ 100 ∧ ∀ b ∈ bs, b.data.length ≤ 1100
def ManyP (l : List ActV) : Prop := l.length ≤ 100 ∧ ∀ a ∈ l, a.data.2.1.length ≤ 1100
abbrev nmA : ByteArray := ⟨#[65, 49]⟩
theorem newA_ok (A : Option Addr) (bs : List Blk) (c : Nat) (he : newErr nmA bs = 0) (S : SL W (blksS (.slice A bs.length c) bs :: F) w) (hb : bs.length ≤ maxLen) (hd : ∀ b ∈ bs, b.data.length ≤ 1073741824) :
    Calls Try.prog 10 #[.string ⟨#[65, 49]⟩, .slice A bs.length c] w fun e w' => ∃ tb, e = .returned (.tuple #[.pointer (some ⟨tb, 0, none⟩), .int .i64 0]) ∧ SL W (tapeS tb nmA (freshTP bs) :: F) w' :=
  (new_any nmA A bs c S BlksRd.head (by decide) hb hd).mono fun e w' h => by
    unfold NewS at h
    rw [if_pos he] at h
    obtain ⟨tb, h1, h2⟩ := h
    exact ⟨tb, h1, h2.s1.drop⟩
theorem newA_bad (A : Option Addr) (bs : List Blk) (c : Nat) (he : newErr nmA bs ≠ 0) (S : SL W (blksS (.slice A bs.length c) bs :: F) w) (hb : bs.length ≤ maxLen) (hd : ∀ b ∈ bs, b.data.length ≤ 1073741824) :
    Calls Try.prog 10 #[.string ⟨#[65, 49]⟩, .slice A bs.length c] w fun e w' => ∃ n : Nat, n ≠ 0 ∧ e = .returned (.tuple #[.pointer none, .int .i64 n]) ∧ SL W F w' :=
  (new_any nmA A bs c S BlksRd.head (by decide) hb hd).mono fun e w' h => by
    unfold NewS at h
    rw [if_neg he] at h
    exact ⟨_, he, h.1, h.2.drop⟩
theorem newErr_ok {bs : List Blk} {s : ByteArray} (he : newErr s bs = 0) : (freshTP bs).ok := by
  unfold newErr at he
  split at he
  · cases he
  · split at he
    · cases he
    · split at he
      · exact fresh_ok (by omega) (by assumption)
      · cases he
end
end Go.Proofs.Ytbbokikjpabfkaa
