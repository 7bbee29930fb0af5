/- UPr, UPun, UCmdS, UPrW, UPrX, UPunDo. -/
import Derived.Test.YtfhpaehfihnjaaaGreatKitA
import Derived.Test.YtfhpaehfihnjaaaGreatUA
import Derived.Deep.QuietTactic
set_option maxRecDepth 100000
namespace Go.Proofs.YtfhpaehfihnjaaaGreat.U
open Go.RowKit Job.Ebcdic
theorem normal_any (v : Value) (A : Option Addr) (n c : Nat) (hv : v = .slice A n c) (w : World) : Calls Tryz.prog 195 #[v] w fun e w' => e = .returned (.agg #[.slice A n c, .int .i64 12, .int .i64 0]) ∧ Below w.heap.size w w' := by
  subst hv
  go_enter Tryz.func195, Tryz.ntmps195
  go_wp2
  refine bodyPost_ret (v := .agg #[.slice A n c, .int .i64 12, .int .i64 0]) (by simp [results, Tryz.results195, go_sem]) rfl ⟨rfl, by (repeat' (first | (with_reducible exact Below.refl _ _) | (with_reducible assumption) | (with_reducible refine below_drewN ?_ _) | (with_reducible refine Below.drew ?_) | (with_reducible refine Below.alloc ?_ ?_ _) | (with_reducible refine Below.setCell ?_ ?_ _) | (with_reducible refine below_row ?_ ?_ _) | (with_reducible exact Nat.le_refl _) | omega | (simp only [World.size_alloc, World.size_setCell, World.size_drew, World.size_drewN]; omega) | (simp; done) | (simp; omega)))⟩
theorem check_any (s : Int) (w : World) : Calls Tryz.prog 191 #[.int .i64 s] w fun e w' => e = .returned (.agg #[.slice none 0 0, .int .i64 14, .int .i64 s]) ∧ Below w.heap.size w w' := by
  go_enter Tryz.func191, Tryz.ntmps191
  go_wp2
  refine bodyPost_ret (v := .agg #[.slice none 0 0, .int .i64 14, .int .i64 s]) (by simp [results, Tryz.results191, go_sem]) rfl ⟨rfl, by (repeat' (first | (with_reducible exact Below.refl _ _) | (with_reducible assumption) | (with_reducible refine below_drewN ?_ _) | (with_reducible refine Below.drew ?_) | (with_reducible refine Below.alloc ?_ ?_ _) | (with_reducible refine Below.setCell ?_ ?_ _) | (with_reducible refine below_row ?_ ?_ _) | (with_reducible exact Nat.le_refl _) | omega | (simp only [World.size_alloc, World.size_setCell, World.size_drew, World.size_drewN]; omega) | (simp; done) | (simp; omega)))⟩
def RetR (rd : List UInt8) (st sn : Int) (w : World) (e : Ending) (w' : World) : Prop :=
  ∃ A c, e = .returned (.agg #[.slice A rd.length c, .int .i64 st, .int .i64 sn]) ∧ w'.ownsRow w.heap.size 5 1 (.slice A rd.length c) rd.length (Lib.byteCells rd)
def OfT (w : World) (t : TypeId) (b : Nat) : Prop := ∃ cs fr, w.heap[b]? = some (.cells cs t fr)
structure PS where
  down : Nat
  lines : List (Nat × Nat × List UInt8)
  sense : Nat
def PS.good (s : PS) : Prop := s.lines.length ≤ 8192 ∧ s.sense < 256 ∧ s.down ≤ 1000000000
def lineCells (x : Nat × Nat × List UInt8) : List Value := [.int .i64 (x.1 : Int), .int .i64 (x.2.1 : Int), .string ⟨x.2.2.toArray⟩]
theorem lineCells_len (l : List (Nat × Nat × List UInt8)) : (l.flatMap lineCells).length = l.length * 3 := by
  induction l with
  | nil => rfl
  | cons x l ih => simp [lineCells, ih]; omega
def PrAt (w : World) (B pb : Nat) (s : PS) : Prop :=
  B ≤ pb ∧ ∃ A c, w.heap[pb]? = some (.cells #[.int .i64 (s.sense : Int), .slice A s.lines.length c, .int .i64 ((s.down / 60 + 1 : Nat) : Int), .int .i64 ((s.down % 60 + 1 : Nat) : Int)] 153 (0, 0)) ∧
    w.ownsRow B 107 3 (.slice A s.lines.length c) s.lines.length (s.lines.flatMap lineCells)
def Held (w : World) (pb i b : Nat) : Prop := ∃ cs t fr v, w.heap[pb]? = some (.cells cs t fr) ∧ cs[i]? = some v ∧ v.ownBlock = some b
def PrT (w : World) (B pb : Nat) (b : Nat) : Prop := b = pb ∨ B ≤ b ∧ OfT w 107 b ∧ Held w pb 1 b
set_option maxHeartbeats 1000000 in
theorem space_any (pb : Nat) (s page row n : Int) (v : Value) (w : World) (hr : w.heap[pb]? = some (.cells #[.int .i64 s, v, .int .i64 page, .int .i64 row] 153 (0, 0)))
    (h0 : 0 ≤ page) (h1 : page ≤ 1000000000) (r0 : 0 ≤ row) (r1 : row ≤ 1000) (n0 : 0 ≤ n) (n1 : n ≤ 1000) : Calls Tryz.prog 203 #[.pointer (some ⟨pb, 0, none⟩), .int .i64 n] w fun e w' => e = .returned (.tuple #[]) ∧
      w'.heap[pb]? = some (.cells #[.int .i64 s, v, .int .i64 (if 60 < row + n then page + 1 else page), .int .i64 (if 60 < row + n then row + n - 60 else row + n)] 153 (0, 0)) ∧ Fr (fun b => b = pb) w w' := by
  obtain ⟨L, F, z⟩ := row_look hr
  have R := Lib.hid hr
  clear hr
  by_cases hlt : 60 < row + n
  · rw [if_pos hlt, if_pos hlt]
    go_enter Tryz.func203, Tryz.ntmps203
    go_wp2
    go_end0
    exact ⟨rfl, hl_set (by simp) (hl_set rfl (hl_set rfl R.out)), by (repeat' (first | (with_reducible exact Fr.refl _ _) | (with_reducible assumption) | (with_reducible refine Fr.drewN ?_ _) | (with_reducible refine Fr.drew ?_) | (with_reducible refine Fr.alloc ?_ _) | (refine Fr.setNew ?_ (by first | exact Nat.le_refl _ | (dsimp only; omega)) _) | (refine Fr.setCell ?_ (fun _ => by first | rfl | exact Or.inl rfl) _)))⟩
  · rw [if_neg hlt, if_neg hlt]
    go_enter Tryz.func203, Tryz.ntmps203
    go_wp2
    go_end0
    exact ⟨rfl, hl_set (by simp) R.out, by (repeat' (first | (with_reducible exact Fr.refl _ _) | (with_reducible assumption) | (with_reducible refine Fr.drewN ?_ _) | (with_reducible refine Fr.drew ?_) | (with_reducible refine Fr.alloc ?_ _) | (refine Fr.setNew ?_ (by first | exact Nat.le_refl _ | (dsimp only; omega)) _) | (refine Fr.setCell ?_ (fun _ => by first | rfl | exact Or.inl rfl) _)))⟩
theorem lineElem : Elem Tryz.prog 101 107 (.agg #[.int .i64 0, .int .i64 0, .string ⟨#[]⟩]) 3 32 := ⟨Tryz.underlying101, by kernel_rfl, rfl, by omega⟩
def prMoves (op : Int) : Option (Nat × Bool) :=
  if op = 1 then some (0, true) else if op = 9 then some (1, true) else if op = 17 then some (2, true) else if op = 25 then some (3, true) else if op = 137 then some (4, true)
  else if op = 11 then some (1, false) else if op = 19 then some (2, false) else if op = 27 then some (3, false) else if op = 139 then some (4, false) else none
def four (n : Nat) : List UInt8 := [UInt8.ofNat (n / 16777216), UInt8.ofNat (n / 65536), UInt8.ofNat (n / 256), UInt8.ofNat n]
def prMove (down n : Nat) : Nat := if n = 4 then (down / 60 + 1) * 60 else down + n
def PS.write (s : PS) (l : List UInt8) : PS := { s with lines := s.lines ++ [(s.down / 60 + 1, s.down % 60 + 1, trim l)] }
def PS.move (s : PS) (n : Nat) : PS := { s with down := prMove s.down n }
def prOwn (s : PS) (op : Int) (l : List UInt8) : PS × List UInt8 × Int × Int :=
  if op = 20 then (s, four s.lines.length, 12, 0) else
  match prMoves op with
  | none => (s, [], 14, 128)
  | some (n, true) => if 132 < l.length then (s, [], 14, 128) else if s.lines.length = 8192 then (s, [], 14, 64) else ((s.write l).move n, [], 12, 0)
  | some (n, false) => (s.move n, [], 12, 0)
theorem RetR.lit (w : World) (cs : Array Value) (rd : List UInt8) (h : cs.toList = Lib.byteCells rd) (hm : rd.length ≤ maxLen) {w' : World} (hb : Below (w.heap.size + 1) (w.alloc (.cells cs 5)) w') {W : World} (hW : W.heap.size ≤ w.heap.size) :
    w'.ownsRow W.heap.size 5 1 (.slice (some ⟨w.heap.size, 0, none⟩) rd.length rd.length) rd.length (Lib.byteCells rd) := by
  have hs : cs.size = rd.length := by
    have := congrArg List.length h
    simpa [byteCells_len] using this
  have := own_lit1 w 5 cs rd.length hs hm
  rw [h] at this
  exact own_mono (own_below this (by rw [World.size_alloc]; exact hb)) hW
theorem four_cells (k : Nat) (h : k ≤ 16777215) : Lib.byteCells (four k) = [Value.int .u8 ((k : Int) / 16777216), .int .u8 ((k : Int) / 65536), .int .u8 ((k : Int) / 256 % 256), .int .u8 ((k : Int) % 256)] := by
  simp [four, Lib.byteCells]; omega
theorem own_far {w : World} {base : Nat} {e : TypeId} {size n : Nat} {v : Value} {xs : List Value} (ho : w.ownsRow base e size v n xs) {p : Addr} (h : v.ownBlock ≠ some p.block) (u : Value) : (w.setCell p u).ownsRow base e size v n xs :=
  Fr.own (T := fun b => b = p.block) ((Fr.refl (fun b => b = p.block) w).setCell (fun _ => rfl) u) ho (fun g hg e => h (by rw [hg, e]))
theorem PrAt.fr {w w' : World} {B pb : Nat} {s : PS} {T : Nat → Prop} (h : PrAt w B pb s) (hf : Fr T w w') (hT : ∀ b, b < w.heap.size → T b → ∀ cs t fr, w.heap[b]? = some (.cells cs t fr) → t ≠ 153 ∧ t ≠ 107) : PrAt w' B pb s := by
  obtain ⟨hB, A, c, hr, ho⟩ := h
  refine ⟨hB, A, c, hf.row hr (fun ht => (hT _ (hl_lt hr) ht _ _ _ hr).1 rfl), hf.own ho (fun g hg ht => ?_)⟩
  rcases ho.2 with ⟨hv, _⟩ | ⟨g', cap, cur, hv, _, hh, _⟩
  · injection hv with e1 _ _; subst e1; simp [Value.ownBlock] at hg
  · have hgg : g' = g := by rw [hv] at hg; simpa [Value.ownBlock] using hg
    subst hgg
    exact (hT _ (hl_lt hh) ht _ _ _ hh).2 rfl
theorem PrAt.grow {w w' : World} {B pb : Nat} {s : PS} (h : PrAt w B pb s) (hb : Below w.heap.size w w') : PrAt w' B pb s :=
  h.fr (T := fun _ => False) (Fr.of_grow hb) (fun _ _ h => h.elim)
theorem PrAt.at_block {w w' : World} {B pb g : Nat} {s : PS} {cs : Array Value} {t : TypeId} (h : PrAt w B pb s) (hf : Fr (fun b => b = g) w w') (hg : w.heap[g]? = some (.cells cs t (0, 0))) (h1 : t ≠ 153) (h2 : t ≠ 107) : PrAt w' B pb s :=
  h.fr hf (fun b _ e cs' t' fr' hh => by subst e; rw [hg] at hh; injection hh with hh; injection hh with _ e2 _; subst e2; exact ⟨h1, h2⟩)
set_option maxHeartbeats 2000000 in
theorem pown_count (pb B : Nat) (s : PS) (A : Option Addr) (n c : Nat) (w : World) (hp : PrAt w B pb s) (hg : s.good) :
    Calls Tryz.prog 201 #[.pointer (some ⟨pb, 0, none⟩), .int .i64 20, .slice A n c] w fun e w' => RetR (four s.lines.length) 12 0 w e w' ∧ Below w.heap.size w w' := by
  obtain ⟨hB, A1, c1, hr, ho⟩ := hp
  have hn : s.lines.length ≤ 8192 := hg.1
  obtain ⟨L, F, z⟩ := row_look hr
  generalize s.lines.length = k at *
  clear hr ho
  go_enter Tryz.func201, Tryz.ntmps201
  go_wp2_with fail
  refine name_world (P := fun W => Calls _ _ _ W _) ?_
  intro w0 hw0
  have r0 : w0.heap[w.heap.size]? = some (.cells #[.slice none 0 0, .int .i64 0, .int .i64 0] 55 (0, 0)) := by rw [hw0]; exact hl_keep (hl_new rfl)
  have o0 : w0.ownsRow w.heap.size 5 1 (.slice (some ⟨w.heap.size + 1, 0, none⟩) 4 4) 4 (Lib.byteCells (four k)) := by
    rw [hw0, four_cells k (by omega)]
    have hq : (k : Int) / 256 = (k : Int) / 256 % 256 := by omega
    rw [← hq]
    have h := own_lit1 (w.alloc (.cells #[.slice none 0 0, .int .i64 0, .int .i64 0] 55)) 5 #[Value.int .u8 ((k : Int) / 16777216), .int .u8 ((k : Int) / 65536), .int .u8 ((k : Int) / 256), .int .u8 ((k : Int) % 256)] 4 rfl (by decide)
    rw [World.size_alloc] at h
    exact own_mono h (Nat.le_succ _)
  have B0 : Below w.heap.size w w0 := by rw [hw0]; (repeat' (first | (with_reducible exact Below.refl _ _) | (with_reducible assumption) | (with_reducible refine below_drewN ?_ _) | (with_reducible refine Below.drew ?_) | (with_reducible refine Below.alloc ?_ ?_ _) | (with_reducible refine Below.setCell ?_ ?_ _) | (with_reducible refine below_row ?_ ?_ _) | (with_reducible exact Nat.le_refl _) | omega | (simp only [World.size_alloc, World.size_setCell, World.size_drew, World.size_drewN]; omega) | (simp; done) | (simp; omega)))
  have z0 := B0.size
  have O0 := Lib.hid o0
  clear hw0 o0
  refine (normal_any _ _ _ _ rfl _).mono ?_
  rintro e w1 ⟨rfl, b1⟩
  obtain ⟨L1, F1, z1⟩ := row_look (hl_grow b1 r0)
  have B1 : Below w.heap.size w w1 := B0.trans (b1.mono z0)
  have O1 := Lib.hid (own_grow O0.out b1)
  clear r0 b1 B0
  go_wp2
  refine bodyPost_ret (v := .agg #[.slice (some ⟨w.heap.size + 1, 0, none⟩) 4 4, .int .i64 12, .int .i64 0]) (by simp [results, Tryz.results201, go_sem, L1]) rfl ⟨⟨_, _, rfl, ?_⟩, by (repeat' (first | (with_reducible exact Below.refl _ _) | (with_reducible assumption) | (with_reducible refine below_drewN ?_ _) | (with_reducible refine Below.drew ?_) | (with_reducible refine Below.alloc ?_ ?_ _) | (with_reducible refine Below.setCell ?_ ?_ _) | (with_reducible refine below_row ?_ ?_ _) | (with_reducible exact Nat.le_refl _) | omega | (simp only [World.size_alloc, World.size_setCell, World.size_drew, World.size_drewN]; omega) | (simp; done) | (simp; omega)))⟩
  exact own_far (own_far (own_far O1.out (by simp [Value.ownBlock]) _) (by simp [Value.ownBlock]) _) (by simp [Value.ownBlock]) _
set_option maxHeartbeats 2000000 in
theorem pown_none (pb : Nat) (op : Int) (A : Option Addr) (n c : Nat) (w : World) (h20 : op ≠ 20) (hm : prMoves op = none) :
    Calls Tryz.prog 201 #[.pointer (some ⟨pb, 0, none⟩), .int .i64 op, .slice A n c] w fun e w' => RetR [] 14 128 w e w' ∧ Below w.heap.size w w' := by
  have t0 : (op == 20) = false := by rw [beq_eq_false_iff_ne]; exact h20
  have hh : (op == 1) = false ∧ (op == 9) = false ∧ (op == 17) = false ∧ (op == 25) = false ∧ (op == 137) = false ∧ (op == 11) = false ∧ (op == 19) = false ∧ (op == 27) = false ∧ (op == 139) = false := by
    simp only [beq_eq_false_iff_ne]
    refine ⟨?_, ?_, ?_, ?_, ?_, ?_, ?_, ?_, ?_⟩ <;> (rintro rfl; simp [prMoves] at hm)
  obtain ⟨t1, t9, t17, t25, t137, t11, t19, t27, t139⟩ := hh
  clear hm h20
  go_enter Tryz.func201, Tryz.ntmps201
  go_wp2_with fail
  refine (check_any _ _).mono ?_
  rintro e w1 ⟨rfl, b1⟩
  obtain ⟨r1, z1, b1'⟩ := alloc_call b1
  obtain ⟨L1, F1, _⟩ := row_look r1
  clear r1 b1
  go_wp2
  refine bodyPost_ret (v := .agg #[.slice none 0 0, .int .i64 14, .int .i64 128]) (by simp [results, Tryz.results201, go_sem, L1]) rfl ⟨⟨_, _, rfl, World.ownsRow_nil _ _ _ _⟩, by (repeat' (first | (with_reducible exact Below.refl _ _) | (with_reducible assumption) | (with_reducible refine below_drewN ?_ _) | (with_reducible refine Below.drew ?_) | (with_reducible refine Below.alloc ?_ ?_ _) | (with_reducible refine Below.setCell ?_ ?_ _) | (with_reducible refine below_row ?_ ?_ _) | (with_reducible exact Nat.le_refl _) | omega | (simp only [World.size_alloc, World.size_setCell, World.size_drew, World.size_drewN]; omega) | (simp; done) | (simp; omega)))⟩
theorem move_page (d n : Nat) (hn : n ≤ 3) : ((prMove d n / 60 + 1 : Nat) : Int) = (if 60 < ((d % 60 + 1 : Nat) : Int) + n then ((d / 60 + 1 : Nat) : Int) + 1 else ((d / 60 + 1 : Nat) : Int)) ∧
    ((prMove d n % 60 + 1 : Nat) : Int) = (if 60 < ((d % 60 + 1 : Nat) : Int) + n then ((d % 60 + 1 : Nat) : Int) + n - 60 else ((d % 60 + 1 : Nat) : Int) + n) := by
  unfold prMove
  rw [if_neg (by omega)]
  split <;> omega
theorem move_skip (d : Nat) : ((prMove d 4 / 60 + 1 : Nat) : Int) = ((d / 60 + 1 : Nat) : Int) + 1 ∧ ((prMove d 4 % 60 + 1 : Nat) : Int) = 1 := by
  unfold prMove
  rw [if_pos rfl]
  omega
theorem space_st (pb : Nat) (s : PS) (n : Nat) (hn : n ≤ 3) (hd : s.down ≤ 2000000000) (w : World) (A1 : Option Addr) (c1 : Nat)
    (hr : w.heap[pb]? = some (.cells #[.int .i64 (s.sense : Int), .slice A1 s.lines.length c1, .int .i64 ((s.down / 60 + 1 : Nat) : Int), .int .i64 ((s.down % 60 + 1 : Nat) : Int)] 153 (0, 0))) :
    Calls Tryz.prog 203 #[.pointer (some ⟨pb, 0, none⟩), .int .i64 (n : Int)] w fun e w' => e = .returned (.tuple #[]) ∧
      w'.heap[pb]? = some (.cells #[.int .i64 (s.sense : Int), .slice A1 s.lines.length c1, .int .i64 (((s.move n).down / 60 + 1 : Nat) : Int), .int .i64 (((s.move n).down % 60 + 1 : Nat) : Int)] 153 (0, 0)) ∧ Fr (fun b => b = pb) w w' := by
  obtain ⟨e1, e2⟩ := move_page s.down n hn
  show Calls _ _ _ _ (fun e w' => e = .returned (.tuple #[]) ∧ w'.heap[pb]? = some (.cells #[.int .i64 (s.sense : Int), .slice A1 s.lines.length c1, .int .i64 ((prMove s.down n / 60 + 1 : Nat) : Int), .int .i64 ((prMove s.down n % 60 + 1 : Nat) : Int)] 153 (0, 0)) ∧ Fr (fun b => b = pb) w w')
  rw [e1, e2]
  exact space_any pb _ _ _ n _ w hr (by omega) (by omega) (by omega) (by omega) (by omega) (by omega)
set_option maxHeartbeats 4000000 in
theorem pown_space (pb B : Nat) (s : PS) (op : Int) (k : Nat) (A : Option Addr) (n c : Nat) (w : World) (hp : PrAt w B pb s) (hd : s.down ≤ 2000000000) (hm : prMoves op = some (k, false)) :
    Calls Tryz.prog 201 #[.pointer (some ⟨pb, 0, none⟩), .int .i64 op, .slice A n c] w fun e w' => RetR [] 12 0 w e w' ∧ PrAt w' B pb (s.move k) ∧ Fr (fun b => b = pb) w w' := by
  obtain ⟨hB, A1, c1, hr, ho⟩ := hp
  have hob := own_row_ne ho hr (by decide)
  have hne : ¬ w.heap.size = pb := by have := hl_lt hr; omega
  have HO := Lib.hid ho
  have R := Lib.hid hr
  have hcase : (op = 11 ∧ k = 1) ∨ (op = 19 ∧ k = 2) ∨ (op = 27 ∧ k = 3) ∨ (op = 139 ∧ k = 4) := by
    unfold prMoves at hm
    repeat' (split at hm; first | (simp at hm; done) | skip)
    all_goals (first | (simp at hm; done) | (simp at hm; omega))
  clear hr ho hm
  have hfin : ∀ (w2 : World) (X Y : Int), X = (((s.move k).down / 60 + 1 : Nat) : Int) → Y = (((s.move k).down % 60 + 1 : Nat) : Int) → w2.heap[pb]? = some (.cells #[.int .i64 (s.sense : Int), .slice A1 s.lines.length c1, .int .i64 X, .int .i64 Y] 153 (0, 0)) → Fr (fun b => b = pb) w w2 →
      PrAt w2 B pb (s.move k) := by
    rintro w2 X Y rfl rfl h1 h2
    exact ⟨hB, A1, c1, h1, h2.own HO.out (fun g hg e => hob (hg.trans (by rw [e])))⟩
  have HF := Lib.hid hfin
  clear hfin hob
  have HS := Lib.hid (fun (m : Nat) (hm : m ≤ 3) (w' : World) h => space_st pb s m hm hd w' A1 c1 h)
  rcases hcase with ⟨rfl, rfl⟩ | ⟨rfl, rfl⟩ | ⟨rfl, rfl⟩ | ⟨rfl, rfl⟩
  · go_enter Tryz.func201, Tryz.ntmps201
    go_wp2_with fail
    refine (HS.out 1 (by omega) _ (hl_keep R.out)).mono ?_
    rintro e w1 ⟨rfl, r1, f1⟩
    have q1 := f1.row (hl_new rfl) hne
    have F1 : Fr (fun b => b = pb) w w1 := ((Fr.refl _ w).alloc _).trans f1 (fun _ _ h => h)
    go_wp2_with fail
    refine (normal_any _ _ _ _ rfl _).mono ?_
    rintro e w2 ⟨rfl, b2⟩
    have R2 := Lib.hid (hl_grow b2 r1)
    have F2 := F1.then b2
    obtain ⟨L2, F2', _⟩ := row_look (hl_grow b2 q1)
    clear r1 q1 f1 F1 b2
    go_wp2
    have hne' : pb ≠ w.heap.size := fun e => hne e.symm
    refine bodyPost_ret (v := .agg #[.slice none 0 0, .int .i64 12, .int .i64 0]) (by simp [results, Tryz.results201, go_sem, L2]) rfl ⟨⟨_, _, rfl, World.ownsRow_nil _ _ _ _⟩, ?_⟩
    have ff : Fr (fun b => b = pb) w (((w2.setCell ⟨w.heap.size, 0, none⟩ (.slice none 0 0)).setCell ⟨w.heap.size, 1, none⟩ (.int .i64 12)).setCell ⟨w.heap.size, 2, none⟩ (.int .i64 0)) := by (repeat' (first | (with_reducible exact Fr.refl _ _) | (with_reducible assumption) | (with_reducible refine Fr.drewN ?_ _) | (with_reducible refine Fr.drew ?_) | (with_reducible refine Fr.alloc ?_ _) | (refine Fr.setNew ?_ (by first | exact Nat.le_refl _ | (dsimp only; omega)) _) | (refine Fr.setCell ?_ (fun _ => by first | rfl | exact Or.inl rfl) _)))
    exact ⟨HF.out _ _ _ rfl rfl (hl_far hne' (hl_far hne' (hl_far hne' R2.out))) ff, ff⟩
  · go_enter Tryz.func201, Tryz.ntmps201
    go_wp2_with fail
    refine (HS.out 2 (by omega) _ (hl_keep R.out)).mono ?_
    rintro e w1 ⟨rfl, r1, f1⟩
    have q1 := f1.row (hl_new rfl) hne
    have F1 : Fr (fun b => b = pb) w w1 := ((Fr.refl _ w).alloc _).trans f1 (fun _ _ h => h)
    go_wp2_with fail
    refine (normal_any _ _ _ _ rfl _).mono ?_
    rintro e w2 ⟨rfl, b2⟩
    have R2 := Lib.hid (hl_grow b2 r1)
    have F2 := F1.then b2
    obtain ⟨L2, F2', _⟩ := row_look (hl_grow b2 q1)
    clear r1 q1 f1 F1 b2
    go_wp2
    have hne' : pb ≠ w.heap.size := fun e => hne e.symm
    refine bodyPost_ret (v := .agg #[.slice none 0 0, .int .i64 12, .int .i64 0]) (by simp [results, Tryz.results201, go_sem, L2]) rfl ⟨⟨_, _, rfl, World.ownsRow_nil _ _ _ _⟩, ?_⟩
    have ff : Fr (fun b => b = pb) w (((w2.setCell ⟨w.heap.size, 0, none⟩ (.slice none 0 0)).setCell ⟨w.heap.size, 1, none⟩ (.int .i64 12)).setCell ⟨w.heap.size, 2, none⟩ (.int .i64 0)) := by (repeat' (first | (with_reducible exact Fr.refl _ _) | (with_reducible assumption) | (with_reducible refine Fr.drewN ?_ _) | (with_reducible refine Fr.drew ?_) | (with_reducible refine Fr.alloc ?_ _) | (refine Fr.setNew ?_ (by first | exact Nat.le_refl _ | (dsimp only; omega)) _) | (refine Fr.setCell ?_ (fun _ => by first | rfl | exact Or.inl rfl) _)))
    exact ⟨HF.out _ _ _ rfl rfl (hl_far hne' (hl_far hne' (hl_far hne' R2.out))) ff, ff⟩
  · go_enter Tryz.func201, Tryz.ntmps201
    go_wp2_with fail
    refine (HS.out 3 (by omega) _ (hl_keep R.out)).mono ?_
    rintro e w1 ⟨rfl, r1, f1⟩
    have q1 := f1.row (hl_new rfl) hne
    have F1 : Fr (fun b => b = pb) w w1 := ((Fr.refl _ w).alloc _).trans f1 (fun _ _ h => h)
    go_wp2_with fail
    refine (normal_any _ _ _ _ rfl _).mono ?_
    rintro e w2 ⟨rfl, b2⟩
    have R2 := Lib.hid (hl_grow b2 r1)
    have F2 := F1.then b2
    obtain ⟨L2, F2', _⟩ := row_look (hl_grow b2 q1)
    clear r1 q1 f1 F1 b2
    go_wp2
    have hne' : pb ≠ w.heap.size := fun e => hne e.symm
    refine bodyPost_ret (v := .agg #[.slice none 0 0, .int .i64 12, .int .i64 0]) (by simp [results, Tryz.results201, go_sem, L2]) rfl ⟨⟨_, _, rfl, World.ownsRow_nil _ _ _ _⟩, ?_⟩
    have ff : Fr (fun b => b = pb) w (((w2.setCell ⟨w.heap.size, 0, none⟩ (.slice none 0 0)).setCell ⟨w.heap.size, 1, none⟩ (.int .i64 12)).setCell ⟨w.heap.size, 2, none⟩ (.int .i64 0)) := by (repeat' (first | (with_reducible exact Fr.refl _ _) | (with_reducible assumption) | (with_reducible refine Fr.drewN ?_ _) | (with_reducible refine Fr.drew ?_) | (with_reducible refine Fr.alloc ?_ _) | (refine Fr.setNew ?_ (by first | exact Nat.le_refl _ | (dsimp only; omega)) _) | (refine Fr.setCell ?_ (fun _ => by first | rfl | exact Or.inl rfl) _)))
    exact ⟨HF.out _ _ _ rfl rfl (hl_far hne' (hl_far hne' (hl_far hne' R2.out))) ff, ff⟩
  · obtain ⟨L, F, _⟩ := row_look R.out
    obtain ⟨m1, m2⟩ := move_skip s.down
    have M1 := Lib.hid m1
    have M2 := Lib.hid m2
    clear m1 m2
    go_enter Tryz.func201, Tryz.ntmps201
    go_wp2_with fail
    refine name_world (P := fun W => Calls _ _ _ W _) ?_
    intro w1 hw1
    have hne' : pb ≠ w.heap.size := fun e => hne e.symm
    have q1 : w1.heap[w.heap.size]? = some (.cells #[.slice none 0 0, .int .i64 0, .int .i64 0] 55 (0, 0)) := by rw [hw1]; exact hl_new (by simp)
    have r1 : w1.heap[pb]? = some (.cells #[.int .i64 (s.sense : Int), .slice A1 s.lines.length c1, .int .i64 (((s.down / 60 + 1 : Nat) : Int) + 1), .int .i64 1] 153 (0, 0)) := by
      rw [hw1]
      refine hl_keep (hl_set (cs := #[.int .i64 (s.sense : Int), .slice A1 s.lines.length c1, .int .i64 (((s.down / 60 + 1 : Nat) : Int) + 1), .int .i64 ((s.down % 60 + 1 : Nat) : Int)]) (by rfl) (hl_set ?_ R.out))
      simp
    have F1 : Fr (fun b => b = pb) w w1 := by rw [hw1]; (repeat' (first | (with_reducible exact Fr.refl _ _) | (with_reducible assumption) | (with_reducible refine Fr.drewN ?_ _) | (with_reducible refine Fr.drew ?_) | (with_reducible refine Fr.alloc ?_ _) | (refine Fr.setNew ?_ (by first | exact Nat.le_refl _ | (dsimp only; omega)) _) | (refine Fr.setCell ?_ (fun _ => by first | rfl | exact Or.inl rfl) _)))
    clear hw1
    refine (normal_any _ _ _ _ rfl _).mono ?_
    rintro e w2 ⟨rfl, b2⟩
    have R2 := Lib.hid (hl_grow b2 r1)
    have F2 := F1.then b2
    obtain ⟨L2, F2', _⟩ := row_look (hl_grow b2 q1)
    clear r1 q1 F1 b2 L F
    go_wp2
    refine bodyPost_ret (v := .agg #[.slice none 0 0, .int .i64 12, .int .i64 0]) (by simp [results, Tryz.results201, go_sem, L2]) rfl ⟨⟨_, _, rfl, World.ownsRow_nil _ _ _ _⟩, ?_⟩
    have ff : Fr (fun b => b = pb) w (((w2.setCell ⟨w.heap.size, 0, none⟩ (.slice none 0 0)).setCell ⟨w.heap.size, 1, none⟩ (.int .i64 12)).setCell ⟨w.heap.size, 2, none⟩ (.int .i64 0)) := by (repeat' (first | (with_reducible exact Fr.refl _ _) | (with_reducible assumption) | (with_reducible refine Fr.drewN ?_ _) | (with_reducible refine Fr.drew ?_) | (with_reducible refine Fr.alloc ?_ _) | (refine Fr.setNew ?_ (by first | exact Nat.le_refl _ | (dsimp only; omega)) _) | (refine Fr.setCell ?_ (fun _ => by first | rfl | exact Or.inl rfl) _)))
    exact ⟨HF.out _ _ _ M1.out.symm M2.out.symm (hl_far hne' (hl_far hne' (hl_far hne' R2.out))) ff, ff⟩
end Go.Proofs.YtfhpaehfihnjaaaGreat.U
namespace Go.Proofs.YtfhpaehfihnjaaaGreat.U
open Go.RowKit
def RetS (W : World) (F : List SA) (rd : List UInt8) (st sn : Int) (e : Ending) (w' : World) : Prop :=
  ∃ A c, e = .returned (.agg #[.slice A rd.length c, .int .i64 st, .int .i64 sn]) ∧ SL W (rowS 5 1 (.slice A rd.length c) rd.length (Lib.byteCells rd) :: F) w'
theorem RetS.of {W w' : World} {F : List SA} {st sn : Int} (S : SL W F w') : RetS W F [] st sn (.returned (.agg #[.slice none 0 0, .int .i64 st, .int .i64 sn])) w' := ⟨none, 0, rfl, S.nil _ _⟩
def cardS (p : Value × List UInt8) : SA := rowS 5 1 p.1 p.2.length (Lib.byteCells p.2)
def deckS (v : Value) (cs : List (List UInt8)) : SA := fun h => ∃ ps : List (Value × List UInt8), (ps.map Prod.snd = cs) ∧ star [rowS 50 1 v ps.length (ps.map Prod.fst), star (ps.map cardS)] h
theorem deckS_open {W w : World} {F : List SA} {v : Value} {cs : List (List UInt8)} (S : SL W (deckS v cs :: F) w) : ∃ ps : List (Value × List UInt8), (ps.map Prod.snd = cs) ∧ SL W (rowS 50 1 v ps.length (ps.map Prod.fst) :: star (ps.map cardS) :: F) w :=
  S.unpack (K := fun ps : List (Value × List UInt8) => [rowS 50 1 v ps.length (ps.map Prod.fst), star (ps.map cardS)]) fun _ h => h
theorem deckS_close {W w : World} {F : List SA} {v : Value} {ps : List (Value × List UInt8)} (S : SL W (rowS 50 1 v ps.length (ps.map Prod.fst) :: star (ps.map cardS) :: F) w) : SL W (deckS v (ps.map Prod.snd) :: F) w :=
  SL.pack (L := [rowS 50 1 v ps.length (ps.map Prod.fst), star (ps.map cardS)]) S fun _ h => ⟨ps, rfl, h⟩
theorem deckS_close' {W w : World} {F : List SA} {v : Value} {n : Nat} {ps : List (Value × List UInt8)} (hn : n = ps.length) (S : SL W (rowS 50 1 v n (ps.map Prod.fst) :: star (ps.map cardS) :: F) w) : SL W (deckS v (ps.map Prod.snd) :: F) w := by subst hn; exact deckS_close S
theorem deckElem : Elem Tryz.prog 95 50 (.slice none 0 0) 1 24 := ⟨Tryz.underlying95, by kernel_rfl, rfl, by omega⟩
def punchS (pb se : Nat) (cs : List (List UInt8)) : SA := fun h => ∃ v, True ∧ star [cel pb #[.int .i64 (se : Int), v] 151, deckS v cs] h
theorem punchS_open {W w : World} {F : List SA} {pb se : Nat} {cs : List (List UInt8)} (S : SL W (punchS pb se cs :: F) w) : ∃ v, True ∧ SL W (cel pb #[.int .i64 (se : Int), v] 151 :: deckS v cs :: F) w :=
  S.unpack (K := fun v => [cel pb #[.int .i64 (se : Int), v] 151, deckS v cs]) fun _ h => h
theorem punchS_close {W w : World} {F : List SA} {pb se : Nat} {cs : List (List UInt8)} {v : Value} (S : SL W (cel pb #[.int .i64 (se : Int), v] 151 :: deckS v cs :: F) w) : SL W (punchS pb se cs :: F) w :=
  SL.pack (L := [cel pb #[.int .i64 (se : Int), v] 151, deckS v cs]) S fun _ h => ⟨v, trivial, h⟩
def punOwn (cs : List (List UInt8)) (op : Int) (l : List UInt8) : List (List UInt8) × Int × Int :=
  if op ≠ 1 ∨ 80 < l.length then (cs, 14, 128) else if cs.length = 4096 then (cs, 14, 64) else (cs ++ [l ++ List.replicate (80 - l.length) 0x40], 12, 0)
def fillB (l : List UInt8) (k : Nat) : List UInt8 := l ++ List.replicate (k - l.length) 0x40 ++ List.replicate (80 - k) 0
theorem fillB_len (l : List UInt8) (k : Nat) (h : l.length ≤ k) (hk : k ≤ 80) : (fillB l k).length = 80 := by simp [fillB]; omega
theorem fillB_get (l : List UInt8) (k : Nat) (h : l.length ≤ k) (hk : k < 80) : (Lib.byteCells (fillB l k))[k]? = some (.int .u8 0) := by
  rw [Lib.byteCells, List.getElem?_map, fillB, List.getElem?_append_right (by simp; omega)]
  simp
  exact ⟨0, by rw [List.getElem?_replicate, if_pos (by omega)], rfl⟩
theorem fillB_set (l : List UInt8) (k : Nat) (h : l.length ≤ k) (hk : k < 80) : (Lib.byteCells (fillB l k)).toArray.setIfInBounds k (.int .u8 64) = (Lib.byteCells (fillB l (k + 1))).toArray := by
  rw [List.setIfInBounds_toArray]
  congr 1
  rw [Lib.byteCells, Lib.byteCells, show Value.int .u8 64 = (fun b : UInt8 => Value.int .u8 (b.toNat : Int)) 0x40 from rfl, ← List.map_set]
  congr 1
  unfold fillB
  have e1 : List.replicate (80 - k) (0 : UInt8) = 0 :: List.replicate (80 - (k + 1)) 0 := by rw [show 80 - k = (80 - (k + 1)) + 1 by omega, List.replicate_succ]
  have e2 : List.replicate (k + 1 - l.length) (0x40 : UInt8) = List.replicate (k - l.length) 0x40 ++ [0x40] := by rw [show k + 1 - l.length = (k - l.length) + 1 by omega, List.replicate_succ']
  rw [e1, e2, List.set_append_right _ _ (by simp; omega)]
  have e3 : k - (l ++ List.replicate (k - l.length) (0x40 : UInt8)).length = 0 := by simp; omega
  rw [e3]
  simp
theorem splice_made (l : List UInt8) (h : l.length ≤ 80) : splice (madeCells (Value.int .u8 0).cells (80 * 1)).toList 0 ((Lib.byteCells l).take 80) = Lib.byteCells (fillB l l.length) := by
  have hm : (madeCells (Value.int .u8 0).cells (80 * 1)).toList = List.replicate 80 (Value.int .u8 0) := by kernel_rfl
  rw [hm, List.take_of_length_le (by rw [byteCells_len]; exact h)]
  simp only [splice, List.take_zero, List.nil_append, Nat.zero_add, List.drop_replicate, fillB, Nat.sub_self, List.replicate_zero, List.append_nil, Lib.byteCells, List.map_append, List.map_replicate, List.length_map]
  rfl
section
variable {W w : World} {F : List SA}
theorem pun_close {pb se g : Nat} {v : Value} {ps : List (Value × List UInt8)} {l : List UInt8} (hz : l.length ≤ 80)
    (S : SL W (cel pb #[.int .i64 (se : Int), v] 151 :: rowS 50 1 v (ps.length + 1) (ps.map Prod.fst ++ [.slice (some ⟨g, 0, none⟩) 80 80]) :: cel g (Lib.byteCells (fillB l 80)).toArray 5 :: star (ps.map cardS) :: F) w) :
    SL W (punchS pb se (ps.map Prod.snd ++ [l ++ List.replicate (80 - l.length) 0x40]) :: F) w := by
  have S9 := S.s3.s3.unfull (size := 1) (n := 80) (by rw [byteCells_len, fillB_len l 80 hz (Nat.le_refl _)]) (by decide)
  have hf : fillB l 80 = l ++ List.replicate (80 - l.length) 0x40 := by simp [fillB]
  have hl : (fillB l 80).length = 80 := fillB_len l 80 hz (Nat.le_refl _)
  rw [hf] at S9 hl
  have S10 := SL.snoc (P := cardS (.slice (some ⟨g, 0, none⟩) 80 80, l ++ List.replicate (80 - l.length) 0x40)) (by unfold cardS; rw [hl]; exact S9)
  have e1 : ps.map Prod.snd ++ [l ++ List.replicate (80 - l.length) 0x40] = (ps ++ [(Value.slice (some ⟨g, 0, none⟩) 80 80, l ++ List.replicate (80 - l.length) 0x40)]).map Prod.snd := by simp
  rw [e1]
  refine punchS_close (deckS_close (v := v) ?_).s1
  simp only [List.map_append, List.map_cons, List.map_nil, List.length_append, List.length_cons, List.length_nil, Nat.zero_add]
  exact S10.s2
set_option maxHeartbeats 2000000 in
theorem pun_rej (pb : Nat) (op : Int) (A : Option Addr) (l : List UInt8) (c : Nat) (S : SL W F w) (hz : l.length ≤ maxLen) (h : op ≠ 1 ∨ 80 < l.length) :
    Calls Tryz.prog 198 #[.pointer (some ⟨pb, 0, none⟩), .int .i64 op, .slice A l.length c] w fun e w' => RetS W F [] 14 128 e w' := by
  have HS := Lib.hid S
  unfold maxLen at hz
  clear S
  by_cases h1 : op = 1
  · subst h1
    have h2 : (80 : Int) < (l.length : Int) := by omega
    clear h
    go_enter Tryz.func198, Tryz.ntmps198
    go_wp2_with fail
    refine (check_any _ _).mono ?_
    rintro e w1 ⟨rfl, b1⟩
    have S1 := (HS.out.allocC #[.slice none 0 0, .int .i64 0, .int .i64 0] 55).grow b1
    obtain ⟨L1, F1, _⟩ := S1.look
    have H1 := Lib.hid S1
    clear S1 b1
    go_wp2
    exact bodyPost_ret (v := .agg #[.slice none 0 0, .int .i64 14, .int .i64 128]) (by simp [results, Tryz.results198, go_sem, L1]) rfl (RetS.of (((H1.out.set rfl).set rfl).set rfl).drop)
  · clear h
    go_enter Tryz.func198, Tryz.ntmps198
    go_wp2_with fail
    refine (check_any _ _).mono ?_
    rintro e w1 ⟨rfl, b1⟩
    have S1 := (HS.out.allocC #[.slice none 0 0, .int .i64 0, .int .i64 0] 55).grow b1
    obtain ⟨L1, F1, _⟩ := S1.look
    have H1 := Lib.hid S1
    clear S1 b1
    go_wp2
    exact bodyPost_ret (v := .agg #[.slice none 0 0, .int .i64 14, .int .i64 128]) (by simp [results, Tryz.results198, go_sem, L1]) rfl (RetS.of (((H1.out.set rfl).set rfl).set rfl).drop)
set_option maxHeartbeats 2000000 in
theorem pun_full (pb se : Nat) (cs : List (List UInt8)) (A : Option Addr) (l : List UInt8) (c : Nat) (S : SL W (punchS pb se cs :: F) w) (hz : l.length ≤ 80) (h : cs.length = 4096) :
    Calls Tryz.prog 198 #[.pointer (some ⟨pb, 0, none⟩), .int .i64 1, .slice A l.length c] w fun e w' => RetS W (punchS pb se cs :: F) [] 14 64 e w' := by
  obtain ⟨v, _, S⟩ := punchS_open S
  obtain ⟨ps, rfl, S'⟩ := deckS_open S.s1
  obtain ⟨Av, cv, rfl, _, _⟩ := own_slice S'.own
  rw [List.length_map] at h
  rw [h] at S S'
  obtain ⟨L0, F0, z0⟩ := S.look
  have HS := Lib.hid S
  have h2 : ¬ (80 : Int) < (l.length : Int) := by omega
  clear S S' h
  go_enter Tryz.func198, Tryz.ntmps198
  go_wp2_with fail
  refine (check_any _ _).mono ?_
  rintro e w1 ⟨rfl, b1⟩
  have S1 := (HS.out.allocC #[.slice none 0 0, .int .i64 0, .int .i64 0] 55).grow b1
  obtain ⟨L1, F1, _⟩ := S1.look
  have H1 := Lib.hid S1
  clear S1 b1
  go_wp2
  exact bodyPost_ret (v := .agg #[.slice none 0 0, .int .i64 14, .int .i64 64]) (by simp [results, Tryz.results198, go_sem, L1]) rfl (RetS.of (punchS_close (((H1.out.set rfl).set rfl).set rfl).drop))
set_option maxHeartbeats 2000000 in
theorem pun_ok (pb se : Nat) (cs : List (List UInt8)) (A : Option Addr) (l : List UInt8) (c : Nat) (S : SL W (punchS pb se cs :: F) w) (hr : Rd W (punchS pb se cs :: F) A (Lib.byteCells l)) (_hlc : l.length ≤ c) (hz : l.length ≤ 80) (h : cs.length < 4096) :
    Calls Tryz.prog 198 #[.pointer (some ⟨pb, 0, none⟩), .int .i64 1, .slice A l.length c] w fun e w' => RetS W (punchS pb se (cs ++ [l ++ List.replicate (80 - l.length) 0x40]) :: F) [] 12 0 e w' := by
  have HR := Lib.hid hr
  obtain ⟨v, _, S⟩ := punchS_open S
  obtain ⟨ps, rfl, S'⟩ := deckS_open S.s1
  obtain ⟨Av, cv, rfl, _, _⟩ := own_slice S'.own
  rw [List.length_map] at h
  obtain ⟨L0, F0, z0⟩ := S.look
  have HS := Lib.hid S'
  have h2 : ¬ (80 : Int) < (l.length : Int) := by omega
  have h3 : ¬ (ps.length : Int) = 4096 := by omega
  clear S S' hr
  go_enter Tryz.func198, Tryz.ntmps198
  go_wp2_with (first
    | (refine wpList_makeS (by rfl) _ _ _ (by rfl) bElem .i64 .i64 80 80 80 (by rfl) (by rfl) (by rfl) (by rfl) (by decide) (by decide) (HS.out.allocC #[.slice none 0 0, .int .i64 0, .int .i64 0] 55) ?_; intro g w2 S2)
    | (refine wpList_copyS rfl _ _ _ _ rfl bElem g 80 80 _ S2 _ 80 80 0 rfl w2.heap.size A l.length c (Lib.byteCells l) rfl (HR.out _ (punchS_close (deckS_close S2.drop.drop).s1)) (byteCells_len _) (fun _ => rfl) (by omega) (byteCells_one _) ?_; intro w3 S3))
  rw [splice_made l hz] at S3
  have H3 := Lib.hid (S3.full (by omega))
  clear S2 S3 HR L0 F0
  go_loopw [8] (fun i wr => ∃ k : Nat, l.length ≤ k ∧ k ≤ 80 ∧ i = .int .i64 k ∧ SL W (cel g (Lib.byteCells (fillB l k)).toArray 5 :: cel w.heap.size #[.slice none 0 0, .int .i64 0, .int .i64 0] 55 :: rowS 50 1 (.slice Av ps.length cv) ps.length (ps.map Prod.fst) :: star (ps.map cardS) :: cel pb #[.int .i64 (se : Int), .slice Av ps.length cv] 151 :: F) wr) (fun i _ => (80 - intOf i).toNat)
  case atStart => exact ⟨l.length, Nat.le_refl _, hz, by simp, H3.out⟩
  case round =>
    obtain ⟨k, hk1, hk2, rfl, S4⟩ := hrel
    obtain ⟨L4, F4, z4⟩ := S4.look
    have c4 := L4 k
    have H4 := Lib.hid S4
    clear H3 L4 S4
    by_cases hlt : k < 80
    · rw [List.getElem?_toArray, fillB_get l k hk1 hlt] at c4
      go_wp2
      go_roundw
      case rel => exact ⟨k + 1, by omega, by omega, by go_num, H4.out.set (fillB_set l k hk1 hlt)⟩
      case measure => simp [intOf]; omega
    · clear c4
      obtain rfl : k = 80 := by omega
      obtain ⟨Lp, Fp, zp⟩ := H4.out.s4.look
      go_wp2_with (at_builtin; refine wpList_pushS rfl _ _ _ rfl deckElem wr [.slice (some ⟨g, 0, none⟩) 80 80] 1 rfl rfl (by simp [Value.oneCell']) _ ps.length _ rfl rfl H4.out.s2 (by unfold maxLen; omega) (by omega) ?_
                   intro A6 c6 w6 S6
                   obtain ⟨L6, F6, z6⟩ := S6.s4.look
                   have H6 := Lib.hid S6
                   clear S6 H4 Lp Fp)
      have H7 := Lib.hid (H6.out.s4.set (off := 1) (v := .slice A6 (ps.length + 1) c6) rfl)
      refine name_world (P := fun W => Calls _ _ _ W _) ?_
      intro w7 hw7
      rw [← hw7] at H7
      clear hw7 L6 F6 z6 H6
      refine (normal_any _ _ _ _ rfl _).mono ?_
      rintro e w8 ⟨rfl, b8⟩
      have H8 := Lib.hid (H7.out.grow b8)
      obtain ⟨L8, F8, _⟩ := H8.out.s3.look
      clear b8 H7
      go_wp2
      refine bodyPost_ret (v := .agg #[.slice none 0 0, .int .i64 12, .int .i64 0]) (by simp [results, Tryz.results198, go_sem, L8]) rfl (RetS.of ?_)
      exact pun_close hz (((H8.out.s3.set rfl).set rfl).set rfl).drop
end
end Go.Proofs.YtfhpaehfihnjaaaGreat.U
namespace Go.Proofs.YtfhpaehfihnjaaaGreat.U
open Go.RowKit
def DevS (pb : Nat) (I : Nat → SA) : Prop :=
  ∀ se h, I se h → ∃ x : Array Value × TypeId × SA, (x.1[0]? = some (.int .i64 (se : Int)) ∧ ∀ (se' : Nat) h', star [cel pb (x.1.setIfInBounds 0 (.int .i64 (se' : Int))) x.2.1, x.2.2] h' → I se' h') ∧ star [cel pb x.1 x.2.1, x.2.2] h
theorem set_same' {cs : Array Value} {v : Value} (h : cs[0]? = some v) : cs.setIfInBounds 0 v = cs := by
  obtain ⟨hl, hv⟩ := Array.getElem?_eq_some_iff.1 h
  subst hv
  simp [Array.setIfInBounds, hl]
section
variable {W w : World} {F : List SA}
theorem DevS.open_ {pb se : Nat} {I : Nat → SA} (D : DevS pb I) (S : SL W (I se :: F) w) : ∃ cs t J, cs[0]? = some (.int .i64 (se : Int)) ∧ SL W (cel pb cs t :: J :: F) w ∧ ∀ (se' : Nat) W' F' w', SL W' (cel pb (cs.setIfInBounds 0 (.int .i64 (se' : Int))) t :: J :: F') w' → SL W' (I se' :: F') w' := by
  obtain ⟨⟨cs, t, J⟩, ⟨h0, h1⟩, S'⟩ := S.unpack (K := fun x : Array Value × TypeId × SA => [cel pb x.1 x.2.1, x.2.2]) (D se)
  exact ⟨cs, t, J, h0, S', fun se' W' F' w' S => SL.pack (L := [_, _]) S (h1 se')⟩
def Enters (own : Nat) (args : Array Value) : Prop := ∀ w : World, (callFunc own args).run Tryz.prog w = .ok (.enter own args) w
set_option maxHeartbeats 2000000 in
theorem commandS_3 (pb se : Nat) (I : Nat → SA) (v f : Value) (S : SL W (I se :: F) w) :
    Calls Tryz.prog 192 #[.pointer (some ⟨pb, 0, none⟩), .int .i64 3, v, f] w fun e w' => RetS W (I se :: F) [] 12 0 e w' := by
  have HS := Lib.hid S
  clear S
  go_enter Tryz.func192, Tryz.ntmps192
  go_wp2_with fail
  refine (normal_any _ _ _ _ rfl _).mono ?_
  rintro e w1 ⟨rfl, b1⟩
  have H1 := Lib.hid ((HS.out.allocC #[.slice none 0 0, .int .i64 0, .int .i64 0] 55).grow b1)
  obtain ⟨L1, F1, _⟩ := H1.out.look
  clear b1
  go_wp2
  exact bodyPost_ret (v := .agg #[.slice none 0 0, .int .i64 12, .int .i64 0]) (by simp [results, Tryz.results192, go_sem, L1]) rfl (RetS.of (((H1.out.set rfl).set rfl).set rfl).drop)
set_option maxHeartbeats 2000000 in
theorem commandS_4 (pb se : Nat) (I : Nat → SA) (D : DevS pb I) (hse : se < 256) (v f : Value) (S : SL W (I se :: F) w) :
    Calls Tryz.prog 192 #[.pointer (some ⟨pb, 0, none⟩), .int .i64 4, v, f] w fun e w' => RetS W (I se :: F) [UInt8.ofNat se] 12 0 e w' := by
  obtain ⟨cs, t, J, hc0, S0, hcl⟩ := D.open_ S
  obtain ⟨L', _, z⟩ := S0.look
  have L : w.cell? ⟨pb, 0, none⟩ = some (.int .i64 (se : Int)) := (L' 0).trans hc0
  have hu : (UInt8.ofNat se).toNat = se := by rw [UInt8.toNat_ofNat']; omega
  have hc : Lib.byteCells [UInt8.ofNat se] = [Value.int .u8 (se : Int)] := by simp only [Lib.byteCells, List.map_cons, List.map_nil]; rw [hu]
  have HC := Lib.hid hc
  have HS := Lib.hid S
  clear S S0 L' hc0 D hu hc hcl
  go_enter Tryz.func192, Tryz.ntmps192
  go_wp2_with fail
  have h0 := (HS.out.allocC #[.slice none 0 0, .int .i64 0, .int .i64 0] 55).lit #[Value.int .u8 (se : Int)] 5 1 1 rfl (by decide)
  rw [World.size_alloc] at h0
  have H0 := Lib.hid h0
  clear h0
  refine (normal_any _ _ _ _ rfl _).mono ?_
  rintro e w1 ⟨rfl, b1⟩
  have H1 := Lib.hid (H0.out.grow b1)
  obtain ⟨L1, F1, z1⟩ := H1.out.s1.look
  clear b1 H0
  go_wp2
  refine bodyPost_ret (v := .agg #[.slice (some ⟨w.heap.size + 1, 0, none⟩) 1 1, .int .i64 12, .int .i64 0]) (by simp [results, Tryz.results192, go_sem, L1]) rfl ⟨_, _, rfl, ?_⟩
  rw [HC.out]
  exact (((H1.out.s1.set rfl).set rfl).set rfl).drop
set_option maxHeartbeats 2000000 in
theorem commandS_own (pb se : Nat) (I : Nat → SA) (D : DevS pb I) (own : Nat) (op : Int) (v : Value) (rd : List UInt8) (st sn : Int) (h3 : op ≠ 3) (h4 : op ≠ 4) (hsn : sn = 0 ∨ sn = 64 ∨ sn = 128)
    (hc : Enters own #[.pointer (some ⟨pb, 0, none⟩), .int .i64 op, v]) (w0 : World) (L : List SA) (S : SL W L w0)
    (ho : ∀ R w, SL W (R :: L) w → Calls Tryz.prog own #[.pointer (some ⟨pb, 0, none⟩), .int .i64 op, v] w fun e w' => RetS W (I se :: R :: F) rd st sn e w') :
    Calls Tryz.prog 192 #[.pointer (some ⟨pb, 0, none⟩), .int .i64 op, v, .func (.func own) #[.pointer (some ⟨pb, 0, none⟩)] #[]] w0 fun e w' =>
      RetS W (I (if sn = 0 then se else sn.toNat) :: F) rd st sn e w' := by
  have t3 : (op == 3) = false := by rw [beq_eq_false_iff_ne]; exact h3
  have t4 : (op == 4) = false := by rw [beq_eq_false_iff_ne]; exact h4
  have HO := Lib.hid ho
  have HS := Lib.hid S
  unfold Enters at hc
  clear h3 h4 ho S
  go_enter Tryz.func192, Tryz.ntmps192
  go_wp2_with fail
  refine (HO.out _ _ (HS.out.allocC #[.slice none 0 0, .int .i64 0, .int .i64 0] 55)).mono ?_
  rintro e w1 ⟨A1, c1, rfl, S1⟩
  obtain ⟨cs, t, J, hc0, S2, hcl⟩ := D.open_ S1.s1
  obtain ⟨L2', K2, z2⟩ := S2.look
  have L2 : w1.cell? ⟨pb, 0, none⟩ = some (.int .i64 (se : Int)) := (L2' 0).trans hc0
  have S3 := S2.s3
  obtain ⟨L1, K1, z1⟩ := S3.look
  have hne := S3.cne
  have hne' : pb ≠ w0.heap.size := fun e => hne e.symm
  have HCL := Lib.hid hcl
  have H3 := Lib.hid S3
  have HC0 := Lib.hid hc0
  clear S1 S2 S3 L2' hc0 hcl D HO HS
  rcases hsn with rfl | rfl | rfl
  · go_wp2
    refine name_world (P := bodyPost _ _ _ _ _) ?_
    intro wf hwf
    have SF := SL.cast hwf ((((H3.out.set rfl).set rfl).set rfl).allocC _ _)
    clear hwf
    obtain ⟨Lf, _, _⟩ := SF.drop.look
    refine bodyPost_ret (v := .agg #[.slice A1 rd.length c1, .int .i64 st, .int .i64 0]) (by simp [results, Tryz.results192, go_sem, Lf]) rfl ⟨_, _, rfl, ?_⟩
    exact (HCL.out se _ _ _ (by rw [set_same' HC0.out]; exact SF.drop.drop)).s1
  · go_wp2
    refine name_world (P := bodyPost _ _ _ _ _) ?_
    intro wf hwf
    have SF := SL.cast hwf (((((H3.out.s1.set (off := 0) (v := .int .i64 (64 : Nat)) rfl).s1.set rfl).set rfl).set rfl).allocC _ _)
    clear hwf
    obtain ⟨Lf, _, _⟩ := SF.drop.look
    refine bodyPost_ret (v := .agg #[.slice A1 rd.length c1, .int .i64 st, .int .i64 64]) (by simp [results, Tryz.results192, go_sem, Lf]) rfl ⟨_, _, rfl, ?_⟩
    exact (HCL.out 64 _ _ _ (SF.drop.drop)).s1
  · go_wp2
    refine name_world (P := bodyPost _ _ _ _ _) ?_
    intro wf hwf
    have SF := SL.cast hwf (((((H3.out.s1.set (off := 0) (v := .int .i64 (128 : Nat)) rfl).s1.set rfl).set rfl).set rfl).allocC _ _)
    clear hwf
    obtain ⟨Lf, _, _⟩ := SF.drop.look
    refine bodyPost_ret (v := .agg #[.slice A1 rd.length c1, .int .i64 st, .int .i64 128]) (by simp [results, Tryz.results192, go_sem, Lf]) rfl ⟨_, _, rfl, ?_⟩
    exact (HCL.out 128 _ _ _ (SF.drop.drop)).s1
end
end Go.Proofs.YtfhpaehfihnjaaaGreat.U
namespace Go.Proofs.YtfhpaehfihnjaaaGreat.U
open Go.RowKit Job.Ebcdic
theorem PrT.of_own {w : World} {B pb k : Nat} {A : Option Addr} {c : Nat} {xs : List Value} {cs : Array Value} {t : TypeId} {fr : Nat × Nat} (hr : w.heap[pb]? = some (.cells cs t fr)) (h1 : cs[1]? = some (.slice A k c)) (ho : w.ownsRow B 107 3 (.slice A k c) k xs) : ∀ g, (Value.slice A k c).ownBlock = some g → g < w.heap.size → PrT w B pb g := by
  intro g hg _
  rcases ho.2 with ⟨hv, _⟩ | ⟨g', cap, cur, hv, hb, hh, _⟩
  · injection hv with e1 _ _; subst e1; simp [Value.ownBlock] at hg
  · have hgg : g' = g := by rw [hv] at hg; simpa [Value.ownBlock] using hg
    subst hgg
    exact Or.inr ⟨hb, ⟨_, _, hh⟩, _, _, _, _, hr, h1, hg⟩
theorem alloc_drew {w w' : World} {o : Obj} (b : Below (w.alloc o).drew.heap.size (w.alloc o).drew w') : Below w.heap.size w w' :=
  Below.trans ((Below.refl _ _).alloc (Nat.le_refl _) _).drew (b.mono (by simp))
set_option maxHeartbeats 4000000 in
theorem pown_write (pb B : Nat) (s : PS) (op : Int) (k : Nat) (A : Option Addr) (l : List UInt8) (c : Nat) (w : World) (hp : PrAt w B pb s) (hd : s.down ≤ 1000000000) (hm : prMoves op = some (k, true))
    (hl : l.length ≤ 132) (hn : s.lines.length < 8192) (ha : At w w.heap.size A (Lib.byteCells l)) (hlc : l.length ≤ c) :
    Calls Tryz.prog 201 #[.pointer (some ⟨pb, 0, none⟩), .int .i64 op, .slice A l.length c] w fun e w' => RetR [] 12 0 w e w' ∧ PrAt w' B pb ((s.write l).move k) ∧ Fr (PrT w B pb) w w' := by
  obtain ⟨hB, A1, c1, hr, ho⟩ := hp
  have hob := own_row_ne ho hr (by decide)
  have hne : ¬ w.heap.size = pb := by have := hl_lt hr; omega
  have HO := Lib.hid ho
  have R := Lib.hid hr
  have hcase : (op = 1 ∧ k = 0) ∨ (op = 9 ∧ k = 1) ∨ (op = 17 ∧ k = 2) ∨ (op = 25 ∧ k = 3) ∨ (op = 137 ∧ k = 4) := by
    unfold prMoves at hm
    repeat' (split at hm; first | (simp at hm; done) | skip)
    all_goals (first | (simp at hm; done) | (simp at hm; omega))
  have HT := Lib.hid (fun (w' : World) (h : Below w.heap.size w w') => trim_any A l c w' ((ha.below h).mono h.size) (by omega) hlc)
  have hpt := PrT.of_own (pb := pb) hr (by rfl) ho
  have HPT := Lib.hid hpt
  obtain ⟨L, F, z⟩ := row_look hr
  have hq1 : w.cell? ⟨pb, 1, none⟩ = some (.slice A1 s.lines.length c1) := L 1
  have hq2 : w.cell? ⟨pb, 2, none⟩ = some (.int .i64 ((s.down / 60 + 1 : Nat) : Int)) := L 2
  have hq3 : w.cell? ⟨pb, 3, none⟩ = some (.int .i64 ((s.down % 60 + 1 : Nat) : Int)) := L 3
  obtain ⟨pg, hpg⟩ : ∃ p : Nat, p = s.down / 60 + 1 := ⟨_, rfl⟩
  obtain ⟨rw_, hrw⟩ : ∃ p : Nat, p = s.down % 60 + 1 := ⟨_, rfl⟩
  rw [← hpg] at hq2
  rw [← hrw] at hq3
  rw [← hpg, ← hrw] at R L
  have hcf := fun (wx : World) (hx : Below w.heap.size w wx) => (⟨(hx.cell (p := ⟨pb, 1, none⟩) z).trans hq1, (hx.cell (p := ⟨pb, 2, none⟩) z).trans hq2, (hx.cell (p := ⟨pb, 3, none⟩) z).trans hq3⟩ : wx.cell? ⟨pb, 1, none⟩ = some (.slice A1 s.lines.length c1) ∧ wx.cell? ⟨pb, 2, none⟩ = some (.int .i64 (pg : Int)) ∧ wx.cell? ⟨pb, 3, none⟩ = some (.int .i64 (rw_ : Int)))
  have HF := Lib.hid hcf
  have HL := Lib.hid L
  have hpgb : pg ≤ 100000000 := by omega
  have HPG := Lib.hid hpg
  have HRW := Lib.hid hrw
  have h8 : ((s.lines.length : Int) == 8192) = false := by rw [beq_eq_false_iff_ne]; omega
  have hlI : ¬ (132 < l.length) := by omega
  clear hr ho hm hpt ha L hpg hrw hcf
  rcases hcase with ⟨rfl, rfl⟩ | ⟨rfl, rfl⟩ | ⟨rfl, rfl⟩ | ⟨rfl, rfl⟩ | ⟨rfl, rfl⟩
  all_goals
    go_enter Tryz.func201, Tryz.ntmps201
    go_upto_region 14 with fail
    refine name_world (P := Code.wp _ _ _ _) ?_
    intro w0 hw0
    have q0 : w0.heap[w.heap.size]? = some (.cells #[.slice none 0 0, .int .i64 0, .int .i64 0] 55 (0, 0)) := by rw [hw0]; exact hl_new rfl
    have b0 : Below w.heap.size w w0 := by rw [hw0]; (repeat' (first | (with_reducible exact Below.refl _ _) | (with_reducible assumption) | (with_reducible refine below_drewN ?_ _) | (with_reducible refine Below.drew ?_) | (with_reducible refine Below.alloc ?_ ?_ _) | (with_reducible refine Below.setCell ?_ ?_ _) | (with_reducible refine below_row ?_ ?_ _) | (with_reducible exact Nat.le_refl _) | omega | (simp only [World.size_alloc, World.size_setCell, World.size_drew, World.size_drewN]; omega) | (simp; done) | (simp; omega)))
    have z0 : w.heap.size < w0.heap.size := hl_lt q0
    have Q0 := Lib.hid q0
    have B0 := Lib.hid b0
    clear hw0 q0 b0
    refine wp_region_order (Below w0.heap.size w0) [0, 1, 2, 3, 5, 6, 7, 9, 10, 11, 13] [4, 8, 12] [] [14, 15, 16] [17, 18, 19, 20] (by kernel_rfl) (by kernel_rfl) (by (repeat' (first | (with_reducible exact Below.refl _ _) | (with_reducible assumption) | (with_reducible refine below_drewN ?_ _) | (with_reducible refine Below.drew ?_) | (with_reducible refine Below.alloc ?_ ?_ _) | (with_reducible refine Below.setCell ?_ ?_ _) | (with_reducible refine below_row ?_ ?_ _) | (with_reducible exact Nat.le_refl _) | omega | (simp only [World.size_alloc, World.size_setCell, World.size_drew, World.size_drewN]; omega) | (simp; done) | (simp; omega)))) (by intro c a d v w h; cases d <;> exact h) ?_
    simp only [pick, List.filterMap_cons, List.filterMap_nil, List.getElem?_cons_zero, List.getElem?_cons_succ]
    repeat (refine wpPure_step (fun K hK => ?_); go_simp; refine hK _ ?_; clear hK K)
    refine wpPure_nil ?_
    repeat (refine wpLoads_step (fun K hK => ?_); go_simp; refine ⟨_, fun wx hx => (by obtain ⟨f1, f2, f3⟩ := HF.out wx (B0.out.trans (hx.mono B0.out.size)); go_simp; rfl), hK _ ?_⟩; clear hK K)
    refine wpLoads_nil (wpQuiet_nil ?_)
    intro w1 hw1
    refine wpKeep_step (fun K hK => ?_)
    go_simp
    refine (HT.out _ (B0.out.trans (hw1.mono B0.out.size))).mono ?_
    rintro e w5 ⟨rfl, b5⟩
    have hw5 : Below w0.heap.size w0 w5 := hw1.trans (b5.mono hw1.size)
    refine hK _ _ hw5 ?_
    clear hK K b5 hw1
    refine wpKeep_step (fun K hK => ?_)
    go_simp
    refine hK _ _ hw5 ?_
    clear hK K
    refine wpKeep_step (fun K hK => ?_)
    go_simp
    refine hK _ _ (hw5.alloc hw5.size _) ?_
    clear hK K
    refine wpKeep_nil ?_
    have B5 : Below w.heap.size w w5 := B0.out.trans (hw5.mono B0.out.size)
    have r5 := hl_grow B5 R.out
    have o5 := own_grow HO.out B5
    have q5 := hl_below hw5 z0 Q0.out
    have z5 : B ≤ w5.heap.size := Nat.le_trans (Nat.le_trans hB (Nat.le_of_lt z)) B5.size
    have R5 := Lib.hid r5
    have O5 := Lib.hid o5
    have Q5 := Lib.hid q5
    have F5 := Lib.hid (Fr.of_grow (T := PrT w B pb) B5)
    clear r5 o5 q5
    refine wpList_push (by rfl) _ _ _ (by rfl) lineElem w5 (lineCells (pg, rw_, trim l)) (by rfl) (by rfl) (by intro u hu; simp [lineCells] at hu; rcases hu with rfl | rfl | rfl <;> rfl) B _ s.lines.length _ (by rfl) (by rfl) O5.out (by unfold maxLen; omega) (by omega) z5 ?_
    intro A6 c6 w6 o6 g6
    have r6 := (g6.block pb (hl_lt R5.out) (fun e => hob e.symm)).trans R5.out
    have q6 := (g6.block w.heap.size (hl_lt Q5.out) (fun e => by have := (O5.out.lt _ e.symm); exact absurd (own_lt HO.out _ e.symm).2 (Nat.lt_irrefl _))).trans Q5.out
    have f6 : Fr (PrT w B pb) w w6 := F5.out.grown g6 HPT.out
    have W6 := Lib.hid (show (s.write l).lines.flatMap lineCells = s.lines.flatMap lineCells ++ lineCells (pg, rw_, trim l) from by rw [HPG.out, HRW.out]; simp [PS.write])
    rw [← W6.out] at o6
    have N6 := Lib.hid (show (s.write l).lines.length = s.lines.length + 1 from by simp [PS.write])
    have hob6 := own_row_ne o6 r6 (by decide)
    obtain ⟨L6, F6, z6⟩ := row_look r6
    obtain ⟨M6, _, y6⟩ := row_look q6
    have R6 := Lib.hid r6
    have Q6 := Lib.hid q6
    have O6 := Lib.hid o6
    clear r6 q6 o6 g6 R5 O5 Q5 F5 hw5 B5
    go_wp2_with fail
    refine name_world (P := fun W => Calls _ _ _ W _) ?_
    intro w7 hw7
  · have hfin : ∀ (w8 : World) (X Y : Int), X = ((((s.write l).move 0).down / 60 + 1 : Nat) : Int) → Y = ((((s.write l).move 0).down % 60 + 1 : Nat) : Int) → w8.heap[pb]? = some (.cells #[.int .i64 (s.sense : Int), .slice A6 (s.lines.length + 1) c6, .int .i64 X, .int .i64 Y] 153 (0, 0)) → Fr (fun b => b = pb ∨ b = w.heap.size) w6 w8 →
        PrAt w8 B pb ((s.write l).move 0) ∧ Fr (PrT w B pb) w w8 := by
      rintro w8 X Y rfl rfl h1 h2
      refine ⟨⟨hB, A6, c6, ?_, ?_⟩, f6.trans h2 (fun b hb ht => ?_)⟩
      · rw [h1]; show _ = some (Obj.cells #[_, Value.slice A6 (s.write l).lines.length c6, _, _] _ _); rw [N6.out]; rfl
      · show w8.ownsRow B _ 3 (.slice A6 (s.write l).lines.length c6) (s.write l).lines.length ((s.write l).lines.flatMap lineCells)
        rw [N6.out]
        refine h2.own O6.out (fun g hg ht => ?_)
        rcases ht with rfl | rfl
        · exact hob6 hg
        · exact own_row_ne O6.out Q6.out (by decide) hg
      · rcases ht with rfl | rfl
        · exact Or.inl rfl
        · omega
    have HFIN := Lib.hid hfin
    clear hfin
    have r7 : w7.heap[pb]? = some (.cells #[.int .i64 (s.sense : Int), .slice A6 (s.lines.length + 1) c6, .int .i64 (pg : Int), .int .i64 (rw_ : Int)] 153 (0, 0)) := by rw [hw7]; exact hl_set (by rfl) R6.out
    have q7 : w7.heap[w.heap.size]? = some (.cells #[.slice none 0 0, .int .i64 0, .int .i64 0] 55 (0, 0)) := by rw [hw7]; exact hl_far (fun e => hne e) Q6.out
    have G7 : Fr (fun b => b = pb ∨ b = w.heap.size) w6 w7 := by rw [hw7]; exact (Fr.refl _ _).setCell (fun _ => Or.inl rfl) _
    clear hw7
    refine (normal_any _ _ _ _ rfl _).mono ?_
    rintro e w8 ⟨rfl, b8⟩
    obtain ⟨L8, _, _⟩ := row_look (hl_grow b8 q7)
    have R8 := Lib.hid (hl_grow b8 r7)
    have G8 := G7.then b8
    clear q7 r7 G7 b8 L6 F6 M6
    go_wp2
    refine bodyPost_ret (v := .agg #[.slice none 0 0, .int .i64 12, .int .i64 0]) (by simp [results, Tryz.results201, go_sem, L8]) rfl ⟨⟨_, _, rfl, World.ownsRow_nil _ _ _ _⟩, ?_⟩
    have hne' : pb ≠ w.heap.size := fun e => hne e.symm
    have ff : Fr (fun b => b = pb ∨ b = w.heap.size) w6 (((w8.setCell ⟨w.heap.size, 0, none⟩ (.slice none 0 0)).setCell ⟨w.heap.size, 1, none⟩ (.int .i64 12)).setCell ⟨w.heap.size, 2, none⟩ (.int .i64 0)) := ((G8.setCell (fun _ => Or.inr rfl) _).setCell (fun _ => Or.inr rfl) _).setCell (fun _ => Or.inr rfl) _
    exact HFIN.out _ _ _ (by rw [HPG.out]; rfl) (by rw [HRW.out]; rfl) (hl_far hne' (hl_far hne' (hl_far hne' R8.out))) ff
  · have hfin : ∀ (w8 : World) (X Y : Int), X = ((((s.write l).move 1).down / 60 + 1 : Nat) : Int) → Y = ((((s.write l).move 1).down % 60 + 1 : Nat) : Int) → w8.heap[pb]? = some (.cells #[.int .i64 (s.sense : Int), .slice A6 (s.lines.length + 1) c6, .int .i64 X, .int .i64 Y] 153 (0, 0)) → Fr (fun b => b = pb ∨ b = w.heap.size) w6 w8 →
        PrAt w8 B pb ((s.write l).move 1) ∧ Fr (PrT w B pb) w w8 := by
      rintro w8 X Y rfl rfl h1 h2
      refine ⟨⟨hB, A6, c6, ?_, ?_⟩, f6.trans h2 (fun b hb ht => ?_)⟩
      · rw [h1]; show _ = some (Obj.cells #[_, Value.slice A6 (s.write l).lines.length c6, _, _] _ _); rw [N6.out]; rfl
      · show w8.ownsRow B _ 3 (.slice A6 (s.write l).lines.length c6) (s.write l).lines.length ((s.write l).lines.flatMap lineCells)
        rw [N6.out]
        refine h2.own O6.out (fun g hg ht => ?_)
        rcases ht with rfl | rfl
        · exact hob6 hg
        · exact own_row_ne O6.out Q6.out (by decide) hg
      · rcases ht with rfl | rfl
        · exact Or.inl rfl
        · omega
    have HFIN := Lib.hid hfin
    clear hfin
    have r7 : w7.heap[pb]? = some (.cells #[.int .i64 (s.sense : Int), .slice A6 (s.lines.length + 1) c6, .int .i64 (pg : Int), .int .i64 (rw_ : Int)] 153 (0, 0)) := by rw [hw7]; exact hl_set (by rfl) R6.out
    have q7 : w7.heap[w.heap.size]? = some (.cells #[.slice none 0 0, .int .i64 0, .int .i64 0] 55 (0, 0)) := by rw [hw7]; exact hl_far (fun e => hne e) Q6.out
    have G7 : Fr (fun b => b = pb ∨ b = w.heap.size) w6 w7 := by rw [hw7]; exact (Fr.refl _ _).setCell (fun _ => Or.inl rfl) _
    clear hw7
    have hs7 := space_st pb (s.write l) 1 (by omega) (show s.down ≤ 2000000000 by omega) w7 A6 c6 (by rw [N6.out, r7, HPG.out, HRW.out]; rfl)
    rw [N6.out] at hs7
    refine hs7.mono ?_
    rintro e w9 ⟨rfl, r9, g9⟩
    have q9 := g9.row q7 (fun e => hne e)
    have G9 : Fr (fun b => b = pb ∨ b = w.heap.size) w6 w9 := G7.trans g9 (fun _ _ h => Or.inl h)
    clear r7 q7 G7 g9 hs7
    have r7 := r9
    have q7 := q9
    have G7 := G9
    clear r9 q9 G9
    go_wp2_with fail
    refine (normal_any _ _ _ _ rfl _).mono ?_
    rintro e w8 ⟨rfl, b8⟩
    obtain ⟨L8, _, _⟩ := row_look (hl_grow b8 q7)
    have R8 := Lib.hid (hl_grow b8 r7)
    have G8 := G7.then b8
    clear q7 r7 G7 b8 L6 F6 M6
    go_wp2
    refine bodyPost_ret (v := .agg #[.slice none 0 0, .int .i64 12, .int .i64 0]) (by simp [results, Tryz.results201, go_sem, L8]) rfl ⟨⟨_, _, rfl, World.ownsRow_nil _ _ _ _⟩, ?_⟩
    have hne' : pb ≠ w.heap.size := fun e => hne e.symm
    have ff : Fr (fun b => b = pb ∨ b = w.heap.size) w6 (((w8.setCell ⟨w.heap.size, 0, none⟩ (.slice none 0 0)).setCell ⟨w.heap.size, 1, none⟩ (.int .i64 12)).setCell ⟨w.heap.size, 2, none⟩ (.int .i64 0)) := ((G8.setCell (fun _ => Or.inr rfl) _).setCell (fun _ => Or.inr rfl) _).setCell (fun _ => Or.inr rfl) _
    exact HFIN.out _ _ _ rfl rfl (hl_far hne' (hl_far hne' (hl_far hne' R8.out))) ff
  · have hfin : ∀ (w8 : World) (X Y : Int), X = ((((s.write l).move 2).down / 60 + 1 : Nat) : Int) → Y = ((((s.write l).move 2).down % 60 + 1 : Nat) : Int) → w8.heap[pb]? = some (.cells #[.int .i64 (s.sense : Int), .slice A6 (s.lines.length + 1) c6, .int .i64 X, .int .i64 Y] 153 (0, 0)) → Fr (fun b => b = pb ∨ b = w.heap.size) w6 w8 →
        PrAt w8 B pb ((s.write l).move 2) ∧ Fr (PrT w B pb) w w8 := by
      rintro w8 X Y rfl rfl h1 h2
      refine ⟨⟨hB, A6, c6, ?_, ?_⟩, f6.trans h2 (fun b hb ht => ?_)⟩
      · rw [h1]; show _ = some (Obj.cells #[_, Value.slice A6 (s.write l).lines.length c6, _, _] _ _); rw [N6.out]; rfl
      · show w8.ownsRow B _ 3 (.slice A6 (s.write l).lines.length c6) (s.write l).lines.length ((s.write l).lines.flatMap lineCells)
        rw [N6.out]
        refine h2.own O6.out (fun g hg ht => ?_)
        rcases ht with rfl | rfl
        · exact hob6 hg
        · exact own_row_ne O6.out Q6.out (by decide) hg
      · rcases ht with rfl | rfl
        · exact Or.inl rfl
        · omega
    have HFIN := Lib.hid hfin
    clear hfin
    have r7 : w7.heap[pb]? = some (.cells #[.int .i64 (s.sense : Int), .slice A6 (s.lines.length + 1) c6, .int .i64 (pg : Int), .int .i64 (rw_ : Int)] 153 (0, 0)) := by rw [hw7]; exact hl_set (by rfl) R6.out
    have q7 : w7.heap[w.heap.size]? = some (.cells #[.slice none 0 0, .int .i64 0, .int .i64 0] 55 (0, 0)) := by rw [hw7]; exact hl_far (fun e => hne e) Q6.out
    have G7 : Fr (fun b => b = pb ∨ b = w.heap.size) w6 w7 := by rw [hw7]; exact (Fr.refl _ _).setCell (fun _ => Or.inl rfl) _
    clear hw7
    have hs7 := space_st pb (s.write l) 2 (by omega) (show s.down ≤ 2000000000 by omega) w7 A6 c6 (by rw [N6.out, r7, HPG.out, HRW.out]; rfl)
    rw [N6.out] at hs7
    refine hs7.mono ?_
    rintro e w9 ⟨rfl, r9, g9⟩
    have q9 := g9.row q7 (fun e => hne e)
    have G9 : Fr (fun b => b = pb ∨ b = w.heap.size) w6 w9 := G7.trans g9 (fun _ _ h => Or.inl h)
    clear r7 q7 G7 g9 hs7
    have r7 := r9
    have q7 := q9
    have G7 := G9
    clear r9 q9 G9
    go_wp2_with fail
    refine (normal_any _ _ _ _ rfl _).mono ?_
    rintro e w8 ⟨rfl, b8⟩
    obtain ⟨L8, _, _⟩ := row_look (hl_grow b8 q7)
    have R8 := Lib.hid (hl_grow b8 r7)
    have G8 := G7.then b8
    clear q7 r7 G7 b8 L6 F6 M6
    go_wp2
    refine bodyPost_ret (v := .agg #[.slice none 0 0, .int .i64 12, .int .i64 0]) (by simp [results, Tryz.results201, go_sem, L8]) rfl ⟨⟨_, _, rfl, World.ownsRow_nil _ _ _ _⟩, ?_⟩
    have hne' : pb ≠ w.heap.size := fun e => hne e.symm
    have ff : Fr (fun b => b = pb ∨ b = w.heap.size) w6 (((w8.setCell ⟨w.heap.size, 0, none⟩ (.slice none 0 0)).setCell ⟨w.heap.size, 1, none⟩ (.int .i64 12)).setCell ⟨w.heap.size, 2, none⟩ (.int .i64 0)) := ((G8.setCell (fun _ => Or.inr rfl) _).setCell (fun _ => Or.inr rfl) _).setCell (fun _ => Or.inr rfl) _
    exact HFIN.out _ _ _ rfl rfl (hl_far hne' (hl_far hne' (hl_far hne' R8.out))) ff
  · have hfin : ∀ (w8 : World) (X Y : Int), X = ((((s.write l).move 3).down / 60 + 1 : Nat) : Int) → Y = ((((s.write l).move 3).down % 60 + 1 : Nat) : Int) → w8.heap[pb]? = some (.cells #[.int .i64 (s.sense : Int), .slice A6 (s.lines.length + 1) c6, .int .i64 X, .int .i64 Y] 153 (0, 0)) → Fr (fun b => b = pb ∨ b = w.heap.size) w6 w8 →
        PrAt w8 B pb ((s.write l).move 3) ∧ Fr (PrT w B pb) w w8 := by
      rintro w8 X Y rfl rfl h1 h2
      refine ⟨⟨hB, A6, c6, ?_, ?_⟩, f6.trans h2 (fun b hb ht => ?_)⟩
      · rw [h1]; show _ = some (Obj.cells #[_, Value.slice A6 (s.write l).lines.length c6, _, _] _ _); rw [N6.out]; rfl
      · show w8.ownsRow B _ 3 (.slice A6 (s.write l).lines.length c6) (s.write l).lines.length ((s.write l).lines.flatMap lineCells)
        rw [N6.out]
        refine h2.own O6.out (fun g hg ht => ?_)
        rcases ht with rfl | rfl
        · exact hob6 hg
        · exact own_row_ne O6.out Q6.out (by decide) hg
      · rcases ht with rfl | rfl
        · exact Or.inl rfl
        · omega
    have HFIN := Lib.hid hfin
    clear hfin
    have r7 : w7.heap[pb]? = some (.cells #[.int .i64 (s.sense : Int), .slice A6 (s.lines.length + 1) c6, .int .i64 (pg : Int), .int .i64 (rw_ : Int)] 153 (0, 0)) := by rw [hw7]; exact hl_set (by rfl) R6.out
    have q7 : w7.heap[w.heap.size]? = some (.cells #[.slice none 0 0, .int .i64 0, .int .i64 0] 55 (0, 0)) := by rw [hw7]; exact hl_far (fun e => hne e) Q6.out
    have G7 : Fr (fun b => b = pb ∨ b = w.heap.size) w6 w7 := by rw [hw7]; exact (Fr.refl _ _).setCell (fun _ => Or.inl rfl) _
    clear hw7
    have hs7 := space_st pb (s.write l) 3 (by omega) (show s.down ≤ 2000000000 by omega) w7 A6 c6 (by rw [N6.out, r7, HPG.out, HRW.out]; rfl)
    rw [N6.out] at hs7
    refine hs7.mono ?_
    rintro e w9 ⟨rfl, r9, g9⟩
    have q9 := g9.row q7 (fun e => hne e)
    have G9 : Fr (fun b => b = pb ∨ b = w.heap.size) w6 w9 := G7.trans g9 (fun _ _ h => Or.inl h)
    clear r7 q7 G7 g9 hs7
    have r7 := r9
    have q7 := q9
    have G7 := G9
    clear r9 q9 G9
    go_wp2_with fail
    refine (normal_any _ _ _ _ rfl _).mono ?_
    rintro e w8 ⟨rfl, b8⟩
    obtain ⟨L8, _, _⟩ := row_look (hl_grow b8 q7)
    have R8 := Lib.hid (hl_grow b8 r7)
    have G8 := G7.then b8
    clear q7 r7 G7 b8 L6 F6 M6
    go_wp2
    refine bodyPost_ret (v := .agg #[.slice none 0 0, .int .i64 12, .int .i64 0]) (by simp [results, Tryz.results201, go_sem, L8]) rfl ⟨⟨_, _, rfl, World.ownsRow_nil _ _ _ _⟩, ?_⟩
    have hne' : pb ≠ w.heap.size := fun e => hne e.symm
    have ff : Fr (fun b => b = pb ∨ b = w.heap.size) w6 (((w8.setCell ⟨w.heap.size, 0, none⟩ (.slice none 0 0)).setCell ⟨w.heap.size, 1, none⟩ (.int .i64 12)).setCell ⟨w.heap.size, 2, none⟩ (.int .i64 0)) := ((G8.setCell (fun _ => Or.inr rfl) _).setCell (fun _ => Or.inr rfl) _).setCell (fun _ => Or.inr rfl) _
    exact HFIN.out _ _ _ rfl rfl (hl_far hne' (hl_far hne' (hl_far hne' R8.out))) ff
  · have hfin : ∀ (w8 : World) (X Y : Int), X = ((((s.write l).move 4).down / 60 + 1 : Nat) : Int) → Y = ((((s.write l).move 4).down % 60 + 1 : Nat) : Int) → w8.heap[pb]? = some (.cells #[.int .i64 (s.sense : Int), .slice A6 (s.lines.length + 1) c6, .int .i64 X, .int .i64 Y] 153 (0, 0)) → Fr (fun b => b = pb ∨ b = w.heap.size) w6 w8 →
        PrAt w8 B pb ((s.write l).move 4) ∧ Fr (PrT w B pb) w w8 := by
      rintro w8 X Y rfl rfl h1 h2
      refine ⟨⟨hB, A6, c6, ?_, ?_⟩, f6.trans h2 (fun b hb ht => ?_)⟩
      · rw [h1]; show _ = some (Obj.cells #[_, Value.slice A6 (s.write l).lines.length c6, _, _] _ _); rw [N6.out]; rfl
      · show w8.ownsRow B _ 3 (.slice A6 (s.write l).lines.length c6) (s.write l).lines.length ((s.write l).lines.flatMap lineCells)
        rw [N6.out]
        refine h2.own O6.out (fun g hg ht => ?_)
        rcases ht with rfl | rfl
        · exact hob6 hg
        · exact own_row_ne O6.out Q6.out (by decide) hg
      · rcases ht with rfl | rfl
        · exact Or.inl rfl
        · omega
    have HFIN := Lib.hid hfin
    clear hfin
    obtain ⟨m1, m2⟩ := move_skip s.down
    have r7 : w7.heap[pb]? = some (.cells #[.int .i64 (s.sense : Int), .slice A6 (s.lines.length + 1) c6, .int .i64 ((pg : Int) + 1), .int .i64 1] 153 (0, 0)) := by rw [hw7]; exact hl_set (cs := #[.int .i64 (s.sense : Int), .slice A6 (s.lines.length + 1) c6, .int .i64 ((pg : Int) + 1), .int .i64 (rw_ : Int)]) (by rfl) (hl_set (cs := #[.int .i64 (s.sense : Int), .slice A6 (s.lines.length + 1) c6, .int .i64 (pg : Int), .int .i64 (rw_ : Int)]) (by rfl) (hl_set (by rfl) R6.out))
    have q7 : w7.heap[w.heap.size]? = some (.cells #[.slice none 0 0, .int .i64 0, .int .i64 0] 55 (0, 0)) := by rw [hw7]; exact hl_far (fun e => hne e) (hl_far (fun e => hne e) (hl_far (fun e => hne e) Q6.out))
    have G7 : Fr (fun b => b = pb ∨ b = w.heap.size) w6 w7 := by rw [hw7]; exact (((Fr.refl _ _).setCell (fun _ => Or.inl rfl) _).setCell (fun _ => Or.inl rfl) _).setCell (fun _ => Or.inl rfl) _
    have M1 := Lib.hid m1
    have M2 := Lib.hid m2
    clear hw7 m1 m2
    refine (normal_any _ _ _ _ rfl _).mono ?_
    rintro e w8 ⟨rfl, b8⟩
    obtain ⟨L8, _, _⟩ := row_look (hl_grow b8 q7)
    have R8 := Lib.hid (hl_grow b8 r7)
    have G8 := G7.then b8
    clear q7 r7 G7 b8 L6 F6 M6
    go_wp2
    refine bodyPost_ret (v := .agg #[.slice none 0 0, .int .i64 12, .int .i64 0]) (by simp [results, Tryz.results201, go_sem, L8]) rfl ⟨⟨_, _, rfl, World.ownsRow_nil _ _ _ _⟩, ?_⟩
    have hne' : pb ≠ w.heap.size := fun e => hne e.symm
    have ff : Fr (fun b => b = pb ∨ b = w.heap.size) w6 (((w8.setCell ⟨w.heap.size, 0, none⟩ (.slice none 0 0)).setCell ⟨w.heap.size, 1, none⟩ (.int .i64 12)).setCell ⟨w.heap.size, 2, none⟩ (.int .i64 0)) := ((G8.setCell (fun _ => Or.inr rfl) _).setCell (fun _ => Or.inr rfl) _).setCell (fun _ => Or.inr rfl) _
    exact HFIN.out _ _ _ (by rw [HPG.out]; exact M1.out.symm) M2.out.symm (hl_far hne' (hl_far hne' (hl_far hne' R8.out))) ff
end Go.Proofs.YtfhpaehfihnjaaaGreat.U
namespace Go.Proofs.YtfhpaehfihnjaaaGreat.U
open Go.RowKit Job.Ebcdic
set_option maxHeartbeats 2000000 in
theorem pown_long (pb : Nat) (op : Int) (k : Nat) (A : Option Addr) (n c : Nat) (w : World) (hm : prMoves op = some (k, true)) (hl : 132 < n) (hz : n ≤ maxLen) :
    Calls Tryz.prog 201 #[.pointer (some ⟨pb, 0, none⟩), .int .i64 op, .slice A n c] w fun e w' => RetR [] 14 128 w e w' ∧ Below w.heap.size w w' := by
  have hcase : op = 1 ∨ op = 9 ∨ op = 17 ∨ op = 25 ∨ op = 137 := by
    unfold prMoves at hm
    repeat' (split at hm; first | (simp at hm; done) | skip)
    all_goals (first | (simp at hm; done) | (simp at hm; omega))
  unfold maxLen at hz
  clear hm
  rcases hcase with rfl | rfl | rfl | rfl | rfl
  all_goals
    go_enter Tryz.func201, Tryz.ntmps201
    go_wp2_with fail
    refine (check_any _ _).mono ?_
    rintro e w1 ⟨rfl, b1⟩
    obtain ⟨r1, z1, b1'⟩ := alloc_call b1
    obtain ⟨L1, F1, _⟩ := row_look r1
    clear r1 b1
    go_wp2
    refine bodyPost_ret (v := .agg #[.slice none 0 0, .int .i64 14, .int .i64 128]) (by simp [results, Tryz.results201, go_sem, L1]) rfl ⟨⟨_, _, rfl, World.ownsRow_nil _ _ _ _⟩, by (repeat' (first | (with_reducible exact Below.refl _ _) | (with_reducible assumption) | (with_reducible refine below_drewN ?_ _) | (with_reducible refine Below.drew ?_) | (with_reducible refine Below.alloc ?_ ?_ _) | (with_reducible refine Below.setCell ?_ ?_ _) | (with_reducible refine below_row ?_ ?_ _) | (with_reducible exact Nat.le_refl _) | omega | (simp only [World.size_alloc, World.size_setCell, World.size_drew, World.size_drewN]; omega) | (simp; done) | (simp; omega)))⟩
set_option maxHeartbeats 2000000 in
theorem pown_full (pb B : Nat) (s : PS) (op : Int) (k : Nat) (A : Option Addr) (n c : Nat) (w : World) (hp : PrAt w B pb s) (hm : prMoves op = some (k, true)) (hl : n ≤ 132) (hn : s.lines.length = 8192) :
    Calls Tryz.prog 201 #[.pointer (some ⟨pb, 0, none⟩), .int .i64 op, .slice A n c] w fun e w' => RetR [] 14 64 w e w' ∧ Below w.heap.size w w' := by
  obtain ⟨hB, A1, c1, hr, ho⟩ := hp
  rw [hn] at hr
  obtain ⟨L, F, z⟩ := row_look hr
  have hcase : op = 1 ∨ op = 9 ∨ op = 17 ∨ op = 25 ∨ op = 137 := by
    unfold prMoves at hm
    repeat' (split at hm; first | (simp at hm; done) | skip)
    all_goals (first | (simp at hm; done) | (simp at hm; omega))
  have hl' : ¬ (132 < n) := by omega
  clear hm hr ho hn
  rcases hcase with rfl | rfl | rfl | rfl | rfl
  all_goals
    go_enter Tryz.func201, Tryz.ntmps201
    go_wp2_with fail
    refine (check_any _ _).mono ?_
    rintro e w1 ⟨rfl, b1⟩
    obtain ⟨r1, z1, b1'⟩ := alloc_call b1
    obtain ⟨L1, F1, _⟩ := row_look r1
    clear r1 b1
    go_wp2
    refine bodyPost_ret (v := .agg #[.slice none 0 0, .int .i64 14, .int .i64 64]) (by simp [results, Tryz.results201, go_sem, L1]) rfl ⟨⟨_, _, rfl, World.ownsRow_nil _ _ _ _⟩, by (repeat' (first | (with_reducible exact Below.refl _ _) | (with_reducible assumption) | (with_reducible refine below_drewN ?_ _) | (with_reducible refine Below.drew ?_) | (with_reducible refine Below.alloc ?_ ?_ _) | (with_reducible refine Below.setCell ?_ ?_ _) | (with_reducible refine below_row ?_ ?_ _) | (with_reducible exact Nat.le_refl _) | omega | (simp only [World.size_alloc, World.size_setCell, World.size_drew, World.size_drewN]; omega) | (simp; done) | (simp; omega)))⟩
theorem PrT.pb {w : World} {B pb : Nat} : ∀ b, b < w.heap.size → b = pb → PrT w B pb b := fun _ _ h => Or.inl h
theorem pown_any (pb B : Nat) (s : PS) (op : Int) (A : Option Addr) (l : List UInt8) (c : Nat) (w : World) (hp : PrAt w B pb s) (hg : s.good) (ha : At w w.heap.size A (Lib.byteCells l)) (hlc : l.length ≤ c) (hz : l.length ≤ maxLen) :
    Calls Tryz.prog 201 #[.pointer (some ⟨pb, 0, none⟩), .int .i64 op, .slice A l.length c] w fun e w' =>
      RetR (prOwn s op l).2.1 (prOwn s op l).2.2.1 (prOwn s op l).2.2.2 w e w' ∧ PrAt w' B pb (prOwn s op l).1 ∧ Fr (PrT w B pb) w w' := by
  obtain ⟨g1, g2, g3⟩ := hg
  by_cases h20 : op = 20
  · subst h20
    refine (pown_count pb B s A l.length c w hp ⟨g1, g2, g3⟩).mono ?_
    rintro e w' ⟨h1, h2⟩
    exact ⟨h1, hp.grow h2, Fr.of_grow h2⟩
  · have e0 : prOwn s op l = (match prMoves op with
      | none => (s, [], 14, 128)
      | some (n, true) => if 132 < l.length then (s, [], 14, 128) else if s.lines.length = 8192 then (s, [], 14, 64) else ((s.write l).move n, [], 12, 0)
      | some (n, false) => (s.move n, [], 12, 0)) := by unfold prOwn; rw [if_neg h20]; try rfl
    rw [e0]
    match hm : prMoves op with
    | none =>
      refine (pown_none pb op A l.length c w h20 hm).mono ?_
      rintro e w' ⟨h1, h2⟩
      exact ⟨h1, hp.grow h2, Fr.of_grow h2⟩
    | some (n, true) =>
      by_cases hl : 132 < l.length
      · simp only [if_pos hl]
        refine (pown_long pb op n A l.length c w hm hl hz).mono ?_
        rintro e w' ⟨h1, h2⟩
        exact ⟨h1, hp.grow h2, Fr.of_grow h2⟩
      · by_cases hf : s.lines.length = 8192
        · simp only [if_neg hl, if_pos hf]
          refine (pown_full pb B s op n A l.length c w hp hm (by omega) hf).mono ?_
          rintro e w' ⟨h1, h2⟩
          exact ⟨h1, hp.grow h2, Fr.of_grow h2⟩
        · simp only [if_neg hl, if_neg hf]
          exact pown_write pb B s op n A l c w hp g3 hm (by omega) (by omega) ha hlc
    | some (n, false) =>
      refine (pown_space pb B s op n A l.length c w hp (by omega) hm).mono ?_
      rintro e w' ⟨h1, h2, h3⟩
      exact ⟨h1, h2, h3.mono PrT.pb⟩
theorem PrT.back {w w' : World} {B pb : Nat} (hpb : pb < w.heap.size) (hb : Below w.heap.size w w') : ∀ b, b < w.heap.size → PrT w' B pb b → PrT w B pb b := by
  rintro b hlt (h | ⟨h1, ⟨cs, fr, h⟩, cs', t', fr', v', h2, h3⟩)
  · exact Or.inl h
  · exact Or.inr ⟨h1, ⟨cs, fr, (hb.block b hlt).symm.trans h⟩, cs', t', fr', v', (hb.block pb hpb).symm.trans h2, h3⟩
def PS.feel (s : PS) (sn : Int) : PS := { s with sense := if sn = 0 then s.sense else sn.toNat }
def prDo (s : PS) (op : Int) (l : List UInt8) : PS × List UInt8 × Int × Int :=
  if op = 3 then (s, [], 12, 0) else if op = 4 then (s, [UInt8.ofNat s.sense], 12, 0) else
  ((prOwn s op l).1.feel (prOwn s op l).2.2.2, (prOwn s op l).2)
theorem prOwn_sn (s : PS) (op : Int) (l : List UInt8) : (prOwn s op l).2.2.2 = 0 ∨ (prOwn s op l).2.2.2 = 64 ∨ (prOwn s op l).2.2.2 = 128 := by
  unfold prOwn
  split
  · exact .inl rfl
  · split
    · exact .inr (.inr rfl)
    · split
      · exact .inr (.inr rfl)
      · split
        · exact .inr (.inl rfl)
        · exact .inl rfl
    · exact .inl rfl
set_option maxHeartbeats 2000000 in
theorem pcommand_any (pb B : Nat) (s : PS) (op : Int) (A : Option Addr) (l : List UInt8) (c : Nat) (w : World) (hp : PrAt w B pb s) (hg : s.good) (ha : At w w.heap.size A (Lib.byteCells l)) (hlc : l.length ≤ c) (hz : l.length ≤ maxLen) :
    Calls Tryz.prog 192 #[.pointer (some ⟨pb, 0, none⟩), .int .i64 op, .slice A l.length c, .func (.func 201) #[.pointer (some ⟨pb, 0, none⟩)] #[]] w fun e w' =>
      RetR (prDo s op l).2.1 (prDo s op l).2.2.1 (prDo s op l).2.2.2 w e w' ∧ PrAt w' B pb (prDo s op l).1 ∧ Fr (PrT w B pb) w w' := by
  by_cases h3 : op = 3
  · subst h3
    have e0 : prDo s 3 l = (s, [], 12, 0) := by unfold prDo; rw [if_pos rfl]
    rw [e0]
    clear e0
    have HP := Lib.hid (fun (w' : World) (h : Below w.heap.size w w') => (⟨hp.grow h, Fr.of_grow h⟩ : PrAt w' B pb s ∧ Fr (PrT w B pb) w w'))
    clear hp hg
    go_enter Tryz.func192, Tryz.ntmps192
    go_wp2_with fail
    refine (normal_any _ _ _ _ rfl _).mono ?_
    rintro e w1 ⟨rfl, b1⟩
    obtain ⟨r1, z1, b1'⟩ := alloc_call b1
    obtain ⟨L1, F1, _⟩ := row_look r1
    clear r1 b1
    go_wp2
    refine bodyPost_ret (v := .agg #[.slice none 0 0, .int .i64 12, .int .i64 0]) (by simp [results, Tryz.results192, go_sem, L1]) rfl ⟨⟨_, _, rfl, World.ownsRow_nil _ _ _ _⟩, HP.out _ (by (repeat' (first | (with_reducible exact Below.refl _ _) | (with_reducible assumption) | (with_reducible refine below_drewN ?_ _) | (with_reducible refine Below.drew ?_) | (with_reducible refine Below.alloc ?_ ?_ _) | (with_reducible refine Below.setCell ?_ ?_ _) | (with_reducible refine below_row ?_ ?_ _) | (with_reducible exact Nat.le_refl _) | omega | (simp only [World.size_alloc, World.size_setCell, World.size_drew, World.size_drewN]; omega) | (simp; done) | (simp; omega))))⟩
  · by_cases h4 : op = 4
    · subst h4
      have e0 : prDo s 4 l = (s, [UInt8.ofNat s.sense], 12, 0) := by unfold prDo; rw [if_neg (by omega), if_pos rfl]
      rw [e0]
      clear e0 h3
      have HP := Lib.hid (fun (w' : World) (h : Below w.heap.size w w') => (⟨hp.grow h, Fr.of_grow h⟩ : PrAt w' B pb s ∧ Fr (PrT w B pb) w w'))
      obtain ⟨hB, A1, c1, hr, ho⟩ := hp
      have hse : s.sense < 256 := hg.2.1
      obtain ⟨L, _, z⟩ := row_look hr
      have hu : (UInt8.ofNat s.sense).toNat = s.sense := by rw [UInt8.toNat_ofNat']; omega
      have HU := Lib.hid hu
      clear hr ho hg hu
      go_enter Tryz.func192, Tryz.ntmps192
      go_wp2_with fail
      refine name_world (P := fun W => Calls _ _ _ W _) ?_
      intro w0 hw0
      have r0 : w0.heap[w.heap.size]? = some (.cells #[.slice none 0 0, .int .i64 0, .int .i64 0] 55 (0, 0)) := by rw [hw0]; exact hl_keep (hl_new rfl)
      have o0 : w0.ownsRow w.heap.size 5 1 (.slice (some ⟨w.heap.size + 1, 0, none⟩) 1 1) 1 (Lib.byteCells [UInt8.ofNat s.sense]) := by
        rw [hw0]
        have h := own_lit1 (w.alloc (.cells #[.slice none 0 0, .int .i64 0, .int .i64 0] 55)) 5 #[Value.int .u8 (s.sense : Int)] 1 rfl (by decide)
        rw [World.size_alloc] at h
        have hc : Lib.byteCells [UInt8.ofNat s.sense] = [Value.int .u8 (s.sense : Int)] := by simp only [Lib.byteCells, List.map_cons, List.map_nil]; rw [HU.out]
        rw [hc]
        exact own_mono h (Nat.le_succ _)
      have B0 : Below w.heap.size w w0 := by rw [hw0]; (repeat' (first | (with_reducible exact Below.refl _ _) | (with_reducible assumption) | (with_reducible refine below_drewN ?_ _) | (with_reducible refine Below.drew ?_) | (with_reducible refine Below.alloc ?_ ?_ _) | (with_reducible refine Below.setCell ?_ ?_ _) | (with_reducible refine below_row ?_ ?_ _) | (with_reducible exact Nat.le_refl _) | omega | (simp only [World.size_alloc, World.size_setCell, World.size_drew, World.size_drewN]; omega) | (simp; done) | (simp; omega)))
      have z0 := B0.size
      have O0 := Lib.hid o0
      clear hw0 o0
      refine (normal_any _ _ _ _ rfl _).mono ?_
      rintro e w1 ⟨rfl, b1⟩
      obtain ⟨L1, F1, z1⟩ := row_look (hl_grow b1 r0)
      have B1 : Below w.heap.size w w1 := B0.trans (b1.mono z0)
      have O1 := Lib.hid (own_grow O0.out b1)
      clear r0 b1 B0
      go_wp2
      refine bodyPost_ret (v := .agg #[.slice (some ⟨w.heap.size + 1, 0, none⟩) 1 1, .int .i64 12, .int .i64 0]) (by simp [results, Tryz.results192, go_sem, L1]) rfl ⟨⟨_, _, rfl, ?_⟩, HP.out _ (by (repeat' (first | (with_reducible exact Below.refl _ _) | (with_reducible assumption) | (with_reducible refine below_drewN ?_ _) | (with_reducible refine Below.drew ?_) | (with_reducible refine Below.alloc ?_ ?_ _) | (with_reducible refine Below.setCell ?_ ?_ _) | (with_reducible refine below_row ?_ ?_ _) | (with_reducible exact Nat.le_refl _) | omega | (simp only [World.size_alloc, World.size_setCell, World.size_drew, World.size_drewN]; omega) | (simp; done) | (simp; omega))))⟩
      exact own_far (own_far (own_far O1.out (by simp [Value.ownBlock]) _) (by simp [Value.ownBlock]) _) (by simp [Value.ownBlock]) _
    · have e0 : prDo s op l = ((prOwn s op l).1.feel (prOwn s op l).2.2.2, (prOwn s op l).2) := by unfold prDo; rw [if_neg h3, if_neg h4]
      rw [e0]
      have t3 : (op == 3) = false := by rw [beq_eq_false_iff_ne]; exact h3
      have t4 : (op == 4) = false := by rw [beq_eq_false_iff_ne]; exact h4
      have hsn := prOwn_sn s op l
      have HO := Lib.hid (fun (w' : World) (h : Below w.heap.size w w') => pown_any pb B s op A l c w' (hp.grow h) hg ((ha.below h).mono h.size) hlc hz)
      generalize prOwn s op l = r at *
      obtain ⟨s1, rd, st, sn⟩ := r
      dsimp only at *
      have hpbz : pb < w.heap.size := by obtain ⟨_, _, _, hr, _⟩ := hp; exact hl_lt hr
      have hne : ¬ w.heap.size = pb := by omega
      clear h3 h4 e0 hp hg ha
      go_enter Tryz.func192, Tryz.ntmps192
      go_wp2_with fail
      refine (HO.out _ (by (repeat' (first | (with_reducible exact Below.refl _ _) | (with_reducible assumption) | (with_reducible refine below_drewN ?_ _) | (with_reducible refine Below.drew ?_) | (with_reducible refine Below.alloc ?_ ?_ _) | (with_reducible refine Below.setCell ?_ ?_ _) | (with_reducible refine below_row ?_ ?_ _) | (with_reducible exact Nat.le_refl _) | omega | (simp only [World.size_alloc, World.size_setCell, World.size_drew, World.size_drewN]; omega) | (simp; done) | (simp; omega))))).mono ?_
      rintro e w1 ⟨⟨A1, c1, rfl, o1⟩, p1, f1⟩
      have q0 : (w.alloc (.cells #[.slice none 0 0, .int .i64 0, .int .i64 0] 55)).heap[w.heap.size]? = some (.cells #[.slice none 0 0, .int .i64 0, .int .i64 0] 55 (0, 0)) := hl_new rfl
      have q1 := f1.row q0 (fun h => by
        rcases h with h | ⟨_, ⟨cs, fr, h⟩, _⟩
        · exact hne h
        · rw [q0] at h; injection h with h; injection h with _ h _; exact absurd h (by decide))
      have F1 : Fr (PrT w B pb) w w1 := ((Fr.refl _ w).alloc _).trans f1 (fun b hb ht => PrT.back hpbz ((Below.refl _ _).alloc (Nat.le_refl _) _) b hb ht)
      obtain ⟨hB, A2, c2, r2, o2⟩ := p1
      have hob2 := own_row_ne o2 r2 (by decide)
      have hoq2 := own_row_ne o2 q1 (by decide)
      have ho1 : ∀ g, (Value.slice A1 rd.length c1).ownBlock = some g → g ≠ pb ∧ g ≠ w.heap.size := fun g hg => ⟨fun e => own_row_ne o1 r2 (by decide) (by rw [hg, e]), fun e => own_row_ne o1 q1 (by decide) (by rw [hg, e])⟩
      have O1 := Lib.hid (own_mono o1 (by simp : w.heap.size ≤ _))
      obtain ⟨L2, K2, z2⟩ := row_look r2
      obtain ⟨L1, K1, z1⟩ := row_look q1
      have hfin : ∀ (w3 : World) (se : Nat), w3.heap[pb]? = some (.cells #[.int .i64 (se : Int), .slice A2 s1.lines.length c2, .int .i64 ((s1.down / 60 + 1 : Nat) : Int), .int .i64 ((s1.down % 60 + 1 : Nat) : Int)] 153 (0, 0)) → Fr (fun b => b = pb ∨ b = w.heap.size) w1 w3 →
          w3.ownsRow w.heap.size 5 1 (.slice A1 rd.length c1) rd.length (Lib.byteCells rd) ∧ PrAt w3 B pb { s1 with sense := se } ∧ Fr (PrT w B pb) w w3 := by
        intro w3 se h1 h2
        refine ⟨h2.own O1.out (fun g hg ht => ?_), ⟨hB, A2, c2, h1, h2.own o2 (fun g hg ht => ?_)⟩, F1.trans h2 (fun b hb ht => ?_)⟩
        · rcases ht with h | h
          · exact (ho1 g hg).1 h
          · exact (ho1 g hg).2 h
        · rcases ht with rfl | rfl
          · exact hob2 hg
          · exact hoq2 hg
        · rcases ht with rfl | rfl
          · exact Or.inl rfl
          · omega
      have HFIN := Lib.hid hfin
      have R2 := Lib.hid r2
      have Q1 := Lib.hid q1
      clear hfin q0 q1 f1 F1 r2 o1 o2 hob2 hoq2 ho1
      have hne' : pb ≠ w.heap.size := fun e => hne e.symm
      rcases hsn with rfl | rfl | rfl
      · go_wp2
        refine name_world (P := bodyPost _ _ _ _ _) ?_
        intro wf hwf
        have rf : wf.heap[w.heap.size]? = some (.cells #[.slice A1 rd.length c1, .int .i64 st, .int .i64 0] 55 (0, 0)) := by
          rw [hwf]
          exact hl_keep (hl_set (cs := #[.slice A1 rd.length c1, .int .i64 st, .int .i64 0]) (by rfl) (hl_set (cs := #[.slice A1 rd.length c1, .int .i64 0, .int .i64 0]) (by rfl) (hl_set (by rfl) Q1.out)))
        have rp : wf.heap[pb]? = some (.cells #[.int .i64 ((s1.sense : Nat) : Int), .slice A2 s1.lines.length c2, .int .i64 ((s1.down / 60 + 1 : Nat) : Int), .int .i64 ((s1.down % 60 + 1 : Nat) : Int)] 153 (0, 0)) := by
          rw [hwf]
          exact hl_keep (hl_far hne' (hl_far hne' (hl_far hne' R2.out)))
        have ff : Fr (fun b => b = pb ∨ b = w.heap.size) w1 wf := by
          rw [hwf]
          exact ((((Fr.refl _ w1).setCell (fun _ => Or.inr rfl) _).setCell (fun _ => Or.inr rfl) _).setCell (fun _ => Or.inr rfl) _).alloc _
        clear hwf
        obtain ⟨Lf, _, _⟩ := row_look rf
        obtain ⟨h1, h2, h3⟩ := HFIN.out wf _ rp ff
        refine bodyPost_ret (v := .agg #[.slice A1 rd.length c1, .int .i64 st, .int .i64 0]) (by simp [results, Tryz.results192, go_sem, Lf]) rfl ⟨⟨_, _, rfl, h1⟩, h2, h3⟩
      · go_wp2
        refine name_world (P := bodyPost _ _ _ _ _) ?_
        intro wf hwf
        have rf : wf.heap[w.heap.size]? = some (.cells #[.slice A1 rd.length c1, .int .i64 st, .int .i64 64] 55 (0, 0)) := by
          rw [hwf]
          exact hl_keep (hl_set (cs := #[.slice A1 rd.length c1, .int .i64 st, .int .i64 0]) (by rfl) (hl_set (cs := #[.slice A1 rd.length c1, .int .i64 0, .int .i64 0]) (by rfl) (hl_set (by rfl) (hl_far (fun e => hne e) Q1.out))))
        have rp : wf.heap[pb]? = some (.cells #[.int .i64 ((64 : Nat) : Int), .slice A2 s1.lines.length c2, .int .i64 ((s1.down / 60 + 1 : Nat) : Int), .int .i64 ((s1.down % 60 + 1 : Nat) : Int)] 153 (0, 0)) := by
          rw [hwf]
          exact hl_keep (hl_far hne' (hl_far hne' (hl_far hne' (hl_set (by rfl) R2.out))))
        have ff : Fr (fun b => b = pb ∨ b = w.heap.size) w1 wf := by
          rw [hwf]
          exact (((((Fr.refl _ w1).setCell (fun _ => Or.inl rfl) _).setCell (fun _ => Or.inr rfl) _).setCell (fun _ => Or.inr rfl) _).setCell (fun _ => Or.inr rfl) _).alloc _
        clear hwf
        obtain ⟨Lf, _, _⟩ := row_look rf
        obtain ⟨h1, h2, h3⟩ := HFIN.out wf _ rp ff
        refine bodyPost_ret (v := .agg #[.slice A1 rd.length c1, .int .i64 st, .int .i64 64]) (by simp [results, Tryz.results192, go_sem, Lf]) rfl ⟨⟨_, _, rfl, h1⟩, h2, h3⟩
      · go_wp2
        refine name_world (P := bodyPost _ _ _ _ _) ?_
        intro wf hwf
        have rf : wf.heap[w.heap.size]? = some (.cells #[.slice A1 rd.length c1, .int .i64 st, .int .i64 128] 55 (0, 0)) := by
          rw [hwf]
          exact hl_keep (hl_set (cs := #[.slice A1 rd.length c1, .int .i64 st, .int .i64 0]) (by rfl) (hl_set (cs := #[.slice A1 rd.length c1, .int .i64 0, .int .i64 0]) (by rfl) (hl_set (by rfl) (hl_far (fun e => hne e) Q1.out))))
        have rp : wf.heap[pb]? = some (.cells #[.int .i64 ((128 : Nat) : Int), .slice A2 s1.lines.length c2, .int .i64 ((s1.down / 60 + 1 : Nat) : Int), .int .i64 ((s1.down % 60 + 1 : Nat) : Int)] 153 (0, 0)) := by
          rw [hwf]
          exact hl_keep (hl_far hne' (hl_far hne' (hl_far hne' (hl_set (by rfl) R2.out))))
        have ff : Fr (fun b => b = pb ∨ b = w.heap.size) w1 wf := by
          rw [hwf]
          exact (((((Fr.refl _ w1).setCell (fun _ => Or.inl rfl) _).setCell (fun _ => Or.inr rfl) _).setCell (fun _ => Or.inr rfl) _).setCell (fun _ => Or.inr rfl) _).alloc _
        clear hwf
        obtain ⟨Lf, _, _⟩ := row_look rf
        obtain ⟨h1, h2, h3⟩ := HFIN.out wf _ rp ff
        refine bodyPost_ret (v := .agg #[.slice A1 rd.length c1, .int .i64 st, .int .i64 128]) (by simp [results, Tryz.results192, go_sem, Lf]) rfl ⟨⟨_, _, rfl, h1⟩, h2, h3⟩
end Go.Proofs.YtfhpaehfihnjaaaGreat.U
namespace Go.Proofs.YtfhpaehfihnjaaaGreat.U
open Go.RowKit Job.Ebcdic
set_option maxHeartbeats 2000000 in
theorem pdo_any (pb B : Nat) (s : PS) (op : Int) (A : Option Addr) (l : List UInt8) (c : Nat) (w : World) (hp : PrAt w B pb s) (hg : s.good) (ha : At w w.heap.size A (Lib.byteCells l)) (hlc : l.length ≤ c) (hz : l.length ≤ maxLen) :
    Calls Tryz.prog 199 #[.pointer (some ⟨pb, 0, none⟩), .int .i64 op, .slice A l.length c] w fun e w' =>
      RetR (prDo s op l).2.1 (prDo s op l).2.2.1 (prDo s op l).2.2.2 w e w' ∧ PrAt w' B pb (prDo s op l).1 ∧ Fr (PrT w B pb) w w' := by
  have HC := Lib.hid (fun (w' : World) (h : Below w.heap.size w w') => pcommand_any pb B s op A l c w' (hp.grow h) hg ((ha.below h).mono h.size) hlc hz)
  have hpbz : pb < w.heap.size := by obtain ⟨_, _, _, hr, _⟩ := hp; exact hl_lt hr
  have hne : ¬ w.heap.size = pb := by omega
  generalize prDo s op l = r at *
  obtain ⟨s1, rd, st, sn⟩ := r
  dsimp only at *
  clear hp hg ha
  go_enter Tryz.func199, Tryz.ntmps199
  go_wp2_with fail
  refine (HC.out _ (by (repeat' (first | (with_reducible exact Below.refl _ _) | (with_reducible assumption) | (with_reducible refine below_drewN ?_ _) | (with_reducible refine Below.drew ?_) | (with_reducible refine Below.alloc ?_ ?_ _) | (with_reducible refine Below.setCell ?_ ?_ _) | (with_reducible refine below_row ?_ ?_ _) | (with_reducible exact Nat.le_refl _) | omega | (simp only [World.size_alloc, World.size_setCell, World.size_drew, World.size_drewN]; omega) | (simp; done) | (simp; omega))))).mono ?_
  rintro e w1 ⟨⟨A1, c1, rfl, o1⟩, p1, f1⟩
  have q0 : (w.alloc (.cells #[.slice none 0 0, .int .i64 0, .int .i64 0] 55)).heap[w.heap.size]? = some (.cells #[.slice none 0 0, .int .i64 0, .int .i64 0] 55 (0, 0)) := hl_new rfl
  have q1 := f1.row q0 (fun h => by
    rcases h with h | ⟨_, ⟨cs, fr, h⟩, _⟩
    · exact hne h
    · rw [q0] at h; injection h with h; injection h with _ h _; exact absurd h (by decide))
  have F1 : Fr (PrT w B pb) w w1 := ((Fr.refl _ w).alloc _).trans f1 (fun b hb ht => PrT.back hpbz ((Below.refl _ _).alloc (Nat.le_refl _) _) b hb ht)
  have ho1 : (Value.slice A1 rd.length c1).ownBlock ≠ some w.heap.size := own_row_ne o1 q1 (by decide)
  have O1 := Lib.hid (own_mono o1 (by simp : w.heap.size ≤ _))
  obtain ⟨L1, K1, z1⟩ := row_look q1
  have P1 := Lib.hid p1
  have Q1 := Lib.hid q1
  clear q0 q1 f1 p1 o1
  go_wp2
  refine name_world (P := bodyPost _ _ _ _ _) ?_
  intro wf hwf
  have ff : Fr (fun b => b = w.heap.size) w1 wf := by
    rw [hwf]
    exact (((Fr.refl (fun b => b = w.heap.size) w1).setCell (fun _ => rfl) _).setCell (fun _ => rfl) _).setCell (fun _ => rfl) _
  have rf : wf.heap[w.heap.size]? = some (.cells #[.slice A1 rd.length c1, .int .i64 st, .int .i64 sn] 55 (0, 0)) := by
    rw [hwf]
    exact hl_set (cs := #[.slice A1 rd.length c1, .int .i64 st, .int .i64 0]) (by rfl) (hl_set (cs := #[.slice A1 rd.length c1, .int .i64 0, .int .i64 0]) (by rfl) (hl_set (by rfl) Q1.out))
  clear hwf
  obtain ⟨Lf, _, _⟩ := row_look rf
  refine bodyPost_ret (v := .agg #[.slice A1 rd.length c1, .int .i64 st, .int .i64 sn]) (by simp [results, Tryz.results199, go_sem, Lf]) rfl ⟨⟨_, _, rfl, ?_⟩, ?_, ?_⟩
  · exact ff.own O1.out (fun g hg e => ho1 (by rw [hg, e]))
  · exact P1.out.at_block ff Q1.out (by decide) (by decide)
  · exact F1.trans ff (fun b hb e => absurd e (by omega))
set_option maxHeartbeats 2000000 in
theorem pdo_nil (op : Int) (v : Value) (w : World) :
    Calls Tryz.prog 199 #[.pointer none, .int .i64 op, v] w fun e w' => e = .returned (.agg #[.slice none 0 0, .int .i64 14, .int .i64 64]) ∧ Below w.heap.size w w' := by
  go_enter Tryz.func199, Tryz.ntmps199
  go_wp2_with fail
  refine (check_any _ _).mono ?_
  rintro e w1 ⟨rfl, b1⟩
  obtain ⟨r1, z1, b1'⟩ := alloc_call b1
  obtain ⟨L1, F1, _⟩ := row_look r1
  clear r1 b1
  go_wp2
  refine bodyPost_ret (v := .agg #[.slice none 0 0, .int .i64 14, .int .i64 64]) (by simp [results, Tryz.results199, go_sem, L1]) rfl ⟨rfl, by (repeat' (first | (with_reducible exact Below.refl _ _) | (with_reducible assumption) | (with_reducible refine below_drewN ?_ _) | (with_reducible refine Below.drew ?_) | (with_reducible refine Below.alloc ?_ ?_ _) | (with_reducible refine Below.setCell ?_ ?_ _) | (with_reducible refine below_row ?_ ?_ _) | (with_reducible exact Nat.le_refl _) | omega | (simp only [World.size_alloc, World.size_setCell, World.size_drew, World.size_drewN]; omega) | (simp; done) | (simp; omega)))⟩
set_option maxHeartbeats 1000000 in
theorem pat_any (pb B : Nat) (s : PS) (w : World) (hp : PrAt w B pb s) :
    Calls Tryz.prog 38 #[.pointer (some ⟨pb, 0, none⟩)] w fun e w' => e = .returned (.tuple #[.int .i64 ((s.down / 60 + 1 : Nat) : Int), .int .i64 ((s.down % 60 + 1 : Nat) : Int)]) ∧ Still w w' := by
  obtain ⟨hB, A1, c1, hr, ho⟩ := hp
  obtain ⟨L, F, z⟩ := row_look hr
  have c2 : w.cell? ⟨pb, 2, none⟩ = some (.int .i64 ((s.down / 60 + 1 : Nat) : Int)) := L 2
  have c3 : w.cell? ⟨pb, 3, none⟩ = some (.int .i64 ((s.down % 60 + 1 : Nat) : Int)) := L 3
  generalize ((s.down / 60 + 1 : Nat) : Int) = x at *
  generalize ((s.down % 60 + 1 : Nat) : Int) = y at *
  clear L F hr ho
  go_enter Tryz.func38, Tryz.ntmps38
  go_wp2
  go_quiet (fail)
  go_wp2
  go_ret2
  exact ⟨rfl, by first | exact still_1 _ _ | exact still_2 _ _ _⟩
set_option maxHeartbeats 1000000 in
theorem pat_nil (w : World) : Calls Tryz.prog 38 #[.pointer none] w fun e w' => e = .returned (.tuple #[.int .i64 0, .int .i64 0]) ∧ w = w' := by
  go_enter Tryz.func38, Tryz.ntmps38
  go_wp2
  go_ret2
  exact ⟨rfl, rfl⟩
set_option maxHeartbeats 1000000 in
theorem reset_any (pb : Nat) (x : Value) (w : World) (h : w.cell? ⟨pb, 0, none⟩ = some x) (hf : w.frozen? ⟨pb, 0, none⟩ = false) :
    Calls Tryz.prog 194 #[.pointer (some ⟨pb, 0, none⟩)] w fun e w' => e = .returned (.tuple #[]) ∧ w.setCell ⟨pb, 0, none⟩ (.int .i64 0) = w' := by
  go_enter Tryz.func194, Tryz.ntmps194
  go_wp2
  go_end0
  exact ⟨rfl, rfl⟩
set_option maxHeartbeats 1000000 in
theorem ppower_any (pb B : Nat) (s : PS) (w : World) (hp : PrAt w B pb s) :
    Calls Tryz.prog 200 #[.pointer (some ⟨pb, 0, none⟩)] w fun e w' => e = .returned (.tuple #[]) ∧ PrAt w' B pb { s with sense := 0 } ∧ Fr (fun b => b = pb) w w' := by
  obtain ⟨hB, A1, c1, hr, ho⟩ := hp
  obtain ⟨L, F, z⟩ := row_look hr
  have hob := own_row_ne ho hr (by decide)
  have HO := Lib.hid ho
  have R := Lib.hid hr
  have hc0 : w.cell? ⟨pb, 0, none⟩ = some (.int .i64 (s.sense : Int)) := L 0
  have hf0 : w.frozen? ⟨pb, 0, none⟩ = false := F 0
  clear hr ho L F
  go_enter Tryz.func200, Tryz.ntmps200
  go_wp2_with (go_at_call 194; refine (reset_any pb _ _ hc0 hf0).mono ?_; rintro e w1 ⟨rfl, rfl⟩)
  go_end0
  have ff : Fr (fun b => b = pb) w (w.setCell ⟨pb, 0, none⟩ (.int .i64 0)) := (Fr.refl (fun b => b = pb) w).setCell (fun _ => rfl) _
  exact ⟨rfl, ⟨hB, A1, c1, hl_set (by rfl) R.out, ff.own HO.out (fun g hg e => hob (by rw [← e]; exact hg))⟩, ff⟩
set_option maxHeartbeats 1000000 in
theorem ppower_nil (w : World) : Calls Tryz.prog 200 #[.pointer none] w fun e w' => e = .returned (.tuple #[]) ∧ w = w' := by
  go_enter Tryz.func200, Tryz.ntmps200
  go_wp2
  go_end0
  exact ⟨rfl, rfl⟩
set_option maxHeartbeats 1000000 in
theorem pnew_any (w : World) : Calls Tryz.prog 59 #[] w fun e w' => e = .returned (.pointer (some ⟨w.heap.size, 0, none⟩)) ∧ PrAt w' w.heap.size w.heap.size ⟨0, [], 0⟩ ∧ Below w.heap.size w w' := by
  go_enter Tryz.func59, Tryz.ntmps59
  go_wp2
  go_ret
  exact ⟨rfl, ⟨Nat.le_refl _, none, 0, hl_new rfl, World.ownsRow_nil _ _ _ _⟩, by (repeat' (first | (with_reducible exact Below.refl _ _) | (with_reducible assumption) | (with_reducible refine below_drewN ?_ _) | (with_reducible refine Below.drew ?_) | (with_reducible refine Below.alloc ?_ ?_ _) | (with_reducible refine Below.setCell ?_ ?_ _) | (with_reducible refine below_row ?_ ?_ _) | (with_reducible exact Nat.le_refl _) | omega | (simp only [World.size_alloc, World.size_setCell, World.size_drew, World.size_drewN]; omega) | (simp; done) | (simp; omega)))⟩
set_option maxHeartbeats 1000000 in
theorem ppaper_nil (w : World) : Calls Tryz.prog 37 #[.pointer none] w fun e w' => e = .returned (.slice none 0 0) ∧ w = w' := by
  go_enter Tryz.func37, Tryz.ntmps37
  go_wp2
  go_ret
  exact ⟨rfl, rfl⟩
theorem lineCells_one (l : List (Nat × Nat × List UInt8)) : ∀ u ∈ l.flatMap lineCells, u.oneCell' = true := by
  intro u hu
  obtain ⟨x, _, hx⟩ := List.mem_flatMap.1 hu
  simp [lineCells] at hx
  rcases hx with rfl | rfl | rfl <;> rfl
set_option maxHeartbeats 1000000 in
theorem ppaper_any (pb B : Nat) (s : PS) (w : World) (hp : PrAt w B pb s) (hg : s.good) :
    Calls Tryz.prog 37 #[.pointer (some ⟨pb, 0, none⟩)] w fun e w' => ∃ A c, e = .returned (.slice A s.lines.length c) ∧
      w'.ownsRow w.heap.size 107 3 (.slice A s.lines.length c) s.lines.length (s.lines.flatMap lineCells) ∧ Below w.heap.size w w' := by
  obtain ⟨hB, A1, c1, hr, ho⟩ := hp
  obtain ⟨L, F, z⟩ := row_look hr
  have g1 : s.lines.length ≤ 8192 := hg.1
  have HA := Lib.hid (own_at3 ho)
  have HN := Lib.hid (lineCells_len s.lines)
  clear hr ho
  go_enter Tryz.func37, Tryz.ntmps37
  go_wp2_with (at_builtin; refine wpList_append_at (by rfl) _ _ _ (by rfl) lineElem w.heap.size _ 0 [] (by rfl) (World.ownsRow_nil _ _ _ _) w.heap.size A1 s.lines.length c1 _ (by rfl) HA.out HN.out (lineCells_one _) (by unfold maxLen; omega) (by omega) (Nat.le_refl _) ?_; intro A3 c3 w3 o3 g3)
  rw [Nat.zero_add, List.nil_append] at o3
  have O3 := Lib.hid o3
  have B3 : Below w.heap.size w w3 := (Below.refl _ _).grown g3 (Nat.le_refl _) (by intro k hk; simp [Value.ownBlock] at hk)
  clear o3 g3
  go_wp2
  go_ret
  exact ⟨_, _, rfl, O3.out, B3⟩
end Go.Proofs.YtfhpaehfihnjaaaGreat.U
namespace Go.Proofs.YtfhpaehfihnjaaaGreat.U
open Go.RowKit
theorem punch_dev (pb : Nat) (cs : List (List UInt8)) : DevS pb (fun se => punchS pb se cs) := by
  rintro se h ⟨v, _, s⟩
  exact ⟨(#[.int .i64 (se : Int), v], 151, deckS v cs), ⟨rfl, fun se' h' s' => ⟨v, trivial, s'⟩⟩, s⟩
def punDo (se : Nat) (cs : List (List UInt8)) (op : Int) (l : List UInt8) : Nat × List (List UInt8) × List UInt8 × Int × Int :=
  if op = 3 then (se, cs, [], 12, 0) else if op = 4 then (se, cs, [UInt8.ofNat se], 12, 0) else
    (if (punOwn cs op l).2.2 = 0 then se else (punOwn cs op l).2.2.toNat, (punOwn cs op l).1, [], (punOwn cs op l).2)
section
variable {W w : World} {F : List SA}
theorem pun_own (pb se : Nat) (cs : List (List UInt8)) (op : Int) (A : Option Addr) (l : List UInt8) (c : Nat) (S : SL W (punchS pb se cs :: F) w) (hr : Rd W (punchS pb se cs :: F) A (Lib.byteCells l)) (hlc : l.length ≤ c) (hz : l.length ≤ maxLen) (hcs : cs.length ≤ 4096) :
    Calls Tryz.prog 198 #[.pointer (some ⟨pb, 0, none⟩), .int .i64 op, .slice A l.length c] w fun e w' => RetS W (punchS pb se (punOwn cs op l).1 :: F) [] (punOwn cs op l).2.1 (punOwn cs op l).2.2 e w' := by
  unfold punOwn
  by_cases h : op ≠ 1 ∨ 80 < l.length
  · rw [if_pos h]
    exact pun_rej pb op A l c S hz h
  · rw [if_neg h]
    obtain ⟨rfl, h2⟩ : op = 1 ∧ l.length ≤ 80 := by omega
    by_cases h3 : cs.length = 4096
    · rw [if_pos h3]
      exact pun_full pb se cs A l c S h2 h3
    · rw [if_neg h3]
      exact pun_ok pb se cs A l c S hr hlc h2 (by omega)
theorem punOwn_sn (cs : List (List UInt8)) (op : Int) (l : List UInt8) : (punOwn cs op l).2.2 = 0 ∨ (punOwn cs op l).2.2 = 64 ∨ (punOwn cs op l).2.2 = 128 := by
  unfold punOwn
  repeat' split
  all_goals simp
theorem pun_command (pb se : Nat) (cs : List (List UInt8)) (op : Int) (A : Option Addr) (l : List UInt8) (c : Nat) (S : SL W (punchS pb se cs :: F) w) (hr : Rd W (punchS pb se cs :: F) A (Lib.byteCells l)) (hlc : l.length ≤ c) (hz : l.length ≤ maxLen) (hcs : cs.length ≤ 4096) (hse : se < 256) :
    Calls Tryz.prog 192 #[.pointer (some ⟨pb, 0, none⟩), .int .i64 op, .slice A l.length c, .func (.func 198) #[.pointer (some ⟨pb, 0, none⟩)] #[]] w fun e w' =>
      RetS W (punchS pb (punDo se cs op l).1 (punDo se cs op l).2.1 :: F) (punDo se cs op l).2.2.1 (punDo se cs op l).2.2.2.1 (punDo se cs op l).2.2.2.2 e w' := by
  unfold punDo
  by_cases h3 : op = 3
  · subst h3
    rw [if_pos rfl]
    exact commandS_3 pb se (fun se => punchS pb se cs) _ _ S
  · rw [if_neg h3]
    by_cases h4 : op = 4
    · subst h4
      rw [if_pos rfl]
      exact commandS_4 pb se (fun se => punchS pb se cs) (punch_dev pb cs) hse _ _ S
    · rw [if_neg h4]
      exact commandS_own pb se (fun se => punchS pb se (punOwn cs op l).1) (punch_dev pb _) _ op _ [] (punOwn cs op l).2.1 (punOwn cs op l).2.2 h3 h4 (punOwn_sn cs op l) (fun w => by rfl) w _ S
        (fun R w1 S1 => pun_own pb se cs op A l c S1.s1 (fun w2 S2 => hr w2 S2.s1.drop) hlc hz hcs)
set_option maxHeartbeats 2000000 in
theorem pundo_any (pb se : Nat) (cs : List (List UInt8)) (op : Int) (A : Option Addr) (l : List UInt8) (c : Nat) (S : SL W (punchS pb se cs :: F) w) (hr : Rd W (punchS pb se cs :: F) A (Lib.byteCells l)) (hlc : l.length ≤ c) (hz : l.length ≤ maxLen) (hcs : cs.length ≤ 4096) (hse : se < 256) :
    Calls Tryz.prog 196 #[.pointer (some ⟨pb, 0, none⟩), .int .i64 op, .slice A l.length c] w fun e w' =>
      RetS W (punchS pb (punDo se cs op l).1 (punDo se cs op l).2.1 :: F) (punDo se cs op l).2.2.1 (punDo se cs op l).2.2.2.1 (punDo se cs op l).2.2.2.2 e w' := by
  have HC := Lib.hid (fun (R : SA) (w1 : World) (S1 : SL W (R :: punchS pb se cs :: F) w1) => pun_command (F := R :: F) pb se cs op A l c S1.s1 (fun w2 S2 => hr w2 S2.s1.drop) hlc hz hcs hse)
  have HS := Lib.hid S
  generalize punDo se cs op l = r at *
  obtain ⟨s1, cs1, rd, st, sn⟩ := r
  dsimp only at *
  clear S hr
  go_enter Tryz.func196, Tryz.ntmps196
  go_wp2_with fail
  refine (HC.out _ _ (HS.out.allocC #[.slice none 0 0, .int .i64 0, .int .i64 0] 55)).mono ?_
  rintro e w1 ⟨A1, c1, rfl, S1⟩
  have H1 := Lib.hid S1.s2
  obtain ⟨L1, K1, z1⟩ := H1.out.look
  clear S1
  go_wp2
  exact bodyPost_ret (v := .agg #[.slice A1 rd.length c1, .int .i64 st, .int .i64 sn]) (by simp [results, Tryz.results196, go_sem, L1]) rfl ⟨_, _, rfl, (((H1.out.set rfl).set rfl).set rfl).drop⟩
set_option maxHeartbeats 2000000 in
theorem pundo_nil (op : Int) (v : Value) (w : World) :
    Calls Tryz.prog 196 #[.pointer none, .int .i64 op, v] w fun e w' => e = .returned (.agg #[.slice none 0 0, .int .i64 14, .int .i64 64]) ∧ Below w.heap.size w w' := by
  go_enter Tryz.func196, Tryz.ntmps196
  go_wp2_with fail
  refine (check_any _ _).mono ?_
  rintro e w1 ⟨rfl, b1⟩
  obtain ⟨r1, z1, b1'⟩ := alloc_call b1
  obtain ⟨L1, F1, _⟩ := row_look r1
  clear r1 b1
  go_wp2
  exact bodyPost_ret (v := .agg #[.slice none 0 0, .int .i64 14, .int .i64 64]) (by simp [results, Tryz.results196, go_sem, L1]) rfl ⟨rfl, by (repeat' (first | (with_reducible exact Below.refl _ _) | (with_reducible assumption) | (with_reducible refine below_drewN ?_ _) | (with_reducible refine Below.drew ?_) | (with_reducible refine Below.alloc ?_ ?_ _) | (with_reducible refine Below.setCell ?_ ?_ _) | (with_reducible refine below_row ?_ ?_ _) | (with_reducible exact Nat.le_refl _) | omega | (simp only [World.size_alloc, World.size_setCell, World.size_drew, World.size_drewN]; omega) | (simp; done) | (simp; omega)))⟩
set_option maxHeartbeats 2000000 in
theorem punnew_any (S : SL W F w) : Calls Tryz.prog 58 #[] w fun e w' => ∃ pb, e = .returned (.pointer (some ⟨pb, 0, none⟩)) ∧ SL W (punchS pb 0 [] :: F) w' := by
  have HS := Lib.hid S
  clear S
  go_enter Tryz.func58, Tryz.ntmps58
  go_wp2
  go_ret
  refine ⟨_, rfl, punchS_close (v := .slice none 0 0) ?_⟩
  exact (deckS_close (ps := []) ((HS.out.allocC #[.int .i64 0, .slice none 0 0] 151).empty.nil _ _)).s1
set_option maxHeartbeats 2000000 in
theorem punpower_any (pb se : Nat) (cs : List (List UInt8)) (S : SL W (punchS pb se cs :: F) w) :
    Calls Tryz.prog 197 #[.pointer (some ⟨pb, 0, none⟩)] w fun e w' => e = .returned (.tuple #[]) ∧ SL W (punchS pb 0 cs :: F) w' := by
  obtain ⟨v, _, S⟩ := punchS_open S
  obtain ⟨L, K, z⟩ := S.look
  have HS := Lib.hid S
  clear S
  go_enter Tryz.func197, Tryz.ntmps197
  go_wp2_with fail
  refine (reset_any pb _ _ (L 0) (K 0)).mono ?_
  rintro e w1 ⟨rfl, rfl⟩
  go_wp2
  go_end0
  exact ⟨rfl, punchS_close (HS.out.set rfl)⟩
theorem punpower_nil (w : World) : Calls Tryz.prog 197 #[.pointer none] w fun e w' => e = .returned (.tuple #[]) ∧ w = w' := by
  go_enter Tryz.func197, Tryz.ntmps197
  go_wp2
  go_end0
  exact ⟨rfl, rfl⟩
theorem pundeck_nil (w : World) : Calls Tryz.prog 36 #[.pointer none] w fun e w' => e = .returned (.slice none 0 0) ∧ w = w' := by
  go_enter Tryz.func36, Tryz.ntmps36
  go_wp2
  go_ret
  exact ⟨rfl, rfl⟩
set_option maxHeartbeats 2000000 in
theorem pundeck_any (pb se : Nat) (cs : List (List UInt8)) (S : SL W (punchS pb se cs :: F) w) (hcs : cs.length ≤ 4096) (hl : ∀ x ∈ cs, x.length ≤ 100000) :
    Calls Tryz.prog 36 #[.pointer (some ⟨pb, 0, none⟩)] w fun e w' => ∃ A c, e = .returned (.slice A cs.length c) ∧ SL W (deckS (.slice A cs.length c) cs :: punchS pb se cs :: F) w' := by
  obtain ⟨v, _, S⟩ := punchS_open S
  obtain ⟨L0, K0, z0⟩ := S.look
  obtain ⟨ps, rfl, S'⟩ := deckS_open S.s1
  obtain ⟨Av, cv, rfl, _, _⟩ := own_slice S'.own
  rw [List.length_map] at hcs ⊢
  have HS := Lib.hid S'
  have HL := Lib.hid hl
  clear S S' hl
  go_enter Tryz.func36, Tryz.ntmps36
  go_wp2_with fail
  go_loopw [3, 13] (fun o i wr => ∃ (k : Nat) (A : Option Addr) (c : Nat) (qs : List (Value × List UInt8)), k ≤ ps.length ∧ i = .int .i64 k ∧ o = .slice A k c ∧ qs.length = k ∧ qs.map Prod.snd = (ps.map Prod.snd).take k ∧
    SL W (rowS 50 1 (.slice A k c) k (qs.map Prod.fst) :: star (qs.map cardS) :: rowS 50 1 (.slice Av ps.length cv) ps.length (ps.map Prod.fst) :: star (ps.map cardS) :: cel pb #[.int .i64 (se : Int), .slice Av ps.length cv] 151 :: F) wr) (fun _ i _ => ps.length - (intOf i).toNat)
  case atStart => exact ⟨0, none, 0, [], Nat.zero_le _, rfl, rfl, rfl, rfl, HS.out.empty.nil _ _⟩
  case round =>
    obtain ⟨k, A3, c3, qs, hk, rfl, rfl, hq1, hq2, S1⟩ := hrel
    have HQ := Lib.hid (And.intro hq1 hq2)
    have H1 := Lib.hid S1
    clear HS S1 L0 K0 hq1 hq2
    by_cases hlt : k < ps.length
    · obtain ⟨b, rfl, _, ck⟩ := H1.out.s2.cellAt (j := k) (u := ps[k].1) (by simp [hlt])
      have h2 := SL.take H1.out.s3 (i := k) (P := cardS ps[k]) (by simp [hlt])
      have hlk := HL.out ps[k].2 (List.mem_map_of_mem (List.getElem_mem hlt))
      obtain ⟨A4, c4, e4, _, _⟩ := own_slice h2.own
      have at4 := h2
      unfold cardS at at4
      rw [e4] at at4
      have HA := Lib.hid at4.at_
      have HB := Lib.hid (show (qs ++ [(Value.slice none 0 0, ps[k].2)]).map Prod.snd = (ps.map Prod.snd).take (k + 1) by
        rw [List.map_append, HQ.out.2, List.take_succ_eq_append_getElem (by simpa using hlt)]; simp)
      rw [e4] at ck
      generalize ps[k].2 = x at *
      clear h2 at4 e4
      go_wp2_with (first
        | (at_builtin; refine wpList_appS rfl _ _ _ rfl bElem (.slice none 0 0) 0 [] rfl (H1.out.nil _ _) wr.heap.size A4 x.length c4 (Lib.byteCells x) rfl HA.out (by rw [byteCells_len, Nat.mul_one]) (byteCells_one _) (by unfold maxLen; omega) (by omega) ?_
           intro A5 c5 w5 S5
           simp only [Nat.zero_add, List.nil_append] at S5
           have H5 := Lib.hid S5
           clear S5 H1 ck)
        | (at_builtin; refine wpList_pushS rfl _ _ _ rfl deckElem w5 [.slice A5 x.length c5] 1 (by simp only [Nat.zero_add]) rfl (by simp [Value.oneCell']) _ k _ rfl rfl H5.out.s1 (by unfold maxLen; omega) (by omega) ?_
           intro A6 c6 w6 S6
           have H6 := Lib.hid S6
           clear S6 H5))
      go_roundw
      case rel =>
        refine ⟨k + 1, A6, c6, qs ++ [(.slice A5 x.length c5, x)], by omega, by go_num, rfl, by simp [HQ.out.1], by have := HB.out; simpa using this, ?_⟩
        simp only [List.map_append, List.map_cons, List.map_nil]
        exact (SL.snoc (P := cardS (.slice A5 x.length c5, x)) H6.out.b2).s1
      case measure => simp [intOf]; omega
    · obtain rfl : k = ps.length := by omega
      go_wp2
      go_ret
      obtain ⟨hq1, hq2⟩ := HQ.out
      refine ⟨A3, c3, rfl, ?_⟩
      rw [List.take_of_length_le (by simp)] at hq2
      have S4 := (punchS_close (deckS_close (deckS_close' hq1.symm H1.out).b3).s1).s1
      rw [hq2] at S4
      exact S4
end
end Go.Proofs.YtfhpaehfihnjaaaGreat.U
