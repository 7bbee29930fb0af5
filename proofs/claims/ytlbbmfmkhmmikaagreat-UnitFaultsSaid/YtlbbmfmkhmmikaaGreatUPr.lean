/- The program's printer. -/
import Derived.Test.YtlbbmfmkhmmikaaGreatKitA
import Derived.Test.YtlbbmfmkhmmikaaGreatUA
namespace Go.Proofs.YtlbbmfmkhmmikaaGreat.U
open Go.RowKit Job.Ebcdic

set_option maxRecDepth 100000 in
/-- normal and check -/
theorem normal_any (v : Value) (A : Option Addr) (n c : Nat) (hv : v = .slice A n c) (w : World) : Calls Tryz.prog 200 #[v] w fun e w' => e = .returned (.agg #[.slice A n c, .int .i64 12, .int .i64 0]) ∧ Below w.heap.size w w' := by
  subst hv
  go_enter Tryz.func200, Tryz.ntmps200
  go_wp2
  refine bodyPost_ret (v := .agg #[.slice A n c, .int .i64 12, .int .i64 0]) (by simp [results, Tryz.results200, go_sem]) rfl ⟨rfl, by (repeat' (first | (with_reducible exact Below.refl _ _) | (with_reducible assumption) | (with_reducible refine below_drewN ?_ _) | (with_reducible refine Below.drew ?_) | (with_reducible refine Below.alloc ?_ ?_ _) | (with_reducible refine Below.setCell ?_ ?_ _) | (with_reducible refine below_row ?_ ?_ _) | (with_reducible exact Nat.le_refl _) | omega | (simp only [World.size_alloc, World.size_setCell, World.size_drew, World.size_drewN]; omega) | (simp; done) | (simp; omega)))⟩
set_option maxRecDepth 100000 in
theorem check_any (s : Int) (w : World) : Calls Tryz.prog 196 #[.int .i64 s] w fun e w' => e = .returned (.agg #[.slice none 0 0, .int .i64 14, .int .i64 s]) ∧ Below w.heap.size w w' := by
  go_enter Tryz.func196, Tryz.ntmps196
  go_wp2
  refine bodyPost_ret (v := .agg #[.slice none 0 0, .int .i64 14, .int .i64 s]) (by simp [results, Tryz.results196, go_sem]) rfl ⟨rfl, by (repeat' (first | (with_reducible exact Below.refl _ _) | (with_reducible assumption) | (with_reducible refine below_drewN ?_ _) | (with_reducible refine Below.drew ?_) | (with_reducible refine Below.alloc ?_ ?_ _) | (with_reducible refine Below.setCell ?_ ?_ _) | (with_reducible refine below_row ?_ ?_ _) | (with_reducible exact Nat.le_refl _) | omega | (simp only [World.size_alloc, World.size_setCell, World.size_drew, World.size_drewN]; omega) | (simp; done) | (simp; omega)))⟩

/-- What a function leaves that returns a Reply: the bytes in new memory. -/
def RetR (rd : List UInt8) (st sn : Int) (w : World) (e : Ending) (w' : World) : Prop :=
  ∃ A c, e = .returned (.agg #[.slice A rd.length c, .int .i64 st, .int .i64 sn]) ∧ w'.ownsRow w.heap.size 5 1 (.slice A rd.length c) rd.length (Lib.byteCells rd)

def OfT (w : World) (t : TypeId) (b : Nat) : Prop := ∃ cs fr, w.heap[b]? = some (.cells cs t fr)

structure PS where
  down : Nat
  lines : List (Nat × Nat × List UInt8)
  sense : Nat
def PS.good (s : PS) : Prop := s.lines.length ≤ 8192 ∧ s.sense < 256 ∧ s.down ≤ 1000000000
def lineCells (x : Nat × Nat × List UInt8) : List Value := [.int .i64 (x.1 : Int), .int .i64 (x.2.1 : Int), .string ⟨x.2.2.toArray⟩]
theorem lineCells_len (l : List (Nat × Nat × List UInt8)) : (l.flatMap lineCells).length = l.length * 3 := by
  induction l with
  | nil => rfl
  | cons x l ih => simp [lineCells, ih]; omega

/-- The printer at block pb shows the state. -/
def PrAt (w : World) (B pb : Nat) (s : PS) : Prop :=
  B ≤ pb ∧ ∃ A c, w.heap[pb]? = some (.cells #[.int .i64 (s.sense : Int), .slice A s.lines.length c, .int .i64 ((s.down / 60 + 1 : Nat) : Int), .int .i64 ((s.down % 60 + 1 : Nat) : Int)] 139 (0, 0)) ∧
    w.ownsRow B 151 3 (.slice A s.lines.length c) s.lines.length (s.lines.flatMap lineCells)
/-- The block of the slice that lies in cell i of block pb. -/
def Held (w : World) (pb i b : Nat) : Prop := ∃ cs t fr v, w.heap[pb]? = some (.cells cs t fr) ∧ cs[i]? = some v ∧ v.ownBlock = some b
def PrT (w : World) (B pb : Nat) (b : Nat) : Prop := b = pb ∨ B ≤ b ∧ OfT w 151 b ∧ Held w pb 1 b

set_option maxRecDepth 100000 in
set_option maxHeartbeats 1000000 in
/-- space -/
theorem space_any (pb : Nat) (s page row n : Int) (v : Value) (w : World) (hr : w.heap[pb]? = some (.cells #[.int .i64 s, v, .int .i64 page, .int .i64 row] 139 (0, 0)))
    (h0 : 0 ≤ page) (h1 : page ≤ 1000000000) (r0 : 0 ≤ row) (r1 : row ≤ 1000) (n0 : 0 ≤ n) (n1 : n ≤ 1000) : Calls Tryz.prog 208 #[.pointer (some ⟨pb, 0, none⟩), .int .i64 n] w fun e w' => e = .returned (.tuple #[]) ∧
      w'.heap[pb]? = some (.cells #[.int .i64 s, v, .int .i64 (if 60 < row + n then page + 1 else page), .int .i64 (if 60 < row + n then row + n - 60 else row + n)] 139 (0, 0)) ∧ Fr (fun b => b = pb) w w' := by
  obtain ⟨L, F, z⟩ := row_look hr
  have R := Lib.hid hr
  clear hr
  by_cases hlt : 60 < row + n
  · rw [if_pos hlt, if_pos hlt]
    go_enter Tryz.func208, Tryz.ntmps208
    go_wp2
    go_end0
    exact ⟨rfl, hl_set (by simp) (hl_set rfl (hl_set rfl R.out)), by (repeat' (first | (with_reducible exact Fr.refl _ _) | (with_reducible assumption) | (with_reducible refine Fr.drewN ?_ _) | (with_reducible refine Fr.drew ?_) | (with_reducible refine Fr.alloc ?_ _) | (refine Fr.setNew ?_ (by first | exact Nat.le_refl _ | (dsimp only; omega)) _) | (refine Fr.setCell ?_ (fun _ => by first | rfl | exact Or.inl rfl) _)))⟩
  · rw [if_neg hlt, if_neg hlt]
    go_enter Tryz.func208, Tryz.ntmps208
    go_wp2
    go_end0
    exact ⟨rfl, hl_set (by simp) R.out, by (repeat' (first | (with_reducible exact Fr.refl _ _) | (with_reducible assumption) | (with_reducible refine Fr.drewN ?_ _) | (with_reducible refine Fr.drew ?_) | (with_reducible refine Fr.alloc ?_ _) | (refine Fr.setNew ?_ (by first | exact Nat.le_refl _ | (dsimp only; omega)) _) | (refine Fr.setCell ?_ (fun _ => by first | rfl | exact Or.inl rfl) _)))⟩
theorem lineElem : Elem Tryz.prog 75 151 (.agg #[.int .i64 0, .int .i64 0, .string ⟨#[]⟩]) 3 32 := ⟨Tryz.underlying75, by kernel_rfl, rfl, by omega⟩

/-- By how much a command spaces (4: it skips), and whether it writes. -/
def prMoves (op : Int) : Option (Nat × Bool) :=
  if op = 1 then some (0, true) else if op = 9 then some (1, true) else if op = 17 then some (2, true) else if op = 25 then some (3, true) else if op = 137 then some (4, true)
  else if op = 11 then some (1, false) else if op = 19 then some (2, false) else if op = 27 then some (3, false) else if op = 139 then some (4, false) else none
def four (n : Nat) : List UInt8 := [UInt8.ofNat (n / 16777216), UInt8.ofNat (n / 65536), UInt8.ofNat (n / 256), UInt8.ofNat n]
def prMove (down n : Nat) : Nat := if n = 4 then (down / 60 + 1) * 60 else down + n
def PS.write (s : PS) (l : List UInt8) : PS := { s with lines := s.lines ++ [(s.down / 60 + 1, s.down % 60 + 1, trim l)] }
def PS.move (s : PS) (n : Nat) : PS := { s with down := prMove s.down n }
def prOwn (s : PS) (op : Int) (l : List UInt8) : PS × List UInt8 × Int × Int :=
  if op = 20 then (s, four s.lines.length, 12, 0) else
  match prMoves op with
  | none => (s, [], 14, 128)
  | some (n, true) => if 132 < l.length then (s, [], 14, 128) else if s.lines.length = 8192 then (s, [], 14, 64) else ((s.write l).move n, [], 12, 0)
  | some (n, false) => (s.move n, [], 12, 0)

theorem RetR.lit (w : World) (cs : Array Value) (rd : List UInt8) (h : cs.toList = Lib.byteCells rd) (hm : rd.length ≤ maxLen) {w' : World} (hb : Below (w.heap.size + 1) (w.alloc (.cells cs 5)) w') {W : World} (hW : W.heap.size ≤ w.heap.size) :
    w'.ownsRow W.heap.size 5 1 (.slice (some ⟨w.heap.size, 0, none⟩) rd.length rd.length) rd.length (Lib.byteCells rd) := by
  have hs : cs.size = rd.length := by
    have := congrArg List.length h
    simpa [byteCells_len] using this
  have := own_lit1 w 5 cs rd.length hs hm
  rw [h] at this
  exact own_mono (own_below this (by rw [World.size_alloc]; exact hb)) hW

theorem four_cells (k : Nat) (h : k ≤ 16777215) : Lib.byteCells (four k) = [Value.int .u8 ((k : Int) / 16777216), .int .u8 ((k : Int) / 65536), .int .u8 ((k : Int) / 256 % 256), .int .u8 ((k : Int) % 256)] := by
  simp [four, Lib.byteCells]; omega
theorem own_far {w : World} {base : Nat} {e : TypeId} {size n : Nat} {v : Value} {xs : List Value} (ho : w.ownsRow base e size v n xs) {p : Addr} (h : v.ownBlock ≠ some p.block) (u : Value) : (w.setCell p u).ownsRow base e size v n xs :=
  Fr.own (T := fun b => b = p.block) ((Fr.refl (fun b => b = p.block) w).setCell (fun _ => rfl) u) ho (fun g hg e => h (by rw [hg, e]))
theorem PrAt.fr {w w' : World} {B pb : Nat} {s : PS} {T : Nat → Prop} (h : PrAt w B pb s) (hf : Fr T w w') (hT : ∀ b, b < w.heap.size → T b → ∀ cs t fr, w.heap[b]? = some (.cells cs t fr) → t ≠ 139 ∧ t ≠ 151) : PrAt w' B pb s := by
  obtain ⟨hB, A, c, hr, ho⟩ := h
  refine ⟨hB, A, c, hf.row hr (fun ht => (hT _ (hl_lt hr) ht _ _ _ hr).1 rfl), hf.own ho (fun g hg ht => ?_)⟩
  rcases ho.2 with ⟨hv, _⟩ | ⟨g', cap, cur, hv, _, hh, _⟩
  · injection hv with e1 _ _; subst e1; simp [Value.ownBlock] at hg
  · have hgg : g' = g := by rw [hv] at hg; simpa [Value.ownBlock] using hg
    subst hgg
    exact (hT _ (hl_lt hh) ht _ _ _ hh).2 rfl
theorem PrAt.grow {w w' : World} {B pb : Nat} {s : PS} (h : PrAt w B pb s) (hb : Below w.heap.size w w') : PrAt w' B pb s :=
  h.fr (T := fun _ => False) (Fr.of_grow hb) (fun _ _ h => h.elim)
/-- Behind the stores into a block of another type. -/
theorem PrAt.at_block {w w' : World} {B pb g : Nat} {s : PS} {cs : Array Value} {t : TypeId} (h : PrAt w B pb s) (hf : Fr (fun b => b = g) w w') (hg : w.heap[g]? = some (.cells cs t (0, 0))) (h1 : t ≠ 139) (h2 : t ≠ 151) : PrAt w' B pb s :=
  h.fr hf (fun b _ e cs' t' fr' hh => by subst e; rw [hg] at hh; injection hh with hh; injection hh with _ e2 _; subst e2; exact ⟨h1, h2⟩)

set_option maxRecDepth 100000 in
set_option maxHeartbeats 2000000 in
/-- own, reading the count -/
theorem pown_count (pb B : Nat) (s : PS) (A : Option Addr) (n c : Nat) (w : World) (hp : PrAt w B pb s) (hg : s.good) :
    Calls Tryz.prog 206 #[.pointer (some ⟨pb, 0, none⟩), .int .i64 20, .slice A n c] w fun e w' => RetR (four s.lines.length) 12 0 w e w' ∧ Below w.heap.size w w' := by
  obtain ⟨hB, A1, c1, hr, ho⟩ := hp
  have hn : s.lines.length ≤ 8192 := hg.1
  obtain ⟨L, F, z⟩ := row_look hr
  generalize s.lines.length = k at *
  clear hr ho
  go_enter Tryz.func206, Tryz.ntmps206
  go_wp2_with fail
  refine name_world (P := fun W => Calls _ _ _ W _) ?_
  intro w0 hw0
  have r0 : w0.heap[w.heap.size]? = some (.cells #[.slice none 0 0, .int .i64 0, .int .i64 0] 30 (0, 0)) := by rw [hw0]; exact hl_keep (hl_new rfl)
  have o0 : w0.ownsRow w.heap.size 5 1 (.slice (some ⟨w.heap.size + 1, 0, none⟩) 4 4) 4 (Lib.byteCells (four k)) := by
    rw [hw0, four_cells k (by omega)]
    have hq : (k : Int) / 256 = (k : Int) / 256 % 256 := by omega
    rw [← hq]
    have h := own_lit1 (w.alloc (.cells #[.slice none 0 0, .int .i64 0, .int .i64 0] 30)) 5 #[Value.int .u8 ((k : Int) / 16777216), .int .u8 ((k : Int) / 65536), .int .u8 ((k : Int) / 256), .int .u8 ((k : Int) % 256)] 4 rfl (by decide)
    rw [World.size_alloc] at h
    exact own_mono h (Nat.le_succ _)
  have B0 : Below w.heap.size w w0 := by rw [hw0]; (repeat' (first | (with_reducible exact Below.refl _ _) | (with_reducible assumption) | (with_reducible refine below_drewN ?_ _) | (with_reducible refine Below.drew ?_) | (with_reducible refine Below.alloc ?_ ?_ _) | (with_reducible refine Below.setCell ?_ ?_ _) | (with_reducible refine below_row ?_ ?_ _) | (with_reducible exact Nat.le_refl _) | omega | (simp only [World.size_alloc, World.size_setCell, World.size_drew, World.size_drewN]; omega) | (simp; done) | (simp; omega)))
  have z0 := B0.size
  have O0 := Lib.hid o0
  clear hw0 o0
  refine (normal_any _ _ _ _ rfl _).mono ?_
  rintro e w1 ⟨rfl, b1⟩
  obtain ⟨L1, F1, z1⟩ := row_look (hl_grow b1 r0)
  have B1 : Below w.heap.size w w1 := B0.trans (b1.mono z0)
  have O1 := Lib.hid (own_grow O0.out b1)
  clear r0 b1 B0
  go_wp2
  refine bodyPost_ret (v := .agg #[.slice (some ⟨w.heap.size + 1, 0, none⟩) 4 4, .int .i64 12, .int .i64 0]) (by simp [results, Tryz.results206, go_sem, L1]) rfl ⟨⟨_, _, rfl, ?_⟩, by (repeat' (first | (with_reducible exact Below.refl _ _) | (with_reducible assumption) | (with_reducible refine below_drewN ?_ _) | (with_reducible refine Below.drew ?_) | (with_reducible refine Below.alloc ?_ ?_ _) | (with_reducible refine Below.setCell ?_ ?_ _) | (with_reducible refine below_row ?_ ?_ _) | (with_reducible exact Nat.le_refl _) | omega | (simp only [World.size_alloc, World.size_setCell, World.size_drew, World.size_drewN]; omega) | (simp; done) | (simp; omega)))⟩
  exact own_far (own_far (own_far O1.out (by simp [Value.ownBlock]) _) (by simp [Value.ownBlock]) _) (by simp [Value.ownBlock]) _

set_option maxRecDepth 100000 in
set_option maxHeartbeats 2000000 in
/-- own, another command -/
theorem pown_none (pb : Nat) (op : Int) (A : Option Addr) (n c : Nat) (w : World) (h20 : op ≠ 20) (hm : prMoves op = none) :
    Calls Tryz.prog 206 #[.pointer (some ⟨pb, 0, none⟩), .int .i64 op, .slice A n c] w fun e w' => RetR [] 14 128 w e w' ∧ Below w.heap.size w w' := by
  have t0 : (op == 20) = false := by rw [beq_eq_false_iff_ne]; exact h20
  have hh : (op == 1) = false ∧ (op == 9) = false ∧ (op == 17) = false ∧ (op == 25) = false ∧ (op == 137) = false ∧ (op == 11) = false ∧ (op == 19) = false ∧ (op == 27) = false ∧ (op == 139) = false := by
    simp only [beq_eq_false_iff_ne]
    refine ⟨?_, ?_, ?_, ?_, ?_, ?_, ?_, ?_, ?_⟩ <;> (rintro rfl; simp [prMoves] at hm)
  obtain ⟨t1, t9, t17, t25, t137, t11, t19, t27, t139⟩ := hh
  clear hm h20
  go_enter Tryz.func206, Tryz.ntmps206
  go_wp2_with fail
  refine (check_any _ _).mono ?_
  rintro e w1 ⟨rfl, b1⟩
  obtain ⟨r1, z1, b1'⟩ := alloc_call b1
  obtain ⟨L1, F1, _⟩ := row_look r1
  clear r1 b1
  go_wp2
  refine bodyPost_ret (v := .agg #[.slice none 0 0, .int .i64 14, .int .i64 128]) (by simp [results, Tryz.results206, go_sem, L1]) rfl ⟨⟨_, _, rfl, World.ownsRow_nil _ _ _ _⟩, by (repeat' (first | (with_reducible exact Below.refl _ _) | (with_reducible assumption) | (with_reducible refine below_drewN ?_ _) | (with_reducible refine Below.drew ?_) | (with_reducible refine Below.alloc ?_ ?_ _) | (with_reducible refine Below.setCell ?_ ?_ _) | (with_reducible refine below_row ?_ ?_ _) | (with_reducible exact Nat.le_refl _) | omega | (simp only [World.size_alloc, World.size_setCell, World.size_drew, World.size_drewN]; omega) | (simp; done) | (simp; omega)))⟩

theorem move_page (d n : Nat) (hn : n ≤ 3) : ((prMove d n / 60 + 1 : Nat) : Int) = (if 60 < ((d % 60 + 1 : Nat) : Int) + n then ((d / 60 + 1 : Nat) : Int) + 1 else ((d / 60 + 1 : Nat) : Int)) ∧
    ((prMove d n % 60 + 1 : Nat) : Int) = (if 60 < ((d % 60 + 1 : Nat) : Int) + n then ((d % 60 + 1 : Nat) : Int) + n - 60 else ((d % 60 + 1 : Nat) : Int) + n) := by
  unfold prMove
  rw [if_neg (by omega)]
  split <;> omega
theorem move_skip (d : Nat) : ((prMove d 4 / 60 + 1 : Nat) : Int) = ((d / 60 + 1 : Nat) : Int) + 1 ∧ ((prMove d 4 % 60 + 1 : Nat) : Int) = 1 := by
  unfold prMove
  rw [if_pos rfl]
  omega
set_option maxRecDepth 100000 in
/-- space, on the state -/
theorem space_st (pb : Nat) (s : PS) (n : Nat) (hn : n ≤ 3) (hd : s.down ≤ 2000000000) (w : World) (A1 : Option Addr) (c1 : Nat)
    (hr : w.heap[pb]? = some (.cells #[.int .i64 (s.sense : Int), .slice A1 s.lines.length c1, .int .i64 ((s.down / 60 + 1 : Nat) : Int), .int .i64 ((s.down % 60 + 1 : Nat) : Int)] 139 (0, 0))) :
    Calls Tryz.prog 208 #[.pointer (some ⟨pb, 0, none⟩), .int .i64 (n : Int)] w fun e w' => e = .returned (.tuple #[]) ∧
      w'.heap[pb]? = some (.cells #[.int .i64 (s.sense : Int), .slice A1 s.lines.length c1, .int .i64 (((s.move n).down / 60 + 1 : Nat) : Int), .int .i64 (((s.move n).down % 60 + 1 : Nat) : Int)] 139 (0, 0)) ∧ Fr (fun b => b = pb) w w' := by
  obtain ⟨e1, e2⟩ := move_page s.down n hn
  show Calls _ _ _ _ (fun e w' => e = .returned (.tuple #[]) ∧ w'.heap[pb]? = some (.cells #[.int .i64 (s.sense : Int), .slice A1 s.lines.length c1, .int .i64 ((prMove s.down n / 60 + 1 : Nat) : Int), .int .i64 ((prMove s.down n % 60 + 1 : Nat) : Int)] 139 (0, 0)) ∧ Fr (fun b => b = pb) w w')
  rw [e1, e2]
  exact space_any pb _ _ _ n _ w hr (by omega) (by omega) (by omega) (by omega) (by omega) (by omega)

set_option maxRecDepth 100000 in
set_option maxHeartbeats 4000000 in
/-- own, spacing and skipping -/
theorem pown_space (pb B : Nat) (s : PS) (op : Int) (k : Nat) (A : Option Addr) (n c : Nat) (w : World) (hp : PrAt w B pb s) (hd : s.down ≤ 2000000000) (hm : prMoves op = some (k, false)) :
    Calls Tryz.prog 206 #[.pointer (some ⟨pb, 0, none⟩), .int .i64 op, .slice A n c] w fun e w' => RetR [] 12 0 w e w' ∧ PrAt w' B pb (s.move k) ∧ Fr (fun b => b = pb) w w' := by
  obtain ⟨hB, A1, c1, hr, ho⟩ := hp
  have hob := own_row_ne ho hr (by decide)
  have hne : ¬ w.heap.size = pb := by have := hl_lt hr; omega
  have HO := Lib.hid ho
  have R := Lib.hid hr
  have hcase : (op = 11 ∧ k = 1) ∨ (op = 19 ∧ k = 2) ∨ (op = 27 ∧ k = 3) ∨ (op = 139 ∧ k = 4) := by
    unfold prMoves at hm
    repeat' (split at hm; first | (simp at hm; done) | skip)
    all_goals (first | (simp at hm; done) | (simp at hm; omega))
  clear hr ho hm
  have hfin : ∀ (w2 : World) (X Y : Int), X = (((s.move k).down / 60 + 1 : Nat) : Int) → Y = (((s.move k).down % 60 + 1 : Nat) : Int) → w2.heap[pb]? = some (.cells #[.int .i64 (s.sense : Int), .slice A1 s.lines.length c1, .int .i64 X, .int .i64 Y] 139 (0, 0)) → Fr (fun b => b = pb) w w2 →
      PrAt w2 B pb (s.move k) := by
    rintro w2 X Y rfl rfl h1 h2
    exact ⟨hB, A1, c1, h1, h2.own HO.out (fun g hg e => hob (hg.trans (by rw [e])))⟩
  have HF := Lib.hid hfin
  clear hfin hob
  have HS := Lib.hid (fun (m : Nat) (hm : m ≤ 3) (w' : World) h => space_st pb s m hm hd w' A1 c1 h)
  rcases hcase with ⟨rfl, rfl⟩ | ⟨rfl, rfl⟩ | ⟨rfl, rfl⟩ | ⟨rfl, rfl⟩
  · go_enter Tryz.func206, Tryz.ntmps206
    go_wp2_with fail
    refine (HS.out 1 (by omega) _ (hl_keep R.out)).mono ?_
    rintro e w1 ⟨rfl, r1, f1⟩
    have q1 := f1.row (hl_new rfl) hne
    have F1 : Fr (fun b => b = pb) w w1 := ((Fr.refl _ w).alloc _).trans f1 (fun _ _ h => h)
    go_wp2_with fail
    refine (normal_any _ _ _ _ rfl _).mono ?_
    rintro e w2 ⟨rfl, b2⟩
    have R2 := Lib.hid (hl_grow b2 r1)
    have F2 := F1.then b2
    obtain ⟨L2, F2', _⟩ := row_look (hl_grow b2 q1)
    clear r1 q1 f1 F1 b2
    go_wp2
    have hne' : pb ≠ w.heap.size := fun e => hne e.symm
    refine bodyPost_ret (v := .agg #[.slice none 0 0, .int .i64 12, .int .i64 0]) (by simp [results, Tryz.results206, go_sem, L2]) rfl ⟨⟨_, _, rfl, World.ownsRow_nil _ _ _ _⟩, ?_⟩
    have ff : Fr (fun b => b = pb) w (((w2.setCell ⟨w.heap.size, 0, none⟩ (.slice none 0 0)).setCell ⟨w.heap.size, 1, none⟩ (.int .i64 12)).setCell ⟨w.heap.size, 2, none⟩ (.int .i64 0)) := by (repeat' (first | (with_reducible exact Fr.refl _ _) | (with_reducible assumption) | (with_reducible refine Fr.drewN ?_ _) | (with_reducible refine Fr.drew ?_) | (with_reducible refine Fr.alloc ?_ _) | (refine Fr.setNew ?_ (by first | exact Nat.le_refl _ | (dsimp only; omega)) _) | (refine Fr.setCell ?_ (fun _ => by first | rfl | exact Or.inl rfl) _)))
    exact ⟨HF.out _ _ _ rfl rfl (hl_far hne' (hl_far hne' (hl_far hne' R2.out))) ff, ff⟩
  · go_enter Tryz.func206, Tryz.ntmps206
    go_wp2_with fail
    refine (HS.out 2 (by omega) _ (hl_keep R.out)).mono ?_
    rintro e w1 ⟨rfl, r1, f1⟩
    have q1 := f1.row (hl_new rfl) hne
    have F1 : Fr (fun b => b = pb) w w1 := ((Fr.refl _ w).alloc _).trans f1 (fun _ _ h => h)
    go_wp2_with fail
    refine (normal_any _ _ _ _ rfl _).mono ?_
    rintro e w2 ⟨rfl, b2⟩
    have R2 := Lib.hid (hl_grow b2 r1)
    have F2 := F1.then b2
    obtain ⟨L2, F2', _⟩ := row_look (hl_grow b2 q1)
    clear r1 q1 f1 F1 b2
    go_wp2
    have hne' : pb ≠ w.heap.size := fun e => hne e.symm
    refine bodyPost_ret (v := .agg #[.slice none 0 0, .int .i64 12, .int .i64 0]) (by simp [results, Tryz.results206, go_sem, L2]) rfl ⟨⟨_, _, rfl, World.ownsRow_nil _ _ _ _⟩, ?_⟩
    have ff : Fr (fun b => b = pb) w (((w2.setCell ⟨w.heap.size, 0, none⟩ (.slice none 0 0)).setCell ⟨w.heap.size, 1, none⟩ (.int .i64 12)).setCell ⟨w.heap.size, 2, none⟩ (.int .i64 0)) := by (repeat' (first | (with_reducible exact Fr.refl _ _) | (with_reducible assumption) | (with_reducible refine Fr.drewN ?_ _) | (with_reducible refine Fr.drew ?_) | (with_reducible refine Fr.alloc ?_ _) | (refine Fr.setNew ?_ (by first | exact Nat.le_refl _ | (dsimp only; omega)) _) | (refine Fr.setCell ?_ (fun _ => by first | rfl | exact Or.inl rfl) _)))
    exact ⟨HF.out _ _ _ rfl rfl (hl_far hne' (hl_far hne' (hl_far hne' R2.out))) ff, ff⟩
  · go_enter Tryz.func206, Tryz.ntmps206
    go_wp2_with fail
    refine (HS.out 3 (by omega) _ (hl_keep R.out)).mono ?_
    rintro e w1 ⟨rfl, r1, f1⟩
    have q1 := f1.row (hl_new rfl) hne
    have F1 : Fr (fun b => b = pb) w w1 := ((Fr.refl _ w).alloc _).trans f1 (fun _ _ h => h)
    go_wp2_with fail
    refine (normal_any _ _ _ _ rfl _).mono ?_
    rintro e w2 ⟨rfl, b2⟩
    have R2 := Lib.hid (hl_grow b2 r1)
    have F2 := F1.then b2
    obtain ⟨L2, F2', _⟩ := row_look (hl_grow b2 q1)
    clear r1 q1 f1 F1 b2
    go_wp2
    have hne' : pb ≠ w.heap.size := fun e => hne e.symm
    refine bodyPost_ret (v := .agg #[.slice none 0 0, .int .i64 12, .int .i64 0]) (by simp [results, Tryz.results206, go_sem, L2]) rfl ⟨⟨_, _, rfl, World.ownsRow_nil _ _ _ _⟩, ?_⟩
    have ff : Fr (fun b => b = pb) w (((w2.setCell ⟨w.heap.size, 0, none⟩ (.slice none 0 0)).setCell ⟨w.heap.size, 1, none⟩ (.int .i64 12)).setCell ⟨w.heap.size, 2, none⟩ (.int .i64 0)) := by (repeat' (first | (with_reducible exact Fr.refl _ _) | (with_reducible assumption) | (with_reducible refine Fr.drewN ?_ _) | (with_reducible refine Fr.drew ?_) | (with_reducible refine Fr.alloc ?_ _) | (refine Fr.setNew ?_ (by first | exact Nat.le_refl _ | (dsimp only; omega)) _) | (refine Fr.setCell ?_ (fun _ => by first | rfl | exact Or.inl rfl) _)))
    exact ⟨HF.out _ _ _ rfl rfl (hl_far hne' (hl_far hne' (hl_far hne' R2.out))) ff, ff⟩
  · obtain ⟨L, F, _⟩ := row_look R.out
    obtain ⟨m1, m2⟩ := move_skip s.down
    have M1 := Lib.hid m1
    have M2 := Lib.hid m2
    clear m1 m2
    go_enter Tryz.func206, Tryz.ntmps206
    go_wp2_with fail
    refine name_world (P := fun W => Calls _ _ _ W _) ?_
    intro w1 hw1
    have hne' : pb ≠ w.heap.size := fun e => hne e.symm
    have q1 : w1.heap[w.heap.size]? = some (.cells #[.slice none 0 0, .int .i64 0, .int .i64 0] 30 (0, 0)) := by rw [hw1]; exact hl_new (by simp)
    have r1 : w1.heap[pb]? = some (.cells #[.int .i64 (s.sense : Int), .slice A1 s.lines.length c1, .int .i64 (((s.down / 60 + 1 : Nat) : Int) + 1), .int .i64 1] 139 (0, 0)) := by
      rw [hw1]
      refine hl_keep (hl_set (cs := #[.int .i64 (s.sense : Int), .slice A1 s.lines.length c1, .int .i64 (((s.down / 60 + 1 : Nat) : Int) + 1), .int .i64 ((s.down % 60 + 1 : Nat) : Int)]) (by rfl) (hl_set ?_ R.out))
      simp
    have F1 : Fr (fun b => b = pb) w w1 := by rw [hw1]; (repeat' (first | (with_reducible exact Fr.refl _ _) | (with_reducible assumption) | (with_reducible refine Fr.drewN ?_ _) | (with_reducible refine Fr.drew ?_) | (with_reducible refine Fr.alloc ?_ _) | (refine Fr.setNew ?_ (by first | exact Nat.le_refl _ | (dsimp only; omega)) _) | (refine Fr.setCell ?_ (fun _ => by first | rfl | exact Or.inl rfl) _)))
    clear hw1
    refine (normal_any _ _ _ _ rfl _).mono ?_
    rintro e w2 ⟨rfl, b2⟩
    have R2 := Lib.hid (hl_grow b2 r1)
    have F2 := F1.then b2
    obtain ⟨L2, F2', _⟩ := row_look (hl_grow b2 q1)
    clear r1 q1 F1 b2 L F
    go_wp2
    refine bodyPost_ret (v := .agg #[.slice none 0 0, .int .i64 12, .int .i64 0]) (by simp [results, Tryz.results206, go_sem, L2]) rfl ⟨⟨_, _, rfl, World.ownsRow_nil _ _ _ _⟩, ?_⟩
    have ff : Fr (fun b => b = pb) w (((w2.setCell ⟨w.heap.size, 0, none⟩ (.slice none 0 0)).setCell ⟨w.heap.size, 1, none⟩ (.int .i64 12)).setCell ⟨w.heap.size, 2, none⟩ (.int .i64 0)) := by (repeat' (first | (with_reducible exact Fr.refl _ _) | (with_reducible assumption) | (with_reducible refine Fr.drewN ?_ _) | (with_reducible refine Fr.drew ?_) | (with_reducible refine Fr.alloc ?_ _) | (refine Fr.setNew ?_ (by first | exact Nat.le_refl _ | (dsimp only; omega)) _) | (refine Fr.setCell ?_ (fun _ => by first | rfl | exact Or.inl rfl) _)))
    exact ⟨HF.out _ _ _ M1.out.symm M2.out.symm (hl_far hne' (hl_far hne' (hl_far hne' R2.out))) ff, ff⟩

end Go.Proofs.YtlbbmfmkhmmikaaGreat.U
