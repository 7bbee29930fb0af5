/- The reference's printer: its small functions. -/
import Derived.Test.YtgklbilkfmieoaaPrAll
namespace Go.Proofs.Ytgklbilkfmieoaa
open Go.RowKit Job.Ebcdic

theorem rnormal_any (v : Value) (A : Option Addr) (n c : Nat) (hv : v = .slice A n c) (w : World) : Calls Try.prog 60 #[v] w fun e w' => e = .returned (.agg #[.slice A n c, .int .i64 12, .int .i64 0]) ∧ Below w.heap.size w w' := by
  subst hv
  go_enter Try.func60, Try.ntmps60
  go_wp2
  refine bodyPost_ret (v := .agg #[.slice A n c, .int .i64 12, .int .i64 0]) (by simp [results, Try.results60, go_sem]) rfl ⟨rfl, by (repeat' (first | (with_reducible exact Below.refl _ _) | (with_reducible assumption) | (with_reducible refine below_drewN ?_ _) | (with_reducible refine Below.drew ?_) | (with_reducible refine Below.alloc ?_ ?_ _) | (with_reducible refine Below.setCell ?_ ?_ _) | (with_reducible refine below_row ?_ ?_ _) | (with_reducible exact Nat.le_refl _) | omega | (simp only [World.size_alloc, World.size_setCell, World.size_drew, World.size_drewN]; omega) | (simp; done) | (simp; omega)))⟩
theorem rcheck_any (s : Int) (w : World) : Calls Try.prog 63 #[.int .i64 s] w fun e w' => e = .returned (.agg #[.slice none 0 0, .int .i64 14, .int .i64 s]) ∧ Below w.heap.size w w' := by
  go_enter Try.func63, Try.ntmps63
  go_wp2
  refine bodyPost_ret (v := .agg #[.slice none 0 0, .int .i64 14, .int .i64 s]) (by simp [results, Try.results63, go_sem]) rfl ⟨rfl, by (repeat' (first | (with_reducible exact Below.refl _ _) | (with_reducible assumption) | (with_reducible refine below_drewN ?_ _) | (with_reducible refine Below.drew ?_) | (with_reducible refine Below.alloc ?_ ?_ _) | (with_reducible refine Below.setCell ?_ ?_ _) | (with_reducible refine below_row ?_ ?_ _) | (with_reducible exact Nat.le_refl _) | omega | (simp only [World.size_alloc, World.size_setCell, World.size_drew, World.size_drewN]; omega) | (simp; done) | (simp; omega)))⟩
theorem rfour_any (k : Nat) (hk : k ≤ 16777215) (w : World) : Calls Try.prog 61 #[.int .i64 (k : Int)] w fun e w' => ∃ A c, e = .returned (.slice A 4 c) ∧ w'.ownsRow w.heap.size 5 1 (.slice A 4 c) 4 (Lib.byteCells (four k)) ∧ Below w.heap.size w w' := by
  go_enter Try.func61, Try.ntmps61
  go_wp2
  go_ret
  refine ⟨_, _, rfl, ?_, by (repeat' (first | (with_reducible exact Below.refl _ _) | (with_reducible assumption) | (with_reducible refine below_drewN ?_ _) | (with_reducible refine Below.drew ?_) | (with_reducible refine Below.alloc ?_ ?_ _) | (with_reducible refine Below.setCell ?_ ?_ _) | (with_reducible refine below_row ?_ ?_ _) | (with_reducible exact Nat.le_refl _) | omega | (simp only [World.size_alloc, World.size_setCell, World.size_drew, World.size_drewN]; omega) | (simp; done) | (simp; omega)))⟩
  have h := own_lit1 w 5 #[Value.int .u8 ((k : Int) / 16777216), .int .u8 ((k : Int) / 65536), .int .u8 ((k : Int) / 256 % 256), .int .u8 ((k : Int) % 256)] 4 rfl (by decide)
  rw [four_cells k hk]
  exact h
/-- all, on the state -/
def rall (op : Int) (sense : Nat) : Option (List UInt8) := if op = 3 then some [] else if op = 4 then some [UInt8.ofNat sense] else none
set_option maxHeartbeats 1000000 in
theorem rall_no (op : Int) (x : Int) (h3 : op ≠ 3) (h4 : op ≠ 4) (w : World) : Calls Try.prog 50 #[.int .i64 op, .int .i64 x] w fun e w' => e = .returned (.tuple #[.agg #[.slice none 0 0, .int .i64 0, .int .i64 0], .bool false]) ∧ Below w.heap.size w w' := by
  have t3 : (op == 3) = false := by rw [beq_eq_false_iff_ne]; exact h3
  have t4 : (op == 4) = false := by rw [beq_eq_false_iff_ne]; exact h4
  go_enter Try.func50, Try.ntmps50
  go_wp2
  refine bodyPost_ret (v := .tuple #[.agg #[.slice none 0 0, .int .i64 0, .int .i64 0], .bool false]) (by simp [results, Try.results50, go_sem]) rfl ⟨rfl, by (repeat' (first | (with_reducible exact Below.refl _ _) | (with_reducible assumption) | (with_reducible refine below_drewN ?_ _) | (with_reducible refine Below.drew ?_) | (with_reducible refine Below.alloc ?_ ?_ _) | (with_reducible refine Below.setCell ?_ ?_ _) | (with_reducible refine below_row ?_ ?_ _) | (with_reducible exact Nat.le_refl _) | omega | (simp only [World.size_alloc, World.size_setCell, World.size_drew, World.size_drewN]; omega) | (simp; done) | (simp; omega)))⟩
set_option maxHeartbeats 1000000 in
theorem rall_3 (x : Int) (w : World) : Calls Try.prog 50 #[.int .i64 3, .int .i64 x] w fun e w' => e = .returned (.tuple #[.agg #[.slice none 0 0, .int .i64 12, .int .i64 0], .bool true]) ∧ Below w.heap.size w w' := by
  go_enter Try.func50, Try.ntmps50
  go_wp2_with fail
  refine (rnormal_any _ _ _ _ rfl _).mono ?_
  rintro e w1 ⟨rfl, b1⟩
  obtain ⟨r1, z1, b1'⟩ := alloc_call b1
  obtain ⟨L1, F1, _⟩ := row_look r1
  clear r1 b1
  go_wp2
  refine bodyPost_ret (v := .tuple #[.agg #[.slice none 0 0, .int .i64 12, .int .i64 0], .bool true]) (by simp [results, Try.results50, go_sem, L1]) rfl ⟨rfl, by (repeat' (first | (with_reducible exact Below.refl _ _) | (with_reducible assumption) | (with_reducible refine below_drewN ?_ _) | (with_reducible refine Below.drew ?_) | (with_reducible refine Below.alloc ?_ ?_ _) | (with_reducible refine Below.setCell ?_ ?_ _) | (with_reducible refine below_row ?_ ?_ _) | (with_reducible exact Nat.le_refl _) | omega | (simp only [World.size_alloc, World.size_setCell, World.size_drew, World.size_drewN]; omega) | (simp; done) | (simp; omega)))⟩
set_option maxHeartbeats 1000000 in
theorem rall_4 (s : Nat) (hs : s < 256) (w : World) : Calls Try.prog 50 #[.int .i64 4, .int .i64 (s : Int)] w fun e w' => ∃ A c, e = .returned (.tuple #[.agg #[.slice A 1 c, .int .i64 12, .int .i64 0], .bool true]) ∧ w'.ownsRow w.heap.size 5 1 (.slice A 1 c) 1 (Lib.byteCells [UInt8.ofNat s]) ∧ Below w.heap.size w w' := by
  have hc : Lib.byteCells [UInt8.ofNat s] = [Value.int .u8 (s : Int)] := by simp only [Lib.byteCells, List.map_cons, List.map_nil]; rw [UInt8.toNat_ofNat', Nat.mod_eq_of_lt (by omega)]
  rw [hc]
  clear hc
  go_enter Try.func50, Try.ntmps50
  go_wp2_with fail
  refine name_world (P := fun W => Calls _ _ _ W _) ?_
  intro w0 hw0
  have r0 : w0.heap[w.heap.size]? = some (.cells #[.slice none 0 0, .int .i64 0, .int .i64 0] 36 (0, 0)) := by rw [hw0]; exact hl_keep (hl_new rfl)
  have o0 : w0.ownsRow w.heap.size 5 1 (.slice (some ⟨w.heap.size + 1, 0, none⟩) 1 1) 1 [Value.int .u8 (s : Int)] := by
    rw [hw0]
    have h := own_lit1 (w.alloc (.cells #[.slice none 0 0, .int .i64 0, .int .i64 0] 36)) 5 #[Value.int .u8 (s : Int)] 1 rfl (by decide)
    rw [World.size_alloc] at h
    exact own_mono h (Nat.le_succ _)
  have B0 : Below w.heap.size w w0 := by rw [hw0]; (repeat' (first | (with_reducible exact Below.refl _ _) | (with_reducible assumption) | (with_reducible refine below_drewN ?_ _) | (with_reducible refine Below.drew ?_) | (with_reducible refine Below.alloc ?_ ?_ _) | (with_reducible refine Below.setCell ?_ ?_ _) | (with_reducible refine below_row ?_ ?_ _) | (with_reducible exact Nat.le_refl _) | omega | (simp only [World.size_alloc, World.size_setCell, World.size_drew, World.size_drewN]; omega) | (simp; done) | (simp; omega)))
  have z0 := B0.size
  have O0 := Lib.hid o0
  clear hw0 o0
  refine (rnormal_any _ _ _ _ rfl _).mono ?_
  rintro e w1 ⟨rfl, b1⟩
  obtain ⟨L1, F1, z1⟩ := row_look (hl_grow b1 r0)
  have B1 : Below w.heap.size w w1 := B0.trans (b1.mono z0)
  have O1 := Lib.hid (own_grow O0.out b1)
  clear r0 b1 B0
  go_wp2
  refine bodyPost_ret (v := .tuple #[.agg #[.slice (some ⟨w.heap.size + 1, 0, none⟩) 1 1, .int .i64 12, .int .i64 0], .bool true]) (by simp [results, Try.results50, go_sem, L1]) rfl ⟨_, _, rfl, ?_, by (repeat' (first | (with_reducible exact Below.refl _ _) | (with_reducible assumption) | (with_reducible refine below_drewN ?_ _) | (with_reducible refine Below.drew ?_) | (with_reducible refine Below.alloc ?_ ?_ _) | (with_reducible refine Below.setCell ?_ ?_ _) | (with_reducible refine below_row ?_ ?_ _) | (with_reducible exact Nat.le_refl _) | omega | (simp only [World.size_alloc, World.size_setCell, World.size_drew, World.size_drewN]; omega) | (simp; done) | (simp; omega)))⟩
  exact own_far (own_far (own_far O1.out (by simp [Value.ownBlock]) _) (by simp [Value.ownBlock]) _) (by simp [Value.ownBlock]) _

def movesV (op : Int) : Int × Bool := match prMoves op with | none => (-1, false) | some (n, b) => ((n : Int), b)
set_option maxHeartbeats 2000000 in
theorem moves_any (op : Int) (w : World) : Calls Try.prog 62 #[.int .i64 op] w fun e w' => e = .returned (.tuple #[.int .i64 (movesV op).1, .bool (movesV op).2]) ∧ w = w' := by
  go_enter Try.func62, Try.ntmps62
  go_wp2
  all_goals go_ret2
  all_goals refine ⟨?_, rfl⟩
  all_goals simp only [beq_iff_eq, beq_eq_false_iff_ne] at *
  all_goals first
    | (subst_vars; rfl)
    | (unfold movesV prMoves; simp [*])

/-- The reference's printer at block qb shows the state. -/
def QrAt (w : World) (B qb : Nat) (s : PS) : Prop :=
  B ≤ qb ∧ ∃ A c, w.heap[qb]? = some (.cells #[.slice A s.lines.length c, .int .i64 (s.down : Int), .int .i64 (s.sense : Int)] 30 (0, 0)) ∧
    w.ownsRow B 46 3 (.slice A s.lines.length c) s.lines.length (s.lines.flatMap lineCells)
def QrT (w : World) (B qb : Nat) (b : Nat) : Prop := b = qb ∨ B ≤ b ∧ OfT w 46 b
theorem QrT.back {w w' : World} {B pb : Nat} (hb : Below w.heap.size w w') : ∀ b, b < w.heap.size → QrT w' B pb b → QrT w B pb b := by
  rintro b hlt (h | ⟨h1, cs, fr, h⟩)
  · exact Or.inl h
  · exact Or.inr ⟨h1, cs, fr, (hb.block b hlt).symm.trans h⟩
theorem QrAt.fr {w w' : World} {B pb : Nat} {s : PS} {T : Nat → Prop} (h : QrAt w B pb s) (hf : Fr T w w') (hT : ∀ b, b < w.heap.size → T b → ∀ cs t fr, w.heap[b]? = some (.cells cs t fr) → t ≠ 30 ∧ t ≠ 46) : QrAt w' B pb s := by
  obtain ⟨hB, A, c, hr, ho⟩ := h
  refine ⟨hB, A, c, hf.row hr (fun ht => (hT _ (hl_lt hr) ht _ _ _ hr).1 rfl), hf.own ho (fun g hg ht => ?_)⟩
  rcases ho.2 with ⟨hv, _⟩ | ⟨g', cap, cur, hv, _, hh, _⟩
  · injection hv with e1 _ _; subst e1; simp [Value.ownBlock] at hg
  · have hgg : g' = g := by rw [hv] at hg; simpa [Value.ownBlock] using hg
    subst hgg
    exact (hT _ (hl_lt hh) ht _ _ _ hh).2 rfl
theorem QrAt.grow {w w' : World} {B pb : Nat} {s : PS} (h : QrAt w B pb s) (hb : Below w.heap.size w w') : QrAt w' B pb s :=
  h.fr (T := fun _ => False) (Fr.of_grow hb) (fun _ _ h => h.elim)
theorem QrAt.at_block {w w' : World} {B pb g : Nat} {s : PS} {cs : Array Value} {t : TypeId} (h : QrAt w B pb s) (hf : Fr (fun b => b = g) w w') (hg : w.heap[g]? = some (.cells cs t (0, 0))) (h1 : t ≠ 30) (h2 : t ≠ 46) : QrAt w' B pb s :=
  h.fr hf (fun b _ e cs' t' fr' hh => by subst e; rw [hg] at hh; injection hh with hh; injection hh with _ e2 _; subst e2; exact ⟨h1, h2⟩)
theorem rlineElem : Elem Try.prog 28 46 (.agg #[.int .i64 0, .int .i64 0, .string ⟨#[]⟩]) 3 32 := ⟨Try.underlying28, by kernel_rfl, rfl, by omega⟩

set_option maxHeartbeats 1000000 in
theorem rpat_any (qb B : Nat) (s : PS) (hd : s.down ≤ 2000000000) (w : World) (hp : QrAt w B qb s) :
    Calls Try.prog 20 #[.pointer (some ⟨qb, 0, none⟩)] w fun e w' => e = .returned (.tuple #[.int .i64 ((s.down / 60 + 1 : Nat) : Int), .int .i64 ((s.down % 60 + 1 : Nat) : Int)]) ∧ Still w w' := by
  obtain ⟨hB, A1, c1, hr, ho⟩ := hp
  obtain ⟨L, F, z⟩ := row_look hr
  have c2 : w.cell? ⟨qb, 1, none⟩ = some (.int .i64 (s.down : Int)) := L 1
  have e1 : ((s.down / 60 + 1 : Nat) : Int) = (s.down : Int) / 60 + 1 := by omega
  have e2 : ((s.down % 60 + 1 : Nat) : Int) = (s.down : Int) % 60 + 1 := by omega
  rw [e1, e2]
  have hw1 : IntKind.i64.wrap ((s.down : Int) / 60 + 1) = (s.down : Int) / 60 + 1 := by rw [IntKind.wrap_i64]; omega
  have hw2 : IntKind.i64.wrap ((s.down : Int) % 60 + 1) = (s.down : Int) % 60 + 1 := by rw [IntKind.wrap_i64]; omega
  have hn : (0 : Int) ≤ (s.down : Int) := by omega
  clear L F hr ho e1 e2
  go_enter Try.func20, Try.ntmps20
  go_wp2
  go_quiet (fail)
  go_wp2
  go_ret2
  exact ⟨rfl, by first | exact still_1 _ _ | exact still_2 _ _ _⟩
set_option maxHeartbeats 1000000 in
theorem rmove_any (qb : Nat) (d n : Nat) (hd : d ≤ 2000000000) (hn : n ≤ 4) (v x : Value) (w : World) (hr : w.heap[qb]? = some (.cells #[v, .int .i64 (d : Int), x] 30 (0, 0))) :
    Calls Try.prog 65 #[.pointer (some ⟨qb, 0, none⟩), .int .i64 (n : Int)] w fun e w' => e = .returned (.tuple #[]) ∧
      w'.heap[qb]? = some (.cells #[v, .int .i64 ((prMove d n : Nat) : Int), x] 30 (0, 0)) ∧ Fr (fun b => b = qb) w w' := by
  obtain ⟨L, F, z⟩ := row_look hr
  have R := Lib.hid hr
  clear hr
  by_cases h4 : n = 4
  · subst h4
    have e1 : ((prMove d 4 : Nat) : Int) = (d : Int) + (60 - (d : Int) % 60) := by unfold prMove; rw [if_pos rfl]; omega
    rw [e1]
    clear e1
    go_enter Try.func65, Try.ntmps65
    go_wp2
    go_end0
    exact ⟨rfl, hl_set (by rfl) R.out, (Fr.refl (fun b => b = qb) w).setCell (fun _ => rfl) _⟩
  · have e1 : ((prMove d n : Nat) : Int) = (d : Int) + (n : Int) := by unfold prMove; rw [if_neg h4]; omega
    rw [e1]
    have t4 : ((n : Int) == 4) = false := by rw [beq_eq_false_iff_ne]; omega
    clear e1 h4
    go_enter Try.func65, Try.ntmps65
    go_wp2
    go_end0
    exact ⟨rfl, hl_set (by rfl) R.out, (Fr.refl (fun b => b = qb) w).setCell (fun _ => rfl) _⟩
end Go.Proofs.Ytgklbilkfmieoaa
