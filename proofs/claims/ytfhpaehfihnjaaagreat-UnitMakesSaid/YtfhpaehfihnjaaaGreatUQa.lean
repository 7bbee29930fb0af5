/- UQr, UQrA, UQun, URq. -/
import Derived.Test.YtfhpaehfihnjaaaGreatUPa
import Derived.Test.YtfhpaehfihnjaaaGreatUPrS
import Derived.Test.YtfhpaehfihnjaaaGreatURa
set_option maxRecDepth 100000
namespace Go.Proofs.YtfhpaehfihnjaaaGreat.U
open Go.RowKit Job.Ebcdic
theorem rnormal_any (v : Value) (A : Option Addr) (n c : Nat) (hv : v = .slice A n c) (w : World) : Calls Tryz.prog 136 #[v] w fun e w' => e = .returned (.agg #[.slice A n c, .int .i64 12, .int .i64 0]) ∧ Below w.heap.size w w' := by
  subst hv
  go_enter Tryz.func136, Tryz.ntmps136
  go_wp2
  refine bodyPost_ret (v := .agg #[.slice A n c, .int .i64 12, .int .i64 0]) (by simp [results, Tryz.results136, go_sem]) rfl ⟨rfl, by (repeat' (first | (with_reducible exact Below.refl _ _) | (with_reducible assumption) | (with_reducible refine below_drewN ?_ _) | (with_reducible refine Below.drew ?_) | (with_reducible refine Below.alloc ?_ ?_ _) | (with_reducible refine Below.setCell ?_ ?_ _) | (with_reducible refine below_row ?_ ?_ _) | (with_reducible exact Nat.le_refl _) | omega | (simp only [World.size_alloc, World.size_setCell, World.size_drew, World.size_drewN]; omega) | (simp; done) | (simp; omega)))⟩
theorem rcheck_any (s : Int) (w : World) : Calls Tryz.prog 137 #[.int .i64 s] w fun e w' => e = .returned (.agg #[.slice none 0 0, .int .i64 14, .int .i64 s]) ∧ Below w.heap.size w w' := by
  go_enter Tryz.func137, Tryz.ntmps137
  go_wp2
  refine bodyPost_ret (v := .agg #[.slice none 0 0, .int .i64 14, .int .i64 s]) (by simp [results, Tryz.results137, go_sem]) rfl ⟨rfl, by (repeat' (first | (with_reducible exact Below.refl _ _) | (with_reducible assumption) | (with_reducible refine below_drewN ?_ _) | (with_reducible refine Below.drew ?_) | (with_reducible refine Below.alloc ?_ ?_ _) | (with_reducible refine Below.setCell ?_ ?_ _) | (with_reducible refine below_row ?_ ?_ _) | (with_reducible exact Nat.le_refl _) | omega | (simp only [World.size_alloc, World.size_setCell, World.size_drew, World.size_drewN]; omega) | (simp; done) | (simp; omega)))⟩
theorem rfour_any (k : Nat) (hk : k ≤ 16777215) (w : World) : Calls Tryz.prog 138 #[.int .i64 (k : Int)] w fun e w' => ∃ A c, e = .returned (.slice A 4 c) ∧ w'.ownsRow w.heap.size 5 1 (.slice A 4 c) 4 (Lib.byteCells (four k)) ∧ Below w.heap.size w w' := by
  go_enter Tryz.func138, Tryz.ntmps138
  go_wp2
  go_ret
  refine ⟨_, _, rfl, ?_, by (repeat' (first | (with_reducible exact Below.refl _ _) | (with_reducible assumption) | (with_reducible refine below_drewN ?_ _) | (with_reducible refine Below.drew ?_) | (with_reducible refine Below.alloc ?_ ?_ _) | (with_reducible refine Below.setCell ?_ ?_ _) | (with_reducible refine below_row ?_ ?_ _) | (with_reducible exact Nat.le_refl _) | omega | (simp only [World.size_alloc, World.size_setCell, World.size_drew, World.size_drewN]; omega) | (simp; done) | (simp; omega)))⟩
  have h := own_lit1 w 5 #[Value.int .u8 ((k : Int) / 16777216), .int .u8 ((k : Int) / 65536), .int .u8 ((k : Int) / 256 % 256), .int .u8 ((k : Int) % 256)] 4 rfl (by decide)
  rw [four_cells k hk]
  exact h
def rall (op : Int) (sense : Nat) : Option (List UInt8) := if op = 3 then some [] else if op = 4 then some [UInt8.ofNat sense] else none
set_option maxHeartbeats 1000000 in
theorem rall_no (op : Int) (x : Int) (h3 : op ≠ 3) (h4 : op ≠ 4) (w : World) : Calls Tryz.prog 112 #[.int .i64 op, .int .i64 x] w fun e w' => e = .returned (.tuple #[.agg #[.slice none 0 0, .int .i64 0, .int .i64 0], .bool false]) ∧ Below w.heap.size w w' := by
  have t3 : (op == 3) = false := by rw [beq_eq_false_iff_ne]; exact h3
  have t4 : (op == 4) = false := by rw [beq_eq_false_iff_ne]; exact h4
  go_enter Tryz.func112, Tryz.ntmps112
  go_wp2
  refine bodyPost_ret (v := .tuple #[.agg #[.slice none 0 0, .int .i64 0, .int .i64 0], .bool false]) (by simp [results, Tryz.results112, go_sem]) rfl ⟨rfl, by (repeat' (first | (with_reducible exact Below.refl _ _) | (with_reducible assumption) | (with_reducible refine below_drewN ?_ _) | (with_reducible refine Below.drew ?_) | (with_reducible refine Below.alloc ?_ ?_ _) | (with_reducible refine Below.setCell ?_ ?_ _) | (with_reducible refine below_row ?_ ?_ _) | (with_reducible exact Nat.le_refl _) | omega | (simp only [World.size_alloc, World.size_setCell, World.size_drew, World.size_drewN]; omega) | (simp; done) | (simp; omega)))⟩
set_option maxHeartbeats 1000000 in
theorem rall_3 (x : Int) (w : World) : Calls Tryz.prog 112 #[.int .i64 3, .int .i64 x] w fun e w' => e = .returned (.tuple #[.agg #[.slice none 0 0, .int .i64 12, .int .i64 0], .bool true]) ∧ Below w.heap.size w w' := by
  go_enter Tryz.func112, Tryz.ntmps112
  go_wp2_with fail
  refine (rnormal_any _ _ _ _ rfl _).mono ?_
  rintro e w1 ⟨rfl, b1⟩
  obtain ⟨r1, z1, b1'⟩ := alloc_call b1
  obtain ⟨L1, F1, _⟩ := row_look r1
  clear r1 b1
  go_wp2
  refine bodyPost_ret (v := .tuple #[.agg #[.slice none 0 0, .int .i64 12, .int .i64 0], .bool true]) (by simp [results, Tryz.results112, go_sem, L1]) rfl ⟨rfl, by (repeat' (first | (with_reducible exact Below.refl _ _) | (with_reducible assumption) | (with_reducible refine below_drewN ?_ _) | (with_reducible refine Below.drew ?_) | (with_reducible refine Below.alloc ?_ ?_ _) | (with_reducible refine Below.setCell ?_ ?_ _) | (with_reducible refine below_row ?_ ?_ _) | (with_reducible exact Nat.le_refl _) | omega | (simp only [World.size_alloc, World.size_setCell, World.size_drew, World.size_drewN]; omega) | (simp; done) | (simp; omega)))⟩
set_option maxHeartbeats 1000000 in
theorem rall_4 (s : Nat) (hs : s < 256) (w : World) : Calls Tryz.prog 112 #[.int .i64 4, .int .i64 (s : Int)] w fun e w' => ∃ A c, e = .returned (.tuple #[.agg #[.slice A 1 c, .int .i64 12, .int .i64 0], .bool true]) ∧ w'.ownsRow w.heap.size 5 1 (.slice A 1 c) 1 (Lib.byteCells [UInt8.ofNat s]) ∧ Below w.heap.size w w' := by
  have hc : Lib.byteCells [UInt8.ofNat s] = [Value.int .u8 (s : Int)] := by simp only [Lib.byteCells, List.map_cons, List.map_nil]; rw [UInt8.toNat_ofNat', Nat.mod_eq_of_lt (by omega)]
  rw [hc]
  clear hc
  go_enter Tryz.func112, Tryz.ntmps112
  go_wp2_with fail
  refine name_world (P := fun W => Calls _ _ _ W _) ?_
  intro w0 hw0
  have r0 : w0.heap[w.heap.size]? = some (.cells #[.slice none 0 0, .int .i64 0, .int .i64 0] 55 (0, 0)) := by rw [hw0]; exact hl_keep (hl_new rfl)
  have o0 : w0.ownsRow w.heap.size 5 1 (.slice (some ⟨w.heap.size + 1, 0, none⟩) 1 1) 1 [Value.int .u8 (s : Int)] := by
    rw [hw0]
    have h := own_lit1 (w.alloc (.cells #[.slice none 0 0, .int .i64 0, .int .i64 0] 55)) 5 #[Value.int .u8 (s : Int)] 1 rfl (by decide)
    rw [World.size_alloc] at h
    exact own_mono h (Nat.le_succ _)
  have B0 : Below w.heap.size w w0 := by rw [hw0]; (repeat' (first | (with_reducible exact Below.refl _ _) | (with_reducible assumption) | (with_reducible refine below_drewN ?_ _) | (with_reducible refine Below.drew ?_) | (with_reducible refine Below.alloc ?_ ?_ _) | (with_reducible refine Below.setCell ?_ ?_ _) | (with_reducible refine below_row ?_ ?_ _) | (with_reducible exact Nat.le_refl _) | omega | (simp only [World.size_alloc, World.size_setCell, World.size_drew, World.size_drewN]; omega) | (simp; done) | (simp; omega)))
  have z0 := B0.size
  have O0 := Lib.hid o0
  clear hw0 o0
  refine (rnormal_any _ _ _ _ rfl _).mono ?_
  rintro e w1 ⟨rfl, b1⟩
  obtain ⟨L1, F1, z1⟩ := row_look (hl_grow b1 r0)
  have B1 : Below w.heap.size w w1 := B0.trans (b1.mono z0)
  have O1 := Lib.hid (own_grow O0.out b1)
  clear r0 b1 B0
  go_wp2
  refine bodyPost_ret (v := .tuple #[.agg #[.slice (some ⟨w.heap.size + 1, 0, none⟩) 1 1, .int .i64 12, .int .i64 0], .bool true]) (by simp [results, Tryz.results112, go_sem, L1]) rfl ⟨_, _, rfl, ?_, by (repeat' (first | (with_reducible exact Below.refl _ _) | (with_reducible assumption) | (with_reducible refine below_drewN ?_ _) | (with_reducible refine Below.drew ?_) | (with_reducible refine Below.alloc ?_ ?_ _) | (with_reducible refine Below.setCell ?_ ?_ _) | (with_reducible refine below_row ?_ ?_ _) | (with_reducible exact Nat.le_refl _) | omega | (simp only [World.size_alloc, World.size_setCell, World.size_drew, World.size_drewN]; omega) | (simp; done) | (simp; omega)))⟩
  exact own_far (own_far (own_far O1.out (by simp [Value.ownBlock]) _) (by simp [Value.ownBlock]) _) (by simp [Value.ownBlock]) _
def movesV (op : Int) : Int × Bool := match prMoves op with | none => (-1, false) | some (n, b) => ((n : Int), b)
set_option maxHeartbeats 2000000 in
theorem moves_any (op : Int) (w : World) : Calls Tryz.prog 139 #[.int .i64 op] w fun e w' => e = .returned (.tuple #[.int .i64 (movesV op).1, .bool (movesV op).2]) ∧ w = w' := by
  go_enter Tryz.func139, Tryz.ntmps139
  go_wp2
  all_goals go_ret2
  all_goals refine ⟨?_, rfl⟩
  all_goals simp only [beq_iff_eq, beq_eq_false_iff_ne] at *
  all_goals first
    | (subst_vars; rfl)
    | (unfold movesV prMoves; simp [*])
def QrAt (w : World) (B qb : Nat) (s : PS) : Prop :=
  B ≤ qb ∧ ∃ A c, w.heap[qb]? = some (.cells #[.slice A s.lines.length c, .int .i64 (s.down : Int), .int .i64 (s.sense : Int)] 105 (0, 0)) ∧
    w.ownsRow B 108 3 (.slice A s.lines.length c) s.lines.length (s.lines.flatMap lineCells)
def QrT (w : World) (B qb : Nat) (b : Nat) : Prop := b = qb ∨ B ≤ b ∧ OfT w 108 b
theorem QrT.back {w w' : World} {B pb : Nat} (hb : Below w.heap.size w w') : ∀ b, b < w.heap.size → QrT w' B pb b → QrT w B pb b := by
  rintro b hlt (h | ⟨h1, cs, fr, h⟩)
  · exact Or.inl h
  · exact Or.inr ⟨h1, cs, fr, (hb.block b hlt).symm.trans h⟩
theorem QrAt.fr {w w' : World} {B pb : Nat} {s : PS} {T : Nat → Prop} (h : QrAt w B pb s) (hf : Fr T w w') (hT : ∀ b, b < w.heap.size → T b → ∀ cs t fr, w.heap[b]? = some (.cells cs t fr) → t ≠ 105 ∧ t ≠ 108) : QrAt w' B pb s := by
  obtain ⟨hB, A, c, hr, ho⟩ := h
  refine ⟨hB, A, c, hf.row hr (fun ht => (hT _ (hl_lt hr) ht _ _ _ hr).1 rfl), hf.own ho (fun g hg ht => ?_)⟩
  rcases ho.2 with ⟨hv, _⟩ | ⟨g', cap, cur, hv, _, hh, _⟩
  · injection hv with e1 _ _; subst e1; simp [Value.ownBlock] at hg
  · have hgg : g' = g := by rw [hv] at hg; simpa [Value.ownBlock] using hg
    subst hgg
    exact (hT _ (hl_lt hh) ht _ _ _ hh).2 rfl
theorem QrAt.grow {w w' : World} {B pb : Nat} {s : PS} (h : QrAt w B pb s) (hb : Below w.heap.size w w') : QrAt w' B pb s :=
  h.fr (T := fun _ => False) (Fr.of_grow hb) (fun _ _ h => h.elim)
theorem QrAt.at_block {w w' : World} {B pb g : Nat} {s : PS} {cs : Array Value} {t : TypeId} (h : QrAt w B pb s) (hf : Fr (fun b => b = g) w w') (hg : w.heap[g]? = some (.cells cs t (0, 0))) (h1 : t ≠ 105) (h2 : t ≠ 108) : QrAt w' B pb s :=
  h.fr hf (fun b _ e cs' t' fr' hh => by subst e; rw [hg] at hh; injection hh with hh; injection hh with _ e2 _; subst e2; exact ⟨h1, h2⟩)
theorem rlineElem : Elem Tryz.prog 103 108 (.agg #[.int .i64 0, .int .i64 0, .string ⟨#[]⟩]) 3 32 := ⟨Tryz.underlying103, by kernel_rfl, rfl, by omega⟩
set_option maxHeartbeats 1000000 in
theorem rpat_any (qb B : Nat) (s : PS) (hd : s.down ≤ 2000000000) (w : World) (hp : QrAt w B qb s) :
    Calls Tryz.prog 39 #[.pointer (some ⟨qb, 0, none⟩)] w fun e w' => e = .returned (.tuple #[.int .i64 ((s.down / 60 + 1 : Nat) : Int), .int .i64 ((s.down % 60 + 1 : Nat) : Int)]) ∧ Still w w' := by
  obtain ⟨hB, A1, c1, hr, ho⟩ := hp
  obtain ⟨L, F, z⟩ := row_look hr
  have c2 : w.cell? ⟨qb, 1, none⟩ = some (.int .i64 (s.down : Int)) := L 1
  have e1 : ((s.down / 60 + 1 : Nat) : Int) = (s.down : Int) / 60 + 1 := by omega
  have e2 : ((s.down % 60 + 1 : Nat) : Int) = (s.down : Int) % 60 + 1 := by omega
  rw [e1, e2]
  have hw1 : IntKind.i64.wrap ((s.down : Int) / 60 + 1) = (s.down : Int) / 60 + 1 := by rw [IntKind.wrap_i64]; omega
  have hw2 : IntKind.i64.wrap ((s.down : Int) % 60 + 1) = (s.down : Int) % 60 + 1 := by rw [IntKind.wrap_i64]; omega
  have hn : (0 : Int) ≤ (s.down : Int) := by omega
  clear L F hr ho e1 e2
  go_enter Tryz.func39, Tryz.ntmps39
  go_wp2
  go_quiet (fail)
  go_wp2
  go_ret2
  exact ⟨rfl, by first | exact still_1 _ _ | exact still_2 _ _ _⟩
set_option maxHeartbeats 1000000 in
theorem rmove_any (qb : Nat) (d n : Nat) (hd : d ≤ 2000000000) (hn : n ≤ 4) (v x : Value) (w : World) (hr : w.heap[qb]? = some (.cells #[v, .int .i64 (d : Int), x] 105 (0, 0))) :
    Calls Tryz.prog 141 #[.pointer (some ⟨qb, 0, none⟩), .int .i64 (n : Int)] w fun e w' => e = .returned (.tuple #[]) ∧
      w'.heap[qb]? = some (.cells #[v, .int .i64 ((prMove d n : Nat) : Int), x] 105 (0, 0)) ∧ Fr (fun b => b = qb) w w' := by
  obtain ⟨L, F, z⟩ := row_look hr
  have R := Lib.hid hr
  clear hr
  by_cases h4 : n = 4
  · subst h4
    have e1 : ((prMove d 4 : Nat) : Int) = (d : Int) + (60 - (d : Int) % 60) := by unfold prMove; rw [if_pos rfl]; omega
    rw [e1]
    clear e1
    go_enter Tryz.func141, Tryz.ntmps141
    go_wp2
    go_end0
    exact ⟨rfl, hl_set (by rfl) R.out, (Fr.refl (fun b => b = qb) w).setCell (fun _ => rfl) _⟩
  · have e1 : ((prMove d n : Nat) : Int) = (d : Int) + (n : Int) := by unfold prMove; rw [if_neg h4]; omega
    rw [e1]
    have t4 : ((n : Int) == 4) = false := by rw [beq_eq_false_iff_ne]; omega
    clear e1 h4
    go_enter Tryz.func141, Tryz.ntmps141
    go_wp2
    go_end0
    exact ⟨rfl, hl_set (by rfl) R.out, (Fr.refl (fun b => b = qb) w).setCell (fun _ => rfl) _⟩
end Go.Proofs.YtfhpaehfihnjaaaGreat.U
namespace Go.Proofs.YtfhpaehfihnjaaaGreat.U
open Go.RowKit Job.Ebcdic
def qprintS (qb : Nat) (s : PS) : SA := fun h => ∃ p : Option Addr × Nat, True ∧ star [cel qb #[.slice p.1 s.lines.length p.2, .int .i64 (s.down : Int), .int .i64 (s.sense : Int)] 105, rowS 108 3 (.slice p.1 s.lines.length p.2) s.lines.length (s.lines.flatMap lineCells)] h
section
variable {W w : World} {F : List SA} {qb : Nat} {s : PS}
theorem qprintS_open (S : SL W (qprintS qb s :: F) w) : ∃ A c, SL W (cel qb #[.slice A s.lines.length c, .int .i64 (s.down : Int), .int .i64 (s.sense : Int)] 105 :: rowS 108 3 (.slice A s.lines.length c) s.lines.length (s.lines.flatMap lineCells) :: F) w := by
  obtain ⟨p, _, h⟩ := S.unpack (α := Option Addr × Nat) (φ := fun _ => True) (K := fun p => [cel qb #[.slice p.1 s.lines.length p.2, .int .i64 (s.down : Int), .int .i64 (s.sense : Int)] 105, rowS 108 3 (.slice p.1 s.lines.length p.2) s.lines.length (s.lines.flatMap lineCells)]) (fun h p => p)
  exact ⟨p.1, p.2, h⟩
theorem qprintS_close {A : Option Addr} {c : Nat} (S : SL W (cel qb #[.slice A s.lines.length c, .int .i64 (s.down : Int), .int .i64 (s.sense : Int)] 105 :: rowS 108 3 (.slice A s.lines.length c) s.lines.length (s.lines.flatMap lineCells) :: F) w) : SL W (qprintS qb s :: F) w :=
  SL.pack (L := [cel qb #[.slice A s.lines.length c, .int .i64 (s.down : Int), .int .i64 (s.sense : Int)] 105, rowS 108 3 (.slice A s.lines.length c) s.lines.length (s.lines.flatMap lineCells)]) S fun _ h => ⟨(A, c), trivial, h⟩
theorem qprintS_at (S : SL W (qprintS qb s :: F) w) : QrAt w W.heap.size qb s := by
  obtain ⟨A, c, S1⟩ := qprintS_open S
  exact ⟨S1.cge, A, c, S1.crow, S1.s1.own⟩
theorem qprat_any (hd : s.down ≤ 2000000000) (S : SL W (qprintS qb s :: F) w) :
    Calls Tryz.prog 39 #[.pointer (some ⟨qb, 0, none⟩)] w fun e w' => e = .returned (.tuple #[.int .i64 ((s.down / 60 + 1 : Nat) : Int), .int .i64 ((s.down % 60 + 1 : Nat) : Int)]) ∧ SL W (qprintS qb s :: F) w' :=
  (rpat_any qb W.heap.size s hd w (qprintS_at S)).mono fun _ _ h => ⟨h.1, S.still h.2⟩
end
end Go.Proofs.YtfhpaehfihnjaaaGreat.U
namespace Go.Proofs.YtfhpaehfihnjaaaGreat.U
open Go.RowKit
def qunS (qb se : Nat) (cs : List (List UInt8)) : SA := fun h => ∃ v, True ∧ star [cel qb #[v, .int .i64 (se : Int)] 100, deckS v cs] h
section
variable {W w : World} {F : List SA}
theorem qunS_open {qb se : Nat} {cs : List (List UInt8)} (S : SL W (qunS qb se cs :: F) w) : ∃ v, True ∧ SL W (cel qb #[v, .int .i64 (se : Int)] 100 :: deckS v cs :: F) w :=
  S.unpack (K := fun v => [cel qb #[v, .int .i64 (se : Int)] 100, deckS v cs]) fun _ h => h
theorem qunS_close {qb se : Nat} {cs : List (List UInt8)} {v : Value} (S : SL W (cel qb #[v, .int .i64 (se : Int)] 100 :: deckS v cs :: F) w) : SL W (qunS qb se cs :: F) w :=
  SL.pack (L := [cel qb #[v, .int .i64 (se : Int)] 100, deckS v cs]) S fun _ h => ⟨v, trivial, h⟩
theorem deckS_push {v' : Value} {n : Nat} {ps : List (Value × List UInt8)} {x : Value} {l : List UInt8} (hn : n = ps.length + 1)
    (S : SL W (rowS 5 1 x l.length (Lib.byteCells l) :: star (ps.map cardS) :: rowS 50 1 v' n (ps.map Prod.fst ++ [x]) :: F) w) : SL W (deckS v' (ps.map Prod.snd ++ [l]) :: F) w := by
  have S10 := SL.snoc (P := cardS (x, l)) S
  have e1 : ps.map Prod.snd ++ [l] = (ps ++ [(x, l)]).map Prod.snd := by simp
  rw [e1]
  refine deckS_close' (n := n) (by simp [hn]) ?_
  simp only [List.map_append, List.map_cons, List.map_nil]
  exact S10.s1
set_option maxHeartbeats 2000000 in
theorem qun_rej (qb : Nat) (op : Int) (A : Option Addr) (l : List UInt8) (c : Nat) (S : SL W F w) (hz : l.length ≤ maxLen) (h : op ≠ 1 ∨ 80 < l.length) :
    Calls Tryz.prog 114 #[.pointer (some ⟨qb, 0, none⟩), .int .i64 op, .slice A l.length c] w fun e w' => RetS W F [] 14 128 e w' := by
  have HS := Lib.hid S
  unfold maxLen at hz
  clear S
  by_cases h1 : op = 1
  · subst h1
    have h2 : (80 : Int) < (l.length : Int) := by omega
    clear h
    go_enter Tryz.func114, Tryz.ntmps114
    go_wp2_with fail
    refine (rcheck_any _ _).mono ?_
    rintro e w1 ⟨rfl, b1⟩
    have H1 := Lib.hid ((HS.out.allocC #[.slice none 0 0, .int .i64 0, .int .i64 0] 55).grow b1)
    obtain ⟨L1, F1, _⟩ := H1.out.look
    clear b1
    go_wp2
    exact bodyPost_ret (v := .agg #[.slice none 0 0, .int .i64 14, .int .i64 128]) (by simp [results, Tryz.results114, go_sem, L1]) rfl (RetS.of (((H1.out.set rfl).set rfl).set rfl).drop)
  · clear h
    go_enter Tryz.func114, Tryz.ntmps114
    go_wp2_with fail
    refine (rcheck_any _ _).mono ?_
    rintro e w1 ⟨rfl, b1⟩
    have H1 := Lib.hid ((HS.out.allocC #[.slice none 0 0, .int .i64 0, .int .i64 0] 55).grow b1)
    obtain ⟨L1, F1, _⟩ := H1.out.look
    clear b1
    go_wp2
    exact bodyPost_ret (v := .agg #[.slice none 0 0, .int .i64 14, .int .i64 128]) (by simp [results, Tryz.results114, go_sem, L1]) rfl (RetS.of (((H1.out.set rfl).set rfl).set rfl).drop)
set_option maxHeartbeats 2000000 in
theorem qun_full (qb se : Nat) (cs : List (List UInt8)) (A : Option Addr) (l : List UInt8) (c : Nat) (S : SL W (qunS qb se cs :: F) w) (hz : l.length ≤ 80) (h : cs.length = 4096) :
    Calls Tryz.prog 114 #[.pointer (some ⟨qb, 0, none⟩), .int .i64 1, .slice A l.length c] w fun e w' => RetS W (qunS qb se cs :: F) [] 14 64 e w' := by
  obtain ⟨v, _, S⟩ := qunS_open S
  obtain ⟨ps, rfl, S'⟩ := deckS_open S.s1
  obtain ⟨Av, cv, rfl, _, _⟩ := own_slice S'.own
  rw [List.length_map] at h
  rw [h] at S S'
  obtain ⟨L0, F0, z0⟩ := S.look
  have HS := Lib.hid S
  have h2 : ¬ (80 : Int) < (l.length : Int) := by omega
  clear S S' h
  go_enter Tryz.func114, Tryz.ntmps114
  go_wp2_with fail
  refine (rcheck_any _ _).mono ?_
  rintro e w1 ⟨rfl, b1⟩
  have H1 := Lib.hid ((HS.out.allocC #[.slice none 0 0, .int .i64 0, .int .i64 0] 55).grow b1)
  obtain ⟨L1, F1, _⟩ := H1.out.look
  clear b1
  go_wp2
  exact bodyPost_ret (v := .agg #[.slice none 0 0, .int .i64 14, .int .i64 64]) (by simp [results, Tryz.results114, go_sem, L1]) rfl (RetS.of (qunS_close (((H1.out.set rfl).set rfl).set rfl).drop))
set_option maxHeartbeats 2000000 in
theorem qun_ok (qb se : Nat) (cs : List (List UInt8)) (A : Option Addr) (l : List UInt8) (c : Nat) (S : SL W (qunS qb se cs :: F) w) (hr : Rd W (qunS qb se cs :: F) A (Lib.byteCells l)) (hz : l.length ≤ 80) (h : cs.length < 4096) :
    Calls Tryz.prog 114 #[.pointer (some ⟨qb, 0, none⟩), .int .i64 1, .slice A l.length c] w fun e w' => RetS W (qunS qb se (cs ++ [l ++ List.replicate (80 - l.length) 0x40]) :: F) [] 12 0 e w' := by
  have HR := Lib.hid hr
  obtain ⟨v, _, S⟩ := qunS_open S
  obtain ⟨ps, rfl, S'⟩ := deckS_open S.s1
  obtain ⟨Av, cv, rfl, _, _⟩ := own_slice S'.own
  rw [List.length_map] at h
  obtain ⟨L0, F0, z0⟩ := S.look
  have h0 := (S'.allocC #[.slice none 0 0, .int .i64 0, .int .i64 0] 55).lit #[] 5 1 0 rfl (by decide)
  rw [World.size_alloc] at h0
  have HS := Lib.hid h0
  have HQ := Lib.hid S'
  have h2 : ¬ (80 : Int) < (l.length : Int) := by omega
  have h3 : ¬ (4096 : Int) ≤ (ps.length : Int) := by omega
  clear S S' hr h0
  go_enter Tryz.func114, Tryz.ntmps114
  go_wp2_with (at_builtin; refine wpList_appS rfl _ _ _ rfl bElem _ 0 [] rfl HS.out _ A l.length c (Lib.byteCells l) rfl (HR.out _ (qunS_close (deckS_close HS.out.drop.drop).s1)) (by rw [byteCells_len, Nat.mul_one]) (byteCells_one _) (by unfold maxLen; omega) (by omega) ?_
               intro A2 c2 w2 S2
               simp only [Nat.zero_add, List.nil_append] at S2
               have H2 := Lib.hid S2
               clear S2)
  clear HS HQ HR L0 F0 z0
  go_loopw [7] (fun o wr => ∃ (k : Nat) (A : Option Addr) (c : Nat), l.length ≤ k ∧ k ≤ 80 ∧ o = .slice A k c ∧ SL W (rowS 5 1 (.slice A k c) k (Lib.byteCells (l ++ List.replicate (k - l.length) 0x40)) :: cel w.heap.size #[.slice none 0 0, .int .i64 0, .int .i64 0] 55 :: rowS 50 1 (.slice Av ps.length cv) ps.length (ps.map Prod.fst) :: star (ps.map cardS) :: cel qb #[.slice Av ps.length cv, .int .i64 (se : Int)] 100 :: F) wr) (fun o _ => 80 - slen o)
  case atStart => exact ⟨l.length, A2, c2, Nat.le_refl _, hz, by simp, by simpa using H2.out⟩
  case round =>
    obtain ⟨k, A3, c3, hk1, hk2, rfl, S3⟩ := hrel
    have H3 := Lib.hid S3
    clear H2 S3
    by_cases hlt : k < 80
    · go_wp2_with (at_builtin; refine wpList_pushS rfl _ _ _ rfl bElem wr [.int .u8 64] 1 rfl rfl (by simp [Value.oneCell']) _ k _ rfl rfl H3.out (by unfold maxLen; omega) (by omega) ?_
                   intro A4 c4 w4 S4
                   have H4 := Lib.hid S4
                   clear S4 H3)
      go_roundw
      case rel =>
        refine ⟨k + 1, A4, c4, by omega, by omega, rfl, ?_⟩
        have e1 : Lib.byteCells (l ++ List.replicate (k - l.length) 0x40) ++ [Value.int .u8 64] = Lib.byteCells (l ++ List.replicate (k + 1 - l.length) 0x40) := by
          rw [show k + 1 - l.length = (k - l.length) + 1 by omega, List.replicate_succ']
          simp [Lib.byteCells]
        rw [← e1]
        exact H4.out
      case measure => simp [slen]; omega
    · obtain rfl : k = 80 := by omega
      obtain ⟨Lp, Fp, zp⟩ := H3.out.s4.look
      go_wp2_with (at_builtin; refine wpList_pushS rfl _ _ _ rfl deckElem wr [.slice A3 80 c3] 1 rfl rfl (by simp [Value.oneCell']) _ ps.length _ rfl rfl H3.out.s2 (by unfold maxLen; omega) (by omega) ?_
                   intro A6 c6 w6 S6
                   obtain ⟨L6, F6, z6⟩ := S6.s4.look
                   have H6 := Lib.hid S6
                   clear S6 H3 Lp Fp)
      have H7 := Lib.hid (H6.out.s4.set (off := 0) (v := .slice A6 (ps.length + 1) c6) rfl)
      refine name_world (P := fun W => Calls _ _ _ W _) ?_
      intro w7 hw7
      rw [← hw7] at H7
      clear hw7 L6 F6 z6 H6
      refine (rnormal_any _ _ _ _ rfl _).mono ?_
      rintro e w8 ⟨rfl, b8⟩
      have H8 := Lib.hid (H7.out.grow b8)
      obtain ⟨L8, F8, _⟩ := H8.out.s3.look
      clear b8 H7
      go_wp2
      refine bodyPost_ret (v := .agg #[.slice none 0 0, .int .i64 12, .int .i64 0]) (by simp [results, Tryz.results114, go_sem, L8]) rfl (RetS.of ?_)
      refine name_world (P := fun w => SL _ _ w) ?_
      intro wf hwf
      have SF := SL.cast hwf (((H8.out.s3.set rfl).set rfl).set rfl)
      have hl : (l ++ List.replicate (80 - l.length) (0x40 : UInt8)).length = 80 := by simp; omega
      exact qunS_close (deckS_push rfl (by rw [hl]; exact SF.drop.s1.s3.s3)).s1
theorem qun_own (qb se : Nat) (cs : List (List UInt8)) (op : Int) (A : Option Addr) (l : List UInt8) (c : Nat) (S : SL W (qunS qb se cs :: F) w) (hr : Rd W (qunS qb se cs :: F) A (Lib.byteCells l)) (hz : l.length ≤ maxLen) (hcs : cs.length ≤ 4096) :
    Calls Tryz.prog 114 #[.pointer (some ⟨qb, 0, none⟩), .int .i64 op, .slice A l.length c] w fun e w' => RetS W (qunS qb se (punOwn cs op l).1 :: F) [] (punOwn cs op l).2.1 (punOwn cs op l).2.2 e w' := by
  unfold punOwn
  by_cases h : op ≠ 1 ∨ 80 < l.length
  · rw [if_pos h]
    exact qun_rej qb op A l c S hz h
  · rw [if_neg h]
    obtain ⟨rfl, h2⟩ : op = 1 ∧ l.length ≤ 80 := by omega
    by_cases h3 : cs.length = 4096
    · rw [if_pos h3]
      exact qun_full qb se cs A l c S h2 h3
    · rw [if_neg h3]
      exact qun_ok qb se cs A l c S hr h2 (by omega)
set_option maxHeartbeats 2000000 in
theorem qundo_34 (qb se : Nat) (cs : List (List UInt8)) (op : Int) (rd : List UInt8) (v : Value) (S : SL W (qunS qb se cs :: F) w)
    (hal : ∀ w, Calls Tryz.prog 112 #[.int .i64 op, .int .i64 (se : Int)] w fun e w' => ∃ A c, e = .returned (.tuple #[.agg #[.slice A rd.length c, .int .i64 12, .int .i64 0], .bool true]) ∧ w'.ownsRow w.heap.size 5 1 (.slice A rd.length c) rd.length (Lib.byteCells rd) ∧ Below w.heap.size w w') :
    Calls Tryz.prog 101 #[.pointer (some ⟨qb, 0, none⟩), .int .i64 op, v] w fun e w' => RetS W (qunS qb se cs :: F) rd 12 0 e w' := by
  have HS := Lib.hid S
  obtain ⟨vq, _, S1⟩ := qunS_open S
  obtain ⟨L0, F0, z0⟩ := S1.look
  have HA := Lib.hid hal
  clear hal S S1
  go_enter Tryz.func101, Tryz.ntmps101
  go_wp2_with fail
  refine (HA.out _).mono ?_
  rintro e w1 ⟨A1, c1, rfl, o1, b1⟩
  have H1 := Lib.hid ((HS.out.allocC #[.slice none 0 0, .int .i64 0, .int .i64 0] 55).made o1 b1)
  obtain ⟨L1, K1, z1⟩ := H1.out.s1.look
  clear b1 o1
  go_wp2
  refine name_world (P := bodyPost _ _ _ _ _) ?_
  intro wf hwf
  have SF := SL.cast hwf ((((H1.out.s1.set rfl).set rfl).set rfl).allocC _ _)
  clear hwf
  obtain ⟨Lf, _, _⟩ := SF.drop.look
  exact bodyPost_ret (v := .agg #[.slice A1 rd.length c1, .int .i64 12, .int .i64 0]) (by simp [results, Tryz.results101, go_sem, Lf]) rfl ⟨_, _, rfl, SF.drop.drop⟩
set_option maxHeartbeats 2000000 in
theorem qundo_own (qb se : Nat) (cs cs1 : List (List UInt8)) (op : Int) (v : Value) (rd : List UInt8) (st sn : Int) (h3 : op ≠ 3) (h4 : op ≠ 4) (hsn : sn = 0 ∨ sn = 64 ∨ sn = 128) (S : SL W (qunS qb se cs :: F) w)
    (ho : ∀ R w, SL W (qunS qb se cs :: (R ++ F)) w → Calls Tryz.prog 114 #[.pointer (some ⟨qb, 0, none⟩), .int .i64 op, v] w fun e w' => RetS W (qunS qb se cs1 :: (R ++ F)) rd st sn e w') :
    Calls Tryz.prog 101 #[.pointer (some ⟨qb, 0, none⟩), .int .i64 op, v] w fun e w' => RetS W (qunS qb (if sn = 0 then se else sn.toNat) cs1 :: F) rd st sn e w' := by
  have HS := Lib.hid S
  obtain ⟨vq, _, S1⟩ := qunS_open S
  obtain ⟨L0, F0, z0⟩ := S1.look
  have HA := Lib.hid (fun (x : Int) w => rall_no op x h3 h4 w)
  have HO := Lib.hid ho
  clear S S1 ho h3 h4
  go_enter Tryz.func101, Tryz.ntmps101
  go_wp2_with fail
  refine (HA.out _ _).mono ?_
  rintro e w1 ⟨rfl, b1⟩
  have H1 := Lib.hid ((HS.out.allocC #[.slice none 0 0, .int .i64 0, .int .i64 0] 55).grow b1)
  obtain ⟨_, _, z1⟩ := H1.out.look
  clear b1 L0 F0 z0
  go_wp2_with fail
  refine name_world (P := fun W => Calls _ _ _ W _) ?_
  intro w2 hw2
  have H2 := Lib.hid (SL.cast hw2 (H1.out.allocC #[.slice none 0 0, .int .i64 0, .int .i64 0] 55))
  clear hw2 H1
  refine (HO.out [_, _] w2 H2.out.s2).mono ?_
  rintro e w3 ⟨A3, c3, rfl, S3⟩
  obtain ⟨v4, _, S4⟩ := qunS_open S3.s1
  have H4 := Lib.hid S4
  obtain ⟨L4, K4, z4⟩ := H4.out.look
  have S5 := S4.s3
  have S6 := S4.s4
  obtain ⟨L5, K5, z5⟩ := S5.look
  obtain ⟨L6, K6, z6⟩ := S6.look
  have n1 := S5.cne
  have n2 := S6.cne
  have n3 := S5.s4.cne
  have n4 := n1.symm
  have n5 := n2.symm
  have n6 := n3.symm
  clear S3 S4 S5 S6 H2 HA HO HS
  rcases hsn with rfl | rfl | rfl
  · go_wp2
    refine name_world (P := bodyPost _ _ _ _ _) ?_
    intro wf hwf
    have SF := SL.cast hwf (H4.out.s3.set3.s4.set3)
    clear hwf
    obtain ⟨Lf, _, _⟩ := SF.look
    exact bodyPost_ret (v := .agg #[.slice A3 rd.length c3, .int .i64 st, .int .i64 0]) (by simp [results, Tryz.results101, go_sem, Lf]) rfl ⟨_, _, rfl, (qunS_close SF.drop.drop).s1⟩
  · go_wp2
    refine name_world (P := bodyPost _ _ _ _ _) ?_
    intro wf hwf
    have SF := SL.cast hwf ((H4.out.s3.set3.s1.set (off := 1) (v := .int .i64 (64 : Nat)) rfl).s4.set3)
    clear hwf
    obtain ⟨Lf, _, _⟩ := SF.look
    exact bodyPost_ret (v := .agg #[.slice A3 rd.length c3, .int .i64 st, .int .i64 64]) (by simp [results, Tryz.results101, go_sem, Lf]) rfl ⟨_, _, rfl, (qunS_close (se := 64) SF.drop.s1.drop).s1⟩
  · go_wp2
    refine name_world (P := bodyPost _ _ _ _ _) ?_
    intro wf hwf
    have SF := SL.cast hwf ((H4.out.s3.set3.s1.set (off := 1) (v := .int .i64 (128 : Nat)) rfl).s4.set3)
    clear hwf
    obtain ⟨Lf, _, _⟩ := SF.look
    exact bodyPost_ret (v := .agg #[.slice A3 rd.length c3, .int .i64 st, .int .i64 128]) (by simp [results, Tryz.results101, go_sem, Lf]) rfl ⟨_, _, rfl, (qunS_close (se := 128) SF.drop.s1.drop).s1⟩
theorem qundo_any (qb se : Nat) (cs : List (List UInt8)) (op : Int) (A : Option Addr) (l : List UInt8) (c : Nat) (S : SL W (qunS qb se cs :: F) w) (hr : Rd W (qunS qb se cs :: F) A (Lib.byteCells l)) (hz : l.length ≤ maxLen) (hcs : cs.length ≤ 4096) (hse : se < 256) :
    Calls Tryz.prog 101 #[.pointer (some ⟨qb, 0, none⟩), .int .i64 op, .slice A l.length c] w fun e w' =>
      RetS W (qunS qb (punDo se cs op l).1 (punDo se cs op l).2.1 :: F) (punDo se cs op l).2.2.1 (punDo se cs op l).2.2.2.1 (punDo se cs op l).2.2.2.2 e w' := by
  unfold punDo
  by_cases h3 : op = 3
  · subst h3
    rw [if_pos rfl]
    exact qundo_34 qb se cs 3 [] _ S fun w => (rall_3 _ w).mono fun e w' h => ⟨none, 0, h.1, World.ownsRow_nil _ _ _ _, h.2⟩
  · rw [if_neg h3]
    by_cases h4 : op = 4
    · subst h4
      rw [if_pos rfl]
      exact qundo_34 qb se cs 4 [UInt8.ofNat se] _ S (rall_4 se hse)
    · rw [if_neg h4]
      exact qundo_own qb se cs _ op _ [] (punOwn cs op l).2.1 (punOwn cs op l).2.2 h3 h4 (punOwn_sn cs op l) S
        (fun R w1 S1 => qun_own qb se cs op A l c S1 (fun w2 S2 => hr w2 S2.dropMid) hz hcs)
end
end Go.Proofs.YtfhpaehfihnjaaaGreat.U
namespace Go.Proofs.YtfhpaehfihnjaaaGreat.U
open Go.RowKit
def readqS (qb se tk st : Nat) (cs : List (List UInt8)) : SA := fun h => ∃ v, True ∧ star [cel qb #[v, .int .i64 (tk : Int), .int .i64 (st : Int), .int .i64 (se : Int)] 97, deckS v cs] h
section
variable {W w : World} {F : List SA}
theorem readqS_open {qb se tk st : Nat} {cs : List (List UInt8)} (S : SL W (readqS qb se tk st cs :: F) w) : ∃ v, True ∧ SL W (cel qb #[v, .int .i64 (tk : Int), .int .i64 (st : Int), .int .i64 (se : Int)] 97 :: deckS v cs :: F) w :=
  S.unpack (K := fun v => [cel qb #[v, .int .i64 (tk : Int), .int .i64 (st : Int), .int .i64 (se : Int)] 97, deckS v cs]) fun _ h => h
theorem readqS_close {qb se tk st : Nat} {cs : List (List UInt8)} {v : Value} (S : SL W (cel qb #[v, .int .i64 (tk : Int), .int .i64 (st : Int), .int .i64 (se : Int)] 97 :: deckS v cs :: F) w) : SL W (readqS qb se tk st cs :: F) w :=
  SL.pack (L := [cel qb #[v, .int .i64 (tk : Int), .int .i64 (st : Int), .int .i64 (se : Int)] 97, deckS v cs]) S fun _ h => ⟨v, trivial, h⟩
set_option maxHeartbeats 2000000 in
theorem wrong_any (n : Nat) (ds : List (List UInt8)) (A : Option Addr) (c : Nat) (S : SL W F w) (hr : DeckRd W F A ds) (hn : n ≤ 4096) (hd : ds.length ≤ 4611686018427387904) (cs : List (List UInt8)) (hcs : n = cs.length) :
    Calls Tryz.prog 75 #[.slice A ds.length c, .int .i64 (n : Int)] w fun e w' => e = .returned (.int .i64 (addErr cs ds)) ∧ w = w' := by
  have HR := Lib.hid (hr.get w S)
  have HE := Lib.hid (show addErr cs ds = if 4096 < n + ds.length then 2 else if ds.all (fun x => decide (x.length = 80)) then 0 else 5 by subst hcs; rfl)
  clear hr S hcs
  generalize addErr cs ds = er at *
  by_cases h1 : 4096 < n + ds.length
  · obtain rfl : er = 2 := by rw [HE.out, if_pos h1]
    have h2 : (4096 : Int) < (n : Int) + (ds.length : Int) := by omega
    clear HE h1
    go_enter Tryz.func75, Tryz.ntmps75
    go_wp2
    go_ret
    exact ⟨rfl, rfl⟩
  have h2 : ¬ (4096 : Int) < (n : Int) + (ds.length : Int) := by omega
  have H1 := Lib.hid h1
  clear h1
  go_enter Tryz.func75, Tryz.ntmps75
  go_wp2_with fail
  go_loop [5] (fun i => ∃ k : Nat, k ≤ ds.length ∧ i = .int .i64 k ∧ ∀ j x, j < k → ds[j]? = some x → x.length = 80) (fun i => ds.length - (intOf i).toNat)
  case atStart => exact ⟨0, Nat.zero_le _, rfl, by intro j x h; omega⟩
  case round =>
    obtain ⟨k, hk, rfl, hall⟩ := hrel
    have HA := Lib.hid hall
    clear hall
    by_cases hlt : k < ds.length
    · obtain ⟨b, off, A', c', rfl, hc, _, h1, h3⟩ := HR.out k ds[k] (by simp [hlt])
      have HG := Lib.hid (show ds[k]? = some ds[k] by simp [hlt])
      generalize ds[k] = x at *
      unfold maxLen at h3
      by_cases h80 : x.length = 80
      · go_wp2
        go_round
        case rel =>
          refine ⟨k + 1, by omega, by go_num, fun j y hj hy => ?_⟩
          rcases Nat.lt_or_ge j k with h | h
          · exact HA.out j y h hy
          · obtain rfl : j = k := by omega
            rw [HG.out] at hy; injection hy with hy; subst hy; exact h80
        case measure => simp [intOf]; omega
      · have h81 : ¬ (x.length : Int) = 80 := by omega
        obtain rfl : er = 5 := by
          rw [HE.out, if_neg H1.out, if_neg]
          intro h
          exact h80 (by simpa using List.all_eq_true.1 h x (List.mem_iff_getElem?.2 ⟨k, HG.out⟩))
        go_wp2
        go_ret
        exact ⟨rfl, rfl⟩
    · obtain rfl : er = 0 := by
        rw [HE.out, if_neg H1.out, if_pos]
        rw [List.all_eq_true]
        intro x hx
        obtain ⟨j, hj, rfl⟩ := List.mem_iff_getElem.1 hx
        simpa using HA.out j ds[j] (by omega) (by simp [hj])
      go_wp2
      go_ret
      exact ⟨rfl, rfl⟩
set_option maxHeartbeats 2000000 in
theorem qadd_any (qb se tk st : Nat) (cs ds : List (List UInt8)) (A : Option Addr) (c : Nat) (S : SL W (readqS qb se tk st cs :: F) w) (hr : DeckRd W F A ds) (hcs : cs.length ≤ 4096) (hd : ds.length ≤ 4611686018427387904) :
    Calls Tryz.prog 51 #[.pointer (some ⟨qb, 0, none⟩), .slice A ds.length c] w fun e w' => e = .returned (.int .i64 (addErr cs ds)) ∧ SL W (readqS qb se tk st (addCs cs ds) :: F) w' := by
  have HR := Lib.hid hr
  have HS := Lib.hid S
  have HE := Lib.hid (show (addErr cs ds = 0 → addCs cs ds = cs ++ ds ∧ cs.length + ds.length ≤ 4096 ∧ ∀ x ∈ ds, x.length = 80) ∧ (addErr cs ds ≠ 0 → addCs cs ds = cs) by
    refine ⟨fun h => ⟨by unfold addCs; rw [if_pos h], ?_⟩, fun h => by unfold addCs; rw [if_neg h]⟩
    unfold addErr at h
    split at h
    · omega
    · split at h
      · rename_i h1 h2
        exact ⟨by omega, fun x hx => by simpa using List.all_eq_true.1 h2 x hx⟩
      · omega)
  have HWR := Lib.hid (wrong_any cs.length ds A c S hr.cons hcs hd cs rfl)
  have h0 : ((addErr cs ds == 0) = true) ∨ ((addErr cs ds == 0) = false) := by cases addErr cs ds == 0 <;> simp
  generalize addErr cs ds = er at *
  generalize addCs cs ds = xs at *
  obtain ⟨v, _, S⟩ := readqS_open S
  obtain ⟨Av, cv, rfl, _, _⟩ := deck_len S.s1
  obtain ⟨L, K, z⟩ := S.look
  clear S hr
  go_enter Tryz.func51, Tryz.ntmps51
  go_wp2_with fail
  refine HWR.out.mono ?_
  rintro e w1 ⟨rfl, rfl⟩
  clear HWR L K z
  rcases h0 with h0 | h0
  · obtain rfl : er = 0 := by simpa using h0
    obtain ⟨rfl, e2, e3⟩ := HE.out.1 rfl
    have H8 := Lib.hid e3
    clear e3 HE h0
    go_wp2_with fail
    go_loopw [6] (fun i wr => ∃ k : Nat, k ≤ ds.length ∧ i = .int .i64 k ∧ SL W (readqS qb se tk st (cs ++ ds.take k) :: F) wr) (fun i _ => ds.length - (intOf i).toNat)
    case atStart => exact ⟨0, Nat.zero_le _, rfl, by simpa using HS.out⟩
    case round =>
      obtain ⟨k, hk, rfl, S1⟩ := hrel
      clear HS
      by_cases hlt : k < ds.length
      · obtain ⟨b, off, A', c', rfl, h1, h3, hfix⟩ := HR.out.fix _ S1.drop k ds[k] (by simp [hlt])
        have hx80 := H8.out ds[k] (List.getElem_mem hlt)
        have HT := Lib.hid (show (cs ++ ds.take k) ++ [ds[k]] = cs ++ ds.take (k + 1) by rw [List.take_succ_eq_append_getElem hlt, List.append_assoc])
        have hlen : (cs ++ ds.take k).length = cs.length + k := by simp; omega
        generalize ds[k] = x at *
        obtain ⟨v1, _, S2⟩ := readqS_open S1
        obtain ⟨ps, hps, S3⟩ := deckS_open S2.s1
        have hpl : ps.length = cs.length + k := by rw [← hlen, ← hps, List.length_map]
        obtain ⟨Av1, cv1, rfl, _, _⟩ := own_slice S3.own
        have hpb : ps.length ≤ 4096 := by omega
        have HX := Lib.hid (And.intro hx80 (And.intro hps hpl))
        have HFX := Lib.hid hfix
        have H3 := Lib.hid S3
        have hx63 : x.length ≤ maxLen := by omega
        have hx64 : x.length ≤ 1000 := by omega
        clear hps hpl hlen hx80 hfix S1 S2 S3 h1 h3
        go_wp2_with fail
        refine wp_region_order2 (fun wx => wx = wr.drew) (SL W (cel qb #[.slice Av1 ps.length cv1, .int .i64 (tk : Int), .int .i64 (st : Int), .int .i64 (se : Int)] 97 :: F)) (fun wx e => SL.cast e (H3.out.drop.drop).drew) [0, 1, 2, 3, 6, 7, 8] [4, 9] [] [5, 10, 11, 12] [13, 14, 15] (by kernel_rfl) (by kernel_rfl) rfl (by intro c a d v w h; cases d <;> exact h) ?_
        simp only [pick, List.filterMap_cons, List.filterMap_nil, List.getElem?_cons_zero, List.getElem?_cons_succ]
        (repeat (refine wpPure_step (fun K hK => ?_); go_simp; refine hK _ ?_; clear hK K)); refine wpPure_nil ?_
        (repeat (refine wpLoads_step (fun K hK => ?_); go_simp; first | (refine hK _ ?_; clear hK K) | (refine ⟨_, fun wx hx => (by obtain ⟨f0, f1, f2⟩ := hx.look; have f3 := (HFX.out wx hx.drop).1; go_simp; rfl), hK _ ?_⟩; clear hK K))); refine wpLoads_nil (wpQuiet_nil ?_)
        intro wq hwq
        subst hwq
        have H4 := Lib.hid (H3.out.drew.lit #[] 5 1 0 rfl (by decide))
        (refine wpKeep_step ?_; intro K hK; go_simp)
        refine hK _ _ H4.out.drop.drop.drop ?_
        clear hK K
        refine wpKeep_step (fun K hK => ?_)
        refine step_appS (by rfl) _ _ _ (by rfl) bElem _ 0 [] (by rfl) H4.out _ A' x.length c' (Lib.byteCells x) (by rfl) (HFX.out _ H4.out.drop.drop.drop.drop).2 (by rw [byteCells_len, Nat.mul_one]) (byteCells_one _) (by omega) (by omega) ?_
        intro A5 c5 w5 S5
        simp only [Nat.zero_add, List.nil_append] at S5
        simp only [Nat.zero_add]
        have H5 := Lib.hid S5
        refine hK _ _ S5.drop.drop.drop ?_
        clear hK K S5 H3 H4
        (refine wpKeep_step ?_; intro K hK; go_simp)
        refine hK _ _ (H5.out.allocC _ _).drop.drop.drop.drop ?_
        clear hK K
        refine wpKeep_step (fun K hK => ?_)
        refine step_pushS (by rfl) _ _ _ (by rfl) deckElem w5 [.slice A5 x.length c5] 1 (by rfl) rfl (by simp [Value.oneCell']) _ ps.length _ (by rfl) (by rfl) H5.out.s1 (by unfold maxLen; omega) (by omega) ?_
        intro A6 c6 w6 S6
        have H6 := Lib.hid S6
        refine hK _ _ S6.drop.drop.drop ?_
        clear hK K S6 H5
        refine wpKeep_nil ?_
        obtain ⟨L6, K6, z6⟩ := H6.out.s3.look
        go_wp2
        go_roundw
        case rel =>
          refine ⟨k + 1, by omega, by go_num, ?_⟩
          rw [← HT.out, ← HX.out.2.1]
          have S7 := H6.out.s3.set (off := 0) (v := .slice A6 (ps.length + 1) c6) (cs' := #[.slice A6 (ps.length + 1) c6, .int .i64 (tk : Int), .int .i64 (st : Int), .int .i64 (se : Int)]) rfl
          exact readqS_close (deckS_push' rfl S7.s1.s3.s3).s1
        case measure => simp [intOf]; omega
      · obtain rfl : k = ds.length := by omega
        have H1 := Lib.hid S1
        clear S1
        go_wp2
        go_ret
        exact ⟨rfl, by simpa using H1.out⟩
  · have hx : er ≠ 0 := by simpa using h0
    obtain rfl := HE.out.2 hx
    clear HE hx
    go_wp2_with fail
    go_loopw [6] (fun i wr => i = .int .i64 0 ∧ wr = w) (fun i _ => 0)
    case atStart => exact ⟨rfl, rfl⟩
    case round =>
      obtain ⟨rfl, rfl⟩ := hrel
      go_wp2
      all_goals (go_ret; exact ⟨rfl, HS.out⟩)
end
end Go.Proofs.YtfhpaehfihnjaaaGreat.U
