/- Small, Map, Meth. -/
import Derived.Test.YtmkndbledppniaaGreatDisk
import Derived.Test.YtmkndbledppniaaGreatKitA
import Derived.BigQuiet
import Derived.ChangeMaps4
import Derived.Maps.OwnOps
namespace Go.Proofs.YtmkndbledppniaaGreat
open Go.RowKit
abbrev DT : TypeId := 50
section
variable {W w : World} {F : List SA} {x tb : Nat} {s : DK} {lp : Option Addr} {was : Bool}
theorem two_bits (x y : UInt8) : bits BinOp.or IntKind.i64 (wrap64 (wrap64 (x.toNat : Int) * 256)) (wrap64 (y.toNat : Int)) = ((x.toNat * 256 + y.toNat : Nat) : Int) := by
  have hx := x.toNat_lt
  have hy := y.toNat_lt
  have e1 : wrap64 (wrap64 (x.toNat : Int) * 256) = ((x.toNat * 256 : Nat) : Int) := by unfold wrap64; omega
  have e2 : wrap64 (y.toNat : Int) = ((y.toNat : Nat) : Int) := by unfold wrap64; omega
  rw [e1, e2]
  show IntKind.i64.wrap (((BitVec.ofInt 64 _ ||| BitVec.ofInt 64 _).toNat : Nat) : Int) = _
  rw [BitVec.toNat_or, BitVec.toNat_ofInt, BitVec.toNat_ofInt]
  rw [show (((x.toNat * 256 : Nat) : Int) % ((2 ^ 64 : Nat) : Int)).toNat = x.toNat * 256 by omega, show (((y.toNat : Nat) : Int) % ((2 ^ 64 : Nat) : Int)).toNat = y.toNat by omega, nat_join 8 _ _ (by omega) (by omega)]
  exact IntWalk.i64_in _ (by omega)
theorem done_any (A : Option Addr) (n c : Nat) (w : World) : Calls Tryz.prog 29 #[.slice A n c] w fun e w' => e = .returned (.agg #[.slice A n c, .int .i64 12, .int .i64 0]) ∧ Below w.heap.size w w' := by
  go_enter Tryz.func29, Tryz.ntmps29
  go_wp2
  exact bodyPost_ret (v := .agg #[.slice A n c, .int .i64 12, .int .i64 0]) (by simp [results, Tryz.results29, go_sem]) rfl ⟨rfl, by (repeat' (first | (with_reducible exact Below.refl _ _) | (with_reducible assumption) | (with_reducible refine below_drewN ?_ _) | (with_reducible refine Below.drew ?_) | (with_reducible refine Below.alloc ?_ ?_ _) | (with_reducible refine Below.setCell ?_ ?_ _) | (with_reducible refine below_row ?_ ?_ _) | (with_reducible exact Nat.le_refl _) | omega | (simp only [World.size_alloc, World.size_setCell, World.size_drew, World.size_drewN]; omega) | (simp; done) | (simp; omega)))⟩
theorem two_any (A : Option Addr) (b : List UInt8) (n c : Nat) (w : World) (h : CardAt w A b c) (hn : n = b.length) (h2 : 2 ≤ n) : Calls Tryz.prog 77 #[.slice A n c] w fun e w' => e = .returned (.int .i64 (two b 0 : Nat)) ∧ Still w w' := by
  subst hn
  have h1 : 0 < b.length := by omega
  have hl : b.length ≤ 9223372036854775807 := by have := h.2; unfold maxLen at this; omega
  obtain ⟨g, off, rfl, _, hc⟩ := h.1 (by intro h; have := congrArg List.length h; simp [Lib.byteCells] at this; subst this; simp at h1)
  have c0 := hc 0 _ (byteCells_get b 0 h1)
  have c1 := hc 1 _ (byteCells_get b 1 (by omega))
  have e0 : (two b 0 : Nat) = b[0].toNat * 256 + b[1].toNat := by unfold two; rw [List.getElem?_eq_getElem h1, List.getElem?_eq_getElem (by omega)]; simp; omega
  rw [Nat.add_zero] at c0
  rw [e0]
  generalize b[0] = x0 at *
  generalize b[1] = x1 at *
  clear hc h e0
  go_enter Tryz.func77, Tryz.ntmps77
  go_wp2
  go_quiet (fail)
  go_wp2
  go_ret
  exact ⟨by rw [← two_bits]; rfl, by first | exact still_1 _ _ | exact still_2 _ _ _⟩
theorem ready_any (hn : 0 < s.tracks.length) (S : SL W (cel x (dkCells s tb lp was) 50 :: F) w) : Calls Tryz.prog 23 #[.pointer (some ⟨x, 0, none⟩)] w fun e w' => e = .returned (.bool true) ∧ w' = w := by
  obtain ⟨L, K, z⟩ := S.look
  have hn1 : (0 : Int) < (s.tracks.length : Int) := by omega
  clear S
  go_enter Tryz.func23, Tryz.ntmps23
  go_wp2
  go_ret
  exact ⟨rfl, rfl⟩
theorem ready_nil (w : World) : Calls Tryz.prog 23 #[.pointer none] w fun e w' => e = .returned (.bool false) ∧ w' = w := by
  go_enter Tryz.func23, Tryz.ntmps23
  go_wp2
  go_ret
  exact ⟨rfl, rfl⟩
theorem check_any (n : Nat) (S : SL W (cel x (dkCells s tb lp was) 50 :: F) w) : Calls Tryz.prog 31 #[.pointer (some ⟨x, 0, none⟩), .int .i64 (n : Int)] w fun e w' => e = .returned (.agg #[.slice none 0 0, .int .i64 14, .int .i64 (n : Int)]) ∧ SL W (cel x (dkCells { s with sense := n } tb lp was) 50 :: F) w' := by
  have HS := Lib.hid S
  obtain ⟨L, K, z⟩ := S.look
  clear S
  go_enter Tryz.func31, Tryz.ntmps31
  go_wp2
  refine bodyPost_ret (v := .agg #[.slice none 0 0, .int .i64 14, .int .i64 (n : Int)]) (by simp [results, Tryz.results31, go_sem]) rfl ⟨rfl, ?_⟩
  exact ((HS.out.set (off := 9) (v := .int .i64 (n : Int)) (cs' := dkCells { s with sense := n } tb lp was) rfl).allocC _ _).drop
theorem here_any (h : s.ok) (S : SL W (cel x (dkCells s tb lp was) 50 :: F) w) : Calls Tryz.prog 45 #[.pointer (some ⟨x, 0, none⟩)] w fun e w' => e = .returned (.int .i64 (s.here : Int)) ∧ Still w w' := by
  obtain ⟨L, K, z⟩ := S.look
  have hb := h.here_lt
  have hc := h.cy
  have hd := h.hd
  have hc1 := h.c1
  have hh1 := h.h1
  have hnt := h.nt
  have e1 : IntKind.i64.wrap ((s.cyl : Int) * (s.heads : Int)) = (s.cyl : Int) * (s.heads : Int) := IntWalk.i64_in _ (by
    have : s.cyl * s.heads ≤ 64 * 8 := Nat.mul_le_mul (by omega) (by omega)
    have h2 : ((s.cyl * s.heads : Nat) : Int) ≤ 512 := by omega
    have h3 : (0 : Int) ≤ ((s.cyl * s.heads : Nat) : Int) := by omega
    rw [Int.natCast_mul] at h2 h3
    omega)
  have e2 : IntKind.i64.wrap ((s.cyl : Int) * (s.heads : Int) + (s.head : Int)) = (s.here : Int) := by
    have e3 : (s.here : Int) = (s.cyl : Int) * (s.heads : Int) + (s.head : Int) := by unfold DK.here; push_cast; rfl
    rw [← e3]
    exact IntWalk.i64_in _ (by omega)
  clear S h hb hc hd hc1 hh1 hnt
  go_enter Tryz.func45, Tryz.ntmps45
  go_wp2
  go_quiet (fail)
  go_wp2
  go_ret
  exact ⟨rfl, by first | exact still_1 _ _ | exact still_2 _ _ _⟩
end
end Go.Proofs.YtmkndbledppniaaGreat
namespace Go.Proofs.YtmkndbledppniaaGreat
open Go.RowKit
def mapE (l : List (Int × Value)) : List MapEntry := (l.zipIdx).map fun p => ⟨.int .i64 p.1.1, p.1.2, p.2⟩
def lk (l : List (Int × Value)) (k : Int) : Option Value := (l.find? (fun p => p.1 == k)).map Prod.snd
theorem find_now (k : Int) : ∀ (l : List (Int × Value)) (n i : Nat), ∃ r, Instr.findNow (.int .i64) (.int .i64 k) ((l.zipIdx n).map fun p => (⟨.int .i64 p.1.1, p.1.2, p.2⟩ : MapEntry)) i = some r ∧ r.map Prod.snd = lk l k
  | [], _, _ => ⟨none, rfl, rfl⟩
  | a :: l, n, i => by
    obtain ⟨r, h1, h2⟩ := find_now k l (n + 1) (i + 1)
    by_cases h : a.1 = k
    · refine ⟨some (i, a.2), ?_, ?_⟩
      · simp [List.zipIdx_cons, Instr.findNow, Instr.sameNow, h]
      · simp [lk, h]
    · refine ⟨r, ?_, ?_⟩
      · have hb : (k == a.1) = false := by rw [beq_eq_false_iff_ne]; exact fun e => h e.symm
        simp [List.zipIdx_cons, Instr.findNow, Instr.sameNow, hb]
        exact h1
      · rw [h2]
        have hb : (a.1 == k) = false := by rw [beq_eq_false_iff_ne]; exact h
        simp [lk, List.find?_cons, hb]
theorem mapE_push (l : List (Int × Value)) (k : Int) (v : Value) : (mapE l).toArray.push ⟨.int .i64 k, v, l.length⟩ = (mapE (l ++ [(k, v)])).toArray := by
  unfold mapE
  rw [List.zipIdx_append, List.map_append]
  simp
def mapS (b : Nat) (l : List (Int × Value)) : SA := pts b (.map (mapE l).toArray l.length)
def cmdL (x : Nat) : List (Int × Value) := [(7, .func (.func 48) #[.pointer (some ⟨x, 0, none⟩)] #[]), (19, .func (.func 49) #[.pointer (some ⟨x, 0, none⟩)] #[]), (17, .func (.func 50) #[.pointer (some ⟨x, 0, none⟩)] #[]), (49, .func (.func 51) #[.pointer (some ⟨x, 0, none⟩)] #[]), (113, .func (.func 52) #[.pointer (some ⟨x, 0, none⟩)] #[]), (41, .func (.func 53) #[.pointer (some ⟨x, 0, none⟩)] #[]), (105, .func (.func 54) #[.pointer (some ⟨x, 0, none⟩)] #[]), (18, .func (.func 55) #[.pointer (some ⟨x, 0, none⟩)] #[]), (6, .func (.func 56) #[.pointer (some ⟨x, 0, none⟩)] #[]), (14, .func (.func 57) #[.pointer (some ⟨x, 0, none⟩)] #[]), (30, .func (.func 58) #[.pointer (some ⟨x, 0, none⟩)] #[]), (222, .func (.func 59) #[.pointer (some ⟨x, 0, none⟩)] #[]), (5, .func (.func 60) #[.pointer (some ⟨x, 0, none⟩)] #[]), (13, .func (.func 61) #[.pointer (some ⟨x, 0, none⟩)] #[]), (29, .func (.func 62) #[.pointer (some ⟨x, 0, none⟩)] #[])]
theorem heap_set1 {w : World} {b : Nat} {o o' : Obj} (hb : w.heap[b]? = some o) : (Go.ChangeMaps.setBlock w b o').heap[b]? = some o' := (MapKept.heap_set hb).1
section
variable {P : Program} {W w : World} {F : List SA}
theorem run_insert {T kt et : TypeId} (hT : P.underlying T = some (.map kt et)) (hk : P.underlying kt = some (.int .i64)) {b : Nat} {l : List (Int × Value)} (S : SL W (mapS b l :: F) w) (k : Int) (hl : lk l k = none) (v : Value) :
    ∃ w', (Instr.mapUpdate T (.map (some b)) (.int .i64 k) v).run P w = .ok () w' ∧ SL W (mapS b (l ++ [(k, v)]) :: F) w' := by
  have hb : w.heap[b]? = some (.map (mapE l).toArray l.length) := SL.row S
  obtain ⟨r, h1, h2⟩ := find_now k l 0 0
  rw [hl] at h2
  obtain rfl : r = none := by cases r <;> simp_all
  have hf : Instr.findNow (.int .i64) (.int .i64 k) (mapE l).toArray.toList 0 = some none := h1
  have hkey : MapKept.IsKey (.int .i64) (.int .i64 k) := by simp [MapKept.IsKey]
  refine ⟨Go.ChangeMaps.setBlock w b (.map ((mapE l).toArray.push ⟨.int .i64 k, v, l.length⟩) (l.length + 1)), ?_, ?_⟩
  · simp [Instr.mapUpdate, run_underlying hT, MapKept.run_getObj_map hb, MapKept.run_checkKey hk hkey, MapKept.run_findKey hk hf, MapKept.run_setObj_map _ hb, Result.andThen, Go.ChangeMaps.setBlock]
  · rw [mapE_push]
    have hlen : (l ++ [(k, v)]).length = l.length + 1 := by simp
    unfold mapS
    rw [hlen]
    exact SL.turn S (heap_set1 hb) ⟨rfl, rfl, rfl, by simp [Go.ChangeMaps.setBlock], fun c _ hne => (MapKept.heap_set hb).2 c hne⟩
theorem run_look {T kt et : TypeId} (hT : P.underlying T = some (.map kt et)) (hk : P.underlying kt = some (.int .i64)) {z : Value} (hz : ∀ w, (zeroValue et).run P w = .ok z w) {b : Nat} {l : List (Int × Value)} (S : SL W (mapS b l :: F) w) (k : Int) :
    (Instr.lookup T (.map (some b)) (.int .i64 k) true).run P w = .ok (.tuple #[(lk l k).getD z, .bool (lk l k).isSome]) w := by
  have hb : w.heap[b]? = some (.map (mapE l).toArray l.length) := SL.row S
  obtain ⟨r, h1, h2⟩ := find_now k l 0 0
  have hf : Instr.findNow (.int .i64) (.int .i64 k) (mapE l).toArray.toList 0 = some r := h1
  have hkey : MapKept.IsKey (.int .i64) (.int .i64 k) := by simp [MapKept.IsKey]
  rw [← h2]
  cases r with
  | none => simp [Instr.lookup, run_underlying hT, MapKept.run_getObj_map hb, MapKept.run_checkKey hk hkey, MapKept.run_findKey hk hf, Result.andThen, hz]
  | some r => simp [Instr.lookup, run_underlying hT, MapKept.run_getObj_map hb, MapKept.run_checkKey hk hkey, MapKept.run_findKey hk hf, Result.andThen]
end
set_option maxRecDepth 100000 in
set_option maxHeartbeats 8000000 in
theorem commands_any {W w : World} {F : List SA} (x : Nat) (S : SL W F w) : Calls Tryz.prog 30 #[.pointer (some ⟨x, 0, none⟩)] w fun e w' => ∃ b, e = .returned (.map (some b)) ∧ SL W (mapS b (cmdL x) :: F) w' := by
  have HS := Lib.hid S
  clear S
  have S0 : SL W (mapS w.heap.size [] :: F) (w.alloc (.map #[] 0)) := HS.out.alloc _
  obtain ⟨w1, r1, S1⟩ := run_insert (P := Tryz.prog) (T := 68) Tryz.underlying68 Tryz.underlying3 S0 7 (by rfl) (.func (.func 48) #[.pointer (some ⟨x, 0, none⟩)] #[])
  obtain ⟨w2, r2, S2⟩ := run_insert (P := Tryz.prog) (T := 68) Tryz.underlying68 Tryz.underlying3 S1 19 (by rfl) (.func (.func 49) #[.pointer (some ⟨x, 0, none⟩)] #[])
  obtain ⟨w3, r3, S3⟩ := run_insert (P := Tryz.prog) (T := 68) Tryz.underlying68 Tryz.underlying3 S2 17 (by rfl) (.func (.func 50) #[.pointer (some ⟨x, 0, none⟩)] #[])
  obtain ⟨w4, r4, S4⟩ := run_insert (P := Tryz.prog) (T := 68) Tryz.underlying68 Tryz.underlying3 S3 49 (by rfl) (.func (.func 51) #[.pointer (some ⟨x, 0, none⟩)] #[])
  obtain ⟨w5, r5, S5⟩ := run_insert (P := Tryz.prog) (T := 68) Tryz.underlying68 Tryz.underlying3 S4 113 (by rfl) (.func (.func 52) #[.pointer (some ⟨x, 0, none⟩)] #[])
  obtain ⟨w6, r6, S6⟩ := run_insert (P := Tryz.prog) (T := 68) Tryz.underlying68 Tryz.underlying3 S5 41 (by rfl) (.func (.func 53) #[.pointer (some ⟨x, 0, none⟩)] #[])
  obtain ⟨w7, r7, S7⟩ := run_insert (P := Tryz.prog) (T := 68) Tryz.underlying68 Tryz.underlying3 S6 105 (by rfl) (.func (.func 54) #[.pointer (some ⟨x, 0, none⟩)] #[])
  obtain ⟨w8, r8, S8⟩ := run_insert (P := Tryz.prog) (T := 68) Tryz.underlying68 Tryz.underlying3 S7 18 (by rfl) (.func (.func 55) #[.pointer (some ⟨x, 0, none⟩)] #[])
  obtain ⟨w9, r9, S9⟩ := run_insert (P := Tryz.prog) (T := 68) Tryz.underlying68 Tryz.underlying3 S8 6 (by rfl) (.func (.func 56) #[.pointer (some ⟨x, 0, none⟩)] #[])
  obtain ⟨w10, r10, S10⟩ := run_insert (P := Tryz.prog) (T := 68) Tryz.underlying68 Tryz.underlying3 S9 14 (by rfl) (.func (.func 57) #[.pointer (some ⟨x, 0, none⟩)] #[])
  obtain ⟨w11, r11, S11⟩ := run_insert (P := Tryz.prog) (T := 68) Tryz.underlying68 Tryz.underlying3 S10 30 (by rfl) (.func (.func 58) #[.pointer (some ⟨x, 0, none⟩)] #[])
  obtain ⟨w12, r12, S12⟩ := run_insert (P := Tryz.prog) (T := 68) Tryz.underlying68 Tryz.underlying3 S11 222 (by rfl) (.func (.func 59) #[.pointer (some ⟨x, 0, none⟩)] #[])
  obtain ⟨w13, r13, S13⟩ := run_insert (P := Tryz.prog) (T := 68) Tryz.underlying68 Tryz.underlying3 S12 5 (by rfl) (.func (.func 60) #[.pointer (some ⟨x, 0, none⟩)] #[])
  obtain ⟨w14, r14, S14⟩ := run_insert (P := Tryz.prog) (T := 68) Tryz.underlying68 Tryz.underlying3 S13 13 (by rfl) (.func (.func 61) #[.pointer (some ⟨x, 0, none⟩)] #[])
  obtain ⟨w15, r15, S15⟩ := run_insert (P := Tryz.prog) (T := 68) Tryz.underlying68 Tryz.underlying3 S14 29 (by rfl) (.func (.func 62) #[.pointer (some ⟨x, 0, none⟩)] #[])
  have HE := Lib.hid S15
  clear S0 S1 S2 S3 S4 S5 S6 S7 S8 S9 S10 S11 S12 S13 S14 S15
  have hmm := @run_makeMap Tryz.prog
  have hmf : ∀ (fn : Fn) (first cap : Array Value) (w : World), (Instr.makeFunc fn first cap).run Tryz.prog w = .ok (.func fn first cap) w := fun _ _ _ _ => rfl
  go_enter Tryz.func30, Tryz.ntmps30
  go_wp2
  go_ret
  exact ⟨_, rfl, HE.out⟩
end Go.Proofs.YtmkndbledppniaaGreat
namespace Go.Proofs.YtmkndbledppniaaGreat
open Go.RowKit
/-- Bytes that can be read in every world of F. -/
def CardB (W : World) (F : List SA) (A : Option Addr) (b : List UInt8) (c : Nat) : Prop := ∀ w, SL W F w → CardAt w A b c
theorem CardB.base {W : World} {F : List SA} {A : Option Addr} {b : List UInt8} {c : Nat} (h : CardAt W A b c) : CardB W F A b c := fun _ S => h.grow S.below
/-- What a method leaves: the unit, and a reply with new data. -/
def RetM (W : World) (F : List SA) (x : Nat) (r : DK × Rep) (e : Ending) (w' : World) : Prop :=
  ∃ A c, e = .returned (.agg #[.slice A r.2.1.length c, .int .i64 (r.2.2.1 : Int), .int .i64 (r.2.2.2 : Int)]) ∧ SL W (rowS 5 1 (.slice A r.2.1.length c) r.2.1.length (Lib.byteCells r.2.1) :: diskS x r.1 :: F) w'
section
variable {W w : World} {F : List SA} {x tb : Nat} {s : DK} {lp : Option Addr} {was : Bool}
theorem RetM.of {r : DK} {st sn : Nat} {w' : World} (S : SL W (diskW x r was :: F) w') : RetM W F x (r, [], st, sn) (.returned (.agg #[.slice none 0 0, .int .i64 (st : Int), .int .i64 (sn : Int)])) w' :=
  ⟨none, 0, rfl, (disk_close S).nil _ _⟩
theorem here_b (h : s.ok) (S : SL W (cel x (dkCells s tb lp was) 50 :: F) w) : Calls Tryz.prog 45 #[.pointer (some ⟨x, 0, none⟩)] w fun e w' => e = .returned (.int .i64 (s.here : Int)) ∧ Below w.heap.size w w' :=
  (here_any h S).mono fun e w' k => ⟨k.1, k.2.below _⟩
set_option maxRecDepth 100000 in
theorem records_any (h : s.ok) {v : Value} (hv : w.cell? ⟨tb, s.here, none⟩ = some v) (S : SL W (cel x (dkCells s tb lp was) 50 :: F) w) : Calls Tryz.prog 81 #[.pointer (some ⟨x, 0, none⟩)] w fun e w' => e = .returned v ∧ Below w.heap.size w w' := by
  obtain ⟨L, K, z⟩ := S.look
  have zt := World.block_lt_of_cell? w _ hv
  have HL := Lib.hid (fun (wx : World) (hx : Below w.heap.size w wx) => (⟨(hx.cell (p := ⟨x, 3, none⟩) z).trans (L 3), (hx.cell (p := ⟨tb, s.here, none⟩) zt).trans hv⟩ : wx.cell? ⟨x, 3, none⟩ = some (.slice (some ⟨tb, 0, none⟩) s.tracks.length s.tracks.length) ∧ wx.cell? ⟨tb, s.here, none⟩ = some v))
  have HH := Lib.hid (fun (wx : World) (hx : Below w.heap.size w wx) => here_b h (S.grow hx))
  have hb := h.here_lt
  have hnt := h.nt
  generalize s.here = hn at *
  clear L K z zt hv S h
  go_enter Tryz.func81, Tryz.ntmps81
  go_upto_region 1 with fail
  refine wp_region_quiet (C := Below w.heap.size w) (by kernel_rfl) (by kernel_rfl) (Below.refl _ _).drew ?_
  (repeat (with_reducible refine wpQuiet_step ?_; intro K hK; go_simp; first | (with_reducible refine hK _ ?_; clear hK K) | (rw [if_neg (by decide)]; with_reducible refine hK _ ?_; clear hK K) | (refine ⟨_, fun wx hx => (by obtain ⟨f0, f1⟩ := HL.out wx hx; go_simp; with_reducible rfl), hK _ ?_⟩; clear hK K) | (refine ⟨_, fun wx hx => (by with_reducible refine (HH.out wx hx).mono ?_; rintro e w' ⟨rfl, h2⟩; exact ⟨rfl, hx.trans (h2.mono hx.size)⟩), hK _ ?_⟩; clear hK K) | (refine ⟨_, fun _ _ => rfl, hK _ ?_⟩; clear hK K))); with_reducible refine wpQuiet_nil ?_
  intro w1 hw1
  go_wp2
  go_ret
  exact ⟨rfl, hw1⟩
end
end Go.Proofs.YtmkndbledppniaaGreat
