/- DPad, DSel. -/
import Derived.Test.YtlbbmfmkhmmikaaGreatDMeth5
import Derived.Deep.CutBlock
import Derived.Deep.CutRange
namespace Go.Proofs.YtlbbmfmkhmmikaaGreat.D
open Go.RowKit
theorem pad_cells (b : List UInt8) (n : Nat) : splice (Lib.byteCells (List.replicate n 0)) 0 ((Lib.byteCells b).take n) = Lib.byteCells (padL b n) := by
  unfold splice padL
  simp only [List.take_zero, List.nil_append, Nat.zero_add, Lib.byteCells, List.map_append, List.map_take, List.map_replicate, List.length_take, List.length_map, List.drop_replicate]
  congr 2
  omega
theorem cnt_cells {c h : Nat} {y : Rec} (hc : c ≤ 255) (hh : h ≤ 255) (h1 : 1 ≤ y.r) (h2 : y.r ≤ 255) (h3 : y.key.length ≤ 255) (h4 : y.data.length ≤ 2016) : Lib.byteCells (cntL c h y) = [.int .u8 ((c : Int) / 256), .int .u8 (c : Int), .int .u8 ((h : Int) / 256), .int .u8 (h : Int), .int .u8 y.r, .int .u8 (y.key.length : Int), .int .u8 ((y.data.length : Int) / 256), .int .u8 ((y.data.length : Int) % 256)] := by
  have a1 := half_cells c (by omega)
  have a2 := half_cells h (by omega)
  have a3 := half_cells y.data.length (by omega)
  have e1 : (c : Int) % 256 = c := by omega
  have e2 : (h : Int) % 256 = h := by omega
  have e3 : ((UInt8.ofNat y.r.toNat).toNat : Int) = y.r := by rw [UInt8.toNat_ofNat']; omega
  have e4 : ((UInt8.ofNat y.key.length).toNat : Int) = y.key.length := by rw [UInt8.toNat_ofNat']; omega
  rw [e1] at a1
  rw [e2] at a2
  unfold cntL
  simp only [Lib.byteCells, List.map_append] at a1 a2 a3 ⊢
  rw [a1, a2, a3]
  simp only [List.map_cons, List.map_nil, e3, e4, List.cons_append, List.nil_append]
theorem cntL_len (c h : Nat) (y : Rec) : (cntL c h y).length = 8 := by simp [cntL, halfL]
theorem padL_len (b : List UInt8) (n : Nat) : (padL b n).length = n := by unfold padL; simp; omega
section
variable {W w : World} {F : List SA}
set_option maxRecDepth 100000 in
theorem padded_any (A : Option Addr) (b : List UInt8) (m c n : Nat) (hm : b.length = m) (hd : CardAt w A b c) (hn : n ≤ 1000000) (S : SL W F w) : Calls Tryz.prog 74 #[.slice A m c, .int .i64 (n : Int)] w fun e w' => ∃ g, e = .returned (.slice (some ⟨g, 0, none⟩) n n) ∧ SL W (rowS 5 1 (.slice (some ⟨g, 0, none⟩) n n) n (Lib.byteCells (padL b n)) :: F) w' ∧ Below w.heap.size w w' := by
  subst hm
  have HS := Lib.hid S
  have HD := Lib.hid hd
  have HW := Lib.hid (SL.start w)
  clear S hd
  go_enter Tryz.func74, Tryz.ntmps74
  go_wp2_with (first
    | (at_make; refine wpList_makeS rfl _ _ _ rfl bElem .i64 .i64 _ _ n rfl rfl rfl rfl (by omega) (by unfold maxLen; omega) HW.out ?_
       intro g w1 S1
       rw [← zeros_made] at S1
       have H1 := Lib.hid S1
       clear S1)
    | (refine wpList_copyS rfl _ _ _ _ rfl bElem g n n _ H1.out _ n n 0 rfl w1.heap.size A b.length c (Lib.byteCells b) rfl ((HD.out.grow H1.out.below).1) (byteCells_len b) (fun _ => rfl) (by omega) (byteCells_one b) ?_
       intro w2 S2
       rw [pad_cells] at S2
       have H2 := Lib.hid S2
       clear S2))
  go_ret
  exact ⟨g, rfl, HS.out.join H2.out, H2.out.below⟩
variable {x tb : Nat} {s : DK} {lp : Option Addr} {was : Bool}
set_option maxRecDepth 100000 in
set_option maxHeartbeats 8000000 in
theorem count_any (y : Rec) (Ak Ad : Option Addr) (ck cd : Nat) (hcy : s.cyl ≤ 64) (hhd : s.head ≤ 8) (hy : 1 ≤ y.r ∧ y.r ≤ 255 ∧ y.key.length ≤ 255 ∧ y.data.length ≤ 2016) (S : SL W (cel x (dkCells s tb lp was) 136 :: F) w) :
    Calls Tryz.prog 247 #[.pointer (some ⟨x, 0, none⟩), .agg #[.int .i64 y.r, .slice Ak y.key.length ck, .slice Ad y.data.length cd, .bool y.bad]] w fun e w' => ∃ g, e = .returned (.slice (some ⟨g, 0, none⟩) 8 8) ∧ SL W (rowS 5 1 (.slice (some ⟨g, 0, none⟩) 8 8) 8 (Lib.byteCells (cntL s.cyl s.head y)) :: cel x (dkCells s tb lp was) 136 :: F) w' ∧ Below w.heap.size w w' := by
  have HS := Lib.hid S
  clear S
  obtain ⟨hy1, hy2, hy3, hy4⟩ := hy
  go_enter Tryz.func247, Tryz.ntmps247
  go_upto_region 2 with fail
  refine name_world (P := Code.wp _ _ _ _) ?_
  intro wd hwd
  have H1 := Lib.hid (SL.cast hwd (HS.out.allocC #[.int .i64 y.r, .slice Ak y.key.length ck, .slice Ad y.data.length cd, .bool y.bad] 78))
  have hbd : Below w.heap.size w wd ∧ w.heap.size ≤ wd.heap.size := by rw [hwd]; exact ⟨(((Below.refl _ _).alloc (Nat.le_refl _) _)), by simp⟩
  have HBd := Lib.hid hbd
  clear hwd HS hbd
  generalize hbx : w.heap.size = bx at *
  have HBX := Lib.hid hbx
  clear hbx
  obtain ⟨L, K, z⟩ := H1.out.look
  obtain ⟨L2, K2, z2⟩ := H1.out.s1.look
  refine wp_region_order (fun wx => wx = wd.drew) [] [] [0, 1, 2, 3, 4, 5, 6, 7, 8, 9, 10, 11, 12, 13, 14, 15, 16, 17, 18, 19, 20, 21, 22, 23, 24, 25, 26, 27, 28, 29, 30, 31, 32, 33] [] [34, 35] (by kernel_rfl) (by kernel_rfl) rfl (by intro c a d v w h; cases d <;> exact h) ?_
  simp only [pick, List.filterMap_cons, List.filterMap_nil, List.getElem?_cons_zero, List.getElem?_cons_succ]
  refine wpPure_nil ?_
  refine wpLoads_nil ?_
  (repeat (with_reducible refine wpQuiet_step ?_; intro K hK; go_simp; first | (with_reducible refine hK _ ?_; clear hK K) | (rw [if_neg (by decide)]; with_reducible refine hK _ ?_; clear hK K) | (refine ⟨_, fun wx hx => (by subst hx; go_simp; with_reducible rfl), hK _ ?_⟩; clear hK K) | fail | (refine ⟨_, fun _ _ => rfl, hK _ ?_⟩; clear hK K))); with_reducible refine wpQuiet_nil ?_
  intro w2 hw2
  have H2 := Lib.hid (hw2 ▸ H1.out.drew : SL W _ w2)
  have HB2 := Lib.hid (show Below bx w w2 ∧ bx ≤ w2.heap.size by rw [hw2]; exact ⟨HBd.out.1.drew, HBd.out.2⟩)
  clear hw2 H1 L K z L2 K2 z2 HBd
  refine wpKeep_nil ?_
  go_wp2
  go_ret
  refine ⟨_, rfl, ?_, by rw [HBX.out]; exact HB2.out.1.alloc HB2.out.2 _⟩
  rw [cnt_cells (by omega) (by omega) hy1 hy2 hy3 hy4]
  exact H2.out.drop.lit #[.int .u8 ((s.cyl : Int) / 256), .int .u8 (s.cyl : Int), .int .u8 ((s.head : Int) / 256), .int .u8 (s.head : Int), .int .u8 y.r, .int .u8 (y.key.length : Int), .int .u8 ((y.data.length : Int) / 256), .int .u8 ((y.data.length : Int) % 256)] 5 1 8 rfl (by decide)
end
end Go.Proofs.YtlbbmfmkhmmikaaGreat.D
namespace Go.Proofs.YtlbbmfmkhmmikaaGreat.D
open Go.RowKit
section
variable {W w : World}
theorem rec_sel {L : List SA} {R : List SA} {i k n c0 : Nat} {A0 : Option Addr} {recs : List Rec} {y : Rec} (hz : L[i]? = some (recsS (.slice A0 n c0) recs)) (hy : recs[k]? = some y) (S : SL W (star L :: R) w) :
    ∃ (P : SA) (g ck cd : Nat) (Ak Ad : Option Addr), A0 = some ⟨g, 0, none⟩ ∧ SL W (P :: R) w ∧ (∀ R' w', SL W (P :: R') w' → SL W (star L :: R') w') ∧ (∀ R' w', SL W (P :: R') w' →
      w'.cell? ⟨g, k * 4, none⟩ = some (.int .i64 y.r) ∧ w'.cell? ⟨g, k * 4 + 1, none⟩ = some (.slice Ak y.key.length ck) ∧ w'.cell? ⟨g, k * 4 + 2, none⟩ = some (.slice Ad y.data.length cd) ∧ w'.cell? ⟨g, k * 4 + 3, none⟩ = some (.bool y.bad) ∧
      CardAt w' Ak y.key ck ∧ CardAt w' Ad y.data cd) := by
  have S1 := S.take hz
  have hl := (List.getElem?_eq_some_iff.1 hz).1
  obtain ⟨ps, hps, S2⟩ := recsS_open S1
  subst hps
  rw [List.getElem?_map] at hy
  obtain ⟨p, hp, rfl⟩ := Option.map_eq_some_iff.1 hy
  have hc := fun j (hj : j < 4) => recCells_get ps k j p hp hj
  have hmem : p ∈ ps := List.mem_iff_getElem?.2 ⟨k, hp⟩
  have hn : n = ps.length := by
    obtain ⟨A', c', e, _, _⟩ := recsS_len S1
    injection e with _ e _
    rw [e, List.length_map]
  subst hn
  obtain ⟨Ak, ck, Ad, cd, e1, _, _⟩ := recO_v S2.s1 p hmem
  obtain ⟨g, hA, _, _⟩ := S2.cellAt (j := k * 4 + 0) (u := .int .i64 p.2.r) (by rw [hc 0 (by omega)]; rfl)
  subst hA
  refine ⟨star [rowS 78 4 (.slice (some ⟨g, 0, none⟩) ps.length c0) ps.length (ps.flatMap recCells), star (ps.map recO), star (L.eraseIdx i)], g, ck, cd, Ak, Ad, rfl, S2.app (L := [_, _, _]), fun R' w' S' => ?_, fun R' w' S' => ?_⟩
  · have S3 := SL.put (recsS_close S'.spill) hl
    have he : L.set i (recsS (.slice (some ⟨g, 0, none⟩) ps.length c0) (ps.map Prod.snd)) = L := by
      apply List.ext_getElem?
      intro j
      rw [List.getElem?_set]
      split
      · rename_i e; subst e; first | exact hz.symm | rw [if_pos hl, hz]
      · rfl
    rw [he] at S3
    exact S3
  · have S3 := S'.spill
    obtain ⟨g0, e0, _, c0'⟩ := S3.cellAt (j := k * 4 + 0) (u := .int .i64 p.2.r) (by rw [hc 0 (by omega)]; rfl)
    obtain ⟨g1, e1', _, c1⟩ := S3.cellAt (j := k * 4 + 1) (u := p.1.1) (by rw [hc 1 (by omega)]; rfl)
    obtain ⟨g2, e2, _, c2⟩ := S3.cellAt (j := k * 4 + 2) (u := p.1.2) (by rw [hc 2 (by omega)]; rfl)
    obtain ⟨g3, e3, _, c3⟩ := S3.cellAt (j := k * 4 + 3) (u := .bool p.2.bad) (by rw [hc 3 (by omega)]; rfl)
    injection e0 with e0; injection e0 with e0; subst e0
    injection e1' with e1'; injection e1' with e1'; subst e1'
    injection e2 with e2; injection e2 with e2; subst e2
    injection e3 with e3; injection e3 with e3; subst e3
    have hv := recO_v S3.s1 p hmem
    obtain ⟨q1, q2⟩ := p
    simp only at e1
    subst e1
    obtain ⟨h1, h2⟩ := RecV.get (x := q2) hv
    exact ⟨c0', c1, c2, c3, h1, h2⟩
end
end Go.Proofs.YtlbbmfmkhmmikaaGreat.D
namespace Go.Proofs.YtlbbmfmkhmmikaaGreat.D
open Go.RowKit
/-- What the function that read is given returns for a record: slices of bytes in new memory. -/
def PartsR (w : World) (out : List UInt8) (e : Ending) (w' : World) : Prop :=
  ∃ (q : Nat) (ls : List (Value × List UInt8)), e = .returned (.slice (some ⟨q, 0, none⟩) ls.length ls.length) ∧ ls.length ≤ 3 ∧ (ls.flatMap Prod.snd) = out ∧ Below w.heap.size w w' ∧
    ∀ i v l, ls[i]? = some (v, l) → w'.cell? ⟨q, i, none⟩ = some v ∧ l.length ≤ 10000 ∧ ∃ A c, v = .slice A l.length c ∧ CardAt w' A l c
theorem flat_take {ls : List (Value × List UInt8)} {j : Nat} {v : Value} {l : List UInt8} (h : ls[j]? = some (v, l)) : (ls.take (j + 1)).flatMap Prod.snd = (ls.take j).flatMap Prod.snd ++ l := by
  rw [List.take_add_one, h]; simp
theorem fmap_len : ∀ {ls : List (Value × List UInt8)}, (∀ (i : Nat) (v : Value) (l : List UInt8), ls[i]? = some (v, l) → l.length ≤ 10000) → (ls.flatMap Prod.snd).length ≤ 10000 * ls.length
  | [], _ => by simp
  | a :: ls, h => by
    have h1 := fmap_len (ls := ls) fun i v l hi => h (i + 1) v l hi
    have h2 := h 0 a.1 a.2 rfl
    simp only [List.flatMap_cons, List.length_append, List.length_cons]; omega
end Go.Proofs.YtlbbmfmkhmmikaaGreat.D
