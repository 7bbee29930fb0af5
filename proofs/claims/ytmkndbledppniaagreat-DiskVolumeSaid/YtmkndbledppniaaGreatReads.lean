/- The disk's reads of data, key and data, and whole records. -/
import Derived.Test.YtmkndbledppniaaGreatReadD
import Derived.Test.YtmkndbledppniaaGreatReadK
import Derived.Test.YtmkndbledppniaaGreatReadR
namespace Go.Proofs.YtmkndbledppniaaGreat
open Go.RowKit
theorem parts_one {w w' : World} {q : Nat} {A : Option Addr} {c : Nat} {l : List UInt8} (hb : Below w.heap.size w w') (h : CardAt w' A l c) (hl : l.length ≤ 10000) (h0 : w'.cell? ⟨q, 0, none⟩ = some (.slice A l.length c)) : PartsR w l (.returned (.slice (some ⟨q, 0, none⟩) 1 1)) w' :=
  ⟨q, [(.slice A l.length c, l)], rfl, by simp, by simp, hb, fun i v m hi => by
    match i, hi with
    | 0, hi => cases hi; exact ⟨h0, hl, A, c, rfl, h⟩
    | i + 1, hi => simp at hi⟩
theorem parts_two {w w' : World} {q : Nat} {A A2 : Option Addr} {c c2 : Nat} {l l2 : List UInt8} (hb : Below w.heap.size w w') (h : CardAt w' A l c) (hl : l.length ≤ 10000) (h0 : w'.cell? ⟨q, 0, none⟩ = some (.slice A l.length c)) (h2 : CardAt w' A2 l2 c2) (hl2 : l2.length ≤ 10000) (h1 : w'.cell? ⟨q, 1, none⟩ = some (.slice A2 l2.length c2)) : PartsR w (l ++ l2) (.returned (.slice (some ⟨q, 0, none⟩) 2 2)) w' :=
  ⟨q, [(.slice A l.length c, l), (.slice A2 l2.length c2, l2)], rfl, by simp, by simp, hb, fun i v m hi => by
    match i, hi with
    | 0, hi => cases hi; exact ⟨h0, hl, A, c, rfl, h⟩
    | 1, hi => cases hi; exact ⟨h1, hl2, A2, c2, rfl, h2⟩
    | i + 2, hi => simp at hi⟩
theorem parts_three {w w' : World} {q : Nat} {A A2 A3 : Option Addr} {c c2 c3 : Nat} {l l2 l3 : List UInt8} (hb : Below w.heap.size w w') (h : CardAt w' A l c) (hl : l.length ≤ 10000) (h0 : w'.cell? ⟨q, 0, none⟩ = some (.slice A l.length c)) (h2 : CardAt w' A2 l2 c2) (hl2 : l2.length ≤ 10000) (h1 : w'.cell? ⟨q, 1, none⟩ = some (.slice A2 l2.length c2))
    (h3 : CardAt w' A3 l3 c3) (hl3 : l3.length ≤ 10000) (h4 : w'.cell? ⟨q, 2, none⟩ = some (.slice A3 l3.length c3)) : PartsR w (l ++ l2 ++ l3) (.returned (.slice (some ⟨q, 0, none⟩) 3 3)) w' :=
  ⟨q, [(.slice A l.length c, l), (.slice A2 l2.length c2, l2), (.slice A3 l3.length c3, l3)], rfl, by simp, by simp, hb, fun i v m hi => by
    match i, hi with
    | 0, hi => cases hi; exact ⟨h0, hl, A, c, rfl, h⟩
    | 1, hi => cases hi; exact ⟨h1, hl2, A2, c2, rfl, h2⟩
    | 2, hi => cases hi; exact ⟨h4, hl3, A3, c3, rfl, h3⟩
    | i + 3, hi => simp at hi⟩
section
variable {W w : World} {F : List SA} {x tb : Nat} {s : DK} {lp : Option Addr} {was : Bool}
theorem partsD_any (y : Rec) (Ak Ad : Option Addr) (ck cd : Nat) (wx : World) (hy : 1 ≤ y.r ∧ y.r ≤ 255 ∧ y.key.length ≤ 255 ∧ y.data.length ≤ 2016) (h1 : CardAt wx Ak y.key ck) (h2 : CardAt wx Ad y.data cd) :
    Calls Tryz.prog 84 #[.agg #[.int .i64 y.r, .slice Ak y.key.length ck, .slice Ad y.data.length cd, .bool y.bad]] wx (PartsR wx y.data) := by
  have HY := Lib.hid hy
  have H2 := Lib.hid h2
  clear hy h1 h2
  go_enter Tryz.func84, Tryz.ntmps84
  go_wp2
  go_ret
  have hb : Below wx.heap.size wx ((wx.alloc (.cells #[.int .i64 y.r, .slice Ak y.key.length ck, .slice Ad y.data.length cd, .bool y.bad] 62)).alloc (.cells #[.slice Ad y.data.length cd] 34)) := by (repeat' (first | (with_reducible exact Below.refl _ _) | (with_reducible assumption) | (with_reducible refine below_drewN ?_ _) | (with_reducible refine Below.drew ?_) | (with_reducible refine Below.alloc ?_ ?_ _) | (with_reducible refine Below.setCell ?_ ?_ _) | (with_reducible refine below_row ?_ ?_ _) | (with_reducible exact Nat.le_refl _) | omega | (simp only [World.size_alloc, World.size_setCell, World.size_drew, World.size_drewN]; omega) | (simp; done) | (simp; omega)))
  refine parts_one hb (H2.out.grow hb) (by have := HY.out; omega) ?_
  have hl := (row_look (hl_new (w := wx.alloc (.cells #[.int .i64 y.r, .slice Ak y.key.length ck, .slice Ad y.data.length cd, .bool y.bad] 62)) (o := .cells #[.slice Ad y.data.length cd] 34) rfl)).1
  simp only [World.size_alloc] at hl
  exact hl 0
theorem partsK_any (y : Rec) (Ak Ad : Option Addr) (ck cd : Nat) (wx : World) (hy : 1 ≤ y.r ∧ y.r ≤ 255 ∧ y.key.length ≤ 255 ∧ y.data.length ≤ 2016) (h1 : CardAt wx Ak y.key ck) (h2 : CardAt wx Ad y.data cd) :
    Calls Tryz.prog 85 #[.agg #[.int .i64 y.r, .slice Ak y.key.length ck, .slice Ad y.data.length cd, .bool y.bad]] wx (PartsR wx (y.key ++ y.data)) := by
  have HY := Lib.hid hy
  have H2 := Lib.hid (And.intro h1 h2)
  clear hy h1 h2
  go_enter Tryz.func85, Tryz.ntmps85
  go_wp2
  go_ret
  have hb : Below wx.heap.size wx ((wx.alloc (.cells #[.int .i64 y.r, .slice Ak y.key.length ck, .slice Ad y.data.length cd, .bool y.bad] 62)).alloc (.cells #[.slice Ak y.key.length ck, .slice Ad y.data.length cd] 34)) := by (repeat' (first | (with_reducible exact Below.refl _ _) | (with_reducible assumption) | (with_reducible refine below_drewN ?_ _) | (with_reducible refine Below.drew ?_) | (with_reducible refine Below.alloc ?_ ?_ _) | (with_reducible refine Below.setCell ?_ ?_ _) | (with_reducible refine below_row ?_ ?_ _) | (with_reducible exact Nat.le_refl _) | omega | (simp only [World.size_alloc, World.size_setCell, World.size_drew, World.size_drewN]; omega) | (simp; done) | (simp; omega)))
  have hl := (row_look (hl_new (w := wx.alloc (.cells #[.int .i64 y.r, .slice Ak y.key.length ck, .slice Ad y.data.length cd, .bool y.bad] 62)) (o := .cells #[.slice Ak y.key.length ck, .slice Ad y.data.length cd] 34) rfl)).1
  simp only [World.size_alloc] at hl
  exact parts_two hb (H2.out.1.grow hb) (by have := HY.out; omega) (hl 0) (H2.out.2.grow hb) (by have := HY.out; omega) (hl 1)
set_option maxRecDepth 100000 in
theorem partsR_any (dbx : Nat) (y : Rec) (Ak Ad : Option Addr) (ck cd : Nat) (wx : World) (hcy : s.cyl ≤ 64) (hhd : s.head ≤ 8) (hy : 1 ≤ y.r ∧ y.r ≤ 255 ∧ y.key.length ≤ 255 ∧ y.data.length ≤ 2016) (h1 : CardAt wx Ak y.key ck) (h2 : CardAt wx Ad y.data cd)
    (S : SL W (cel x (dkCells s tb lp was) 50 :: cel dbx #[.pointer (some ⟨x, 0, none⟩)] 25 :: F) wx) :
    Calls Tryz.prog 86 #[.agg #[.int .i64 y.r, .slice Ak y.key.length ck, .slice Ad y.data.length cd, .bool y.bad], .pointer (some ⟨dbx, 0, none⟩)] wx (PartsR wx (cntL s.cyl s.head y ++ y.key ++ y.data)) := by
  have HY := Lib.hid hy
  have H2 := Lib.hid (And.intro h1 h2)
  have HS := Lib.hid S
  clear hy h1 h2 S
  go_enter Tryz.func86, Tryz.ntmps86
  go_upto_region 1 with fail
  refine name_world (P := Code.wp _ _ _ _) ?_
  intro wd hwd
  have hb : Below wx.heap.size wx wd := by rw [hwd]; exact (((Below.refl _ _).alloc (Nat.le_refl _) _))
  have H3 := Lib.hid (SL.cast hwd ((SL.start wx).allocC #[.int .i64 y.r, .slice Ak y.key.length ck, .slice Ad y.data.length cd, .bool y.bad] 62))
  have HS3 := Lib.hid (HS.out.grow hb)
  have HB := Lib.hid hb
  clear hwd HS hb
  obtain ⟨L, K, z⟩ := H3.out.look
  obtain ⟨L2, K2, z2⟩ := HS3.out.s1.look
  have HL := Lib.hid (fun (wy : World) (hx : Below wd.heap.size wd wy) => (⟨(hx.cell (p := ⟨dbx, 0, none⟩) z2).trans (L2 0), (hx.cell (p := ⟨wx.heap.size, 0, none⟩) z).trans (L 0), (hx.cell (p := ⟨wx.heap.size, 1, none⟩) z).trans (L 1), (hx.cell (p := ⟨wx.heap.size, 2, none⟩) z).trans (L 2), (hx.cell (p := ⟨wx.heap.size, 3, none⟩) z).trans (L 3)⟩ :
    wy.cell? ⟨dbx, 0, none⟩ = some (.pointer (some ⟨x, 0, none⟩)) ∧ wy.cell? ⟨wx.heap.size, 0, none⟩ = some (.int .i64 y.r) ∧ wy.cell? ⟨wx.heap.size, 1, none⟩ = some (.slice Ak y.key.length ck) ∧ wy.cell? ⟨wx.heap.size, 2, none⟩ = some (.slice Ad y.data.length cd) ∧ wy.cell? ⟨wx.heap.size, 3, none⟩ = some (.bool y.bad)))
  clear L K z L2 K2 z2
  refine wp_region_order (fun wy => Below wd.heap.size wd wy) [] [0, 1, 3, 4, 5, 6] [] [2] [7, 8] (by kernel_rfl) (by kernel_rfl) (Below.refl _ _).drew (by intro c a d v w h; cases d <;> exact h) ?_
  simp only [pick, List.filterMap_cons, List.filterMap_nil, List.getElem?_cons_zero, List.getElem?_cons_succ]
  refine wpPure_nil ?_
  (repeat (with_reducible refine wpLoads_step ?_; intro K hK; go_simp; first | (with_reducible refine hK _ ?_; clear hK K) | (rw [if_neg (by decide)]; with_reducible refine hK _ ?_; clear hK K) | (refine ⟨_, fun wx hx => (by obtain ⟨f0, f1, f2, f3, f4⟩ := HL.out wx hx; go_simp; with_reducible rfl), hK _ ?_⟩; clear hK K) | (refine ⟨_, fun _ _ => rfl, hK _ ?_⟩; clear hK K))); with_reducible refine wpLoads_nil ?_
  refine wpQuiet_nil ?_
  intro wq hwq
  have BQ := Lib.hid hwq
  clear hwq
  (with_reducible refine wpKeep_step ?_; intro K hK; go_simp)
  refine (count_any y Ak Ad ck cd hcy hhd HY.out (HS3.out.grow BQ.out)).mono ?_
  rintro e w5 ⟨g, rfl, S5, b5⟩
  refine hK _ _ (BQ.out.trans (b5.mono BQ.out.size)) ?_
  clear hK K
  refine wpKeep_nil ?_
  have HC := Lib.hid (rowS_card (l := cntL s.cyl s.head y) (c := 8) (by rw [cntL_len]; exact S5))
  have HBB := Lib.hid (HB.out.trans ((BQ.out.trans (b5.mono BQ.out.size)).mono HB.out.size))
  clear S5 b5 BQ HL H3 HS3
  go_wp2
  go_ret
  have hb : Below wx.heap.size wx (w5.alloc (.cells #[.slice (some ⟨g, 0, none⟩) 8 8, .slice Ak y.key.length ck, .slice Ad y.data.length cd] 34)) := HBB.out.alloc HBB.out.size _
  have hl := (row_look (hl_new (w := w5) (o := .cells #[.slice (some ⟨g, 0, none⟩) 8 8, .slice Ak y.key.length ck, .slice Ad y.data.length cd] 34) rfl)).1
  have h8 := HC.out.grow (w' := w5.alloc (.cells #[.slice (some ⟨g, 0, none⟩) 8 8, .slice Ak y.key.length ck, .slice Ad y.data.length cd] 34)) ((Below.refl _ _).alloc (Nat.le_refl _) _)
  exact parts_three hb h8 (by rw [cntL_len]; omega) (by rw [cntL_len]; exact hl 0) (H2.out.1.grow hb) (by have := HY.out; omega) (hl 1) (H2.out.2.grow hb) (by have := HY.out; omega) (hl 2)
theorem readData_any (A : Option Addr) (n c : Nat) (h : s.ok) (S : SL W (diskW x s was :: F) w) : Calls Tryz.prog 56 #[.pointer (some ⟨x, 0, none⟩), .slice A n c] w (RetM W F x (dkRead s false false)) := by
  have HS := Lib.hid S
  clear S
  (go_enter Tryz.func56, Tryz.ntmps56; go_upto_region 1 with fail; refine name_world (P := Code.wp _ _ _ _) ?_; intro wA hwA; have H1 := Lib.hid (SL.cast hwA (HS.out.allocC #[.slice none 0 0, .int .i64 0, .int .i64 0] 53)); clear hwA HS; generalize w.heap.size = rb at *)
  go_wp2_with fail
  refine (readD_any 0 false false h H1.out.s1 (fun y Ak Ad ck cd s' tb lp G wx _ _ hy h1 h2 _ => partsD_any y Ak Ad ck cd wx hy h1 h2)).mono ?_
  rintro e w9 ⟨A9, c9, rfl, S9⟩
  have H9 := Lib.hid S9.s2
  clear S9
  obtain ⟨L, K, z⟩ := H9.out.look
  go_wp2
  refine bodyPost_ret (by simp [results, Tryz.results56, go_sem, L]; rfl) rfl ?_
  exact ⟨A9, c9, rfl, H9.out.set3.drop⟩
theorem readKeyData_any (A : Option Addr) (n c : Nat) (h : s.ok) (S : SL W (diskW x s was :: F) w) : Calls Tryz.prog 57 #[.pointer (some ⟨x, 0, none⟩), .slice A n c] w (RetM W F x (dkRead s false true)) := by
  have HS := Lib.hid S
  clear S
  (go_enter Tryz.func57, Tryz.ntmps57; go_upto_region 1 with fail; refine name_world (P := Code.wp _ _ _ _) ?_; intro wA hwA; have H1 := Lib.hid (SL.cast hwA (HS.out.allocC #[.slice none 0 0, .int .i64 0, .int .i64 0] 53)); clear hwA HS; generalize w.heap.size = rb at *)
  go_wp2_with fail
  refine (readK_any 0 false true h H1.out.s1 (fun y Ak Ad ck cd s' tb lp G wx _ _ hy h1 h2 _ => partsK_any y Ak Ad ck cd wx hy h1 h2)).mono ?_
  rintro e w9 ⟨A9, c9, rfl, S9⟩
  have H9 := Lib.hid S9.s2
  clear S9
  obtain ⟨L, K, z⟩ := H9.out.look
  go_wp2
  refine bodyPost_ret (by simp [results, Tryz.results57, go_sem, L]; rfl) rfl ?_
  exact ⟨A9, c9, rfl, H9.out.set3.drop⟩
set_option maxRecDepth 100000 in
theorem readRecord_any (A : Option Addr) (n c : Nat) (h : s.ok) (S : SL W (diskW x s was :: F) w) : Calls Tryz.prog 58 #[.pointer (some ⟨x, 0, none⟩), .slice A n c] w (RetM W F x (dkRead s true true)) := by
  have HS := Lib.hid S
  have hcy : s.cyl ≤ 64 := by have := h.cy; have := h.c1; omega
  have hhd : s.head ≤ 8 := by have := h.hd; have := h.h1; omega
  clear S
  have hmf : ∀ (fn : Fn) (first cap : Array Value) (w : World), (Instr.makeFunc fn first cap).run Tryz.prog w = .ok (.func fn first cap) w := fun _ _ _ _ => rfl
  go_enter Tryz.func58, Tryz.ntmps58
  go_upto_region 1 with fail
  refine name_world (P := Code.wp _ _ _ _) ?_
  intro wA hwA
  have h1 := SL.cast hwA ((HS.out.allocC #[.pointer (some ⟨x, 0, none⟩)] 25).allocC #[.slice none 0 0, .int .i64 0, .int .i64 0] 53)
  simp only [World.size_alloc] at h1
  have H1 := Lib.hid h1
  clear hwA HS h1
  generalize w.heap.size + 1 = rb at *
  generalize w.heap.size = bx at *
  obtain ⟨L, K, z⟩ := H1.out.s1.look
  go_wp2_with fail
  -- reply, box, disk
  refine (readR_any bx true true h H1.out.s2 (fun y Ak Ad ck cd s' tb lp G wx e1 e2 hy h1 h2 S => ?_)).mono ?_
  · have hp := partsR_any (s := s') bx y Ak Ad ck cd wx (by rw [e1]; exact hcy) (by rw [e2]; exact hhd) hy h1 h2 (W := W) (x := x) (tb := tb) (lp := lp) (was := was) (SL.dropMid S).s2.s1
    rw [e1, e2] at hp
    exact hp
  rintro e w9 ⟨A9, c9, rfl, S9⟩
  have H9 := Lib.hid S9.s2
  clear S9 L K z
  obtain ⟨L, K, z⟩ := H9.out.look
  go_wp2
  refine bodyPost_ret (by simp [results, Tryz.results58, go_sem, L]; rfl) rfl ?_
  exact ⟨A9, c9, rfl, H9.out.set3.drop.s2.drop⟩
end
end Go.Proofs.YtmkndbledppniaaGreat
