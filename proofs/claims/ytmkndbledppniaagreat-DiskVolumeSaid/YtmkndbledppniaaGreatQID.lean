/- The document's unit: searchID. -/
import Derived.Test.YtmkndbledppniaaGreatQM1
import Derived.Deep.CutBlock
import Derived.Deep.CutRange
namespace Go.Proofs.YtmkndbledppniaaGreat
open Go.RowKit
def hitQ (s : DK) (b : List UInt8) (high : Bool) (r : Rec) : Bool := decide (two b 0 = s.cyl) && (decide (two b 2 = s.head) && (decide (r.r = ((b[4]?.getD 0).toNat : Int)) || (high && decide (((b[4]?.getD 0).toNat : Int) < r.r))))
theorem findIdx_congr {α : Type} {p q : α → Bool} : ∀ {l : List α}, (∀ x ∈ l, p x = q x) → l.findIdx? p = l.findIdx? q
  | [], _ => rfl
  | x :: l, h => by rw [List.findIdx?_cons, List.findIdx?_cons, h x (by simp), findIdx_congr (l := l) (fun y hy => h y (by simp [hy]))]
theorem idq {s : DK} (h : s.ok) (b : List UInt8) (high : Bool) (h5 : b.length = 5) : dkID s b (if high then 255 else 0) = match s.recs.findIdx? (hitQ s b high) with
    | some i => dkHit s i
    | none => dkCheck s 2 := by
  unfold dkID
  rw [if_neg (by omega)]
  by_cases he : two b 0 = s.cyl ∧ two b 2 = s.head
  · rw [if_pos he]
    have e : s.recs.findIdx? (fun r => decide (0 ≤ r.r - ((b[4]?.getD 0).toNat : Int)) && decide (r.r - ((b[4]?.getD 0).toNat : Int) ≤ (if high then 255 else 0))) = s.recs.findIdx? (hitQ s b high) := findIdx_congr fun y hy => by
      obtain ⟨j, hj⟩ := List.mem_iff_getElem?.1 hy
      have hv := valid_rec h.rv hj
      unfold hitQ
      rw [decide_eq_true he.1, decide_eq_true he.2, Bool.true_and, Bool.true_and]
      generalize (b[4]?.getD 0).toNat = d
      cases high
      · simp only [Bool.false_and, Bool.or_false]
        rw [← Bool.decide_and]
        exact decide_eq_decide.2 (by simp; omega)
      · simp only [Bool.true_and]
        rw [← Bool.decide_and, ← Bool.decide_or]
        exact decide_eq_decide.2 (by simp; omega)
    rw [e]
    cases List.findIdx? (hitQ s b high) s.recs <;> rfl
  · rw [if_neg he]
    have e : s.recs.findIdx? (hitQ s b high) = none := List.findIdx?_eq_none_iff.2 fun y _ => by
      unfold hitQ
      by_cases h0 : two b 0 = s.cyl
      · rw [decide_eq_false (p := two b 2 = s.head) (fun h2 => he ⟨h0, h2⟩)]; simp
      · rw [decide_eq_false h0]; rfl
    rw [e]
theorem qfind_first {α : Type} {p : α → Bool} {l : List α} {k : Nat} {x : α} (hx : l[k]? = some x) (hp : p x = true) (h : ∀ j y, j < k → l[j]? = some y → p y = false) : l.findIdx? p = some k := findIdx_some hx hp h
theorem qfind_none {α : Type} {p : α → Bool} {l : List α} (h : ∀ j y, j < l.length → l[j]? = some y → p y = false) : l.findIdx? p = none := List.findIdx?_eq_none_iff.2 fun y hy => by
  obtain ⟨j, hj⟩ := List.mem_iff_getElem?.1 hy
  exact h j y (List.getElem?_eq_some_iff.1 hj).1 hj
section
variable {W w : World} {F : List SA} {x : Nat} {s : DK}
set_option maxRecDepth 100000 in
set_option maxHeartbeats 16000000 in
theorem qid_any (A : Option Addr) (b : List UInt8) (c : Nat) (high : Bool) (more : Int) (hm : more = if high then 255 else 0) (hd : CardB W F A b c) (h : s.ok) (S : SL W (qdiskS x s :: F) w) : Calls Tryz.prog 34 #[.pointer (some ⟨x, 0, none⟩), .slice A b.length c, .bool high] w (RetQ W F x (dkID s b more)) := by
  have HDB := Lib.hid hd
  have hbl : b.length ≤ 9223372036854775807 := by have := (hd w S.drop).2; unfold maxLen at this; omega
  have hhl := h.here_lt
  obtain ⟨tb, old, a, n, vs, A0, c0, hv0, hva, hvz, hlc, hcm, S1⟩ := selQ_open h S; have HS := Lib.hid S1; have HV := Lib.hid hv0; have HVZ := Lib.hid (And.intro hva hvz); have HH := Lib.hid h; have hrl := h.rl; clear S S1 h hv0 hva hvz
  clear hd
  by_cases h5 : b.length = 5
  · have HRK := Lib.hid (show dkID s b more = match s.recs.findIdx? (hitQ s b high) with
      | some i => dkHit s i
      | none => dkCheck s 2 by rw [hm]; exact idq HH.out b high h5)
    clear hm
    have H5 := Lib.hid h5
    have hc5 : 5 ≤ c := by have := (HDB.out _ HS.out.drop.drop.drop.drop).2.1; omega
    rw [h5]
    clear h5 hbl
    (go_enter Tryz.func34, Tryz.ntmps34; go_upto_region 1 with fail; refine name_world (P := Code.wp _ _ _ _) ?_; intro wA hwA; have H1 := Lib.hid (SL.cast hwA (HS.out.allocC #[.slice none 0 0, .int .i64 0, .int .i64 0] 53)); clear hwA HS; generalize w.heap.size = rb at *)
    go_upto_region 3 with fail
    have hdA := HDB.out wA H1.out.drop.drop.drop.drop.drop
    have HT0 := Lib.hid (fun (wx : World) (hx : Below wA.heap.size wA wx) => number_at A b 5 c 0 0 rfl wx (hdA.grow hx) H5.out.symm (by omega))
    have HT2 := Lib.hid (fun (wx : World) (hx : Below wA.heap.size wA wx) => number_at A b 5 c 2 2 rfl wx (hdA.grow hx) H5.out.symm (by omega))
    obtain ⟨gb, offb, rfl, hgb, hcb⟩ := hdA.1 (by intro e; have := congrArg List.length e; rw [byteCells_len, H5.out] at this; cases this)
    have c4 := hcb 4 _ (byteCells_get b 4 (by have := H5.out; omega))
    have e4 : b[4]?.getD 0 = b[4]'(by have := H5.out; omega) := by rw [List.getElem?_eq_getElem (by have := H5.out; omega)]; rfl
    rw [← e4] at c4
    have HHQ := Lib.hid (show ∀ r : Rec, hitQ s b high r = (decide (two b 0 = s.cyl) && (decide (two b 2 = s.head) && (decide (r.r = ((b[4]?.getD 0).toNat : Int)) || (high && decide (((b[4]?.getD 0).toNat : Int) < r.r))))) from fun _ => rfl)
    have hd4 : (b[4]?.getD 0).toNat < 256 := UInt8.toNat_lt _
    generalize (b[4]?.getD 0).toNat = d4 at *
    generalize hitQ s b high = hq at *
    generalize two b 0 = t0 at *
    generalize two b 2 = t2 at *
    obtain ⟨L, K, z⟩ := H1.out.s1.look
    obtain ⟨L2, K2, z2⟩ := H1.out.s2.look
    have hqv := (L2 s.here).trans HVZ.out.1
    have hhi : (s.here : Int) < (s.tracks.length : Int) := by omega
    have HX := Lib.hid (fun (wx : World) (hx : Below wA.heap.size wA wx) => (⟨(hx.cell (p := ⟨x, 3, none⟩) z).trans (L 3), (hx.cell (p := ⟨tb, s.here, none⟩) z2).trans hqv⟩ : wx.cell? ⟨x, 3, none⟩ = some (.slice (some ⟨tb, 0, none⟩) s.tracks.length s.tracks.length) ∧ wx.cell? ⟨tb, s.here, none⟩ = some (.slice A0 s.recs.length c0)))
    have HY := Lib.hid (fun (wx : World) (hx : Below wA.heap.size wA wx) => (⟨(hx.cell (p := ⟨x, 4, none⟩) z).trans (L 4), (hx.cell (p := ⟨x, 5, none⟩) z).trans (L 5), (hx.cell (p := ⟨gb, offb + 4, none⟩) hgb).trans c4⟩ : wx.cell? ⟨x, 4, none⟩ = some (.int .i64 (s.cyl : Int)) ∧ wx.cell? ⟨x, 5, none⟩ = some (.int .i64 (s.head : Int)) ∧ wx.cell? ⟨gb, offb + 4, none⟩ = some (.int .u8 (d4 : Int))))
    have HC := Lib.hid (fun (wx : World) (hx : Below wA.heap.size wA wx) => qhere_b HH.out (H1.out.s1.grow hx))
    have HRR := Lib.hid (trackQ_at (H1.out.s3.take HVZ.out.2))
    clear L K z L2 K2 z2 hqv hdA hcb c4 e4 hgb HDB
    refine wp_region_quiet (C := Below wA.heap.size wA) (by kernel_rfl) (by kernel_rfl) (Below.refl _ _).drew ?_
    (repeat (with_reducible refine wpQuiet_step ?_; intro K hK; go_simp; first | (with_reducible refine hK _ ?_; clear hK K) | (rw [if_neg (by decide)]; with_reducible refine hK _ ?_; clear hK K) | (refine ⟨_, fun wx hx => (by obtain ⟨f0, f1⟩ := HX.out wx hx; go_simp; with_reducible rfl), hK _ ?_⟩; clear hK K) | (refine ⟨_, fun wx hx => (by with_reducible refine (HC.out wx hx).mono ?_; rintro e w' ⟨rfl, h2⟩; exact ⟨rfl, hx.trans (h2.mono hx.size)⟩), hK _ ?_⟩; clear hK K) | (refine ⟨_, fun _ _ => rfl, hK _ ?_⟩; clear hK K))); with_reducible refine wpQuiet_nil ?_
    intro w1 b1
    have B0 := Lib.hid b1
    clear b1 HX HC
    go_upto_region 5 with fail
    go_loopw [8] (fun i wr => ∃ k : Nat, k ≤ s.recs.length ∧ i = .int .i64 k ∧ (∀ j y, j < k → s.recs[j]? = some y → hq y = false) ∧ Below wA.heap.size wA wr) (fun i _ => s.recs.length - (intOf i).toNat)
    case atStart => exact ⟨0, Nat.zero_le _, rfl, fun j y hj => absurd hj (by omega), B0.out⟩
    case round =>
      obtain ⟨k, hk, rfl, hno, b1⟩ := hrel
      have B1 := Lib.hid b1
      have HNO := Lib.hid hno
      clear b1 hno B0
      by_cases hlt : k < s.recs.length
      · have hx : s.recs[k]? = some s.recs[k] := by simp [hlt]
        generalize s.recs[k] = y at hx
        obtain ⟨g, off, Ak, ck, Ad, cd, hA, k0, _⟩ := HRR.out k y hx
        subst hA
        have z0 := World.block_lt_of_cell? wA _ k0
        have HX := Lib.hid hx
        have HL := Lib.hid (fun (wx : World) (hx : Below wA.heap.size wA wx) => (hx.cell (p := ⟨g, off + k * 4, none⟩) z0).trans k0)
        have hkl : (k : Int) < (s.recs.length : Int) := by omega
        have wd4 : IntKind.i64.wrap (d4 : Int) = (d4 : Int) := IntWalk.i64_in _ (by omega)
        clear hx k0 z0 hlt
        go_upto_region 7 with fail
        by_cases e0 : t0 = s.cyl
        · have u0 : ((t0 : Int) == (s.cyl : Int)) = true := by simp; omega
          by_cases e2 : t2 = s.head
          · have u2 : ((t2 : Int) == (s.head : Int)) = true := by simp; omega
            by_cases er : y.r = (d4 : Int)
            · have u4 : (y.r == (d4 : Int)) = true := by simp [er]
              have HN := Lib.hid (qfind_first HX.out (show hq y = true by rw [HHQ.out]; rw [decide_eq_true e0, decide_eq_true e2, decide_eq_true er]; rfl) HNO.out)
              clear e0 e2 er
              refine wp_region_quiet (C := Below wA.heap.size wA) (by kernel_rfl) (by kernel_rfl) B1.out.drew ?_
              (repeat (with_reducible refine wpQuiet_step ?_; intro K hK; go_simp; first | (with_reducible refine hK _ ?_; clear hK K) | (rw [if_neg (by decide)]; with_reducible refine hK _ ?_; clear hK K) | (refine ⟨_, fun wx hx => (by obtain ⟨f0, f1, f2⟩ := HY.out wx hx; have f3 := HL.out wx hx; go_simp; with_reducible rfl), hK _ ?_⟩; clear hK K) | (first | (refine ⟨_, fun wx hx => (by with_reducible refine (HT0.out wx hx).mono ?_; rintro e w' ⟨rfl, h2⟩; exact ⟨rfl, hx.trans (h2.mono hx.size)⟩), hK _ ?_⟩; clear hK K) | (refine ⟨_, fun wx hx => (by with_reducible refine (HT2.out wx hx).mono ?_; rintro e w' ⟨rfl, h2⟩; exact ⟨rfl, hx.trans (h2.mono hx.size)⟩), hK _ ?_⟩; clear hK K)) | (refine ⟨_, fun _ _ => rfl, hK _ ?_⟩; clear hK K))); with_reducible refine wpQuiet_nil ?_
              intro w3 hw3
              have B3 := Lib.hid hw3
              clear hw3
              have HR := Lib.hid (HRK.out.trans (show (match s.recs.findIdx? hq with | some i => dkHit s i | none => dkCheck s 2) = dkHit s k by rw [HN.out]))
              have H2 := Lib.hid (H1.out.grow B3.out)
              go_wp2_with fail
              (refine (qhit_any k H2.out.s1).mono ?_; rintro e w9 ⟨rfl, S9⟩; have H9 := Lib.hid S9.s1; clear S9; (obtain ⟨L, K, z⟩ := H9.out.look; go_wp2; refine bodyPost_ret (v := .agg #[.slice none 0 0, .int .i64 76, .int .i64 0]) (by simp [results, Tryz.results34, go_sem, L]) rfl ?_); rw [HR.out]; exact RetQ.of (selQ_close rfl HV.out H9.out.set3.drop))
            · have u4 : (y.r == (d4 : Int)) = false := by simp [er]
              cases hh : high
              · subst hh
                have HN := Lib.hid (show hq y = false by rw [HHQ.out]; rw [decide_eq_false er]; simp)
                clear e0 e2 er
                refine wp_region_quiet (C := Below wA.heap.size wA) (by kernel_rfl) (by kernel_rfl) B1.out.drew ?_
                (repeat (with_reducible refine wpQuiet_step ?_; intro K hK; go_simp; first | (with_reducible refine hK _ ?_; clear hK K) | (rw [if_neg (by decide)]; with_reducible refine hK _ ?_; clear hK K) | (refine ⟨_, fun wx hx => (by obtain ⟨f0, f1, f2⟩ := HY.out wx hx; have f3 := HL.out wx hx; go_simp; with_reducible rfl), hK _ ?_⟩; clear hK K) | (first | (refine ⟨_, fun wx hx => (by with_reducible refine (HT0.out wx hx).mono ?_; rintro e w' ⟨rfl, h2⟩; exact ⟨rfl, hx.trans (h2.mono hx.size)⟩), hK _ ?_⟩; clear hK K) | (refine ⟨_, fun wx hx => (by with_reducible refine (HT2.out wx hx).mono ?_; rintro e w' ⟨rfl, h2⟩; exact ⟨rfl, hx.trans (h2.mono hx.size)⟩), hK _ ?_⟩; clear hK K)) | (refine ⟨_, fun _ _ => rfl, hK _ ?_⟩; clear hK K))); with_reducible refine wpQuiet_nil ?_
                intro w3 hw3
                have B3 := Lib.hid hw3
                clear hw3
                go_wp2
                go_roundw
                case rel =>
                  refine ⟨k + 1, by omega, by go_num, fun j y2 hj hy2 => ?_, B3.out⟩
                  rcases Nat.lt_succ_iff_lt_or_eq.1 hj with h | rfl
                  · exact HNO.out j y2 h hy2
                  · rw [HX.out] at hy2; injection hy2 with hy2; subst hy2; exact HN.out
                case measure => simp [intOf]; omega
              · subst hh
                by_cases eg : (d4 : Int) < y.r
                · have u5 : ((d4 : Int) < y.r) = True := eq_true eg
                  have u6 : decide ((d4 : Int) < y.r) = true := decide_eq_true eg
                  have HN := Lib.hid (qfind_first HX.out (show hq y = true by rw [HHQ.out]; rw [decide_eq_true e0, decide_eq_true e2, decide_eq_true eg]; simp) HNO.out)
                  clear e0 e2 er eg
                  refine wp_region_quiet (C := Below wA.heap.size wA) (by kernel_rfl) (by kernel_rfl) B1.out.drew ?_
                  (repeat (with_reducible refine wpQuiet_step ?_; intro K hK; go_simp; first | (with_reducible refine hK _ ?_; clear hK K) | (rw [if_neg (by decide)]; with_reducible refine hK _ ?_; clear hK K) | (refine ⟨_, fun wx hx => (by obtain ⟨f0, f1, f2⟩ := HY.out wx hx; have f3 := HL.out wx hx; go_simp; with_reducible rfl), hK _ ?_⟩; clear hK K) | (first | (refine ⟨_, fun wx hx => (by with_reducible refine (HT0.out wx hx).mono ?_; rintro e w' ⟨rfl, h2⟩; exact ⟨rfl, hx.trans (h2.mono hx.size)⟩), hK _ ?_⟩; clear hK K) | (refine ⟨_, fun wx hx => (by with_reducible refine (HT2.out wx hx).mono ?_; rintro e w' ⟨rfl, h2⟩; exact ⟨rfl, hx.trans (h2.mono hx.size)⟩), hK _ ?_⟩; clear hK K)) | (refine ⟨_, fun _ _ => rfl, hK _ ?_⟩; clear hK K))); with_reducible refine wpQuiet_nil ?_
                  intro w3 hw3
                  have B3 := Lib.hid hw3
                  clear hw3
                  have HR := Lib.hid (HRK.out.trans (show (match s.recs.findIdx? hq with | some i => dkHit s i | none => dkCheck s 2) = dkHit s k by rw [HN.out]))
                  have H2 := Lib.hid (H1.out.grow B3.out)
                  go_wp2_with fail
                  (refine (qhit_any k H2.out.s1).mono ?_; rintro e w9 ⟨rfl, S9⟩; have H9 := Lib.hid S9.s1; clear S9; (obtain ⟨L, K, z⟩ := H9.out.look; go_wp2; refine bodyPost_ret (v := .agg #[.slice none 0 0, .int .i64 76, .int .i64 0]) (by simp [results, Tryz.results34, go_sem, L]) rfl ?_); rw [HR.out]; exact RetQ.of (selQ_close rfl HV.out H9.out.set3.drop))
                · have u5 : ((d4 : Int) < y.r) = False := eq_false eg
                  have u6 : decide ((d4 : Int) < y.r) = false := decide_eq_false eg
                  have HN := Lib.hid (show hq y = false by rw [HHQ.out]; rw [decide_eq_false er, decide_eq_false eg]; simp)
                  clear e0 e2 er eg
                  refine wp_region_quiet (C := Below wA.heap.size wA) (by kernel_rfl) (by kernel_rfl) B1.out.drew ?_
                  (repeat (with_reducible refine wpQuiet_step ?_; intro K hK; go_simp; first | (with_reducible refine hK _ ?_; clear hK K) | (rw [if_neg (by decide)]; with_reducible refine hK _ ?_; clear hK K) | (refine ⟨_, fun wx hx => (by obtain ⟨f0, f1, f2⟩ := HY.out wx hx; have f3 := HL.out wx hx; go_simp; with_reducible rfl), hK _ ?_⟩; clear hK K) | (first | (refine ⟨_, fun wx hx => (by with_reducible refine (HT0.out wx hx).mono ?_; rintro e w' ⟨rfl, h2⟩; exact ⟨rfl, hx.trans (h2.mono hx.size)⟩), hK _ ?_⟩; clear hK K) | (refine ⟨_, fun wx hx => (by with_reducible refine (HT2.out wx hx).mono ?_; rintro e w' ⟨rfl, h2⟩; exact ⟨rfl, hx.trans (h2.mono hx.size)⟩), hK _ ?_⟩; clear hK K)) | (refine ⟨_, fun _ _ => rfl, hK _ ?_⟩; clear hK K))); with_reducible refine wpQuiet_nil ?_
                  intro w3 hw3
                  have B3 := Lib.hid hw3
                  clear hw3
                  go_wp2
                  go_roundw
                  case rel =>
                    refine ⟨k + 1, by omega, by go_num, fun j y2 hj hy2 => ?_, B3.out⟩
                    rcases Nat.lt_succ_iff_lt_or_eq.1 hj with h | rfl
                    · exact HNO.out j y2 h hy2
                    · rw [HX.out] at hy2; injection hy2 with hy2; subst hy2; exact HN.out
                  case measure => simp [intOf]; omega
          · have u2 : ((t2 : Int) == (s.head : Int)) = false := by simp; omega
            have HN := Lib.hid (show hq y = false by rw [HHQ.out]; rw [decide_eq_false e2]; simp)
            clear e0 e2
            refine wp_region_quiet (C := Below wA.heap.size wA) (by kernel_rfl) (by kernel_rfl) B1.out.drew ?_
            (repeat (with_reducible refine wpQuiet_step ?_; intro K hK; go_simp; first | (with_reducible refine hK _ ?_; clear hK K) | (rw [if_neg (by decide)]; with_reducible refine hK _ ?_; clear hK K) | (refine ⟨_, fun wx hx => (by obtain ⟨f0, f1, f2⟩ := HY.out wx hx; have f3 := HL.out wx hx; go_simp; with_reducible rfl), hK _ ?_⟩; clear hK K) | (first | (refine ⟨_, fun wx hx => (by with_reducible refine (HT0.out wx hx).mono ?_; rintro e w' ⟨rfl, h2⟩; exact ⟨rfl, hx.trans (h2.mono hx.size)⟩), hK _ ?_⟩; clear hK K) | (refine ⟨_, fun wx hx => (by with_reducible refine (HT2.out wx hx).mono ?_; rintro e w' ⟨rfl, h2⟩; exact ⟨rfl, hx.trans (h2.mono hx.size)⟩), hK _ ?_⟩; clear hK K)) | (refine ⟨_, fun _ _ => rfl, hK _ ?_⟩; clear hK K))); with_reducible refine wpQuiet_nil ?_
            intro w3 hw3
            have B3 := Lib.hid hw3
            clear hw3
            go_wp2
            go_roundw
            case rel =>
              refine ⟨k + 1, by omega, by go_num, fun j y2 hj hy2 => ?_, B3.out⟩
              rcases Nat.lt_succ_iff_lt_or_eq.1 hj with h | rfl
              · exact HNO.out j y2 h hy2
              · rw [HX.out] at hy2; injection hy2 with hy2; subst hy2; exact HN.out
            case measure => simp [intOf]; omega
        · have u0 : ((t0 : Int) == (s.cyl : Int)) = false := by simp; omega
          have HN := Lib.hid (show hq y = false by rw [HHQ.out]; rw [decide_eq_false e0]; rfl)
          clear e0
          refine wp_region_quiet (C := Below wA.heap.size wA) (by kernel_rfl) (by kernel_rfl) B1.out.drew ?_
          (repeat (with_reducible refine wpQuiet_step ?_; intro K hK; go_simp; first | (with_reducible refine hK _ ?_; clear hK K) | (rw [if_neg (by decide)]; with_reducible refine hK _ ?_; clear hK K) | (refine ⟨_, fun wx hx => (by obtain ⟨f0, f1, f2⟩ := HY.out wx hx; have f3 := HL.out wx hx; go_simp; with_reducible rfl), hK _ ?_⟩; clear hK K) | (first | (refine ⟨_, fun wx hx => (by with_reducible refine (HT0.out wx hx).mono ?_; rintro e w' ⟨rfl, h2⟩; exact ⟨rfl, hx.trans (h2.mono hx.size)⟩), hK _ ?_⟩; clear hK K) | (refine ⟨_, fun wx hx => (by with_reducible refine (HT2.out wx hx).mono ?_; rintro e w' ⟨rfl, h2⟩; exact ⟨rfl, hx.trans (h2.mono hx.size)⟩), hK _ ?_⟩; clear hK K)) | (refine ⟨_, fun _ _ => rfl, hK _ ?_⟩; clear hK K))); with_reducible refine wpQuiet_nil ?_
          intro w3 hw3
          have B3 := Lib.hid hw3
          clear hw3
          go_wp2
          go_roundw
          case rel =>
            refine ⟨k + 1, by omega, by go_num, fun j y2 hj hy2 => ?_, B3.out⟩
            rcases Nat.lt_succ_iff_lt_or_eq.1 hj with h | rfl
            · exact HNO.out j y2 h hy2
            · rw [HX.out] at hy2; injection hy2 with hy2; subst hy2; exact HN.out
          case measure => simp [intOf]; omega
      · obtain rfl : k = s.recs.length := by omega
        have HN := Lib.hid (qfind_none HNO.out)
        have HR := Lib.hid (HRK.out.trans (show (match s.recs.findIdx? hq with | some i => dkHit s i | none => dkCheck s 2) = dkCheck s 2 by rw [HN.out]))
        have H2 := Lib.hid (H1.out.grow B1.out)
        go_wp2_with fail
        (refine (fail_any 2 H2.out.s1).mono ?_; rintro e w9 ⟨rfl, S9⟩; have H9 := Lib.hid S9.s1; clear S9; (obtain ⟨L, K, z⟩ := H9.out.look; go_wp2; refine bodyPost_ret (v := .agg #[.slice none 0 0, .int .i64 14, .int .i64 2]) (by simp [results, Tryz.results34, go_sem, L]) rfl ?_); rw [HR.out]; exact RetQ.of (selQ_close rfl HV.out H9.out.set3.drop))
  · have HR := Lib.hid (show dkID s b more = dkCheck s 128 by unfold dkID; rw [if_pos h5])
    clear hm
    have t1 : ((b.length : Int) != 5) = true := by simp; omega
    clear h5
    (go_enter Tryz.func34, Tryz.ntmps34; go_upto_region 1 with fail; refine name_world (P := Code.wp _ _ _ _) ?_; intro wA hwA; have H1 := Lib.hid (SL.cast hwA (HS.out.allocC #[.slice none 0 0, .int .i64 0, .int .i64 0] 53)); clear hwA HS; generalize w.heap.size = rb at *)
    go_wp2_with fail
    (refine (fail_any 128 H1.out.s1).mono ?_; rintro e w9 ⟨rfl, S9⟩; have H9 := Lib.hid S9.s1; clear S9; (obtain ⟨L, K, z⟩ := H9.out.look; go_wp2; refine bodyPost_ret (v := .agg #[.slice none 0 0, .int .i64 14, .int .i64 128]) (by simp [results, Tryz.results34, go_sem, L]) rfl ?_); rw [HR.out]; exact RetQ.of (selQ_close rfl HV.out H9.out.set3.drop))
end
end Go.Proofs.YtmkndbledppniaaGreat
