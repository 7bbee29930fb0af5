/- image: all tracks of a unit; SameTracks of equal lists. -/
import Derived.Test.YtmkndbledppniaaPlay
namespace Go.Proofs.Ytmkndbledppniaa
open Go.RowKit
def imgS (v : Value) (ts : List (List Rec)) : SA := fun h => ∃ vs : List Value, vs.length = ts.length ∧ star (rowS 38 1 v ts.length vs :: star (List.zipWith recsS vs ts) :: []) h
def ImgAt (w : World) (A : Option Addr) (ts : List (List Rec)) : Prop := ∀ i t, ts[i]? = some t → ∃ g off A' c', A = some ⟨g, off, none⟩ ∧ g < w.heap.size ∧ w.cell? ⟨g, off + i, none⟩ = some (.slice A' t.length c') ∧ RecsAt w A' t
theorem ImgAt.grow {w w' : World} {A : Option Addr} {ts : List (List Rec)} (h : ImgAt w A ts) (hb : Below w.heap.size w w') : ImgAt w' A ts := fun i t ht => by
  obtain ⟨g, off, A', c', hA, hg, h1, h2⟩ := h i t ht
  exact ⟨g, off, A', c', hA, Nat.lt_of_lt_of_le hg hb.size, (hb.cell (p := ⟨g, off + i, none⟩) hg).trans h1, h2.grow hb⟩
theorem zip_snoc {vs : List Value} {ts : List (List Rec)} {k : Nat} {v : Value} {t : List Rec} (hv : vs.length = k) (ht : ts[k]? = some t) : List.zipWith recsS (vs ++ [v]) (ts.take (k + 1)) = List.zipWith recsS vs (ts.take k) ++ [recsS v t] := by
  have hk := (List.getElem?_eq_some_iff.1 ht).1
  rw [List.take_add_one, ht]
  have h : vs.length = (ts.take k).length := by rw [List.length_take]; omega
  simpa using List.zipWith_append (f := recsS) (l₁ := vs) (l₁' := [v]) (l₂ := ts.take k) (l₂' := [t]) h
section
variable {W w : World} {F : List SA} {x : Nat} {s : DK}
theorem img_close {v : Value} {ts : List (List Rec)} {vs : List Value} (hv : vs.length = ts.length) (S : SL W (rowS 38 1 v ts.length vs :: star (List.zipWith recsS vs ts) :: F) w) : SL W (imgS v ts :: F) w :=
  SL.pack (L := [rowS 38 1 v ts.length vs, star (List.zipWith recsS vs ts)]) S fun _ p => ⟨vs, hv, p⟩
theorem img_open {v : Value} {ts : List (List Rec)} (S : SL W (imgS v ts :: F) w) : ∃ vs : List Value, vs.length = ts.length ∧ SL W (rowS 38 1 v ts.length vs :: star (List.zipWith recsS vs ts) :: F) w := by
  obtain ⟨vs, hv, S1⟩ := SL.unpack (α := List Value) (φ := fun vs => vs.length = ts.length) (K := fun vs => [rowS 38 1 v ts.length vs, star (List.zipWith recsS vs ts)]) S (by
    rintro h ⟨vs, hv, p⟩
    exact ⟨vs, hv, p⟩)
  exact ⟨vs, hv, S1⟩
theorem img_at {A : Option Addr} {n c : Nat} {ts : List (List Rec)} (S : SL W (imgS (.slice A n c) ts :: F) w) (hn : n = ts.length) : ImgAt w A ts := fun i t ht => by
  subst hn
  obtain ⟨vs, hv, S1⟩ := img_open S
  obtain ⟨v, h1, h2⟩ := zip_get hv ht
  obtain ⟨g, hA, _, hc⟩ := S1.cellAt h1
  have S2 := S1.s1.take h2
  obtain ⟨A', c', rfl, _, _⟩ := recsS_len S2
  have hc0 : w.cell? ⟨g, 0 + i, none⟩ = some (.slice A' t.length c') := by rw [Nat.zero_add]; exact hc
  exact ⟨g, 0, A', c', hA, World.block_lt_of_cell? _ _ hc0, hc0, recsS_at S2⟩
set_option maxRecDepth 100000 in
set_option maxHeartbeats 8000000 in
theorem image_any (h : s.ok) (S : SL W (diskS x s :: F) w) : Calls Try.prog 23 #[.pointer (some ⟨x, 0, none⟩)] w fun e w' => ∃ A c, e = .returned (.slice A s.tracks.length c) ∧ SL W (imgS (.slice A s.tracks.length c) s.tracks :: diskS x s :: F) w' := by
  have HS := Lib.hid S
  have HH := Lib.hid h
  have hnt := h.nt
  have hmul : (s.cyls : Int) * (s.heads : Int) = (s.tracks.length : Int) := by rw [h.n1]; push_cast; rfl
  have HZ := Lib.hid (size_any h S)
  clear S h
  go_enter Try.func23, Try.ntmps23
  go_wp2_with fail
  refine HZ.out.mono ?_
  rintro e w1 ⟨rfl, b1⟩
  have H1 := Lib.hid (HS.out.still b1)
  clear b1 HS HZ
  go_upto_region 4 with fail
  go_loopw [5, 6] (fun o i wr => ∃ (k : Nat) (A3 : Option Addr) (c3 : Nat) (vs : List Value), k ≤ s.tracks.length ∧ i = .int .i64 k ∧ o = .slice A3 k c3 ∧ vs.length = k ∧
    SL W (rowS 38 1 (.slice A3 k c3) k vs :: star (List.zipWith recsS vs (s.tracks.take k)) :: diskS x s :: F) wr) (fun _ i _ => s.tracks.length - (intOf i).toNat)
  case atStart => exact ⟨0, none, 0, [], Nat.zero_le _, rfl, rfl, rfl, H1.out.empty.nil _ _⟩
  case round =>
    obtain ⟨k, A3, c3, vs, hk, rfl, rfl, hv, S2⟩ := hrel
    have H2 := Lib.hid S2
    have HV := Lib.hid hv
    clear S2 H1 hv
    by_cases hlt : k < s.tracks.length
    · have hb : s.tracks[k]? = some s.tracks[k] := by simp [hlt]
      have HLT := Lib.hid hlt
      have HT := Lib.hid (show trkOf s (k : Int) = s.tracks[k] by unfold trkOf; rw [if_pos (by omega), Int.toNat_natCast, hb]; rfl)
      have ht := track_any (k : Int) HH.out H2.out.s2
      rw [HT.out] at ht
      generalize s.tracks[k] = t at hb ht
      have HB := Lib.hid hb
      have HTR := Lib.hid ht
      clear hb ht HT
      have hlt2 : (k : Int) < (s.tracks.length : Int) := by omega
      go_wp2_with fail
      refine HTR.out.mono ?_
      rintro e w4 ⟨A4, c4, rfl, S4⟩
      have H4 := Lib.hid S4
      clear S4 H2 HTR
      go_wp2_with (at_builtin; refine wpList_pushS rfl _ _ _ rfl trkElem w4 [.slice A4 t.length c4] 1 rfl rfl (by simp [Value.oneCell']) _ k _ rfl rfl H4.out.s2 (by unfold maxLen; omega) (by omega) ?_
                   intro A6 c6 w6 S6
                   have H6 := Lib.hid S6
                   clear S6 H4)
      go_roundw
      case rel =>
        refine ⟨k + 1, A6, c6, vs ++ [.slice A4 t.length c4], by have := HLT.out; omega, by go_num, rfl, by simp [HV.out], ?_⟩
        rw [zip_snoc HV.out HB.out]
        exact (SL.snoc (P := recsS (.slice A4 t.length c4) t) H6.out.b3.s2.s1).s2
      case measure => have := HLT.out; simp [intOf]; omega
    · obtain rfl : k = s.tracks.length := by omega
      go_wp2
      go_ret
      rw [List.take_of_length_le (Nat.le_refl _)] at H2
      exact ⟨_, _, rfl, img_close HV.out H2.out⟩
set_option maxRecDepth 100000 in
set_option maxHeartbeats 8000000 in
theorem sametracks_any (A B : Option Addr) (ts : List (List Rec)) (c d : Nat) (w : World) (ha : ImgAt w A ts) (hb : ImgAt w B ts) (hl : ts.length ≤ 8192) (hls : ∀ t ∈ ts, t.length ≤ 8192) :
    Calls Try.prog 24 #[.slice A ts.length c, .slice B ts.length d] w fun e w' => e = .returned (.bool true) ∧ Below w.heap.size w w' := by
  have HA := Lib.hid ha
  have HB := Lib.hid hb
  have HLS := Lib.hid hls
  clear ha hb hls
  go_enter Try.func24, Try.ntmps24
  go_wp2
  go_loopw [5] (fun i wr => ∃ k : Nat, k ≤ ts.length ∧ i = .int .i64 k ∧ Below w.heap.size w wr) (fun i _ => ts.length - (intOf i).toNat)
  case atStart => exact ⟨0, Nat.zero_le _, rfl, Below.refl _ _⟩
  case round =>
    obtain ⟨k, hk, rfl, b1⟩ := hrel
    have B1 := Lib.hid b1
    clear b1
    by_cases hlt : k < ts.length
    · have hx : ts[k]? = some ts[k] := by simp [hlt]
      have hlk := HLS.out ts[k] (List.getElem_mem hlt)
      generalize ts[k] = t at hx hlk
      obtain ⟨g, off, A1, c1, hA, hg, k0, r0⟩ := HA.out k t hx
      obtain ⟨g2, off2, A2, c2, hB, hg2, k2, r2⟩ := HB.out k t hx
      subst hA; subst hB
      have HL := Lib.hid (fun (wx : World) (hx : Below w.heap.size w wx) => (⟨(hx.cell (p := ⟨g, off + k, none⟩) hg).trans k0, (hx.cell (p := ⟨g2, off2 + k, none⟩) hg2).trans k2⟩ : wx.cell? ⟨g, off + k, none⟩ = some (.slice A1 t.length c1) ∧ wx.cell? ⟨g2, off2 + k, none⟩ = some (.slice A2 t.length c2)))
      have HS := Lib.hid (fun (wx : World) (hx : Below w.heap.size w wx) => same_any A1 A2 t c1 c2 wx (r0.grow hx) (r2.grow hx) hlk)
      clear k0 k2 r0 r2 hx hg hg2 hlk
      go_upto_region 6 with fail
      refine wp_region_quiet (C := Below w.heap.size w) (by kernel_rfl) (by kernel_rfl) B1.out.drew ?_
      (repeat (with_reducible refine wpQuiet_step ?_; intro K hK; go_simp; first | (with_reducible refine hK _ ?_; clear hK K) | (rw [if_neg (by decide)]; with_reducible refine hK _ ?_; clear hK K) | (refine ⟨_, fun wx hx => (by obtain ⟨f0, f1⟩ := HL.out wx hx; go_simp; with_reducible rfl), hK _ ?_⟩; clear hK K) | (refine ⟨_, fun wx hx => (by with_reducible refine (HS.out wx hx).mono ?_; rintro e w' ⟨rfl, h2⟩; exact ⟨rfl, hx.trans (h2.mono hx.size)⟩), hK _ ?_⟩; clear hK K) | (refine ⟨_, fun _ _ => rfl, hK _ ?_⟩; clear hK K))); with_reducible refine wpQuiet_nil ?_
      intro w3 hw3
      have B3 := Lib.hid hw3
      clear hw3
      go_wp2
      go_roundw
      case rel => exact ⟨k + 1, by omega, by go_num, B3.out⟩
      case measure => simp [intOf]; omega
    · obtain rfl : k = ts.length := by omega
      go_wp2
      go_ret
      exact ⟨rfl, B1.out⟩
end
end Go.Proofs.Ytmkndbledppniaa
