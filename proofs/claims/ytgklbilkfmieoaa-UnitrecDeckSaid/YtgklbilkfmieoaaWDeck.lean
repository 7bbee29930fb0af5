/- UnitrecDeck: the walk. -/
import Derived.Test.YtgklbilkfmieoaaPunDo
import Derived.Test.YtgklbilkfmieoaaLawPr
import Derived.Test.YtgklbilkfmieoaaLight
import Derived.IntWalk
namespace Go.Proofs.Ytgklbilkfmieoaa
open Go.RowKit

theorem same_eq (A C : Option Addr) (l : List UInt8) (c d : Nat) (w : World) (B : Nat) (ha : At w B A (Lib.byteCells l)) (hc : At w B C (Lib.byteCells l)) (hl : l.length ≤ maxLen) :
    Calls Try.prog 24 #[.slice A l.length c, .slice C l.length d] w fun e w' => e = .returned (.bool true) ∧ Still w w' :=
  (same_any A C l l c d w B ha hc hl hl).mono fun e w' h => ⟨by rw [h.1]; simp, h.2⟩
theorem card_at {w : World} {B : Nat} {A : Option Addr} {l : List CardV} (h : At w B A (l.map cardV)) {k : Nat} (hk : k < l.length) : ∃ b off, A = some ⟨b, off, none⟩ ∧ b < B ∧ w.cell? ⟨b, off + k, none⟩ = some (cardV l[k]) := by
  obtain ⟨b, off, e, hb, hc⟩ := h.cell (k := k) (u := cardV l[k]) (by simp [hk])
  exact ⟨b, off, e, hb, hc⟩

set_option maxRecDepth 100000 in
set_option maxHeartbeats 4000000 in
theorem walk_unitrecDeck (W : World) (a : Option Addr) (l : List CardV) (cap : Nat) (hl : l.length ≤ cap) (hcm : cap ≤ maxLen) (ha : At W W.heap.size a (l.map cardV)) (hx : ∀ x ∈ l, CardV.good W W.heap.size x) :
    Calls Try.prog 5 #[.slice a l.length cap] W fun e W' => e = .returned (.bool true) ∧ Below W.heap.size W W' := by
  have hm : l.length ≤ maxLen := by omega
  have HX := Lib.hid hx
  have HA := Lib.hid ha
  unfold maxLen at hm
  clear hx ha hcm hl
  go_enter Try.func5, Try.ntmps5
  go_wp2_with fail
  refine (punnew_any (SL.start W)).mono ?_
  rintro e w1 ⟨pb, rfl, S1⟩
  have H1 := Lib.hid S1
  clear S1
  go_wp2_with fail
  refine (works_any _).mono ?_
  rintro e w2 ⟨rfl, b2⟩
  have H2 := Lib.hid (H1.out.grow b2)
  clear H1 b2
  by_cases h200 : l.length ≤ 200
  · go_wp2_with fail
    go_loopw [5, 4] (fun i n wr => ∃ (k se : Nat) (cs : List (List UInt8)), k ≤ l.length ∧ i = .int .i64 k ∧ n = .int .i64 cs.length ∧ cs.length ≤ k ∧ se < 256 ∧ (∀ c ∈ cs, c.length = 80) ∧ SL W [punchS pb se cs] wr) (fun i _ _ => l.length - (intOf i).toNat)
    case atStart => exact ⟨0, 0, [], Nat.zero_le _, rfl, rfl, Nat.zero_le _, by omega, by simp, H2.out⟩
    case round =>
      obtain ⟨k, se, cs, hk, rfl, rfl, hck, hse, h80, S3⟩ := hrel
      have H3 := Lib.hid S3
      have H80 := Lib.hid h80
      clear S3 h80 H2
      by_cases hlt : k < l.length
      · have hgood := HX.out l[k] (List.getElem_mem hlt)
        obtain ⟨b, off, rfl, hbb, c0⟩ := card_at HA.out hlt
        generalize l[k] = x at *
        obtain ⟨A1, d1, e1⟩ := x
        have HG := Lib.hid hgood
        have HC := Lib.hid (fun (wx : World) (h : SL W [] wx) => ((h.1.cell (p := ⟨b, off + k, none⟩) hbb).trans c0 : wx.cell? ⟨b, off + k, none⟩ = some (.slice A1 d1.length e1)))
        have c1 := HC.out wr H3.out.drop
        have h63 : d1.length ≤ maxLen := Nat.le_trans hgood.2.1 hgood.2.2
        have h64 := h63
        unfold maxLen at h64
        clear hgood c0
        by_cases h400 : d1.length ≤ 400
        · go_wp2_with fail
          have HD := Lib.hid (fun (wx : World) (S : SL W [punchS pb se cs] wx) => pundo_any pb se cs 1 A1 d1 e1 S (Rd.base HG.out.1) HG.out.2.1 h63 (by omega) hse)
          by_cases h81 : 80 < d1.length
          · have hr : punDo se cs 1 d1 = (128, cs, [], 14, 128) := by simp [punDo, punOwn, h81]
            rw [hr] at HD
            clear hr
            refine wp_region_order2 (SL W [punchS pb se cs]) (SL W []) (fun _ S => S.drop) [0, 1, 2, 3, 7, 8, 9] [4, 10, 11, 12] [] [5, 6] [13] (by kernel_rfl) (by kernel_rfl) H3.out.drew (by intro c a d v w h; cases d <;> exact h) ?_
            simp only [pick, List.filterMap_cons, List.filterMap_nil, List.getElem?_cons_zero, List.getElem?_cons_succ]
            repeat (refine wpPure_step (fun K hK => ?_); go_simp; refine hK _ ?_; clear hK K)
            refine wpPure_nil ?_
            repeat (refine wpLoads_step (fun K hK => ?_); go_simp; first | (refine hK _ ?_; clear hK K) | (refine ⟨_, fun wx hx => (by have f0 := HC.out wx hx; go_simp; rfl), hK _ ?_⟩; clear hK K))
            refine wpLoads_nil (wpQuiet_nil ?_)
            intro w4 S4
            (refine wpKeep_step (fun K hK => ?_); go_simp)
            refine (HD.out w4 S4).mono ?_
            rintro e w5 ⟨A5, c5, rfl, S5⟩
            refine hK _ _ (S5.drop.drop) ?_
            clear hK K
            (refine wpKeep_step (fun K hK => ?_); go_simp)
            refine (fine_any _ _ _ _).mono ?_
            rintro e w6 ⟨rfl, b6⟩
            have H6 := Lib.hid (S5.drop.grow b6)
            refine hK _ _ (H6.out.drop) ?_
            clear hK K S5 b6 H3
            refine wpKeep_nil ?_
            go_wp2_with fail
            refine (pundeck_any pb 128 cs H6.out (by omega) (fun c hc => by rw [H80.out c hc]; omega)).mono ?_
            rintro e w7 ⟨A7, c7, rfl, S7⟩
            have H7 := Lib.hid S7
            have c2 := HC.out w7 (H7.out.drop.drop)
            clear S7 H6 c1
            go_wp2
            go_roundw
            case rel => exact ⟨k + 1, 128, cs, by omega, by go_num, rfl, by omega, by omega, H80.out, H7.out.drop⟩
            case measure => simp [intOf]; omega
          · have hr : punDo se cs 1 d1 = (se, cs ++ [d1 ++ List.replicate (80 - d1.length) 0x40], [], 12, 0) := by simp [punDo, punOwn, h81, show ¬ cs.length = 4096 by omega]
            have h82 : decide ((d1.length : Int) ≤ 80) = true := by simp; omega
            rw [hr] at HD
            clear hr
            refine wp_region_order2 (SL W [punchS pb se cs]) (SL W []) (fun _ S => S.drop) [0, 1, 2, 3, 7, 8, 9] [4, 10, 11, 12] [] [5, 6] [13] (by kernel_rfl) (by kernel_rfl) H3.out.drew (by intro c a d v w h; cases d <;> exact h) ?_
            simp only [pick, List.filterMap_cons, List.filterMap_nil, List.getElem?_cons_zero, List.getElem?_cons_succ]
            repeat (refine wpPure_step (fun K hK => ?_); go_simp; refine hK _ ?_; clear hK K)
            refine wpPure_nil ?_
            repeat (refine wpLoads_step (fun K hK => ?_); go_simp; first | (refine hK _ ?_; clear hK K) | (refine ⟨_, fun wx hx => (by have f0 := HC.out wx hx; go_simp; rfl), hK _ ?_⟩; clear hK K))
            refine wpLoads_nil (wpQuiet_nil ?_)
            intro w4 S4
            (refine wpKeep_step (fun K hK => ?_); go_simp)
            refine (HD.out w4 S4).mono ?_
            rintro e w5 ⟨A5, c5, rfl, S5⟩
            refine hK _ _ (S5.drop.drop) ?_
            clear hK K
            (refine wpKeep_step (fun K hK => ?_); go_simp)
            refine (fine_any _ _ _ _).mono ?_
            rintro e w6 ⟨rfl, b6⟩
            have H6 := Lib.hid (S5.drop.grow b6)
            refine hK _ _ (H6.out.drop) ?_
            clear hK K S5 b6 H3
            refine wpKeep_nil ?_
            have hfl : (d1 ++ List.replicate (80 - d1.length) (0x40 : UInt8)).length = 80 := by simp; omega
            have hcl : (cs ++ [d1 ++ List.replicate (80 - d1.length) (0x40 : UInt8)]).length = cs.length + 1 := by simp
            have HN := Lib.hid (show ∀ c ∈ cs ++ [d1 ++ List.replicate (80 - d1.length) (0x40 : UInt8)], c.length = 80 by
              intro c hc
              rcases List.mem_append.1 hc with hc | hc
              · exact H80.out c hc
              · simp only [List.mem_cons, List.not_mem_nil, or_false] at hc; subst hc; exact hfl)
            have HGT := Lib.hid (show (cs ++ [d1 ++ List.replicate (80 - d1.length) (0x40 : UInt8)])[cs.length]? = some (d1 ++ List.replicate (80 - d1.length) (0x40 : UInt8)) by simp)
            have HFL := Lib.hid hfl
            have HCL := Lib.hid hcl
            clear hfl hcl H80
            generalize hcs2 : cs ++ [d1 ++ List.replicate (80 - d1.length) (0x40 : UInt8)] = cs2 at *
            clear hcs2
            go_wp2_with fail
            refine (pundeck_any pb se cs2 H6.out (by rw [HCL.out]; omega) (fun c hc => by rw [HN.out c hc]; omega)).mono ?_
            rintro e w7 ⟨A7, c7, rfl, S7⟩
            rw [HCL.out] at S7 ⊢
            have H7 := Lib.hid S7
            have c2 := HC.out w7 (H7.out.drop.drop)
            clear S7 H6 c1
            obtain ⟨qs, hq, S8⟩ := deckS_open H7.out
            have hql : qs.length = cs.length + 1 := by have := congrArg List.length hq; rw [List.length_map, HCL.out] at this; exact this
            have hq1 : qs[cs.length]? = some (qs[cs.length]'(by omega)) := by simp [hql]
            have hqs : (qs[cs.length]'(by omega)).2 = d1 ++ List.replicate (80 - d1.length) (0x40 : UInt8) := by
              have h := HGT.out
              rw [← hq, List.getElem?_map, hq1] at h
              simpa using h
            rw [hql] at S8
            obtain ⟨b7, rfl, _, c7'⟩ := S8.cellAt (j := cs.length) (u := (qs[cs.length]'(by omega)).1) (by rw [List.getElem?_map, hq1]; rfl)
            have S9 := SL.take S8.s1 (i := cs.length) (P := cardS (qs[cs.length]'(by omega))) (by rw [List.getElem?_map, hq1]; rfl)
            unfold cardS at S9
            rw [hqs, HFL.out] at S9
            generalize (qs[cs.length]'(by omega)).1 = v8 at *
            obtain ⟨A8, c8, rfl, hc8, _⟩ := own_slice S9.own
            obtain ⟨b8, rfl, _, _⟩ := own_head S9.own (by omega)
            have HA8 := Lib.hid S9.at_
            have HB8 := Lib.hid (fun (wx : World) (h : Below w7.heap.size w7 wx) => (⟨(h.cell (p := ⟨b7, cs.length, none⟩) (World.block_lt_of_cell? w7 _ c7')).trans c7', (h.cell (p := ⟨b, off + k, none⟩) (World.block_lt_of_cell? w7 _ c2)).trans c2⟩ : wx.cell? ⟨b7, cs.length, none⟩ = some (.slice (some ⟨b8, 0, none⟩) 80 c8) ∧ wx.cell? ⟨b, off + k, none⟩ = some (.slice A1 d1.length e1)))
            have hz7 : W.heap.size ≤ w7.heap.size := H7.out.1.size
            clear S8 S9 hq hq1 hqs HGT
            have hc9 : d1.length ≤ c8 := by omega
            go_wp2_with fail
            have hw1 : IntKind.i64.wrap (cs.length : Int) = (cs.length : Int) := IntWalk.i64_in _ (by omega)
            have hi1 : (cs.length : Int) < (cs.length : Int) + 1 := by omega
            refine wp_region_below w7.heap.size (by kernel_rfl) (by kernel_rfl) ?_
            repeat (refine wpQuiet_step (fun K hK => ?_); go_simp; first | (refine hK _ ?_; clear hK K) | (refine ⟨_, fun wx hx => (by obtain ⟨f0, f1⟩ := HB8.out wx hx; go_simp; rfl), hK _ ?_⟩; clear hK K) | (refine ⟨_, fun wx hx => (same_eq (some ⟨b8, 0, none⟩) A1 d1 c8 e1 wx wx.heap.size (by have h := ((HA8.out.below hx).mono hx.size).take d1.length; rw [show (Lib.byteCells (d1 ++ List.replicate (80 - d1.length) (0x40 : UInt8))).take d1.length = Lib.byteCells d1 by simp [Lib.byteCells]] at h; exact h) ((HG.out.1.below (H7.out.1.trans (hx.mono hz7))).mono (by have := hx.size; omega)) h63).mono (fun e w' h => ⟨h.1, hx.trans (h.2.below _)⟩), hK _ ?_⟩; clear hK K))
            refine wpQuiet_nil ?_
            intro w8 hw8
            have H8 := Lib.hid (H7.out.grow hw8)
            have HJ := Lib.hid (fun (j : Nat) (h1 : d1.length ≤ j) (h2 : j < 80) => (by
              obtain ⟨b', o', e', _, cj⟩ := (HA8.out.below hw8).cell (k := j) (u := .int .u8 64) (by
                rw [byteCells_get _ j (by rw [HFL.out]; exact h2), List.getElem_append_right h1, List.getElem_replicate]; rfl)
              injection e' with e'; injection e' with e1' e2'
              subst e1'; subst e2'
              rw [Nat.zero_add] at cj
              exact cj : w8.cell? ⟨b8, j, none⟩ = some (.int .u8 64)))
            obtain ⟨c7', c2⟩ := HB8.out w8 hw8
            clear HA8 HB8 hw8 H7
            go_wp2_with fail
            go_loop [7] (fun i => ∃ j : Nat, d1.length ≤ j ∧ j ≤ 80 ∧ i = .int .i64 j) (fun i => (80 - intOf i).toNat)
            case atStart => exact ⟨d1.length, Nat.le_refl _, by omega, rfl⟩
            case round =>
              obtain ⟨j, hj1, hj2, rfl⟩ := hrel
              by_cases hj : j < 80
              · have cj := HJ.out j hj1 hj
                go_wp2
                go_round
                case rel => exact ⟨j + 1, by omega, by omega, by go_num⟩
                case measure => simp [intOf]; omega
              · obtain rfl : j = 80 := by omega
                go_wp2
                go_roundw
                case rel => exact ⟨k + 1, se, cs2, by omega, by go_num, by rw [HCL.out]; go_num, by rw [HCL.out]; omega, hse, HN.out, H8.out.drop⟩
                case measure => simp [intOf]; omega
        · go_wp2
          go_ret
          exact ⟨rfl, H3.out.1⟩
      · go_wp2
        go_ret
        exact ⟨rfl, H3.out.1⟩
  · go_wp2
    go_ret
    exact ⟨rfl, H2.out.1⟩
end Go.Proofs.Ytgklbilkfmieoaa
