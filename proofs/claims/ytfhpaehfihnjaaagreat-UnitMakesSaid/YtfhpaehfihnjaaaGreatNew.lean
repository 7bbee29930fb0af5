/- New of a set. -/
import Derived.Test.YtfhpaehfihnjaaaGreatNewD
import Derived.Test.YtfhpaehfihnjaaaGreatSortL
import Derived.Test.YtfhpaehfihnjaaaGreatSetX
import Derived.BigRegion
namespace Go.Proofs.YtfhpaehfihnjaaaGreat
open Go.RowKit
def confL (c : Conf) : List Value := (confA c).toList
theorem conf_get : ∀ (l : List Conf) (k j : Nat) (c : Conf), l[k]? = some c → j < 5 → (l.flatMap confL)[k * 5 + j]? = (confL c)[j]?
  | [], k, j, c, h, _ => by simp at h
  | a :: l, 0, j, c, h, hj => by
    simp at h; subst h
    rw [List.flatMap_cons, List.getElem?_append_left (by simp [confL, confA]; omega)]
    simp
  | a :: l, k + 1, j, c, h, hj => by
    have := conf_get l k j c (by simpa using h) hj
    rw [List.flatMap_cons, List.getElem?_append_right (by simp [confL, confA]; omega)]
    rw [← this]
    congr 1
    simp [confL, confA]
    omega
theorem conf_cells {w : World} {B : Nat} {A : Option Addr} {l : List Conf} {k : Nat} {c : Conf} (h : At w B A (l.flatMap confL)) (hc : l[k]? = some c) : ∃ b off, A = some ⟨b, off, none⟩ ∧ b < B ∧ w.cell? ⟨b, off + k * 5, none⟩ = some (.int .i64 c.addr) ∧
    w.cell? ⟨b, off + k * 5 + 1, none⟩ = some (.int .i64 c.kind) ∧ w.cell? ⟨b, off + k * 5 + 2, none⟩ = some (.string c.serial) ∧ w.cell? ⟨b, off + k * 5 + 3, none⟩ = some (.int .i64 c.cyls) ∧ w.cell? ⟨b, off + k * 5 + 4, none⟩ = some (.int .i64 c.heads) := by
  have g : ∀ j (u : Value), j < 5 → (confL c)[j]? = some u → (l.flatMap confL)[k * 5 + j]? = some u := fun j u hj e => (conf_get l k j c hc hj).trans e
  obtain ⟨b, off, hA, hb, k0⟩ := h.cell (g 0 _ (by omega) rfl)
  obtain ⟨b1, off1, hA1, _, k1⟩ := h.cell (g 1 _ (by omega) rfl)
  obtain ⟨b2, off2, hA2, _, k2⟩ := h.cell (g 2 _ (by omega) rfl)
  obtain ⟨b3, off3, hA3, _, k3⟩ := h.cell (g 3 _ (by omega) rfl)
  obtain ⟨b4, off4, hA4, _, k4⟩ := h.cell (g 4 _ (by omega) rfl)
  rw [hA] at hA1 hA2 hA3 hA4
  injection hA1 with e; injection e with e1 e2; subst e1; subst e2
  injection hA2 with e; injection e with e1 e2; subst e1; subst e2
  injection hA3 with e; injection e with e1 e2; subst e1; subst e2
  injection hA4 with e; injection e with e1 e2; subst e1; subst e2
  exact ⟨b, off, hA, hb, k0, k1, k2, k3, k4⟩
def NewRes (W : World) (F : List SA) (l : List Conf) (e : Ending) (w' : World) : Prop :=
  match newST l with
  | some s => ∃ x v bs, e = .returned (.tuple #[ptrV x, .int .i64 0]) ∧ SL W (setO x v bs s :: F) w'
  | none => e = .returned (.tuple #[.pointer none, .int .i64 190]) ∧ SL W F w'
theorem NewRes.bad {W w' : World} {F : List SA} {l : List Conf} (h : newST l = none) (S : SL W F w') : NewRes W F l (.returned (.tuple #[.pointer none, .int .i64 190])) w' := by
  unfold NewRes; rw [h]; exact ⟨rfl, S⟩
theorem bad_at {l : List Conf} {k : Nat} {c : Conf} {us : List UN} (hc : l[k]? = some c) (h : newUs (l.take k) [] = some us) (hs : newStep us c = none) : newST l = none := by
  unfold newST
  split
  · rfl
  · rw [newUs_none (k := k + 1) (by rw [newUs_take hc, h]; exact hs)]; rfl
theorem oneElem : Elem Tryz.prog 69 70 (.pointer none) 1 8 := ⟨Tryz.underlying69, by kernel_rfl, rfl, by omega⟩
section
variable {W w : World} {F : List SA}
set_option maxRecDepth 100000 in
set_option maxHeartbeats 16000000 in
theorem new_any (l : List Conf) (A : Option Addr) (cp : Nat) (hz : ∀ c ∈ l, c.serial.size ≤ 140737488355328) (hl : l.length ≤ maxLen) (hr : Rd W F A (l.flatMap confL)) (S : SL W F w) :
    Calls Tryz.prog 7 #[.slice A l.length cp] w (NewRes W F l) := by
  have HS := Lib.hid S
  have HZ := Lib.hid hz
  have HRD := Lib.hid hr
  have hl2 : l.length ≤ 9223372036854775807 := by unfold maxLen at hl; omega
  clear S hz hr hl
  by_cases h16 : 16 < l.length
  · have HR := Lib.hid (show newST l = none by unfold newST; rw [if_pos h16])
    go_enter Tryz.func7, Tryz.ntmps7
    go_wp2
    go_ret2
    exact NewRes.bad HR.out HS.out
  have hmm := @run_makeMap Tryz.prog
  go_enter Tryz.func7, Tryz.ntmps7
  go_wp2_with fail
  have h0 : SL W (strS (w.heap.size + 1) [] :: setO w.heap.size (.slice none 0 0) [] ⟨[], none, false⟩ :: F) ((w.alloc (.cells #[.slice none 0 0, .pointer none, .bool false] 72)).alloc (.map #[] 0)) := by
    have h1 := (set_close (s := ⟨[], none, false⟩) (bs := []) rfl (((HS.out.empty.nil 70 1).allocC #[.slice none 0 0, .pointer none, .bool false] 72))).alloc (.map #[] 0)
    rw [World.size_alloc] at h1
    exact h1
  have H0 := Lib.hid h0
  clear h0
  generalize w.heap.size + 1 = mb at *
  generalize hxx : w.heap.size = x at *
  go_loopw [18] (fun i wr => ∃ (k : Nat) (us : List UN) (A2 : Option Addr) (c2 : Nat) (bs : List (Nat × Nat)), k ≤ l.length ∧ i = .int .i64 k ∧ newUs (l.take k) [] = some us ∧ us.length = k ∧
    SL W (setO x (.slice A2 us.length c2) bs ⟨us, none, false⟩ :: strS mb (serials us) :: F) wr) (fun i _ => l.length - (intOf i).toNat)
  case atStart => exact ⟨0, [], none, 0, [], Nat.zero_le _, rfl, rfl, rfl, H0.out.s1⟩
  case round =>
    obtain ⟨k, us, A2, c2, bs, hk, rfl, hus, hul, S1⟩ := hrel
    have H1 := Lib.hid S1
    have HU := Lib.hid hus
    clear S1 hus H0
    by_cases hlt : k < l.length
    · have hu15 : us.length ≤ 15 := by omega
      have HUL := Lib.hid hul
      clear hul
      have hc : l[k]? = some l[k] := by simp [hlt]
      have hcz := HZ.out l[k] (List.getElem_mem hlt)
      generalize l[k] = c at hc hcz
      obtain ⟨b, off, rfl, hbz, k0, k1, k2, k3, k4⟩ := conf_cells (HRD.out wr H1.out.drop.drop) hc
      have HC := Lib.hid hc
      have H2 := Lib.hid (H1.out.allocC (confA c) 68)
      have HD := Lib.hid (newDevice_any c hcz H2.out)
      clear hc hcz
      go_wp2_with fail
      refine HD.out.mono ?_
      rintro e w2 h
      unfold NewDev at h
      cases hd : confDev c with
      | none =>
        rw [hd] at h
        obtain ⟨v, rfl, S2⟩ := h
        have HR := Lib.hid (bad_at HC.out HU.out (show newStep us c = none by unfold newStep; rw [hd]))
        have H3 := Lib.hid S2
        clear S2 k0 k1 k2 k3 k4 hd
        go_wp2
        go_ret2
        exact NewRes.bad HR.out H3.out.drop.drop.drop
      | some d =>
        rw [hd] at h
        unfold devV at h
        obtain ⟨db, rfl, S2⟩ := h
        have H3 := Lib.hid S2
        have hstep : newStep us c = if us.any (fun u => decide (u.conf.addr = c.addr)) = true ∨ c.addr < 0 ∨ 1024 ≤ c.addr then none
          else if volB c = true ∧ us.any (fun u => volB u.conf && decide (u.conf.serial = c.serial)) = true then none else some (us ++ [⟨c, d, 0, 0, false⟩]) := by unfold newStep; rw [hd]
        have HF := Lib.hid (find_any c.addr (show us.length ≤ 16 by omega) S2.s2)
        have hfa : (us.findIdx? fun u => decide (u.conf.addr = c.addr)).isSome = us.any (fun u => decide (u.conf.addr = c.addr)) := List.findIdx?_isSome
        have hfe : (⟨us, none, false⟩ : ST).find c.addr = us.findIdx? fun u => decide (u.conf.addr = c.addr) := rfl
        rw [hfe] at HF
        obtain ⟨L3, K3, z3⟩ := S2.s1.look
        have q0 : w2.cell? ⟨wr.heap.size, 0, none⟩ = some (.int .i64 c.addr) := L3 0
        have q1 : w2.cell? ⟨wr.heap.size, 1, none⟩ = some (.int .i64 c.kind) := L3 1
        have q2 : w2.cell? ⟨wr.heap.size, 2, none⟩ = some (.string c.serial) := L3 2
        have q3 : w2.cell? ⟨wr.heap.size, 3, none⟩ = some (.int .i64 c.cyls) := L3 3
        have q4 : w2.cell? ⟨wr.heap.size, 4, none⟩ = some (.int .i64 c.heads) := L3 4
        obtain ⟨hb2, S2o⟩ := set_open S2.s2
        have HB := Lib.hid hb2
        clear S2 S2o k0 k1 k2 k3 k4 hd L3 hb2 hfe
        cases hf : us.findIdx? fun u => decide (u.conf.addr = c.addr) with
        | some i =>
          rw [hf] at HF hfa
          have hi : i < us.length := by rw [List.findIdx?_eq_some_iff_getElem] at hf; exact hf.1
          obtain ⟨b9, db9, hp9⟩ := bs_get HB.out (List.getElem?_eq_getElem hi)
          rw [lastV_some hp9] at HF
          unfold ptrV at HF
          have HR := Lib.hid (bad_at HC.out HU.out (show newStep us c = none by rw [hstep, if_pos (Or.inl (by rw [← hfa]; rfl))]))
          clear hstep hfa hf hp9
          go_wp2_with fail
          refine HF.out.mono ?_
          rintro e w3 ⟨rfl, rfl⟩
          go_wp2
          go_ret2
          exact NewRes.bad HR.out H3.out.drop.drop.drop.drop
        | none =>
          rw [hf] at HF hfa
          simp only [lastV] at HF
          by_cases a0 : c.addr < 0
          · have HR := Lib.hid (bad_at HC.out HU.out (show newStep us c = none by rw [hstep, if_pos (Or.inr (Or.inl a0))]))
            clear hstep hfa hf
            go_wp2_with fail
            refine HF.out.mono ?_
            rintro e w3 ⟨rfl, rfl⟩
            go_wp2
            go_ret2
            exact NewRes.bad HR.out H3.out.drop.drop.drop.drop
          by_cases a1 : 1024 ≤ c.addr
          · have HR := Lib.hid (bad_at HC.out HU.out (show newStep us c = none by rw [hstep, if_pos (Or.inr (Or.inr a1))]))
            clear hstep hfa hf
            go_wp2_with fail
            refine HF.out.mono ?_
            rintro e w3 ⟨rfl, rfl⟩
            go_wp2
            go_ret2
            exact NewRes.bad HR.out H3.out.drop.drop.drop.drop
          rw [if_neg (by rw [← hfa]; simp; omega)] at hstep
          have hser := has_serial us c.serial
          have hlk := run_hasS (P := Tryz.prog) (T := 73) Tryz.underlying73 Tryz.underlying9 (fun _ => rfl) H3.out.s3 c.serial
          by_cases hv : volB c = true ∧ us.any (fun u => volB u.conf && decide (u.conf.serial = c.serial)) = true
          · rw [if_pos hv] at hstep
            have HR := Lib.hid (bad_at HC.out HU.out hstep)
            rw [hser, hv.2] at hlk
            have hk : c.kind = 4 ∨ c.kind = 5 := by have := hv.1; unfold volB at this; simpa using this
            clear hstep hfa hf hv hser
            rcases hk with hk | hk
            all_goals
              rw [hk] at q1
              go_wp2_with fail
              refine HF.out.mono ?_
              rintro e w3 ⟨rfl, rfl⟩
              go_wp2
              go_ret2
              exact NewRes.bad HR.out H3.out.drop.drop.drop.drop
          rw [if_neg hv] at hstep
          have HSTEP := Lib.hid hstep
          have hkind : (c.kind = 4 ∧ volB c = true) ∨ (c.kind = 5 ∧ volB c = true) ∨ ((c.kind == 4) = false ∧ (c.kind == 5) = false ∧ volB c = false) := by
            unfold volB
            by_cases h4 : c.kind = 4
            · simp [h4]
            · by_cases h5 : c.kind = 5
              · simp [h5]
              · simp [h4, h5]
          have hsn : serials (us ++ [⟨c, d, 0, 0, false⟩]) = if volB c = true then serials us ++ [c.serial] else serials us := by
            unfold serials
            rw [List.filter_append, List.map_append]
            cases h : volB c <;> simp [h]
          clear hstep hfa hf
          rcases hkind with ⟨hk, hvb⟩ | ⟨hk, hvb⟩ | ⟨t4, t5, hvb⟩
          case' inr.inr =>
            rw [if_neg (by rw [hvb]; decide)] at hsn
            rw [← hsn] at H3
            clear hv hvb hsn hlk hser
            go_upto_region 15 with ((with_reducible refine HF.out.mono ?_); rintro e w3 ⟨rfl, rfl⟩)
            refine name_world (P := Code.wp _ _ _ _) ?_
            intro wq hwq
            have H4 := Lib.hid (SL.cast hwq H3.out)
          case' inl =>
            have hnot : hasS (serials us) c.serial = false := by
              rw [hser]
              cases h : us.any (fun u => volB u.conf && decide (u.conf.serial = c.serial))
              · rfl
              · exact absurd ⟨hvb, h⟩ hv
            rw [hnot] at hlk
            rw [if_pos hvb] at hsn
            obtain ⟨wm, hr1, S4⟩ := run_addS (P := Tryz.prog) (T := 73) Tryz.underlying73 Tryz.underlying9 H3.out.s3 c.serial hnot
            rw [← hsn] at S4
            have H4' := Lib.hid S4.b3
            rw [hk] at q1
            clear hv hvb hsn hser hnot S4 H3 hk
            go_upto_region 15 with ((with_reducible refine HF.out.mono ?_); rintro e w3 ⟨rfl, rfl⟩)
            refine name_world (P := Code.wp _ _ _ _) ?_
            intro wq hwq
            have H4 := Lib.hid (SL.cast hwq H4'.out)
          case' inr.inl =>
            have hnot : hasS (serials us) c.serial = false := by
              rw [hser]
              cases h : us.any (fun u => volB u.conf && decide (u.conf.serial = c.serial))
              · rfl
              · exact absurd ⟨hvb, h⟩ hv
            rw [hnot] at hlk
            rw [if_pos hvb] at hsn
            obtain ⟨wm, hr1, S4⟩ := run_addS (P := Tryz.prog) (T := 73) Tryz.underlying73 Tryz.underlying9 H3.out.s3 c.serial hnot
            rw [← hsn] at S4
            have H4' := Lib.hid S4.b3
            rw [hk] at q1
            clear hv hvb hsn hser hnot S4 H3 hk
            go_upto_region 15 with ((with_reducible refine HF.out.mono ?_); rintro e w3 ⟨rfl, rfl⟩)
            refine name_world (P := Code.wp _ _ _ _) ?_
            intro wq hwq
            have H4 := Lib.hid (SL.cast hwq H4'.out)
          all_goals
            clear hwq
            obtain ⟨_, S5⟩ := set_open H4.out.s2
            -- set, row, units, device, variable, strings
            refine wp_region_order (SL W (cel x #[.slice A2 us.length c2, .pointer none, .bool false] 72 :: rowS 70 1 (.slice A2 us.length c2) us.length (ptrs bs) :: star (List.zipWith oneS bs us) :: devS db d :: cel wr.heap.size (confA c) 68 :: strS mb (serials (us ++ [({ conf := c, dev := d, after := 0, times := 0, equip := false } : UN)])) :: F)) [0, 1, 2, 3, 6] [4, 5, 7] [] [8, 9] [10, 11, 12, 13] (by kernel_rfl) (by kernel_rfl) S5.drew (by intro c a d v w h; cases d <;> exact h) ?_
            simp only [pick, List.filterMap_cons, List.filterMap_nil, List.getElem?_cons_zero, List.getElem?_cons_succ]
            repeat (refine wpPure_step (fun K hK => ?_); go_simp; refine hK _ ?_; clear hK K)
            refine wpPure_nil ?_
            (repeat (with_reducible refine wpLoads_step ?_; intro K hK; go_simp; first | (with_reducible refine hK _ ?_; clear hK K) | (rw [if_neg (by decide)]; with_reducible refine hK _ ?_; clear hK K) | (refine ⟨_, fun wx hx => (by obtain ⟨f1, f2, f3⟩ := hx.look; obtain ⟨g1, g2, g3⟩ := hx.s4.look; simp only [confA] at g1; go_simp; with_reducible rfl), hK _ ?_⟩; clear hK K) | (refine ⟨_, fun _ _ => rfl, hK _ ?_⟩; clear hK K))); with_reducible refine wpLoads_nil ?_
            refine wpQuiet_nil ?_
            intro w6 S6
            have H6 := Lib.hid (S6.allocC (oneCells db { conf := c, dev := d, after := 0, times := 0, equip := false }) 80)
            clear H4 S5
            (with_reducible refine wpKeep_step ?_; intro K hK; go_simp)
            refine hK _ _ (S6.allocC _ _).drop ?_
            clear hK K
            (with_reducible refine wpKeep_step ?_; intro K hK; go_simp)
            refine hK _ _ ((S6.allocC _ _).drop.allocC _ _).drop ?_
            clear hK K
            refine wpKeep_nil ?_
            refine wpList_pushS (by rfl) _ _ _ (by rfl) oneElem (w6.alloc (.cells (oneCells db { conf := c, dev := d, after := 0, times := 0, equip := false }) 80)) [ptrV w6.heap.size] 1 (by rfl) (by rfl) (by simp [Value.oneCell', ptrV]) _ us.length _ (by go_simp; try rfl) (by go_simp; try rfl) H6.out.s2 (by unfold maxLen; omega) (by omega) ?_
            intro A7 c7 w7 S7
            have H7 := Lib.hid S7.s2
            obtain ⟨L7, K7, z7⟩ := H7.out.look
            clear S7 S6 H6
            go_wp2
            go_roundw
            case rel =>
              have S8 := H7.out.set (off := 0) (v := .slice A7 (us.length + 1) c7) (cs' := #[.slice A7 (us.length + 1) c7, .pointer none, .bool false]) rfl
              have S9 := (SL.app (L := [cel w6.heap.size (oneCells db { conf := c, dev := d, after := 0, times := 0, equip := false }) 80, devS db d]) S8.s2.s4.s1).s3.s1.snoc.b2
              refine ⟨k + 1, us ++ [{ conf := c, dev := d, after := 0, times := 0, equip := false }], A7, c7, bs ++ [(w6.heap.size, db)], by omega, by go_num, by rw [newUs_take HC.out, HU.out]; exact HSTEP.out, by have := HUL.out; simp; omega, ?_⟩
              rw [List.length_append, List.length_singleton]
              have S10 : SL W (cel x #[.slice A7 (us.length + 1) c7, .pointer none, .bool false] 72 :: rowS 70 1 (.slice A7 (us.length + 1) c7) (us ++ [({ conf := c, dev := d, after := 0, times := 0, equip := false } : UN)]).length (ptrs (bs ++ [(w6.heap.size, db)])) :: star (List.zipWith oneS (bs ++ [(w6.heap.size, db)]) (us ++ [{ conf := c, dev := d, after := 0, times := 0, equip := false }])) :: cel wr.heap.size (confA c) 68 :: strS mb (serials (us ++ [{ conf := c, dev := d, after := 0, times := 0, equip := false }])) :: F) (w7.setCell ⟨x, 0, none⟩ (.slice A7 (us.length + 1) c7)) := by
                rw [List.length_append, List.length_singleton, List.zipWith_append (by exact HB.out)]
                have hpt : ptrs (bs ++ [(w6.heap.size, db)]) = ptrs bs ++ [ptrV w6.heap.size] := by simp [ptrs]
                rw [hpt]
                exact S9
              exact (set_close (bs := bs ++ [(w6.heap.size, db)]) (s := ⟨us ++ [{ conf := c, dev := d, after := 0, times := 0, equip := false }], none, false⟩) (by simpa using HB.out) S10).s1.drop
            case measure => simp [intOf]; omega
    · obtain rfl : k = l.length := by omega
      have hall := HU.out
      rw [List.take_length] at hall
      obtain ⟨hf, hfl⟩ := fresh_us fresh_nil hall
      have hu16 : us.length ≤ 16 := by omega
      clear hfl
      have HR := Lib.hid (show newST l = some ⟨us.mergeSort leU, none, false⟩ by unfold newST; rw [if_neg h16, hall]; rfl)
      obtain ⟨hb2, S2⟩ := set_open H1.out
      have HB := Lib.hid hb2
      have H2 := Lib.hid S2
      obtain ⟨L2, K2, z2⟩ := S2.look
      have q0 : wr.cell? ⟨x, 0, none⟩ = some (.slice A2 us.length c2) := L2 0
      have HC := Lib.hid (sort_any hb2 hf.addr hu16 S2.s1.s2.s1)
      clear hall hf S2 hb2 L2 hul h16
      go_wp2_with fail
      refine HC.out.mono ?_
      rintro e w3 ⟨rfl, bs3, hb3, S3⟩
      have HB3 := Lib.hid hb3
      have H3 := Lib.hid S3
      clear hb3 S3
      go_wp2
      go_ret2
      unfold NewRes
      rw [HR.out]
      have hlen : (us.mergeSort leU).length = us.length := List.length_mergeSort _
      have S4 : SL W (cel x #[.slice A2 us.length c2, .pointer none, .bool false] 72 :: rowS 70 1 (.slice A2 us.length c2) (us.mergeSort leU).length (ptrs bs3) :: star (List.zipWith oneS bs3 (us.mergeSort leU)) :: strS mb (serials us) :: F) w3 := by
        rw [hlen]
        exact H3.out.s2
      exact ⟨x, .slice A2 us.length c2, bs3, rfl, (set_close (s := ⟨us.mergeSort leU, none, false⟩) HB3.out S4).s1.drop⟩
end
end Go.Proofs.YtfhpaehfihnjaaaGreat
