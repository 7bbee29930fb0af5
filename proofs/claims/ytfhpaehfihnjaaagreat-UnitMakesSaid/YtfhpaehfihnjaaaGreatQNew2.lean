/- The document: New. -/
import Derived.Test.YtfhpaehfihnjaaaGreatQNewA
import Derived.Test.YtfhpaehfihnjaaaGreatNew
import Derived.Deep.CutRange
set_option maxRecDepth 100000
namespace Go.Proofs.YtfhpaehfihnjaaaGreat
open Go.RowKit
def QNewRes (W : World) (F : List SA) (l : List Conf) (e : Ending) (w' : World) : Prop :=
  match newST l with
  | some s => ∃ x v bs, e = .returned (ptrV x) ∧ SL W (qsetO x v bs s :: F) w'
  | none => e = .returned (.pointer none) ∧ SL W F w'
theorem QNewRes.bad {W w' : World} {F : List SA} {l : List Conf} (h : newST l = none) (S : SL W F w') : QNewRes W F l (.returned (.pointer none)) w' := by
  unfold QNewRes; rw [h]; exact ⟨rfl, S⟩
theorem qunitElem : Elem Tryz.prog 36 31 (.pointer none) 1 8 := ⟨Tryz.underlying36, by kernel_rfl, rfl, by omega⟩
theorem conf_at {w : World} {B b off : Nat} {l : List Conf} {k : Nat} {c : Conf} (h : At w B (some ⟨b, off, none⟩) (l.flatMap confL)) (hc : l[k]? = some c) : w.cell? ⟨b, off + k * 5, none⟩ = some (.int .i64 c.addr) ∧ w.cell? ⟨b, off + k * 5 + 1, none⟩ = some (.int .i64 c.kind) ∧ w.cell? ⟨b, off + k * 5 + 2, none⟩ = some (.string c.serial) := by
  obtain ⟨b1, off1, hA, _, k0, k1, k2, _, _⟩ := conf_cells h hc
  injection hA with e
  injection e with e1 e2
  subst e1; subst e2
  exact ⟨k0, k1, k2⟩
theorem At.dropIf {w : World} {B : Nat} {A : Option Addr} {xs : List Value} (h : At w B A xs) (m cv : Nat) (hc : xs.length ≤ cv) : At w B (if cv = m then A else A.map fun x => x.add m) (xs.drop m) := fun hx => by
  have hm : m < xs.length := by
    rcases Nat.lt_or_ge m xs.length with h1 | h1
    · exact h1
    · exact absurd (List.drop_of_length_le h1) hx
  obtain ⟨b, off, rfl, hb, hcell⟩ := h (by rintro rfl; simp at hm)
  rw [if_neg (by omega)]
  refine ⟨b, off + m, by simp [Addr.add], hb, fun j u hu => ?_⟩
  rw [List.getElem?_drop] at hu
  have := hcell (m + j) u hu
  rw [← Nat.add_assoc] at this
  exact this
theorem volume_any (k : Int) (w : World) : Calls Tryz.prog 28 #[.int .i64 k] w fun e w' => e = .returned (.bool (decide (k = 4) || decide (k = 5))) ∧ Below w.heap.size w w' := by
  by_cases h4 : k = 4
  · subst h4
    go_enter Tryz.func28, Tryz.ntmps28
    go_wp2
    go_ret
    exact ⟨rfl, by (repeat' (first | (with_reducible exact Below.refl _ _) | (with_reducible assumption) | (with_reducible refine below_drewN ?_ _) | (with_reducible refine Below.drew ?_) | (with_reducible refine Below.alloc ?_ ?_ _) | (with_reducible refine Below.setCell ?_ ?_ _) | (with_reducible refine below_row ?_ ?_ _) | (with_reducible exact Nat.le_refl _) | omega | (simp only [World.size_alloc, World.size_setCell, World.size_drew, World.size_drewN]; omega) | (simp; done) | (simp; omega)))⟩
  · have t4 : (k == 4) = false := by simpa using h4
    rw [decide_eq_false h4]
    by_cases h5 : k = 5
    · subst h5
      go_enter Tryz.func28, Tryz.ntmps28
      go_wp2
      go_ret
      exact ⟨rfl, by (repeat' (first | (with_reducible exact Below.refl _ _) | (with_reducible assumption) | (with_reducible refine below_drewN ?_ _) | (with_reducible refine Below.drew ?_) | (with_reducible refine Below.alloc ?_ ?_ _) | (with_reducible refine Below.setCell ?_ ?_ _) | (with_reducible refine below_row ?_ ?_ _) | (with_reducible exact Nat.le_refl _) | omega | (simp only [World.size_alloc, World.size_setCell, World.size_drew, World.size_drewN]; omega) | (simp; done) | (simp; omega)))⟩
    · have t5 : (k == 5) = false := by simpa using h5
      rw [decide_eq_false h5]
      go_enter Tryz.func28, Tryz.ntmps28
      go_wp2
      go_ret
      exact ⟨rfl, by (repeat' (first | (with_reducible exact Below.refl _ _) | (with_reducible assumption) | (with_reducible refine below_drewN ?_ _) | (with_reducible refine Below.drew ?_) | (with_reducible refine Below.alloc ?_ ?_ _) | (with_reducible refine Below.setCell ?_ ?_ _) | (with_reducible refine below_row ?_ ?_ _) | (with_reducible exact Nat.le_refl _) | omega | (simp only [World.size_alloc, World.size_setCell, World.size_drew, World.size_drewN]; omega) | (simp; done) | (simp; omega)))⟩
theorem vol_any (c : Conf) {q : Bool} (hq : volB c = q) (w : World) : Calls Tryz.prog 28 #[.int .i64 c.kind] w fun e w' => e = .returned (.bool q) ∧ Below w.heap.size w w' := by
  subst hq
  exact volume_any c.kind w
theorem qins_close {W w : World} {F : List SA} {x ub db n m : Nat} {A : Option Addr} {c : Nat} {bs : List (Nat × Nat)} {T : List UN} {u : UN} (hb : bs.length = n) (hT : T.length = n) (hm : m ≤ n)
    (S : SL W (cel x #[.slice A (n + 1) c, .bool false] 38 :: rowS 31 1 (.slice A (n + 1) c) (n + 1) ((ptrs bs).take m ++ [.pointer (some ⟨ub, 0, none⟩)] ++ (ptrs bs).drop m) :: star (List.zipWith qoneS bs T) :: cel ub (qoneCells db u) 45 :: qdevS db u.dev :: F) w) :
    SL W (qsetO x (.slice A (n + 1) c) (bs.take m ++ (ub, db) :: bs.drop m) ⟨T.take m ++ u :: T.drop m, none, false⟩ :: F) w := by
  have hp : ptrs (bs.take m ++ (ub, db) :: bs.drop m) = (ptrs bs).take m ++ [.pointer (some ⟨ub, 0, none⟩)] ++ (ptrs bs).drop m := by
    unfold ptrs
    simp [ptrV]
  have hz : (List.zipWith qoneS bs T ++ [qoneS (ub, db) u]).Perm (List.zipWith qoneS (bs.take m ++ (ub, db) :: bs.drop m) (T.take m ++ u :: T.drop m)) := by
    rw [List.zipWith_append (by simp; omega), List.zipWith_cons_cons, ← List.take_zipWith, ← List.drop_zipWith]
    refine (List.perm_append_singleton _ _).trans ?_
    refine List.Perm.trans ?_ List.perm_middle.symm
    rw [List.take_append_drop]
  have hl : (T.take m ++ u :: T.drop m).length = n + 1 := by simp; omega
  have S1 : SL W (qoneS (ub, db) u :: star (List.zipWith qoneS bs T) :: cel x #[.slice A (n + 1) c, .bool false] 38 :: rowS 31 1 (.slice A (n + 1) c) (n + 1) ((ptrs bs).take m ++ [.pointer (some ⟨ub, 0, none⟩)] ++ (ptrs bs).drop m) :: F) w := by
    have h := SL.app (L := [cel ub (qoneCells db u) 45, qdevS db u.dev]) S.s3.s4.s1
    exact h.s3.s1
  have S2 := SL.head (SL.snoc S1) (star_perm hz)
  have S3 := S2.b2
  rw [← hp] at S3
  refine qset_close (s := ⟨T.take m ++ u :: T.drop m, none, false⟩) (by simp; omega) ?_
  dsimp only
  rw [hl]
  exact S3
section
variable {W w : World} {F : List SA}
set_option maxHeartbeats 64000000 in
theorem qnew_any (l : List Conf) (A : Option Addr) (cp : Nat) (hz : ∀ c ∈ l, c.serial.size ≤ 140737488355328) (hl : l.length ≤ maxLen) (hr : Rd W F A (l.flatMap confL)) (S : SL W F w) :
    Calls Tryz.prog 8 #[.slice A l.length cp] w (QNewRes W F l) := by
  have HS := Lib.hid S
  have HZ := Lib.hid hz
  have HRD := Lib.hid hr
  have hl2 : l.length ≤ 9223372036854775807 := by unfold maxLen at hl; omega
  clear S hz hr hl
  by_cases h16 : 16 < l.length
  · have HR := Lib.hid (show newST l = none by unfold newST; rw [if_pos h16])
    go_enter Tryz.func8, Tryz.ntmps8
    go_wp2
    go_ret
    exact QNewRes.bad HR.out HS.out
  go_enter Tryz.func8, Tryz.ntmps8
  go_wp2_with fail
  have H0 := Lib.hid (qset_close (s := ⟨[], none, false⟩) (bs := []) rfl (((HS.out.empty.nil 31 1).allocC #[.slice none 0 0, .bool false] 38)))
  generalize w.heap.size = x at *
  go_loopw [4] (fun i wr => ∃ (k : Nat) (us : List UN) (v : Value) (bs : List (Nat × Nat)), k ≤ l.length ∧ i = .int .i64 k ∧ newUs (l.take k) [] = some us ∧ us.length = k ∧ SL W (qsetO x v bs ⟨us.mergeSort leU, none, false⟩ :: F) wr) (fun i _ => l.length - (intOf i).toNat)
  case atStart => exact ⟨0, [], _, [], Nat.zero_le _, rfl, rfl, rfl, by simpa using H0.out⟩
  case round =>
    obtain ⟨k, us, v, bs, hk, rfl, hus, hul, S1⟩ := hrel
    have H1 := Lib.hid S1
    have HU := Lib.hid hus
    have HUL := Lib.hid hul
    have HUC := Lib.hid (show us.map (·.conf) = l.take k by have := newUs_conf hus; simpa using this)
    clear S1 hus H0 hul
    by_cases hlt : k < l.length
    · have hk15 : k ≤ 15 := by omega
      have hc : l[k]? = some l[k] := by simp [hlt]
      have hcz := HZ.out l[k] (List.getElem_mem hlt)
      generalize l[k] = c at hc hcz
      obtain ⟨b, off, rfl, hbz, k0, k1, k2, k3, k4⟩ := conf_cells (HRD.out wr H1.out.drop) hc
      have HC := Lib.hid hc
      have HD := Lib.hid (qone_any c hcz H1.out)
      clear hc hcz
      unfold confA at HD
      go_wp2_with fail
      refine HD.out.mono ?_
      rintro e w2 h
      unfold QOneR at h
      cases hd : confDev c with
      | none =>
        rw [hd] at h
        obtain ⟨p, rfl, S2⟩ := h
        have HR := Lib.hid (bad_at HC.out HU.out (show newStep us c = none by unfold newStep; rw [hd]))
        have H3 := Lib.hid S2
        clear S2 k0 k1 k2 k3 k4 hd
        go_wp2
        go_ret
        exact QNewRes.bad HR.out H3.out.drop
      | some d =>
        rw [hd] at h
        dsimp only at h
        by_cases hrg : 0 ≤ c.addr ∧ c.addr < 1024
        · rw [if_pos hrg] at h
          obtain ⟨ub, db, rfl, S2⟩ := h
          have HDC := Lib.hid (And.intro hd hrg)
          have H3 := Lib.hid S2
          clear S2 k0 k1 k2 k3 k4 hd hrg HD H1 hbz
          unfold ptrV
          go_wp2_with fail
          go_loopw [7] (fun j wr => ∃ i : Nat, i ≤ k ∧ j = .int .i64 i ∧ (∀ (a : Conf) (m : Nat), m < i → l[m]? = some a → dupB a c = false) ∧ SL W (cel ub (qoneCells db ⟨c, d, 0, 0, false⟩) 45 :: qdevS db d :: qsetO x v bs ⟨us.mergeSort leU, none, false⟩ :: F) wr) (fun j _ => k - (intOf j).toNat)
          case atStart => exact ⟨0, Nat.zero_le _, rfl, fun a m h => absurd h (by omega), H3.out⟩
          case round =>
            obtain ⟨i, hi, rfl, hno, S1⟩ := hrel
            have H4 := Lib.hid S1
            have HN := Lib.hid hno
            clear S1 hno H3
            by_cases hli : i < k
            · have hil : i < l.length := by omega
              have hci : l[i]? = some l[i] := by simp [hil]
              have hmem : l[i] ∈ l.take k := List.mem_iff_getElem?.2 ⟨i, by rw [List.getElem?_take, if_pos hli, hci]⟩
              generalize l[i] = ci at hci hmem
              have HLI := Lib.hid (fun (wx : World) (hx : SL W (cel ub (qoneCells db ⟨c, d, 0, 0, false⟩) 45 :: qdevS db d :: qsetO x v bs ⟨us.mergeSort leU, none, false⟩ :: F) wx) => conf_at (HRD.out wx hx.drop.drop.drop) hci)
              have HLK := Lib.hid (fun (wx : World) (hx : SL W (cel ub (qoneCells db ⟨c, d, 0, 0, false⟩) 45 :: qdevS db d :: qsetO x v bs ⟨us.mergeSort leU, none, false⟩ :: F) wx) => conf_at (HRD.out wx hx.drop.drop.drop) HC.out)
              have HI := Lib.hid hci
              have HM := Lib.hid hmem
              clear hci hmem
              go_upto_region 13 with fail
              by_cases ha : ci.addr = c.addr
              · have ta : (ci.addr == c.addr) = true := by simpa using ha
                have HR := Lib.hid (bad_at HC.out HU.out (step_dup HUC.out HM.out (show dupB ci c = true by unfold dupB; simp [ha])))
                clear ha
                refine wp_region_quiet (C := SL W (cel ub (qoneCells db ⟨c, d, 0, 0, false⟩) 45 :: qdevS db d :: qsetO x v bs ⟨us.mergeSort leU, none, false⟩ :: F)) (by kernel_rfl) (by kernel_rfl) H4.out.drew ?_
                (repeat (with_reducible refine wpQuiet_step ?_; intro K hK; go_simp; first | (with_reducible refine hK _ ?_; clear hK K) | (rw [if_neg (by decide)]; with_reducible refine hK _ ?_; clear hK K) | (refine ⟨_, fun wx hx => (by obtain ⟨f0, f1, f2⟩ := HLI.out wx hx; obtain ⟨g0, g1, g2⟩ := HLK.out wx hx; go_simp; with_reducible rfl), hK _ ?_⟩; clear hK K) | (fail) | (refine ⟨_, fun _ _ => rfl, hK _ ?_⟩; clear hK K))); with_reducible refine wpQuiet_nil ?_
                intro w4 S4
                have H5 := Lib.hid S4
                clear S4 H4
                go_wp2
                go_ret
                exact QNewRes.bad HR.out H5.out.drop.drop.drop
              · have ta : (ci.addr == c.addr) = false := by simpa using ha
                cases hv : volB ci with
                | false =>
                  have HVI := Lib.hid (vol_any ci hv)
                  have HG := Lib.hid (show dupB ci c = false by unfold dupB; simp [ha, hv])
                  clear ha hv
                  refine wp_region_quiet (C := SL W (cel ub (qoneCells db ⟨c, d, 0, 0, false⟩) 45 :: qdevS db d :: qsetO x v bs ⟨us.mergeSort leU, none, false⟩ :: F)) (by kernel_rfl) (by kernel_rfl) H4.out.drew ?_
                  (repeat (with_reducible refine wpQuiet_step ?_; intro K hK; go_simp; first | (with_reducible refine hK _ ?_; clear hK K) | (rw [if_neg (by decide)]; with_reducible refine hK _ ?_; clear hK K) | (refine ⟨_, fun wx hx => (by obtain ⟨f0, f1, f2⟩ := HLI.out wx hx; obtain ⟨g0, g1, g2⟩ := HLK.out wx hx; go_simp; with_reducible rfl), hK _ ?_⟩; clear hK K) | (first | (refine ⟨_, fun wx hx => (by with_reducible refine (HVI.out wx).mono ?_; rintro e w' ⟨rfl, h2⟩; exact ⟨rfl, hx.grow h2⟩), hK _ ?_⟩; clear hK K)) | (refine ⟨_, fun _ _ => rfl, hK _ ?_⟩; clear hK K))); with_reducible refine wpQuiet_nil ?_
                  intro w4 S4
                  have H5 := Lib.hid S4
                  clear S4 H4
                  go_wp2
                  go_roundw
                  case rel => exact ⟨i + 1, by omega, by go_num, fun a m hm ha => (by
                    rcases Nat.lt_succ_iff_lt_or_eq.1 hm with h | rfl
                    · exact HN.out a m h ha
                    · have h := HI.out
                      rw [ha] at h; injection h with h; subst h; exact HG.out), H5.out⟩
                  case measure => simp [intOf]; omega
                | true =>
                  have HVI := Lib.hid (vol_any ci hv)
                  cases hw : volB c with
                  | false =>
                    have HVK := Lib.hid (vol_any c hw)
                    have HG := Lib.hid (show dupB ci c = false by unfold dupB; simp [ha, hw])
                    clear ha hv hw
                    refine wp_region_quiet (C := SL W (cel ub (qoneCells db ⟨c, d, 0, 0, false⟩) 45 :: qdevS db d :: qsetO x v bs ⟨us.mergeSort leU, none, false⟩ :: F)) (by kernel_rfl) (by kernel_rfl) H4.out.drew ?_
                    (repeat (with_reducible refine wpQuiet_step ?_; intro K hK; go_simp; first | (with_reducible refine hK _ ?_; clear hK K) | (rw [if_neg (by decide)]; with_reducible refine hK _ ?_; clear hK K) | (refine ⟨_, fun wx hx => (by obtain ⟨f0, f1, f2⟩ := HLI.out wx hx; obtain ⟨g0, g1, g2⟩ := HLK.out wx hx; go_simp; with_reducible rfl), hK _ ?_⟩; clear hK K) | (first | (refine ⟨_, fun wx hx => (by with_reducible refine (HVI.out wx).mono ?_; rintro e w' ⟨rfl, h2⟩; exact ⟨rfl, hx.grow h2⟩), hK _ ?_⟩; clear hK K) | (refine ⟨_, fun wx hx => (by with_reducible refine (HVK.out wx).mono ?_; rintro e w' ⟨rfl, h2⟩; exact ⟨rfl, hx.grow h2⟩), hK _ ?_⟩; clear hK K)) | (refine ⟨_, fun _ _ => rfl, hK _ ?_⟩; clear hK K))); with_reducible refine wpQuiet_nil ?_
                    intro w4 S4
                    have H5 := Lib.hid S4
                    clear S4 H4
                    go_wp2
                    go_roundw
                    case rel => exact ⟨i + 1, by omega, by go_num, fun a m hm ha => (by
                      rcases Nat.lt_succ_iff_lt_or_eq.1 hm with h | rfl
                      · exact HN.out a m h ha
                      · have h := HI.out
                        rw [ha] at h; injection h with h; subst h; exact HG.out), H5.out⟩
                    case measure => simp [intOf]; omega
                  | true =>
                    have HVK := Lib.hid (vol_any c hw)
                    by_cases hs : ci.serial = c.serial
                    · have ts : (ci.serial.toList == c.serial.toList) = true := by rw [hs]; simp
                      have HR := Lib.hid (bad_at HC.out HU.out (step_dup HUC.out HM.out (show dupB ci c = true by unfold dupB; simp [hv, hw, hs])))
                      clear ha hv hw hs
                      refine wp_region_quiet (C := SL W (cel ub (qoneCells db ⟨c, d, 0, 0, false⟩) 45 :: qdevS db d :: qsetO x v bs ⟨us.mergeSort leU, none, false⟩ :: F)) (by kernel_rfl) (by kernel_rfl) H4.out.drew ?_
                      (repeat (with_reducible refine wpQuiet_step ?_; intro K hK; go_simp; first | (with_reducible refine hK _ ?_; clear hK K) | (rw [if_neg (by decide)]; with_reducible refine hK _ ?_; clear hK K) | (refine ⟨_, fun wx hx => (by obtain ⟨f0, f1, f2⟩ := HLI.out wx hx; obtain ⟨g0, g1, g2⟩ := HLK.out wx hx; go_simp; with_reducible rfl), hK _ ?_⟩; clear hK K) | (first | (refine ⟨_, fun wx hx => (by with_reducible refine (HVI.out wx).mono ?_; rintro e w' ⟨rfl, h2⟩; exact ⟨rfl, hx.grow h2⟩), hK _ ?_⟩; clear hK K) | (refine ⟨_, fun wx hx => (by with_reducible refine (HVK.out wx).mono ?_; rintro e w' ⟨rfl, h2⟩; exact ⟨rfl, hx.grow h2⟩), hK _ ?_⟩; clear hK K)) | (refine ⟨_, fun _ _ => rfl, hK _ ?_⟩; clear hK K))); with_reducible refine wpQuiet_nil ?_
                      intro w4 S4
                      have H5 := Lib.hid S4
                      clear S4 H4
                      go_wp2
                      go_ret
                      exact QNewRes.bad HR.out H5.out.drop.drop.drop
                    · have ts : (ci.serial.toList == c.serial.toList) = false := by rw [beq_eq_false_iff_ne]; intro e; rw [ByteArray.toList_eq, ByteArray.toList_eq] at e; exact hs (ByteArray.ext (Array.toList_inj.1 e))
                      have HG := Lib.hid (show dupB ci c = false by unfold dupB; simp [ha, hs])
                      clear ha hv hw hs
                      refine wp_region_quiet (C := SL W (cel ub (qoneCells db ⟨c, d, 0, 0, false⟩) 45 :: qdevS db d :: qsetO x v bs ⟨us.mergeSort leU, none, false⟩ :: F)) (by kernel_rfl) (by kernel_rfl) H4.out.drew ?_
                      (repeat (with_reducible refine wpQuiet_step ?_; intro K hK; go_simp; first | (with_reducible refine hK _ ?_; clear hK K) | (rw [if_neg (by decide)]; with_reducible refine hK _ ?_; clear hK K) | (refine ⟨_, fun wx hx => (by obtain ⟨f0, f1, f2⟩ := HLI.out wx hx; obtain ⟨g0, g1, g2⟩ := HLK.out wx hx; go_simp; with_reducible rfl), hK _ ?_⟩; clear hK K) | (first | (refine ⟨_, fun wx hx => (by with_reducible refine (HVI.out wx).mono ?_; rintro e w' ⟨rfl, h2⟩; exact ⟨rfl, hx.grow h2⟩), hK _ ?_⟩; clear hK K) | (refine ⟨_, fun wx hx => (by with_reducible refine (HVK.out wx).mono ?_; rintro e w' ⟨rfl, h2⟩; exact ⟨rfl, hx.grow h2⟩), hK _ ?_⟩; clear hK K)) | (refine ⟨_, fun _ _ => rfl, hK _ ?_⟩; clear hK K))); with_reducible refine wpQuiet_nil ?_
                      intro w4 S4
                      have H5 := Lib.hid S4
                      clear S4 H4
                      go_wp2
                      go_roundw
                      case rel => exact ⟨i + 1, by omega, by go_num, fun a m hm ha => (by
                        rcases Nat.lt_succ_iff_lt_or_eq.1 hm with h | rfl
                        · exact HN.out a m h ha
                        · have h := HI.out
                          rw [ha] at h; injection h with h; subst h; exact HG.out), H5.out⟩
                      case measure => simp [intOf]; omega
            · obtain rfl : i = k := by omega
              have H6 := H4
              clear H4
              have hbs : bs.length = us.length := by
                have h := (qset_open H6.out.s2).1
                rw [show (⟨us.mergeSort leU, none, false⟩ : ST).us.length = us.length from (List.mergeSort_perm us leU).length_eq] at h
                exact h
              have S7 := (qset_open H6.out.s2).2
              dsimp only at S7
              obtain ⟨Av, cv, rfl, hcv1, hcv2⟩ := own_slice S7.s1.own
              obtain ⟨n, hn⟩ : ∃ n, n = us.length := ⟨_, rfl⟩
              have HTL := Lib.hid (show (us.mergeSort leU).length = n by rw [hn]; exact (List.mergeSort_perm us leU).length_eq)
              rw [HTL.out] at S7 hcv1
              have HNN := Lib.hid hn
              have HPL := Lib.hid (show (ptrs bs).length = n by unfold ptrs; rw [List.length_map, hbs, hn])
              have hn15 : n ≤ 15 := by rw [hn, HUL.out]; exact hk15
              have HBL := Lib.hid (hbs.trans hn.symm)
              generalize hT : us.mergeSort leU = T at *
              have HT := Lib.hid hT
              have H7 := Lib.hid S7
              clear S7 H6 hn hbs hT
              go_wp2_with fail
              go_loopw [8] (fun j wr => ∃ m : Nat, m ≤ n ∧ j = .int .i64 m ∧ (∀ q y, q < m → T[q]? = some y → y.conf.addr < c.addr) ∧ SL W (cel x #[.slice Av n cv, .bool false] 38 :: rowS 31 1 (.slice Av n cv) n (ptrs bs) :: star (List.zipWith qoneS bs T) :: cel ub (qoneCells db ⟨c, d, 0, 0, false⟩) 45 :: qdevS db d :: F) wr) (fun j _ => n - (intOf j).toNat)
              case atStart => exact ⟨0, Nat.zero_le _, rfl, fun q y h => absurd h (by omega), H7.out⟩
              case round =>
                obtain ⟨m, hm, rfl, hlo, S1⟩ := hrel
                have H8 := Lib.hid S1
                have HLO := Lib.hid hlo
                clear S1 hlo H7
                by_cases hmore : ∃ y, T[m]? = some y ∧ y.conf.addr < c.addr
                · obtain ⟨y, hy, hylt⟩ := hmore
                  have HY := Lib.hid hy
                  have HYL := Lib.hid hylt
                  have hmn2 : m < n := by
                    have := (List.getElem?_eq_some_iff.1 hy).1
                    rw [HTL.out] at this; exact this
                  obtain ⟨bm, dm, hp⟩ := bs_get (us := T) (by rw [HBL.out, HTL.out]) hy
                  obtain ⟨g, rfl, _, _⟩ := H8.out.s1.cellAt (j := m) (u := ptrV bm) (by unfold ptrs; rw [List.getElem?_map, hp]; rfl)
                  have HLX := Lib.hid (fun (wx : World) (hx : SL W (cel x #[.slice (some ⟨g, 0, none⟩) n cv, .bool false] 38 :: rowS 31 1 (.slice (some ⟨g, 0, none⟩) n cv) n (ptrs bs) :: star (List.zipWith qoneS bs T) :: cel ub (qoneCells db ⟨c, d, 0, 0, false⟩) 45 :: qdevS db d :: F) wx) => (by
                    obtain ⟨g2, hg2, _, ck⟩ := hx.s1.cellAt (j := m) (u := ptrV bm) (by unfold ptrs; rw [List.getElem?_map, hp]; rfl)
                    injection hg2 with e
                    injection e with e _
                    subst e
                    exact ⟨hx.look.1 0, ck, (qone_open hp hy hx.s2).look.1 0, hx.s3.look.1 0⟩ : wx.cell? ⟨x, 0, none⟩ = some (.slice (some ⟨g, 0, none⟩) n cv) ∧ wx.cell? ⟨g, m, none⟩ = some (ptrV bm) ∧ wx.cell? ⟨bm, 0, none⟩ = some (.int .i64 y.conf.addr) ∧ wx.cell? ⟨ub, 0, none⟩ = some (.int .i64 c.addr)))
                  unfold ptrV at HLX
                  clear hp hy
                  go_upto_region 16 with fail
                  refine wp_region_quiet (C := SL W (cel x #[.slice (some ⟨g, 0, none⟩) n cv, .bool false] 38 :: rowS 31 1 (.slice (some ⟨g, 0, none⟩) n cv) n (ptrs bs) :: star (List.zipWith qoneS bs T) :: cel ub (qoneCells db ⟨c, d, 0, 0, false⟩) 45 :: qdevS db d :: F)) (by kernel_rfl) (by kernel_rfl) H8.out.drew ?_
                  (repeat (with_reducible refine wpQuiet_step ?_; intro K hK; go_simp; first | (with_reducible refine hK _ ?_; clear hK K) | (rw [if_neg (by decide)]; with_reducible refine hK _ ?_; clear hK K) | (refine ⟨_, fun wx hx => (by obtain ⟨f0, f1, f2, f3⟩ := HLX.out wx hx; go_simp; with_reducible rfl), hK _ ?_⟩; clear hK K) | fail | (refine ⟨_, fun _ _ => rfl, hK _ ?_⟩; clear hK K))); with_reducible refine wpQuiet_nil ?_
                  intro w9 S9
                  have H9 := Lib.hid S9
                  clear S9 H8
                  go_wp2
                  go_roundw
                  case rel => exact ⟨m + 1, by omega, by go_num, fun q y2 hq hy2 => (by
                    rcases Nat.lt_succ_iff_lt_or_eq.1 hq with h | rfl
                    · exact HLO.out q y2 h hy2
                    · have h := HY.out
                      rw [hy2] at h; injection h with h; subst h; exact HYL.out), H9.out⟩
                  case measure => simp [intOf]; omega
                · have HMO := Lib.hid hmore
                  go_upto_region 16 with fail
                  go_cut [98] from 75 to 100 (fun s98 wx => s98 = .bool false ∧ SL W (cel x #[.slice Av n cv, .bool false] 38 :: rowS 31 1 (.slice Av n cv) n (ptrs bs) :: star (List.zipWith qoneS bs T) :: cel ub (qoneCells db ⟨c, d, 0, 0, false⟩) 45 :: qdevS db d :: F) wx)
                  case first =>
                    by_cases hmn : m < n
                    · have hmT : m < T.length := by rw [HTL.out]; exact hmn
                      have hy : T[m]? = some T[m] := List.getElem?_eq_getElem hmT
                      have hyl : ¬ T[m].conf.addr < c.addr := fun h => hmore ⟨_, hy, h⟩
                      clear hmore
                      generalize T[m] = y at hy hyl
                      have hmn2 : m < n := by
                        have := (List.getElem?_eq_some_iff.1 hy).1
                        rw [HTL.out] at this; exact this
                      obtain ⟨bm, dm, hp⟩ := bs_get (us := T) (by rw [HBL.out, HTL.out]) hy
                      obtain ⟨g, rfl, _, _⟩ := H8.out.s1.cellAt (j := m) (u := ptrV bm) (by unfold ptrs; rw [List.getElem?_map, hp]; rfl)
                      have HLX := Lib.hid (fun (wx : World) (hx : SL W (cel x #[.slice (some ⟨g, 0, none⟩) n cv, .bool false] 38 :: rowS 31 1 (.slice (some ⟨g, 0, none⟩) n cv) n (ptrs bs) :: star (List.zipWith qoneS bs T) :: cel ub (qoneCells db ⟨c, d, 0, 0, false⟩) 45 :: qdevS db d :: F) wx) => (by
                        obtain ⟨g2, hg2, _, ck⟩ := hx.s1.cellAt (j := m) (u := ptrV bm) (by unfold ptrs; rw [List.getElem?_map, hp]; rfl)
                        injection hg2 with e
                        injection e with e _
                        subst e
                        exact ⟨hx.look.1 0, ck, (qone_open hp hy hx.s2).look.1 0, hx.s3.look.1 0⟩ : wx.cell? ⟨x, 0, none⟩ = some (.slice (some ⟨g, 0, none⟩) n cv) ∧ wx.cell? ⟨g, m, none⟩ = some (ptrV bm) ∧ wx.cell? ⟨bm, 0, none⟩ = some (.int .i64 y.conf.addr) ∧ wx.cell? ⟨ub, 0, none⟩ = some (.int .i64 c.addr)))
                      unfold ptrV at HLX
                      clear hp hy
                      refine wp_region_quiet (C := SL W (cel x #[.slice (some ⟨g, 0, none⟩) n cv, .bool false] 38 :: rowS 31 1 (.slice (some ⟨g, 0, none⟩) n cv) n (ptrs bs) :: star (List.zipWith qoneS bs T) :: cel ub (qoneCells db ⟨c, d, 0, 0, false⟩) 45 :: qdevS db d :: F)) (by kernel_rfl) (by kernel_rfl) H8.out.drew ?_
                      (repeat (with_reducible refine wpQuiet_step ?_; intro K hK; go_simp; first | (with_reducible refine hK _ ?_; clear hK K) | (rw [if_neg (by decide)]; with_reducible refine hK _ ?_; clear hK K) | (refine ⟨_, fun wx hx => (by obtain ⟨f0, f1, f2, f3⟩ := HLX.out wx hx; go_simp; with_reducible rfl), hK _ ?_⟩; clear hK K) | fail | (refine ⟨_, fun _ _ => rfl, hK _ ?_⟩; clear hK K))); with_reducible refine wpQuiet_nil ?_
                      intro w9 S9
                      have H9 := Lib.hid S9
                      clear S9 H8
                      go_wp2
                      go_meet
                      case rel => exact ⟨rfl, H9.out⟩
                    · obtain rfl : m = n := by omega
                      clear hmore
                      have HLX := Lib.hid (fun (wx : World) (hx : SL W (cel x #[.slice Av m cv, .bool false] 38 :: rowS 31 1 (.slice Av m cv) m (ptrs bs) :: star (List.zipWith qoneS bs T) :: cel ub (qoneCells db ⟨c, d, 0, 0, false⟩) 45 :: qdevS db d :: F) wx) => (hx.look.1 0 : wx.cell? ⟨x, 0, none⟩ = some (.slice Av m cv)))
                      refine wp_region_quiet (C := SL W (cel x #[.slice Av m cv, .bool false] 38 :: rowS 31 1 (.slice Av m cv) m (ptrs bs) :: star (List.zipWith qoneS bs T) :: cel ub (qoneCells db ⟨c, d, 0, 0, false⟩) 45 :: qdevS db d :: F)) (by kernel_rfl) (by kernel_rfl) H8.out.drew ?_
                      (repeat (with_reducible refine wpQuiet_step ?_; intro K hK; go_simp; first | (with_reducible refine hK _ ?_; clear hK K) | (rw [if_neg (by decide)]; with_reducible refine hK _ ?_; clear hK K) | (refine ⟨_, fun wx hx => (by have f0 := HLX.out wx hx; go_simp; with_reducible rfl), hK _ ?_⟩; clear hK K) | fail | (refine ⟨_, fun _ _ => rfl, hK _ ?_⟩; clear hK K))); with_reducible refine wpQuiet_nil ?_
                      intro w9 S9
                      have H9 := Lib.hid S9
                      clear S9 H8
                      go_wp2
                      go_meet
                      case rel => exact ⟨rfl, H9.out⟩
                  case rest =>
                    obtain ⟨rfl, S8⟩ := hcut
                    clear H8
                    obtain ⟨G, hG⟩ : ∃ G, G = star (List.zipWith qoneS bs T) :: cel ub (qoneCells db ⟨c, d, 0, 0, false⟩) 45 :: qdevS db d :: F := ⟨_, rfl⟩
                    have HGG := Lib.hid hG
                    rw [← hG] at S8
                    have H8 := Lib.hid S8
                    clear S8 hG hmore
                    go_upto_region 18 with fail
                    have HFIN := Lib.hid (fun (wx : World) (A' : Option Addr) (c' : Nat) (S0 : SL W (cel x #[.slice A' (n + 1) c', .bool false] 38 :: rowS 31 1 (.slice A' (n + 1) c') (n + 1) ((ptrs bs).take m ++ [.pointer (some ⟨ub, 0, none⟩)] ++ (ptrs bs).drop m) :: G) wx) => (by
                      have S9 := S0
                      rw [HGG.out] at S9
                      have hnew : newUs (l.take (i + 1)) [] = some (us ++ [⟨c, d, 0, 0, false⟩]) := by
                        rw [newUs_take HC.out, HU.out]
                        exact step_some HUC.out HDC.out.1 HDC.out.2 (fun a ha => by
                          obtain ⟨j, hj⟩ := List.mem_iff_getElem?.1 ha
                          rw [List.getElem?_take] at hj
                          split at hj
                          · rename_i hjk; exact HN.out a j hjk hj
                          · cases hj)
                      have hap := (fresh_us fresh_nil hnew).1.apart
                      have hins := ins_sorted (u := ⟨c, d, 0, 0, false⟩) hap (m := m) (by rw [← HNN.out]; exact hm) (by rw [HT.out]; exact HLO.out) (by rw [HT.out]; exact fun y hy h => HMO.out ⟨y, hy, h⟩)
                      rw [HT.out] at hins
                      refine ⟨us ++ [⟨c, d, 0, 0, false⟩], .slice A' (n + 1) c', bs.take m ++ (ub, db) :: bs.drop m, hnew, by simp [HUL.out], ?_⟩
                      rw [← hins]
                      exact qins_close HBL.out HTL.out hm S9 : ∃ us' v' bs', newUs (l.take (i + 1)) [] = some us' ∧ us'.length = i + 1 ∧ SL W (qsetO x v' bs' ⟨us'.mergeSort leU, none, false⟩ :: F) wx))
                    have HP1 := Lib.hid (show ∀ u ∈ ptrs bs, u.oneCell' = true from fun u hu => by unfold ptrs at hu; obtain ⟨q, _, rfl⟩ := List.mem_map.1 hu; rfl)
                    refine D.wp_region_float2 (SL W (cel x #[.slice Av n cv, .bool false] 38 :: rowS 31 1 (.slice Av n cv) n (ptrs bs) :: G)) [0, 2, 3, 4, 6, 9, 12, 13, 14, 16] [5, 7, 15, 17] [1, 8] 10 [11, 18] [19, 20, 21] (by kernel_rfl) (by kernel_rfl) H8.out.drew (by intro c a d v w h; cases d <;> exact h) ?_
                    simp only [pick, List.filterMap_cons, List.filterMap_nil, List.getElem?_cons_zero, List.getElem?_cons_succ]
                    (repeat (with_reducible refine wpPure_step ?_; intro K hK; go_simp; with_reducible refine hK _ ?_; clear hK K))
                    refine wpPure_nil ?_
                    have HLX := Lib.hid (fun (wx : World) (hx : SL W (cel x #[.slice Av n cv, .bool false] 38 :: rowS 31 1 (.slice Av n cv) n (ptrs bs) :: G) wx) => (hx.look.1 0 : wx.cell? ⟨x, 0, none⟩ = some (.slice Av n cv)))
                    have g1 : (m ≤ cv) = True := eq_true (by omega)
                    have g2 : (m ≤ n) = True := eq_true (by omega)
                    (repeat (with_reducible refine wpLoads_step ?_; intro K hK; go_simp; first | (with_reducible refine hK _ ?_; clear hK K) | (rw [if_neg (by decide)]; with_reducible refine hK _ ?_; clear hK K) | (refine ⟨_, fun wx hx => (by have f0 := HLX.out wx hx; go_simp; with_reducible rfl), hK _ ?_⟩; clear hK K) | (refine ⟨_, fun _ _ => rfl, hK _ ?_⟩; clear hK K))); with_reducible refine wpLoads_nil ?_
                    have SX := Lib.hid H8.out.drew
                    clear H8
                    refine D.floatP2_cons ?_ ?_
                    · simp only [pick, List.filterMap_cons, List.filterMap_nil, List.getElem?_cons_zero, List.getElem?_cons_succ]
                      refine wpKeep_step ?_
                      intro K hK
                      go_simp
                      have SY := SX.out.lit #[.pointer (some ⟨ub, 0, none⟩)] 31 1 1 rfl (by decide)
                      try rw [World.size_alloc] at SY
                      clear SX
                      have SX := Lib.hid SY
                      clear SY
                      refine hK _ _ SX.out.drop ?_
                      clear hK K
                      refine wpKeep_step ?_
                      intro K hK
                      go_simp
                      have SY := SX.out.lit #[] 31 1 0 rfl (by decide)
                      try rw [World.size_alloc] at SY
                      clear SX
                      have SX := Lib.hid SY
                      clear SY
                      refine hK _ _ SX.out.drop.drop ?_
                      clear hK K
                      refine wpKeep_step ?_
                      intro K hK
                      refine step_appS rfl _ _ _ rfl qunitElem _ 0 [] rfl SX.out _ _ m _ ((ptrs bs).take m) rfl (SX.out.s3.at_.take m) (by rw [List.length_take, HPL.out]; omega) (fun u hu => HP1.out u (List.mem_of_mem_take hu)) (by unfold maxLen; omega) (by omega) ?_
                      intro A8 c8 w8 S8
                      rw [Nat.zero_add, List.nil_append] at S8
                      rw [Nat.zero_add]
                      clear SX
                      have SX := Lib.hid S8
                      clear S8
                      refine hK _ _ SX.out.drop.drop ?_
                      clear hK K
                      refine wpKeep_step ?_
                      intro K hK
                      refine step_appS rfl _ _ _ rfl qunitElem _ m _ rfl SX.out _ _ 1 1 [.pointer (some ⟨ub, 0, none⟩)] rfl SX.out.s1.at_ rfl (fun u hu => by obtain rfl := List.mem_singleton.1 hu; rfl) (by unfold maxLen; omega) (by omega) ?_
                      intro A11 c11 w11 S11
                      clear SX
                      have SX := Lib.hid S11
                      clear S11
                      refine hK _ _ SX.out.drop.drop ?_
                      clear hK K
                      refine wpKeep_step ?_
                      intro K hK
                      refine step_appS rfl _ _ _ rfl qunitElem _ (m + 1) _ rfl SX.out _ _ (n - m) _ ((ptrs bs).drop m) rfl (SX.out.s3.at_.dropIf m cv (by rw [HPL.out]; exact hcv1)) (by rw [List.length_drop, HPL.out]; omega) (fun u hu => HP1.out u (List.mem_of_mem_drop hu)) (by unfold maxLen; omega) (by omega) ?_
                      intro A18 c18 w18 S18
                      rw [show m + 1 + (n - m) = n + 1 by omega] at S18
                      rw [show m + 1 + (n - m) = n + 1 by omega]
                      clear SX
                      have SX := Lib.hid S18
                      clear S18
                      refine hK _ _ SX.out.drop.drop ?_
                      clear hK K
                      refine wpKeep_nil ?_
                      obtain ⟨L, K, z⟩ := SX.out.s2.look
                      go_wp2
                      go_roundw
                      case rel =>
                        obtain ⟨us', v', bs', e1, e2, e3⟩ := HFIN.out _ A18 c18 ((SX.out.s2.set (off := 0) (v := .slice A18 (n + 1) c18) rfl).s2.drop.s2.drop)
                        exact ⟨i + 1, us', v', bs', by omega, by go_num, e1, e2, e3⟩
                      case measure => simp [intOf]; omega
                    · simp only [pick, List.filterMap_cons, List.filterMap_nil, List.getElem?_cons_zero, List.getElem?_cons_succ]
                      refine wpKeep_step ?_
                      intro K hK
                      go_simp
                      have SY := SX.out.lit #[] 31 1 0 rfl (by decide)
                      try rw [World.size_alloc] at SY
                      clear SX
                      have SX := Lib.hid SY
                      clear SY
                      refine hK _ _ SX.out.drop ?_
                      clear hK K
                      refine wpKeep_nil ?_
                      refine D.floatP2_cons ?_ ?_
                      · simp only [pick, List.filterMap_cons, List.filterMap_nil, List.getElem?_cons_zero, List.getElem?_cons_succ]
                        refine wpKeep_step ?_
                        intro K hK
                        go_simp
                        have SY := SX.out.lit #[.pointer (some ⟨ub, 0, none⟩)] 31 1 1 rfl (by decide)
                        try rw [World.size_alloc] at SY
                        clear SX
                        have SX := Lib.hid SY
                        clear SY
                        refine hK _ _ SX.out.drop.drop ?_
                        clear hK K
                        have SY := SX.out.s1
                        clear SX
                        have SX := Lib.hid SY
                        clear SY
                        refine wpKeep_step ?_
                        intro K hK
                        refine step_appS rfl _ _ _ rfl qunitElem _ 0 [] rfl SX.out _ _ m _ ((ptrs bs).take m) rfl (SX.out.s3.at_.take m) (by rw [List.length_take, HPL.out]; omega) (fun u hu => HP1.out u (List.mem_of_mem_take hu)) (by unfold maxLen; omega) (by omega) ?_
                        intro A8 c8 w8 S8
                        rw [Nat.zero_add, List.nil_append] at S8
                        rw [Nat.zero_add]
                        clear SX
                        have SX := Lib.hid S8
                        clear S8
                        refine hK _ _ SX.out.drop.drop ?_
                        clear hK K
                        refine wpKeep_step ?_
                        intro K hK
                        refine step_appS rfl _ _ _ rfl qunitElem _ m _ rfl SX.out _ _ 1 1 [.pointer (some ⟨ub, 0, none⟩)] rfl SX.out.s1.at_ rfl (fun u hu => by obtain rfl := List.mem_singleton.1 hu; rfl) (by unfold maxLen; omega) (by omega) ?_
                        intro A11 c11 w11 S11
                        clear SX
                        have SX := Lib.hid S11
                        clear S11
                        refine hK _ _ SX.out.drop.drop ?_
                        clear hK K
                        refine wpKeep_step ?_
                        intro K hK
                        refine step_appS rfl _ _ _ rfl qunitElem _ (m + 1) _ rfl SX.out _ _ (n - m) _ ((ptrs bs).drop m) rfl (SX.out.s3.at_.dropIf m cv (by rw [HPL.out]; exact hcv1)) (by rw [List.length_drop, HPL.out]; omega) (fun u hu => HP1.out u (List.mem_of_mem_drop hu)) (by unfold maxLen; omega) (by omega) ?_
                        intro A18 c18 w18 S18
                        rw [show m + 1 + (n - m) = n + 1 by omega] at S18
                        rw [show m + 1 + (n - m) = n + 1 by omega]
                        clear SX
                        have SX := Lib.hid S18
                        clear S18
                        refine hK _ _ SX.out.drop.drop ?_
                        clear hK K
                        refine wpKeep_nil ?_
                        obtain ⟨L, K, z⟩ := SX.out.s2.look
                        go_wp2
                        go_roundw
                        case rel =>
                          obtain ⟨us', v', bs', e1, e2, e3⟩ := HFIN.out _ A18 c18 ((SX.out.s2.set (off := 0) (v := .slice A18 (n + 1) c18) rfl).s2.drop.s2.drop)
                          exact ⟨i + 1, us', v', bs', by omega, by go_num, e1, e2, e3⟩
                        case measure => simp [intOf]; omega
                      · simp only [pick, List.filterMap_cons, List.filterMap_nil, List.getElem?_cons_zero, List.getElem?_cons_succ]
                        refine wpKeep_step ?_
                        intro K hK
                        refine step_appS rfl _ _ _ rfl qunitElem _ 0 [] rfl SX.out _ _ m _ ((ptrs bs).take m) rfl (SX.out.s2.at_.take m) (by rw [List.length_take, HPL.out]; omega) (fun u hu => HP1.out u (List.mem_of_mem_take hu)) (by unfold maxLen; omega) (by omega) ?_
                        intro A8 c8 w8 S8
                        rw [Nat.zero_add, List.nil_append] at S8
                        rw [Nat.zero_add]
                        clear SX
                        have SX := Lib.hid S8
                        clear S8
                        refine hK _ _ SX.out.drop ?_
                        clear hK K
                        refine wpKeep_nil ?_
                        refine D.floatP2_nil ?_
                        simp only [pick, List.filterMap_cons, List.filterMap_nil, List.getElem?_cons_zero, List.getElem?_cons_succ]
                        refine wpKeep_step ?_
                        intro K hK
                        go_simp
                        have SY := SX.out.lit #[.pointer (some ⟨ub, 0, none⟩)] 31 1 1 rfl (by decide)
                        try rw [World.size_alloc] at SY
                        clear SX
                        have SX := Lib.hid SY
                        clear SY
                        refine hK _ _ SX.out.drop.drop ?_
                        clear hK K
                        have SY := SX.out.s1
                        clear SX
                        have SX := Lib.hid SY
                        clear SY
                        refine wpKeep_step ?_
                        intro K hK
                        refine step_appS rfl _ _ _ rfl qunitElem _ m _ rfl SX.out _ _ 1 1 [.pointer (some ⟨ub, 0, none⟩)] rfl SX.out.s1.at_ rfl (fun u hu => by obtain rfl := List.mem_singleton.1 hu; rfl) (by unfold maxLen; omega) (by omega) ?_
                        intro A11 c11 w11 S11
                        clear SX
                        have SX := Lib.hid S11
                        clear S11
                        refine hK _ _ SX.out.drop.drop ?_
                        clear hK K
                        refine wpKeep_step ?_
                        intro K hK
                        refine step_appS rfl _ _ _ rfl qunitElem _ (m + 1) _ rfl SX.out _ _ (n - m) _ ((ptrs bs).drop m) rfl (SX.out.s3.at_.dropIf m cv (by rw [HPL.out]; exact hcv1)) (by rw [List.length_drop, HPL.out]; omega) (fun u hu => HP1.out u (List.mem_of_mem_drop hu)) (by unfold maxLen; omega) (by omega) ?_
                        intro A18 c18 w18 S18
                        rw [show m + 1 + (n - m) = n + 1 by omega] at S18
                        rw [show m + 1 + (n - m) = n + 1 by omega]
                        clear SX
                        have SX := Lib.hid S18
                        clear S18
                        refine hK _ _ SX.out.drop.drop ?_
                        clear hK K
                        refine wpKeep_nil ?_
                        obtain ⟨L, K, z⟩ := SX.out.s2.look
                        go_wp2
                        go_roundw
                        case rel =>
                          obtain ⟨us', v', bs', e1, e2, e3⟩ := HFIN.out _ A18 c18 ((SX.out.s2.set (off := 0) (v := .slice A18 (n + 1) c18) rfl).s2.drop.s2.drop)
                          exact ⟨i + 1, us', v', bs', by omega, by go_num, e1, e2, e3⟩
                        case measure => simp [intOf]; omega
        · rw [if_neg hrg] at h
          obtain ⟨p, rfl, S2⟩ := h
          have HR := Lib.hid (bad_at HC.out HU.out (step_range hd hrg))
          have H3 := Lib.hid S2
          clear S2 k0 k1 k2 k3 k4 hd hrg
          go_wp2
          go_ret
          exact QNewRes.bad HR.out H3.out.drop
    · obtain rfl : k = l.length := by omega
      have HR := Lib.hid (show newST l = some ⟨us.mergeSort leU, none, false⟩ by
        unfold newST
        rw [if_neg h16]
        have h := HU.out
        rw [List.take_length] at h
        rw [h]; rfl)
      go_wp2
      go_ret
      unfold QNewRes
      rw [HR.out]
      exact ⟨x, v, bs, rfl, H1.out⟩
end
end Go.Proofs.YtfhpaehfihnjaaaGreat
