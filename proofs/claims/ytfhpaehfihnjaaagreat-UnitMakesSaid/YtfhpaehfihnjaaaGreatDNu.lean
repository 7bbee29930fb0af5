/- DNew, DUn. -/
import Derived.Test.YtfhpaehfihnjaaaGreatDDo
import Derived.Test.YtfhpaehfihnjaaaGreatDRe
import Derived.Test.YtfhpaehfihnjaaaGreatDA
set_option maxRecDepth 100000
namespace Go.Proofs.YtfhpaehfihnjaaaGreat.D
open Go.RowKit
def serB (b : UInt8) : Prop := (65 ≤ b.toNat ∧ b.toNat ≤ 90) ∨ (48 ≤ b.toNat ∧ b.toNat ≤ 57)
instance (b : UInt8) : Decidable (serB b) := inferInstanceAs (Decidable (_ ∨ _))
def serAll (s : ByteArray) : Prop := ∀ k (h : k < s.size), serB (s[k]'h)
instance (s : ByteArray) : Decidable (serAll s) := inferInstanceAs (Decidable (∀ k (h : k < s.size), serB (s[k]'h)))
def newOk (s : ByteArray) (c h : Int) : Bool := decide (serAll s) && (decide (1 ≤ s.size) && (decide (s.size ≤ 6) && (decide (1 ≤ c) && (decide (c ≤ 64) && (decide (1 ≤ h) && decide (h ≤ 8))))))
def freshDK (s : ByteArray) (c h : Nat) : DK := ⟨s, c, h, 0, 0, 0, false, 0, List.replicate (c * h) [], none⟩
theorem fresh_ok {s : ByteArray} {c h : Nat} (hc : 1 ≤ c ∧ c ≤ 64) (hh : 1 ≤ h ∧ h ≤ 8) : (freshDK s c h).ok :=
  { c1 := hc, h1 := hh, n1 := (by simp [freshDK]), cy := (by show 0 < c; omega), hd := (by show 0 < h; omega), val := fun t ht => (by
      have e := (List.mem_replicate.1 ht).2
      rw [e]; exact valid_nil), nx := (by show 0 ≤ 4096; omega), fd := fun e => (by cases e), sn := (by show 0 ≤ 255; omega), la := fun _ _ _ e => (by cases e) }
def NewR (W : World) (F : List SA) (s : ByteArray) (c h : Int) (e : Ending) (w' : World) : Prop :=
  if newOk s c h = true then ∃ x, e = .returned (.tuple #[.pointer (some ⟨x, 0, none⟩), .int .i64 0]) ∧ SL W (diskS x (freshDK s c.toNat h.toNat) :: F) w' else e = .returned (.tuple #[.pointer none, .int .i64 1]) ∧ SL W F w'
theorem trkElem : Elem Tryz.prog 154 155 (.slice none 0 0) 1 24 := ⟨Tryz.underlying154, by kernel_rfl, rfl, by decide⟩
section
variable {W w : World} {F : List SA}
theorem star_nils (S : SL W F w) : ∀ n : Nat, SL W (star (List.zipWith recsS (List.replicate n (.slice none 0 0)) (List.replicate n [])) :: F) w
  | 0 => by simpa using S.empty
  | n + 1 => by
    have h := (recsS_close (ps := []) ((star_nils S n).empty.nil _ _)).snoc
    rw [List.zipWith_replicate, Nat.min_self] at h ⊢
    rw [List.replicate_succ']
    exact h
theorem nil_made (n : Nat) : (madeCells (Value.slice none 0 0).cells (n * 1)).toList = List.replicate n (Value.slice none 0 0) := by
  rw [Nat.mul_one]
  apply List.ext_getElem?
  intro j
  by_cases hj : j < n
  · rw [Array.getElem?_toList, madeCells, Array.getElem?_map, Array.getElem?_range, if_pos hj, List.getElem?_replicate, if_pos hj]
    show some ((#[Value.slice none 0 0])[j % 1]!) = _
    rw [show j % 1 = 0 by omega]; rfl
  · rw [List.getElem?_eq_none (by rw [Array.length_toList, size_madeCells]; omega), List.getElem?_eq_none (by simp; omega)]
theorem NewR.bad {s : ByteArray} {c h : Int} (e : newOk s c h = false) (S : SL W F w) : NewR W F s c h (.returned (.tuple #[.pointer none, .int .i64 1])) w := by
  unfold NewR
  rw [if_neg (by rw [e]; simp)]
  exact ⟨rfl, S⟩
set_option maxHeartbeats 16000000 in
theorem new_any (s : ByteArray) (hz : s.size ≤ 140737488355328) (c h : Int) (S : SL W F w) : Calls Tryz.prog 61 #[.string s, .int .i64 c, .int .i64 h] w (NewR W F s c h) := by
  have HS := Lib.hid S
  clear S
  go_enter Tryz.func61, Tryz.ntmps61
  by_cases hb : 1 ≤ s.size ∧ s.size ≤ 6 ∧ 1 ≤ c ∧ c ≤ 64 ∧ 1 ≤ h ∧ h ≤ 8
  · have HB := Lib.hid hb
    obtain ⟨b1, b2, b3, b4, b5, b6⟩ := hb
    have t1 : ((s.size : Int) < 1) = False := eq_false (by omega)
    have t2 : ((6 : Int) < (s.size : Int)) = False := eq_false (by omega)
    have t3 : (c < 1) = False := eq_false (by omega)
    have t4 : (64 < c) = False := eq_false (by omega)
    have t5 : (h < 1) = False := eq_false (by omega)
    have t6 : (8 < h) = False := eq_false (by omega)
    go_wp2
    go_loopw [36] (fun i wr => ∃ k : Nat, k ≤ s.size ∧ i = .int .i64 k ∧ (∀ j (h : j < s.size), j < k → serB (s[j]'h)) ∧ wr = w) (fun i _ => s.size - (intOf i).toNat)
    case atStart => exact ⟨0, Nat.zero_le _, rfl, (fun j h hj => by omega), rfl⟩
    case round =>
      obtain ⟨k, hk, rfl, hall, rfl⟩ := hrel
      have HA := Lib.hid hall
      clear hall
      by_cases hlt : k < s.size
      · have HLT := Lib.hid hlt
        go_upto_region 7 with fail
        by_cases hin : serB (s[k]'hlt)
        · have HI := Lib.hid hin
          unfold serB at hin
          generalize (s[k]'hlt).toNat = z at hin ⊢
          by_cases h65 : 65 ≤ z
          · have q1 : ((z : Int) < 65) = False := eq_false (by omega)
            have q2 : ((90 : Int) < (z : Int)) = False := eq_false (by omega)
            clear hin h65
            go_wp2
            go_roundw
            case rel =>
              refine ⟨k + 1, by omega, by go_num, fun j h hj => ?_, trivial⟩
              by_cases e : j = k
              · subst e; exact HI.out
              · exact HA.out j h (by omega)
            case measure => simp [intOf]; omega
          · have q1 : ((z : Int) < 65) = True := eq_true (by omega)
            have q3 : ((z : Int) < 48) = False := eq_false (by omega)
            have q4 : ((57 : Int) < (z : Int)) = False := eq_false (by omega)
            clear hin h65
            go_wp2
            go_roundw
            case rel =>
              refine ⟨k + 1, by omega, by go_num, fun j h hj => ?_, trivial⟩
              by_cases e : j = k
              · subst e; exact HI.out
              · exact HA.out j h (by omega)
            case measure => simp [intOf]; omega
        · have HN := Lib.hid (NewR.bad (c := c) (h := h) (s := s) (by
            unfold newOk
            rw [decide_eq_false (fun hh => hin (hh k hlt))]; rfl) HS.out)
          unfold serB at hin
          generalize (s[k]'hlt).toNat = z at hin ⊢
          by_cases h65 : z < 65
          · have q1 : ((z : Int) < 65) = True := eq_true (by omega)
            by_cases h48 : z < 48
            · have q3 : ((z : Int) < 48) = True := eq_true (by omega)
              clear hin h65 h48
              go_wp2
              exact bodyPost_ret (v := .tuple #[.pointer none, .int .i64 1]) (by simp [results, Tryz.results61, go_sem]) rfl HN.out
            · have q3 : ((z : Int) < 48) = False := eq_false (by omega)
              have q4 : ((57 : Int) < (z : Int)) = True := eq_true (by omega)
              clear hin h65 h48
              go_wp2
              exact bodyPost_ret (v := .tuple #[.pointer none, .int .i64 1]) (by simp [results, Tryz.results61, go_sem]) rfl HN.out
          · have q1 : ((z : Int) < 65) = False := eq_false (by omega)
            have q2 : ((90 : Int) < (z : Int)) = True := eq_true (by omega)
            have q3 : ((z : Int) < 48) = False := eq_false (by omega)
            have q4 : ((57 : Int) < (z : Int)) = True := eq_true (by omega)
            clear hin h65
            go_wp2
            exact bodyPost_ret (v := .tuple #[.pointer none, .int .i64 1]) (by simp [results, Tryz.results61, go_sem]) rfl HN.out
      · obtain rfl : k = s.size := by omega
        have HOK := Lib.hid (show newOk s c h = true by
          unfold newOk
          have hh : serAll s := fun j hj => HA.out j hj (by omega)
          simp only [decide_eq_true hh, decide_eq_true b1, decide_eq_true b2, decide_eq_true b3, decide_eq_true b4, decide_eq_true b5, decide_eq_true b6, Bool.and_self])
        obtain ⟨cn, hcn⟩ : ∃ cn : Nat, c = (cn : Int) := ⟨c.toNat, by omega⟩
        obtain ⟨hn, hhn⟩ : ∃ hn : Nat, h = (hn : Int) := ⟨h.toNat, by omega⟩
        subst hcn; subst hhn
        have b3' : 1 ≤ cn ∧ cn ≤ 64 := by omega
        have b5' : 1 ≤ hn ∧ hn ≤ 8 := by omega
        have hm1 : cn * hn ≤ 64 * 8 := Nat.mul_le_mul b3'.2 b5'.2
        have hm0 : 1 * 1 ≤ cn * hn := Nat.mul_le_mul b3'.1 b5'.1
        have hm : IntKind.i64.wrap ((cn : Int) * (hn : Int)) = ((cn * hn : Nat) : Int) := by rw [← Int.natCast_mul]; exact IntWalk.i64_in _ (by omega)
        have hm2 : wrap64 ((cn : Int) * (hn : Int)) = ((cn * hn : Nat) : Int) := by
          rw [← Int.natCast_mul]
          generalize cn * hn = nn at hm1 ⊢
          unfold wrap64; omega
        obtain ⟨n, hnn⟩ : ∃ n, cn * hn = n := ⟨_, rfl⟩
        have HNN := Lib.hid hnn
        rw [hnn] at hm hm2 hm0 hm1
        clear HA HB hnn t3 t4 t5 t6 b3 b4 b5 b6 hlt
        go_wp2_with (at_make; refine wpList_makeS rfl _ _ _ rfl trkElem .i64 .i64 _ _ n rfl rfl rfl rfl (by omega) (by unfold maxLen; omega) HS.out ?_
                     intro g w1 S1
                     rw [nil_made] at S1
                     have H1 := Lib.hid (S1.full (by omega))
                     clear S1)
        refine bodyPost_ret (by simp [results, Tryz.results61, go_sem]; rfl) rfl ?_
        unfold NewR
        rw [if_pos HOK.out]
        refine ⟨_, rfl, ?_⟩
        rw [Int.toNat_natCast, Int.toNat_natCast]
        have hnn := HNN.out
        have S2 := (tracks_close (vs := List.replicate n (.slice none 0 0)) (ts := List.replicate n []) (by simp) (star_nils H1.out n).s1)
        have S3 := (last_null S2).s1.allocC (dkCells (freshDK s cn hn) g none false) 173
        have ed : dkCells (freshDK s cn hn) g none false = #[.string s, .int .i64 (cn : Int), .int .i64 (hn : Int), .slice (some ⟨g, 0, none⟩) n n, .int .i64 0, .int .i64 0, .int .i64 0, .bool false, .bool false, .int .i64 0, .pointer none] := by
          simp [dkCells, freshDK, hnn]
        have S4 : SL W (diskS w1.heap.size (freshDK s cn hn) :: F) (w1.alloc (.cells (dkCells (freshDK s cn hn) g none false) 173)) :=
          disk_close (diskW_close (s := freshDK s cn hn) (by rw [show (freshDK s cn hn).tracks = List.replicate n [] by simp [freshDK, hnn]]; exact S3))
        rw [ed] at S4
        exact S4
  · have HN := Lib.hid (NewR.bad (c := c) (h := h) (s := s) (by
      cases hh : newOk s c h with
      | false => rfl
      | true =>
        unfold newOk at hh
        simp only [Bool.and_eq_true, decide_eq_true_eq] at hh
        exact absurd hh.2 hb) HS.out)
    by_cases c1 : 1 ≤ s.size
    · skip
      by_cases c2 : s.size ≤ 6
      · skip
        by_cases c3 : 1 ≤ c
        · skip
          by_cases c4 : c ≤ 64
          · skip
            by_cases c5 : 1 ≤ h
            · skip
              have t1 : ((s.size : Int) < 1) = False := eq_false (by omega)
              have t2 : ((6 : Int) < (s.size : Int)) = False := eq_false (by omega)
              have t3 : (c < 1) = False := eq_false (by omega)
              have t4 : (64 < c) = False := eq_false (by omega)
              have t5 : (h < 1) = False := eq_false (by omega)
              have t6 : (8 < h) = True := eq_true (by omega)
              go_wp2
              exact bodyPost_ret (v := .tuple #[.pointer none, .int .i64 1]) (by simp [results, Tryz.results61, go_sem]) rfl HN.out
            · skip
              have t1 : ((s.size : Int) < 1) = False := eq_false (by omega)
              have t2 : ((6 : Int) < (s.size : Int)) = False := eq_false (by omega)
              have t3 : (c < 1) = False := eq_false (by omega)
              have t4 : (64 < c) = False := eq_false (by omega)
              have t5 : (h < 1) = True := eq_true (by omega)
              go_wp2
              exact bodyPost_ret (v := .tuple #[.pointer none, .int .i64 1]) (by simp [results, Tryz.results61, go_sem]) rfl HN.out
          · skip
            have t1 : ((s.size : Int) < 1) = False := eq_false (by omega)
            have t2 : ((6 : Int) < (s.size : Int)) = False := eq_false (by omega)
            have t3 : (c < 1) = False := eq_false (by omega)
            have t4 : (64 < c) = True := eq_true (by omega)
            go_wp2
            exact bodyPost_ret (v := .tuple #[.pointer none, .int .i64 1]) (by simp [results, Tryz.results61, go_sem]) rfl HN.out
        · skip
          have t1 : ((s.size : Int) < 1) = False := eq_false (by omega)
          have t2 : ((6 : Int) < (s.size : Int)) = False := eq_false (by omega)
          have t3 : (c < 1) = True := eq_true (by omega)
          go_wp2
          exact bodyPost_ret (v := .tuple #[.pointer none, .int .i64 1]) (by simp [results, Tryz.results61, go_sem]) rfl HN.out
      · skip
        have t1 : ((s.size : Int) < 1) = False := eq_false (by omega)
        have t2 : ((6 : Int) < (s.size : Int)) = True := eq_true (by omega)
        go_wp2
        exact bodyPost_ret (v := .tuple #[.pointer none, .int .i64 1]) (by simp [results, Tryz.results61, go_sem]) rfl HN.out
    · skip
      have t1 : ((s.size : Int) < 1) = True := eq_true (by omega)
      go_wp2
      exact bodyPost_ret (v := .tuple #[.pointer none, .int .i64 1]) (by simp [results, Tryz.results61, go_sem]) rfl HN.out
end
end Go.Proofs.YtfhpaehfihnjaaaGreat.D
namespace Go.Proofs.YtfhpaehfihnjaaaGreat.D
open Go.RowKit
def zRec : Rec := ⟨0, [], [], false⟩
theorem padL_self (b : List UInt8) : padL b b.length = b := by unfold padL; simp
theorem made_zero (n : Nat) : (madeCells (Value.agg #[.int .i64 0, .slice none 0 0, .slice none 0 0, .bool false]).cells (n * 4)).toList = (List.replicate n ((.slice none 0 0, .slice none 0 0), zRec) : List RV).flatMap recCells := by
  have hlen : ∀ l : List RV, (l.flatMap recCells).length = l.length * 4 := fun l => by
    induction l with
    | nil => rfl
    | cons a l ih => simp only [List.flatMap_cons, List.length_append, ih, List.length_cons, recCells]; simp; omega
  apply List.ext_getElem?
  intro j
  by_cases hj : j < n * 4
  · obtain ⟨i, k, hk, rfl⟩ : ∃ i k, k < 4 ∧ j = i * 4 + k := ⟨j / 4, j % 4, Nat.mod_lt _ (by omega), by omega⟩
    rw [recCells_get _ i k ((.slice none 0 0, .slice none 0 0), zRec) (by rw [List.getElem?_replicate, if_pos (by omega)]) hk]
    rw [Array.getElem?_toList, madeCells, Array.getElem?_map, Array.getElem?_range, if_pos hj]
    show some ((#[Value.int .i64 0, .slice none 0 0, .slice none 0 0, .bool false])[(i * 4 + k) % 4]!) = _
    rw [show (i * 4 + k) % 4 = k by omega]
    match k, hk with
    | 0, _ => rfl
    | 1, _ => rfl
    | 2, _ => rfl
    | 3, _ => rfl
  · rw [List.getElem?_eq_none (by rw [Array.length_toList, size_madeCells]; omega), List.getElem?_eq_none (by rw [hlen, List.length_replicate]; omega)]
section
variable {W w : World} {F : List SA}
theorem star_zero (S : SL W F w) : ∀ n : Nat, SL W (star ((List.replicate n (((.slice none 0 0, .slice none 0 0), zRec) : RV)).map recO) :: F) w
  | 0 => by simpa using S.empty
  | n + 1 => by
    have h1 := ((star_zero S n).nil 5 1).nil 5 1
    have h := SL.snoc (P := recO ((.slice none 0 0, .slice none 0 0), zRec)) (SL.app (L := [_, _]) h1)
    rw [List.replicate_succ', List.map_append]
    exact h
theorem recs_zero {v : Value} {n : Nat} (S : SL W (rowS 188 4 v n (madeCells (Value.agg #[.int .i64 0, .slice none 0 0, .slice none 0 0, .bool false]).cells (n * 4)).toList :: F) w) : SL W (recsS v (List.replicate n zRec) :: F) w := by
  rw [made_zero] at S
  exact recsS_close' (ps := List.replicate n ((.slice none 0 0, .slice none 0 0), zRec)) (by simp) (by simp) (star_zero S n).s1
set_option maxHeartbeats 16000000 in
theorem dclone_any (A : Option Addr) (rs : List Rec) (c : Nat) (S : SL W F w) (hr : RecsRd W F A rs) (hf : Fit rs) (hv : rs.length ≤ 4096) (hs : ∀ x ∈ rs, x.key.length ≤ 100000 ∧ x.data.length ≤ 100000) :
    Calls Tryz.prog 97 #[.slice A rs.length c] w fun e w' => ∃ A' c', e = .returned (.slice A' rs.length c') ∧ SL W (recsS (.slice A' rs.length c') rs :: F) w' := by
  have HR := Lib.hid hr
  have HS := Lib.hid S
  have HL := Lib.hid hs
  clear S hr hf hs
  go_enter Tryz.func97, Tryz.ntmps97
  go_wp2_with (at_make; refine wpList_makeS rfl _ _ _ rfl recElem .i64 .i64 _ _ rs.length rfl rfl rfl rfl (by omega) (by unfold maxLen; omega) HS.out ?_
               intro g w1 S1
               have H1 := Lib.hid (recs_zero S1)
               clear S1)
  go_loopw [11] (fun i wr => ∃ k : Nat, k ≤ rs.length ∧ i = .int .i64 k ∧ SL W (recsS (.slice (some ⟨g, 0, none⟩) rs.length rs.length) (rs.take k ++ List.replicate (rs.length - k) zRec) :: F) wr) (fun i _ => rs.length - (intOf i).toNat)
  case atStart => exact ⟨0, Nat.zero_le _, rfl, by simpa using H1.out⟩
  case round =>
    obtain ⟨k, hk, rfl, S2⟩ := hrel
    have H2 := Lib.hid S2
    clear S2 H1
    by_cases hlt : k < rs.length
    · have hb : rs[k]? = some rs[k] := by simp [hlt]
      have hbl := HL.out rs[k] (List.getElem_mem hlt)
      generalize rs[k] = x at hb hbl
      obtain ⟨g0, off, Ak, ck, Ad, cd, hA, k0, k1, k2, k3, a1, a2⟩ := HR.out wr H2.out.drop k x hb
      subst hA
      have HLT := Lib.hid hlt
      have HB := Lib.hid hb
      clear hb
      go_upto_region 5 with fail
      refine name_world (P := Code.wp _ _ _ _) ?_
      intro wd hwd
      have H3 := Lib.hid (SL.cast hwd (H2.out.allocC #[.int .i64 x.r, .slice Ak x.key.length ck, .slice Ad x.data.length cd, .bool x.bad] 188))
      have hbd : Below wr.heap.size wr wd := by rw [hwd]; exact (((Below.refl _ _).alloc (Nat.le_refl _) _))
      have HC := Lib.hid (And.intro (a1.grow hbd) (a2.grow hbd))
      clear hwd hbd H2 a1 a2 k0 k1 k2 k3
      generalize wr.heap.size = bx at *
      obtain ⟨L, K, z⟩ := H3.out.look
      have HX := Lib.hid (fun (wx : World) (hx : Below wd.heap.size wd wx) => (⟨(hx.cell (p := ⟨bx, 1, none⟩) z).trans (L 1), (hx.cell (p := ⟨bx, 2, none⟩) z).trans (L 2)⟩ : wx.cell? ⟨bx, 1, none⟩ = some (.slice Ak x.key.length ck) ∧ wx.cell? ⟨bx, 2, none⟩ = some (.slice Ad x.data.length cd)))
      clear L K z
      refine wp_region_stages (fun wx => Below wd.heap.size wd wx) [0, 2, 6, 8] [([1, 3, 4, 7, 9, 10], [5]), ([12], [11])] [13, 14, 15] (by kernel_rfl) (by kernel_rfl) (Below.refl _ _).drew (by intro c a d v w h; cases d <;> exact h) ?_
      simp only [pick, List.filterMap_cons, List.filterMap_nil, List.getElem?_cons_zero, List.getElem?_cons_succ]
      (repeat (with_reducible refine wpPure_step ?_; intro K hK; go_simp; with_reducible refine hK _ ?_; clear hK K))
      refine wpPure_nil ?_
      (with_reducible refine wpStages_step ((Below.refl _ _).drew) ?_); simp only [pick, List.filterMap_cons, List.filterMap_nil, List.getElem?_cons_zero, List.getElem?_cons_succ]
      (repeat (with_reducible refine wpLoads_step ?_; intro K hK; go_simp; first | (with_reducible refine hK _ ?_; clear hK K) | (rw [if_neg (by decide)]; with_reducible refine hK _ ?_; clear hK K) | (refine ⟨_, fun wx hx => (by obtain ⟨f0, f1⟩ := HX.out wx hx; go_simp; with_reducible rfl), hK _ ?_⟩; clear hK K) | (refine ⟨_, fun _ _ => rfl, hK _ ?_⟩; clear hK K))); with_reducible refine wpLoads_nil ?_
      (with_reducible refine wpKeep_step ?_; intro K hK; go_simp)
      refine (padded_any Ak x.key x.key.length ck x.key.length rfl (HC.out.1.grow (Below.refl _ _).drew) (by omega) (SL.start wd.drew)).mono ?_
      rintro e wk ⟨g1, rfl, S1, b1⟩
      rw [padL_self] at S1
      have HK1 := Lib.hid S1
      have B1 := Lib.hid (show Below wd.heap.size wd wk from (Below.refl _ _).drew.trans (b1.mono (Nat.le_refl _)))
      refine hK _ _ B1.out ?_
      clear hK K S1 HX b1
      refine wpKeep_nil ?_
      (with_reducible refine wpStages_step (B1.out) ?_); simp only [pick, List.filterMap_cons, List.filterMap_nil, List.getElem?_cons_zero, List.getElem?_cons_succ]
      (repeat (with_reducible refine wpLoads_step ?_; intro K hK; go_simp; first | (with_reducible refine hK _ ?_; clear hK K) | (rw [if_neg (by decide)]; with_reducible refine hK _ ?_; clear hK K) | (refine ⟨_, fun wx hx => (by skip; go_simp; with_reducible rfl), hK _ ?_⟩; clear hK K) | (refine ⟨_, fun _ _ => rfl, hK _ ?_⟩; clear hK K))); with_reducible refine wpLoads_nil ?_
      (with_reducible refine wpKeep_step ?_; intro K hK; go_simp)
      refine (padded_any Ad x.data x.data.length cd x.data.length rfl (HC.out.2.grow B1.out) (by omega) HK1.out).mono ?_
      rintro e wl ⟨g2, rfl, S4, b2⟩
      rw [padL_self] at S4
      have H4 := Lib.hid (H3.out.drew.join S4)
      refine hK _ _ (B1.out.trans (b2.mono B1.out.size)) ?_
      clear hK K S4 b2 HK1 B1 HC H3
      refine wpKeep_nil ?_
      (with_reducible refine wpStages_nil ?_); simp only [pick, List.filterMap_cons, List.filterMap_nil, List.getElem?_cons_zero, List.getElem?_cons_succ]
      -- data, key, box, list
      obtain ⟨L, K, z⟩ := H4.out.s2.look
      go_upto_region 6 with fail
      refine name_world (P := Code.wp _ _ _ _) ?_
      intro wm hwm
      have h5 := SL.cast hwm ((H4.out.s2.set (off := 1) (v := .slice (some ⟨g1, 0, none⟩) x.key.length x.key.length) (cs' := #[.int .i64 x.r, .slice (some ⟨g1, 0, none⟩) x.key.length x.key.length, .slice Ad x.data.length cd, .bool x.bad]) rfl).set (off := 2) (v := .slice (some ⟨g2, 0, none⟩) x.data.length x.data.length) (cs' := #[.int .i64 x.r, .slice (some ⟨g1, 0, none⟩) x.key.length x.key.length, .slice (some ⟨g2, 0, none⟩) x.data.length x.data.length, .bool x.bad]) rfl)
      -- box, data, key, list
      obtain ⟨ps, hps, h6⟩ := recsS_open h5.s3
      have hpl : ps.length = rs.length := by
        have e := congrArg List.length hps
        rw [List.length_map, List.length_append, List.length_take, List.length_replicate] at e; omega
      rw [hpl] at h6
      -- list, heads, box, data, key
      have H6 := Lib.hid h6
      have HPS := Lib.hid (And.intro hps hpl)
      clear hwm h5 h6 hps hpl H4 L K z
      obtain ⟨y3, cap3, cur3, hv3, hc1, _, hc2, _, S7⟩ := H6.out.rowCel (by omega)
      injection hv3 with hA3 _ hc3
      injection hA3 with hA3; injection hA3 with hA3
      subst hA3; subst hc3
      obtain ⟨L, K, z⟩ := S7.look
      obtain ⟨L2, K2, z2⟩ := H6.out.s2.look
      obtain ⟨q0, e0⟩ : ∃ v, cur3[k * 4]? = some v := ⟨_, Array.getElem?_eq_getElem (by omega)⟩
      obtain ⟨q1, e1⟩ : ∃ v, cur3[k * 4 + 1]? = some v := ⟨_, Array.getElem?_eq_getElem (by omega)⟩
      obtain ⟨q2, e2⟩ : ∃ v, cur3[k * 4 + 2]? = some v := ⟨_, Array.getElem?_eq_getElem (by omega)⟩
      obtain ⟨q3, e3⟩ : ∃ v, cur3[k * 4 + 3]? = some v := ⟨_, Array.getElem?_eq_getElem (by omega)⟩
      have H8 := Lib.hid (recs_put (i := k) (vk := .slice (some ⟨g1, 0, none⟩) x.key.length x.key.length) (vd := .slice (some ⟨g2, 0, none⟩) x.data.length x.data.length) (x := x) HLT.out HPS.out.2 (F := cel bx #[.int .i64 x.r, .slice (some ⟨g1, 0, none⟩) x.key.length x.key.length, .slice (some ⟨g2, 0, none⟩) x.data.length x.data.length, .bool x.bad] 188 :: F) H6.out.s3.s4.s2)
      clear S7 hc1 hc2
      go_wp2
      go_roundw
      case rel =>
        refine ⟨k + 1, HLT.out, by go_num, ?_⟩
        have h := H8.out.s1.drop
        rw [HPS.out.1] at h
        have hset : (rs.take k ++ List.replicate (rs.length - k) zRec).set k x = rs.take (k + 1) ++ List.replicate (rs.length - (k + 1)) zRec := by
          have hl : (rs.take k).length = k := by rw [List.length_take]; have := HLT.out; omega
          rw [List.set_append_right _ _ (by omega), hl, Nat.sub_self, List.take_add_one, HB.out, show rs.length - k = (rs.length - (k + 1)) + 1 by have := HLT.out; omega, List.replicate_succ]
          simp
        rw [hset] at h
        exact h
      case measure => have := HLT.out; simp [intOf]; omega
    · obtain rfl : k = rs.length := by omega
      rw [List.take_of_length_le (Nat.le_refl _), Nat.sub_self, List.replicate_zero, List.append_nil] at H2
      go_wp2
      go_ret
      exact ⟨_, _, rfl, H2.out⟩
end
end Go.Proofs.YtfhpaehfihnjaaaGreat.D
namespace Go.Proofs.YtfhpaehfihnjaaaGreat.D
open Go.RowKit
section
variable {W w : World} {F : List SA} {x : Nat} {s : DK}
theorem arm_any (h : s.ok) (S : SL W (diskS x s :: F) w) : Calls Tryz.prog 67 #[.pointer (some ⟨x, 0, none⟩)] w fun e w' => e = .returned (.tuple #[.int .i64 (s.cyl : Int), .int .i64 (s.head : Int)]) ∧ Still w w' := by
  obtain ⟨was, S0⟩ := disk_open S
  obtain ⟨tb, lp, S1⟩ := diskW_open S0
  have HS := Lib.hid S1
  have hn : 0 < s.tracks.length := by have := h.here_lt; omega
  obtain ⟨L, K, z⟩ := S1.look
  clear S S0 S1 h
  go_enter Tryz.func67, Tryz.ntmps67
  go_wp2_with fail
  refine (ready_any hn HS.out).mono ?_
  rintro e w2 ⟨rfl, rfl⟩
  go_wp2
  go_quiet (fail)
  go_wp2
  refine bodyPost_ret (v := .tuple #[.int .i64 (s.cyl : Int), .int .i64 (s.head : Int)]) (by simp [results, Tryz.results67, go_sem]) rfl ⟨rfl, by first | exact still_1 _ _ | exact still_2 _ _ _⟩
def trkOf (s : DK) (n : Int) : List Rec := if 0 ≤ n then s.tracks[n.toNat]?.getD [] else []
def trkIs (s : DK) (n : Int) : Bool := decide (0 ≤ n ∧ n < s.tracks.length)
set_option maxHeartbeats 8000000 in
theorem track_any (n : Int) (h : s.ok) (S : SL W (diskS x s :: F) w) : Calls Tryz.prog 68 #[.pointer (some ⟨x, 0, none⟩), .int .i64 n] w fun e w' => ∃ (A : Option Addr) (c : Nat), e = .returned (.tuple #[.slice A (trkOf s n).length c, .bool (trkIs s n)]) ∧ SL W (recsS (.slice A (trkOf s n).length c) (trkOf s n) :: diskS x s :: F) w' := by
  obtain ⟨was, S0⟩ := disk_open S
  obtain ⟨tb, lp, S1⟩ := diskW_open S0
  have hn : 0 < s.tracks.length := by have := h.here_lt; omega
  have hnt := h.nt
  by_cases hin : 0 ≤ n ∧ n < s.tracks.length
  · obtain ⟨k, rfl⟩ : ∃ k : Nat, n = (k : Int) := ⟨n.toNat, by omega⟩
    have hk : k < s.tracks.length := by omega
    have ht : s.tracks[k]? = some s.tracks[k] := List.getElem?_eq_getElem hk
    have hv := h.val _ (List.mem_of_getElem? ht)
    generalize s.tracks[k] = t at ht hv
    obtain ⟨vs, hvs, S2⟩ := tracks_open S1.s1
    obtain ⟨v, hv1, hv2⟩ := zip_get hvs ht
    obtain ⟨A0, c0, rfl, hlc, hcm⟩ := recsS_len (S2.s1.take hv2)
    have HS := Lib.hid S2.s2
    have HV := Lib.hid (And.intro hvs hv2)
    have HT := Lib.hid (And.intro ht hv)
    have HQ := Lib.hid (And.intro (show trkOf s (k : Int) = t by unfold trkOf; rw [if_pos (by omega), Int.toNat_natCast, ht]; rfl) (show trkIs s (k : Int) = true from decide_eq_true hin))
    have hva : vs.toArray[k]? = some (.slice A0 t.length c0) := by simpa using hv1
    obtain ⟨L, K, z⟩ := S2.s2.look
    have hq := (S2.look.1 k).trans hva
    clear S S0 S1 S2 h hvs hv2 hva hv1 ht hv
    go_enter Tryz.func68, Tryz.ntmps68
    go_wp2_with fail
    refine (ready_any hn HS.out).mono ?_
    rintro e w2 ⟨rfl, rfl⟩
    -- disk, slices, tracks, last
    have hfit := HT.out.2
    go_wp2_with fail
    refine (dclone_any A0 t c0 HS.out (fun wx Sx => recsS_at (Sx.s2.take HV.out.2)) (valid_fit2 hfit) (by have := valid_len hfit; omega) (fun y hy => by obtain ⟨j, hj⟩ := List.mem_iff_getElem?.1 hy; have := valid_rec hfit hj; omega)).mono ?_
    rintro e w3 ⟨A3, c3, rfl, S3⟩
    have H3 := Lib.hid S3
    clear S3 L K z hq HS
    go_wp2
    refine bodyPost_ret (v := .tuple #[.slice A3 t.length c3, .bool true]) (by simp [results, Tryz.results68, go_sem]) rfl ?_
    rw [HQ.out.1, HQ.out.2]
    refine ⟨A3, c3, rfl, ?_⟩
    exact (disk_close (sel_close HV.out.1 H3.out.b4)).s1
  · have HS := Lib.hid S1
    have hlen : (s.tracks.length : Int) ≤ 512 := by omega
    obtain ⟨L, K, z⟩ := S1.look
    have ht : trkOf s n = [] := by
      unfold trkOf
      by_cases h0 : 0 ≤ n
      · rw [if_pos h0, List.getElem?_eq_none (by omega)]; rfl
      · rw [if_neg h0]
    have HT := Lib.hid ht
    have HI := Lib.hid (show trkIs s n = false from decide_eq_false hin)
    have hfin : ∀ w', SL W (cel x (dkCells s tb lp was) 173 :: tracksS tb s.tracks :: lastS lp s.last :: F) w' → SL W (recsS (.slice none 0 0) [] :: diskS x s :: F) w' := fun w' S' => recsS_close (ps := []) ((disk_close (diskW_close S')).empty.nil _ _)
    have HF := Lib.hid hfin
    clear S S0 S1 h ht hfin
    go_enter Tryz.func68, Tryz.ntmps68
    by_cases h0 : n < 0
    · have t1 : (n < 0) = True := eq_true h0
      clear h0 hin
      go_wp2_with fail
      refine (ready_any hn HS.out).mono ?_
      rintro e w2 ⟨rfl, rfl⟩
      go_wp2
      refine bodyPost_ret (v := .tuple #[.slice none 0 0, .bool false]) (by simp [results, Tryz.results68, go_sem]) rfl ?_
      rw [HT.out, HI.out]
      exact ⟨none, 0, rfl, HF.out _ HS.out⟩
    · have t1 : (n < 0) = False := eq_false h0
      have t2 : ((s.tracks.length : Int) ≤ n) = True := eq_true (by omega)
      clear h0 hin
      go_wp2_with fail
      refine (ready_any hn HS.out).mono ?_
      rintro e w2 ⟨rfl, rfl⟩
      go_wp2
      refine bodyPost_ret (v := .tuple #[.slice none 0 0, .bool false]) (by simp [results, Tryz.results68, go_sem]) rfl ?_
      rw [HT.out, HI.out]
      exact ⟨none, 0, rfl, HF.out _ HS.out⟩
end
end Go.Proofs.YtfhpaehfihnjaaaGreat.D
namespace Go.Proofs.YtfhpaehfihnjaaaGreat.D
open Go.RowKit
theorem modify_set {rs : List Rec} {i : Nat} {y : Rec} (h : rs[i]? = some y) : rs.modify i (fun x => { x with bad := true }) = rs.set i ⟨y.r, y.key, y.data, true⟩ := by
  apply List.ext_getElem?
  intro j
  rw [List.getElem?_modify, List.getElem?_set]
  by_cases e : i = j
  · subst e
    simp only [if_true, if_pos (List.getElem?_eq_some_iff.1 h).1, h]; rfl
  · simp only [if_neg e]; cases rs[j]? <;> rfl
section
variable {W w : World} {F : List SA} {x : Nat} {s : DK}
set_option maxHeartbeats 8000000 in
theorem power_any (h : s.ok) (S : SL W (diskS x s :: F) w) : Calls Tryz.prog 214 #[.pointer (some ⟨x, 0, none⟩)] w fun e w' => e = .returned (.tuple #[]) ∧ SL W (diskS x (dkPower s) :: F) w' := by
  obtain ⟨was, S0⟩ := disk_open S
  obtain ⟨tb, lp, S1⟩ := diskW_open S0
  have HS := Lib.hid S1
  have hn : 0 < s.tracks.length := by have := h.here_lt; omega
  obtain ⟨L, K, z⟩ := S1.look
  clear S S0 S1 h
  go_enter Tryz.func214, Tryz.ntmps214
  go_wp2_with fail
  refine (ready_any hn HS.out).mono ?_
  rintro e w2 ⟨rfl, rfl⟩
  go_wp2
  go_end0
  have S3 := (SL.set (off := 10) (v := .pointer none) (cs' := #[.string s.serial, .int .i64 (s.cyls : Int), .int .i64 (s.heads : Int), .slice (some ⟨tb, 0, none⟩) s.tracks.length s.tracks.length, .int .i64 0, .int .i64 0, .int .i64 0, .bool false, .bool false, .int .i64 0, .pointer none]) (SL.set (off := 9) (v := .int .i64 0) (cs' := #[.string s.serial, .int .i64 (s.cyls : Int), .int .i64 (s.heads : Int), .slice (some ⟨tb, 0, none⟩) s.tracks.length s.tracks.length, .int .i64 0, .int .i64 0, .int .i64 0, .bool false, .bool false, .int .i64 0, .pointer lp]) (SL.set (off := 8) (v := .bool false) (cs' := #[.string s.serial, .int .i64 (s.cyls : Int), .int .i64 (s.heads : Int), .slice (some ⟨tb, 0, none⟩) s.tracks.length s.tracks.length, .int .i64 0, .int .i64 0, .int .i64 0, .bool false, .bool false, .int .i64 (s.sense : Int), .pointer lp]) (SL.set (off := 7) (v := .bool false) (cs' := #[.string s.serial, .int .i64 (s.cyls : Int), .int .i64 (s.heads : Int), .slice (some ⟨tb, 0, none⟩) s.tracks.length s.tracks.length, .int .i64 0, .int .i64 0, .int .i64 0, .bool false, .bool was, .int .i64 (s.sense : Int), .pointer lp]) (SL.set (off := 6) (v := .int .i64 0) (cs' := #[.string s.serial, .int .i64 (s.cyls : Int), .int .i64 (s.heads : Int), .slice (some ⟨tb, 0, none⟩) s.tracks.length s.tracks.length, .int .i64 0, .int .i64 0, .int .i64 0, .bool s.found, .bool was, .int .i64 (s.sense : Int), .pointer lp]) (SL.set (off := 5) (v := .int .i64 0) (cs' := #[.string s.serial, .int .i64 (s.cyls : Int), .int .i64 (s.heads : Int), .slice (some ⟨tb, 0, none⟩) s.tracks.length s.tracks.length, .int .i64 0, .int .i64 0, .int .i64 (s.next : Int), .bool s.found, .bool was, .int .i64 (s.sense : Int), .pointer lp]) (SL.set (off := 4) (v := .int .i64 0) (cs' := #[.string s.serial, .int .i64 (s.cyls : Int), .int .i64 (s.heads : Int), .slice (some ⟨tb, 0, none⟩) s.tracks.length s.tracks.length, .int .i64 0, .int .i64 (s.head : Int), .int .i64 (s.next : Int), .bool s.found, .bool was, .int .i64 (s.sense : Int), .pointer lp]) (SL.set (off := 3) (v := .slice (some ⟨tb, 0, none⟩) s.tracks.length s.tracks.length) (cs' := #[.string s.serial, .int .i64 (s.cyls : Int), .int .i64 (s.heads : Int), .slice (some ⟨tb, 0, none⟩) s.tracks.length s.tracks.length, .int .i64 (s.cyl : Int), .int .i64 (s.head : Int), .int .i64 (s.next : Int), .bool s.found, .bool was, .int .i64 (s.sense : Int), .pointer lp]) (SL.set (off := 2) (v := .int .i64 (s.heads : Int)) (cs' := #[.string s.serial, .int .i64 (s.cyls : Int), .int .i64 (s.heads : Int), .slice (some ⟨tb, 0, none⟩) s.tracks.length s.tracks.length, .int .i64 (s.cyl : Int), .int .i64 (s.head : Int), .int .i64 (s.next : Int), .bool s.found, .bool was, .int .i64 (s.sense : Int), .pointer lp]) (SL.set (off := 1) (v := .int .i64 (s.cyls : Int)) (cs' := #[.string s.serial, .int .i64 (s.cyls : Int), .int .i64 (s.heads : Int), .slice (some ⟨tb, 0, none⟩) s.tracks.length s.tracks.length, .int .i64 (s.cyl : Int), .int .i64 (s.head : Int), .int .i64 (s.next : Int), .bool s.found, .bool was, .int .i64 (s.sense : Int), .pointer lp]) (SL.set (off := 0) (v := .string s.serial) (cs' := #[.string s.serial, .int .i64 (s.cyls : Int), .int .i64 (s.heads : Int), .slice (some ⟨tb, 0, none⟩) s.tracks.length s.tracks.length, .int .i64 (s.cyl : Int), .int .i64 (s.head : Int), .int .i64 (s.next : Int), .bool s.found, .bool was, .int .i64 (s.sense : Int), .pointer lp]) HS.out rfl) rfl) rfl) rfl) rfl) rfl) rfl) rfl) rfl) rfl) rfl)
  refine ⟨rfl, disk_close (was := false) (diskW_close (s := dkPower s) (tb := tb) (lp := none) ?_)⟩
  exact (last_null S3.s2.drop).b2
set_option maxHeartbeats 16000000 in
theorem undo_any (how : Int) (h : s.ok) (S : SL W (diskS x s :: F) w) : Calls Tryz.prog 215 #[.pointer (some ⟨x, 0, none⟩), .int .i64 how] w fun e w' => e = .returned (.bool (dkUndo s how).2) ∧ SL W (diskS x (dkUndo s how).1 :: F) w' := by
  obtain ⟨was, S0⟩ := disk_open S
  obtain ⟨tb, lp, S1⟩ := diskW_open S0
  have hn : 0 < s.tracks.length := by have := h.here_lt; omega
  have hnt := h.nt
  clear S S0
  by_cases hr : how < 0 ∨ 2 < how
  · have HE := Lib.hid (show dkUndo s how = (s, false) by unfold dkUndo; rw [if_pos hr])
    have HS := Lib.hid S1
    obtain ⟨L, K, z⟩ := S1.look
    clear S1 h
    go_enter Tryz.func215, Tryz.ntmps215
    by_cases h0 : how < 0
    · have t1 : (how < 0) = True := eq_true h0
      clear h0 hr
      go_wp2_with fail
      refine (ready_any hn HS.out).mono ?_
      rintro e w2 ⟨rfl, rfl⟩
      go_wp2
      go_ret
      rw [HE.out]
      exact ⟨rfl, disk_close (diskW_close HS.out)⟩
    · have t1 : (how < 0) = False := eq_false h0
      have t2 : (2 < how) = True := eq_true (by omega)
      clear h0 hr
      go_wp2_with fail
      refine (ready_any hn HS.out).mono ?_
      rintro e w2 ⟨rfl, rfl⟩
      go_wp2
      go_ret
      rw [HE.out]
      exact ⟨rfl, disk_close (diskW_close HS.out)⟩
  · have t1 : (how < 0) = False := eq_false (by omega)
    have t2 : (2 < how) = False := eq_false (by omega)
    have h3 : how = 0 ∨ how = 1 ∨ how = 2 := by omega
    cases hl : s.last with
    | none =>
      have HE := Lib.hid (show dkUndo s how = (s, false) by unfold dkUndo; rw [if_neg hr, hl])
      rw [hl] at S1
      obtain ⟨e, S2⟩ := last_none S1.s2
      subst e
      have HS := Lib.hid S2
      have HL := Lib.hid hl
      obtain ⟨L, K, z⟩ := S2.look
      clear S1 S2 h hr h3 hl
      go_enter Tryz.func215, Tryz.ntmps215
      go_wp2_with fail
      refine (ready_any hn HS.out).mono ?_
      rintro e w2 ⟨rfl, rfl⟩
      go_wp2
      go_ret
      rw [HE.out]
      refine ⟨rfl, disk_close (was := was) (diskW_close (s := s) (tb := tb) (lp := none) ?_)⟩
      rw [HL.out]
      exact (last_null HS.out).b2
    | some p =>
      obtain ⟨t, b, n⟩ := p
      obtain ⟨ht, hbv⟩ := h.la t b n hl
      rw [hl] at S1
      obtain ⟨lb, v, e, S2⟩ := last_open S1.s2
      subst e
      obtain ⟨A', c', rfl, _, _⟩ := recsS_len S2.s1
      have hts : s.tracks[t]? = some s.tracks[t] := List.getElem?_eq_getElem ht
      have htv := h.val _ (List.mem_of_getElem? hts)
      generalize s.tracks[t] = rs at hts htv
      have HE := Lib.hid (show dkUndo s how = ({ s with last := none, found := false, tracks := if how = 1 then s.tracks.set t b else if how = 2 then s.tracks.set t (badAt rs n) else s.tracks }, true) by
        unfold dkUndo; rw [if_neg hr, hl]; dsimp only; rw [hts]; rfl)
      have HS := Lib.hid S2
      obtain ⟨L0, K0, z0⟩ := S2.look
      obtain ⟨L, K, z⟩ := S2.s2.look
      have HV := Lib.hid (And.intro hts htv)
      have htl : (t : Int) < (s.tracks.length : Int) := by omega
      clear S1 S2 h hr hl hbv hts htv
      go_enter Tryz.func215, Tryz.ntmps215
      go_wp2_with fail
      refine (ready_any hn HS.out.s2).mono ?_
      rintro e w2 ⟨rfl, rfl⟩
      go_upto_region 5 with fail
      refine name_world (P := Code.wp _ _ _ _) ?_
      intro wd hwd
      have H3 := Lib.hid (SL.cast hwd (((HS.out.s2.set (off := 10) (v := .pointer none) (cs' := dkCells s tb none was) rfl).set (off := 7) (v := .bool false) (cs' := dkCells { s with found := false } tb none was) rfl).allocC #[.int .i64 (t : Int), .slice A' b.length c', .int .i64 n] 259))
      clear hwd L0 K0 z0 L K z HS
      simp only [World.size_setCell] at H3
      generalize w2.heap.size = xb at *
      -- box, disk, change, old, tracks
      obtain ⟨vs, hvs, h4⟩ := tracks_open H3.out.s4
      obtain ⟨vt, hv1, hv2⟩ := zip_get hvs HV.out.1
      -- slices, tracks, box, disk, change, old
      have H4 := Lib.hid h4
      have HVS := Lib.hid (And.intro hvs (And.intro hv1 hv2))
      have hsz : vs.toArray.size = s.tracks.length := by simpa using hvs
      obtain ⟨L, K, z⟩ := h4.look
      obtain ⟨L1, K1, z1⟩ := h4.s2.look
      obtain ⟨L2, K2, z2⟩ := h4.s3.look
      have hq := (L t).trans (show vs.toArray[t]? = some vt by simpa using hv1)
      have hfin : ∀ (ts : List (List Rec)) (w' : World), ts.length = s.tracks.length → SL W (cel x (dkCells { s with found := false } tb none was) 173 :: tracksS tb ts :: F) w' → SL W (diskS x { s with last := none, found := false, tracks := ts } :: F) w' := fun ts w' hts S' =>
        disk_close (was := was) (diskW_close (s := { s with last := none, found := false, tracks := ts }) (tb := tb) (lp := none) (by
          have e : dkCells { s with last := none, found := false, tracks := ts } tb none was = dkCells { s with found := false } tb none was := by simp [dkCells, hts]
          rw [e]
          exact (last_null S').b2))
      have HF := Lib.hid hfin
      obtain ⟨A0, c0, rfl, hlc0, hcm0⟩ := recsS_len (h4.s1.take hv2)
      have hrl := valid_len HV.out.2
      clear h4 hvs hv1 hv2 H3 hfin
      rcases h3 with rfl | rfl | rfl
      · go_wp2
        go_ret
        rw [HE.out]
        exact ⟨rfl, HF.out s.tracks _ rfl (tracks_close HVS.out.1 H4.out).s2.s2.drop.s2.drop.s2.drop⟩
      · go_upto_region 7 with fail
        go_big_region
        go_wp2
        go_ret
        rw [HE.out]
        refine ⟨rfl, HF.out (s.tracks.set t b) _ (by simp) ?_⟩
        have S5 := tracks_swap2 (v' := .slice A' b.length c') (t' := b) HVS.out.1 HV.out.1 HVS.out.2.1 H4.out.s5.b2
        exact S5.drop.s2.s2.drop.s2.drop.drew
      · go_upto_region 9 with fail
        have HX := Lib.hid (fun (wx : World) (hx : Below wd.heap.size wd wx) => (⟨(hx.cell (p := ⟨x, 3, none⟩) z2).trans (L2 3), (hx.cell (p := ⟨xb, 0, none⟩) z1).trans (L1 0), (hx.cell (p := ⟨tb, t, none⟩) z).trans hq⟩ :
          wx.cell? ⟨x, 3, none⟩ = some (.slice (some ⟨tb, 0, none⟩) s.tracks.length s.tracks.length) ∧ wx.cell? ⟨xb, 0, none⟩ = some (.int .i64 (t : Int)) ∧ wx.cell? ⟨tb, t, none⟩ = some (.slice A0 rs.length c0)))
        clear L K z L1 K1 z1 L2 K2 z2 hq
        refine wp_region_order (fun wx => Below wd.heap.size wd wx) [0, 1, 2, 3, 5] [4, 6, 7, 8] [] [9, 10] [] (by kernel_rfl) (by kernel_rfl) (Below.refl _ _).drew (by intro c a d v w h; cases d <;> exact h) ?_
        simp only [pick, List.filterMap_cons, List.filterMap_nil, List.getElem?_cons_zero, List.getElem?_cons_succ]
        (repeat (with_reducible refine wpPure_step ?_; intro K hK; go_simp; with_reducible refine hK _ ?_; clear hK K))
        refine wpPure_nil ?_
        (repeat (with_reducible refine wpLoads_step ?_; intro K hK; go_simp; first | (with_reducible refine hK _ ?_; clear hK K) | (rw [if_neg (by decide)]; with_reducible refine hK _ ?_; clear hK K) | (refine ⟨_, fun wx hx => (by obtain ⟨f0, f1, f2⟩ := HX.out wx hx; go_simp; with_reducible rfl), hK _ ?_⟩; clear hK K) | (refine ⟨_, fun _ _ => rfl, hK _ ?_⟩; clear hK K))); with_reducible refine wpLoads_nil ?_
        refine wpQuiet_nil ?_
        intro wq hwq
        have BQ := Lib.hid hwq
        clear hwq HX
        have H5 := Lib.hid (H4.out.grow BQ.out)
        have hat := recsS_at (H5.out.s1.take HVS.out.2.2)
        have hfit := HV.out.2
        have hdc := dclone_any A0 rs c0 (SL.start wq) (fun wx Sx => hat.grow Sx.below) (valid_fit2 hfit) (by omega) (fun y hy => by obtain ⟨j, hj⟩ := List.mem_iff_getElem?.1 hy; have := valid_rec hfit hj; omega)
        have HDC := Lib.hid hdc
        clear hat hfit hdc
        (with_reducible refine wpKeep_step ?_; intro K hK; go_simp)
        refine HDC.out.mono ?_
        rintro e wk ⟨A3, c3, rfl, S3⟩
        have B6 := Lib.hid (BQ.out.trans (S3.below.mono BQ.out.size))
        have H6 := Lib.hid (H5.out.join S3)
        refine hK _ _ B6.out ?_
        clear hK K S3 HDC H5 H4
        (with_reducible refine wpKeep_step ?_; intro K hK; go_simp; first | (with_reducible refine hK _ _ (B6.out) ?_; clear hK K) | (rw [if_neg (by decide)]; with_reducible refine hK _ _ (B6.out) ?_; clear hK K))
        refine wpKeep_nil ?_
        -- new, slices, tracks, box, disk, change, old
        clear B6 BQ
        obtain ⟨L1, K1, z1⟩ := H6.out.s3.look
        go_wp2_with fail
        refine (find_any A3 rs c3 n _ (recsS_at H6.out) (by unfold maxLen; omega)).mono ?_
        rintro e w7 ⟨rfl, b7⟩
        have H7 := Lib.hid (H6.out.grow b7)
        clear b7 H6 L1 K1 z1
        have HBD := Lib.hid (show badAt rs n = match findN rs n with
          | none => rs
          | some i => rs.modify i fun x => { x with bad := true } from rfl)
        cases hf : findN rs n with
        | none =>
          rw [hf] at HBD
          have HB2 := Lib.hid (show badAt rs n = rs from HBD.out)
          clear HBD hf
          obtain ⟨L, K, z⟩ := H7.out.s1.look
          obtain ⟨L1, K1, z1⟩ := H7.out.s3.look
          obtain ⟨L2, K2, z2⟩ := H7.out.s4.look
          have hq := (L t).trans (show vs.toArray[t]? = some (.slice A0 rs.length c0) by simpa using HVS.out.2.1)
          simp only [Option.getD_none, Option.isSome_none]
          go_upto_region 13 with fail
          go_big_region
          go_wp2
          go_ret
          rw [HE.out, HB2.out]
          refine ⟨rfl, HF.out (s.tracks.set t rs) _ (by simp) ?_⟩
          have S5 := tracks_swap2 (v' := .slice A3 rs.length c3) (t' := rs) HVS.out.1 HV.out.1 HVS.out.2.1 H7.out.b2
          exact S5.drop.s2.s2.drop.s2.drop.s2.drop.drew
        | some i =>
          rw [hf] at HBD
          have hil := findN_lt hf
          have hy : rs[i]? = some rs[i] := List.getElem?_eq_getElem hil
          generalize rs[i] = y at hy
          have HB2 := Lib.hid (show badAt rs n = rs.set i ⟨y.r, y.key, y.data, true⟩ from HBD.out.trans (modify_set hy))
          obtain ⟨g, eg, k3, k4, hset⟩ := recs_bad hy H7.out
          subst eg
          have H8 := Lib.hid (hset true)
          have hil2 : (i : Int) < (rs.length : Int) := by omega
          clear HBD hf hset hy
          simp only [Option.getD_some, Option.isSome_some]
          go_upto_region 13 with fail
          refine name_world (P := Code.wp _ _ _ _) ?_
          intro w8 hw8
          have H9 := Lib.hid (SL.cast hw8 H8.out)
          clear hw8 H8 H7 k3 k4
          obtain ⟨L, K, z⟩ := H9.out.s1.look
          obtain ⟨L1, K1, z1⟩ := H9.out.s3.look
          obtain ⟨L2, K2, z2⟩ := H9.out.s4.look
          have hq := (L t).trans (show vs.toArray[t]? = some (.slice A0 rs.length c0) by simpa using HVS.out.2.1)
          go_big_region
          go_wp2
          go_ret
          rw [HE.out, HB2.out]
          refine ⟨rfl, HF.out (s.tracks.set t (rs.set i ⟨y.r, y.key, y.data, true⟩)) _ (by simp) ?_⟩
          have S5 := tracks_swap2 (v' := .slice (some ⟨g, 0, none⟩) rs.length c3) (t' := rs.set i ⟨y.r, y.key, y.data, true⟩) HVS.out.1 HV.out.1 HVS.out.2.1 H9.out.b2
          exact S5.drop.s2.s2.drop.s2.drop.s2.drop.drew
end
end Go.Proofs.YtfhpaehfihnjaaaGreat.D
