/- The walk of TapeReads. -/
import Derived.Test.YtbbokikjpabfkaaRev
namespace Go.Proofs.Ytbbokikjpabfkaa
open Go.RowKit

theorem new2 : newErr nmA bs2 = 0 := by kernel_rfl
theorem card_cell {W w : World} {F : List SA} {A : Option Addr} {l : List CardV} {i : Nat} {x : CardV} (hr : Rd W F A (l.map cardV)) (S : SL W F w) (hx : l[i]? = some x) : ∃ b off, A = some ⟨b, off, none⟩ ∧ w.cell? ⟨b, off + i, none⟩ = some (cardV x) := by
  have hg : (l.map cardV)[i]? = some (cardV x) := by rw [List.getElem?_map, hx]; rfl
  obtain ⟨b, off, hA, _, hc⟩ := hr w S (fun h => by rw [h] at hg; simp at hg)
  exact ⟨b, off, hA, hc _ _ hg⟩
theorem card_cell2 {W w : World} {F : List SA} {b off : Nat} {l : List CardV} {i : Nat} {x : CardV} (hr : Rd W F (some ⟨b, off, none⟩) (l.map cardV)) (S : SL W F w) (hx : l[i]? = some x) : w.cell? ⟨b, off + i, none⟩ = some (cardV x) := by
  obtain ⟨b', off', hA, h⟩ := card_cell hr S hx
  injection hA with hA; injection hA with h1 h2
  subst h1; subst h2
  exact h
section
variable {W w : World} {F : List SA}
theorem lit2 (S : SL W F w) : SL W (blksS (.slice (some ⟨w.heap.size + 1, 0, none⟩) 2 2) bs2 :: F) ((w.alloc (.cells #[.int .u8 9] 5)).alloc (.cells #[.bool true, .slice none 0 0, .bool false, .bool false, .slice (some ⟨w.heap.size, 0, none⟩) 1 1, .bool false] 25)) := by
  have h := (S.lit #[.int .u8 9] 5 1 1 rfl (by decide)).lit #[.bool true, .slice none 0 0, .bool false, .bool false, .slice (some ⟨w.heap.size, 0, none⟩) 1 1, .bool false] 25 3 2 rfl (by decide)
  simp only [World.size_alloc] at h
  -- [blocks, 9, F]
  have h1 := (SL.nil (SL.empty h) 5 1).snoc (L := []) (P := datS (.slice none 0 0, ⟨[], true, false⟩))
  have h2 := h1.s2.snoc (P := datS (.slice (some ⟨w.heap.size, 0, none⟩) 1 1, ⟨[9], false, false⟩))
  exact blksS_close (ps := [(.slice none 0 0, ⟨[], true, false⟩), (.slice (some ⟨w.heap.size, 0, none⟩) 1 1, ⟨[9], false, false⟩)]) (h2.s1.head rowT_of)
end
/-- The unit while the blocks are written. -/
structure WrS (l : List (List UInt8)) (k : Nat) (s : TP) : Prop where
  ok : s.ok
  pos : s.pos = k
  loaded : s.loaded = true
  sense : s.sense = 0
  zero : k = 0 → s.bs = bs2
  more : 0 < k → s.bs = wbs (l.take k)
theorem WrS.next {l : List (List UInt8)} {k : Nat} {s : TP} {d : List UInt8} (h : WrS l k s) (hd : l[k]? = some d) (h1 : 1 ≤ d.length) (h2 : d.length ≤ 1024) (hk : k < 60) : ∃ s2, tpDo s 1 d = (s2, [], 12, 0) ∧ WrS l (k + 1) s2 := by
  obtain ⟨la, e⟩ := rd_write s d h1 h2 h.loaded (by rw [h.pos]; omega)
  have ok2 := (do_ok s 1 d h.ok).1
  rw [e] at ok2
  refine ⟨_, e, ⟨ok2, (by dsimp only; rw [h.pos]), rfl, h.sense, (fun h => by cases h), fun _ => ?_⟩⟩
  dsimp only
  have e1 : s.bs.take s.pos = wbs (l.take k) := by
    rw [h.pos]
    rcases Nat.eq_zero_or_pos k with h0 | h0
    · subst h0; simp [wbs]
    · rw [h.more h0, List.take_of_length_le]
      simp [wbs]; omega
  rw [e1, List.take_add_one, hd]
  simp [wbs]
set_option maxRecDepth 100000 in
set_option maxHeartbeats 16000000 in
theorem walk_tapeReads (W : World) (a0 : Option Addr) (l : List CardV) (c0 : Nat) (hl0 : l.length ≤ c0) (hcm0 : c0 ≤ maxLen) (hat0 : At W W.heap.size a0 (l.map cardV)) (hgood : ∀ x ∈ l, CardV.good W W.heap.size x) (up : Bool) :
    Calls Try.prog 4 #[.slice a0 l.length c0, .bool up] W fun e w' => e = .returned (.bool true) ∧ Below W.heap.size W w' := by
  have HA : Hid (∀ F, Rd W F a0 (l.map cardV)) := Lib.hid (fun F => Rd.base hat0)
  have HG := Lib.hid hgood
  have HW := Lib.hid works_any
  have hb0 : l.length ≤ maxLen := by omega
  have hz0 : l.length ≤ 9223372036854775807 := by unfold maxLen at hb0; omega
  clear hat0 hgood hl0 hcm0 hb0
  by_cases h60 : 60 < l.length
  · go_enter Try.func4, Try.ntmps4
    go_wp2
    go_ret
    exact ⟨rfl, Below.refl _ _⟩
  · have hl : l.length ≤ 60 := by omega
    have HNW : Hid (∀ w2 : World, SL W [blksS (.slice (some ⟨w2.heap.size + 1, 0, none⟩) 2 2) bs2] w2 → True) := Lib.hid (fun _ _ => trivial)
    go_enter Try.func4, Try.ntmps4
    go_wp2
    go_loopw [5] (fun i wr => ∃ k : Nat, k ≤ l.length ∧ i = .int .i64 k ∧ (∀ j x, j < k → l[j]? = some x → 1 ≤ x.2.1.length ∧ x.2.1.length ≤ 200) ∧ SL W [] wr) (fun i _ => l.length - (intOf i).toNat)
    case atStart => exact ⟨0, Nat.zero_le _, rfl, fun j x h => by omega, SL.start W⟩
    case round =>
      obtain ⟨k, hk, rfl, hall, S1⟩ := hrel
      have H1 := Lib.hid S1
      have HALL := Lib.hid hall
      clear S1 hall
      by_cases hlt : k < l.length
      · obtain ⟨x, hx⟩ : ∃ x, l[k]? = some x := ⟨l[k], List.getElem?_eq_getElem hlt⟩
        obtain ⟨b, off, rfl, q0⟩ := card_cell (HA.out _) H1.out hx
        have HX := Lib.hid hx
        have hzx : x.2.1.length ≤ 9223372036854775807 := by have h := (HG.out x (List.mem_of_getElem? hx)).2; unfold maxLen at h; omega
        clear hx
        obtain ⟨A5, d5, c5⟩ := x
        dsimp only [cardV] at *
        by_cases hgd : 1 ≤ d5.length ∧ d5.length ≤ 200
        · obtain ⟨hg1, hg2⟩ := hgd
          go_wp2
          go_roundw
          case rel =>
            refine ⟨k + 1, by omega, by go_num, fun j x hj hx => ?_, H1.out⟩
            by_cases e : j = k
            · subst e
              have h := HX.out
              rw [hx] at h
              injection h with h
              rw [h]; exact ⟨hg1, hg2⟩
            · exact HALL.out j x (by omega) hx
          case measure => simp [intOf]; omega
        · have hgd : d5.length < 1 ∨ 200 < d5.length := by omega
          rcases hgd with hgd | hgd
          all_goals
            go_wp2_with ((with_reducible refine (HW.out _).mono ?_); rintro e w6 ⟨rfl, b6⟩; have H6 := Lib.hid (H1.out.grow b6))
            go_ret
            exact ⟨rfl, H6.out.below⟩
      · obtain rfl : k = l.length := by omega
        have hgl : ∀ x ∈ l, 1 ≤ x.2.1.length ∧ x.2.1.length ≤ 200 := fun x hx => by
          obtain ⟨j, hj, rfl⟩ := List.getElem_of_mem hx
          exact HALL.out j _ hj (List.getElem?_eq_getElem hj)
        have HGL := Lib.hid hgl
        have HL2 := Lib.hid (lit2 H1.out)
        have HNW : Hid (Calls Try.prog 10 #[.string ⟨#[65, 49]⟩, .slice (some ⟨wr.heap.size + 1, 0, none⟩) 2 2] _ fun e w' => ∃ tb, e = .returned (.tuple #[.pointer (some ⟨tb, 0, none⟩), .int .i64 0]) ∧ SL W (tapeS tb nmA (freshTP bs2) :: _) w') := Lib.hid (new_eq nmA (some ⟨wr.heap.size + 1, 0, none⟩) bs2 2 new2 HL2.out BlksRd.head (by decide) (by decide) (fun b hb => by simp only [bs2, List.mem_cons, List.not_mem_nil, or_false] at hb; rcases hb with rfl | rfl <;> decide))
        clear hgl HALL HL2
        go_upto_region 11 with ((with_reducible refine HNW.out.mono ?_); rintro e w1 ⟨tb, rfl, S2⟩; have H2 := Lib.hid S2.only; clear S2 H1 HNW)
        obtain ⟨ls, hls⟩ : ∃ ls, l.map (fun x : CardV => x.2.1) = ls := ⟨_, rfl⟩
        have hlen : ls.length = l.length := by rw [← hls]; simp
        have hget : ∀ (k : Nat) (x : CardV), l[k]? = some x → ls[k]? = some x.2.1 := fun k x hx => by rw [← hls, List.getElem?_map, hx]; rfl
        have hmem : ∀ d ∈ ls, d.length ≤ 200 := fun d hd => by
          rw [← hls] at hd
          obtain ⟨x, hx, rfl⟩ := List.mem_map.1 hd
          exact (HGL.out x hx).2
        have HLS := Lib.hid (And.intro hlen (And.intro hget hmem))
        clear hls hlen hget hmem
        go_wp2_with fail
        go_loopw [8] (fun i wr => ∃ (k : Nat) (s : TP), k ≤ l.length ∧ i = .int .i64 k ∧ WrS ls k s ∧ SL W [tapeS tb nmA s] wr) (fun i _ => l.length - (intOf i).toNat)
        case atStart => exact ⟨0, _, Nat.zero_le _, rfl, ⟨newErr_ok new2, rfl, rfl, rfl, fun _ => rfl, fun h => absurd h (by omega)⟩, H2.out⟩
        case round =>
          rename_i wr2 _
          obtain ⟨k, s, hk, rfl, hws, S1⟩ := hrel
          have H3 := Lib.hid S1
          have HWS := Lib.hid hws
          clear S1 hws H2
          by_cases hlt : k < l.length
          · obtain ⟨x, hx⟩ : ∃ x, l[k]? = some x := ⟨l[k], List.getElem?_eq_getElem hlt⟩
            obtain ⟨b, off, rfl, q0⟩ := card_cell (HA.out _) H3.out hx
            have hbl := World.block_lt_of_cell? _ _ q0
            have HGX := Lib.hid (HG.out x (List.mem_of_getElem? hx))
            obtain ⟨hd1, hd2⟩ := HGL.out x (List.mem_of_getElem? hx)
            have hgx := HLS.out.2.1 k x hx
            clear hx
            obtain ⟨A5, d5, c5⟩ := x
            dsimp only [cardV] at *
            obtain ⟨s2, he, hw2⟩ := HWS.out.next hgx hd1 (by omega) (by omega)
            have HDO : Hid (∀ (w2 : World) (A6 : Option Addr) (c6 : Nat) (F : List SA), SL W (tapeS tb nmA s :: rowS 5 1 (.slice A6 d5.length c6) d5.length (Lib.byteCells d5) :: F) w2 → Calls Try.prog 11 #[.pointer (some ⟨tb, 0, none⟩), .int .i64 1, .slice A6 d5.length c6] w2 fun e w' => RetS W (tapeS tb nmA s2 :: rowS 5 1 (.slice A6 d5.length c6) d5.length (Lib.byteCells d5) :: F) ([], 12, 0) e w') := Lib.hid (fun w2 A6 c6 F S2 => do_eq 1 A6 d5 c6 he (by kernel_rfl) HWS.out.ok S2 Rd.head (by omega))
            have HAT : Hid (∀ (w2 : World) (F : List SA), SL W (tapeS tb nmA s2 :: F) w2 → Calls Try.prog 14 #[.pointer (some ⟨tb, 0, none⟩)] w2 fun e w' => e = .returned (.int .i64 ((k : Int) + 1)) ∧ SL W (tapeS tb nmA s2 :: F) w') := Lib.hid (fun w2 F S2 => by
              have h := at_any S2
              rw [hw2.pos] at h
              exact h)
            have HW2 := Lib.hid hw2
            have HE := Lib.hid (H3.out.lit #[] 5 1 0 rfl (by decide))
            have HAA := Lib.hid ((Rd.base (F := rowS 5 1 (.slice (some ⟨_, 0, none⟩) 0 0) 0 [] :: [tapeS tb nmA s]) HGX.out.1) _ HE.out)
            have hneq : (((k : Int) + 1) != ((k : Int) + 1)) = false := by simp
            clear he hw2 hgx
            go_wp2_with (first
              | (at_builtin; refine wpList_appS rfl _ _ _ rfl bElem _ 0 [] rfl HE.out _ A5 d5.length c5 (Lib.byteCells d5) rfl HAA.out (by rw [byteCells_len, Nat.mul_one]) (byteCells_one _) (by unfold maxLen; omega) (by omega) ?_
                 intro A6 c6 w6 S6
                 rw [Nat.zero_add, List.nil_append] at S6
                 rw [Nat.zero_add]
                 have H6 := Lib.hid S6.s1
                 clear S6 q0 hbl HE HAA H3)
              | ((with_reducible refine (HAT.out _ _ (SL.drop (SL.alloc H7.out _))).mono ?_); rintro e w8 ⟨rfl, S8⟩; have H8 := Lib.hid S8.only; clear S8 H7)
              | ((with_reducible refine (HDO.out _ A6 c6 _ H6.out).mono ?_); rintro e w7 ⟨A7, c7, rfl, S7⟩; have H7 := Lib.hid S7.drop; clear S7 H6))
            go_roundw
            case rel => exact ⟨k + 1, s2, by omega, by go_num, HW2.out, H8.out⟩
            case measure => simp [intOf]; omega
          · obtain rfl : k = l.length := by omega
            have HPW : Hid (∀ w2 : World, SL W [tapeS tb nmA s] w2 → Calls Try.prog 15 #[.pointer (some ⟨tb, 0, none⟩)] w2 fun e w' => e = .returned (.tuple #[]) ∧ SL W [tapeS tb nmA ⟨s.bs, 0, true, 0, none⟩] w') := Lib.hid (fun w2 S2 => power_any (by kernel_rfl) S2)
            have HRW : Hid (∀ w2 : World, SL W [tapeS tb nmA s] w2 → Calls Try.prog 11 #[.pointer (some ⟨tb, 0, none⟩), .int .i64 7, .slice none 0 0] w2 fun e w' => RetS W [tapeS tb nmA ⟨s.bs, 0, true, 0, none⟩] ([], 12, 0) e w') := Lib.hid (fun w2 S2 => do_eq 7 none [] 0 (rd_rewind s HWS.out.loaded HWS.out.sense) (by kernel_rfl) HWS.out.ok S2 Rd.nil_ (by decide))
            go_upto_if 78 with fail
            go_cut [] (fun wx => SL W [tapeS tb nmA ⟨s.bs, 0, true, 0, none⟩] wx)
            case first =>
              cases up
              · go_wp2_with ((with_reducible refine (HRW.out _ H3.out).mono ?_); rintro e w7 ⟨A7, c7, rfl, S7⟩; have H7 := Lib.hid S7.drop; clear S7)
                go_meet
                case rel => exact H7.out
              · go_wp2_with ((with_reducible refine (HPW.out _ H3.out).mono ?_); rintro e w7 ⟨rfl, S7⟩; have H7 := Lib.hid S7; clear S7)
                go_meet
                case rel => exact H7.out
            case rest =>
              have H4 := Lib.hid hcut
              clear hcut HPW HRW H3
              rcases Nat.eq_zero_or_pos l.length with hz | hz
              · have hb := HWS.out.zero hz
                have hl0 : ((l.length : Int) == 0) = true := by rw [hz]; rfl
                have HBK : Hid (∀ w2 : World, SL W [tapeS tb nmA ⟨s.bs, 0, true, 0, none⟩] w2 → Calls Try.prog 12 #[.pointer (some ⟨tb, 0, none⟩)] w2 fun e w' => ∃ A c, e = .returned (.slice A 2 c) ∧ SL W [] w') := Lib.hid (fun w2 S2 => (blocks_any S2 HWS.out.ok.fit).mono fun e w' h => by
                  obtain ⟨v, rfl, h⟩ := h
                  obtain ⟨A, c, rfl, _, _⟩ := blksS_slice h
                  dsimp only at h ⊢
                  rw [hb]
                  exact ⟨A, c, rfl, h.drop.drop⟩)
                clear hb
                go_wp2_with (first
                  | ((with_reducible refine (HBK.out _ H4.out).mono ?_); rintro e w7 ⟨A7, c7, rfl, S7⟩; have H7 := Lib.hid S7; clear S7)
                  | ((with_reducible refine (HW.out _).mono ?_); rintro e w9 ⟨rfl, b9⟩; have H9 := Lib.hid (H7.out.grow b9)))
                go_ret
                exact ⟨rfl, H9.out.below⟩
              · have hb : s.bs = wbs ls := by rw [HWS.out.more hz, List.take_of_length_le (by rw [HLS.out.1]; exact Nat.le_refl _)]
                rw [hb] at H4
                have hl0 : ((l.length : Int) == 0) = false := by rw [beq_eq_false_iff_ne]; omega
                have hok : ∀ (k se : Nat), k ≤ l.length → se < 256 → (⟨wbs ls, k, true, se, none⟩ : TP).ok := fun k se h1 h2 => wbs_ok (by rw [HLS.out.1]; exact hl) HLS.out.2.2 (by rw [HLS.out.1]; exact h1) h2
                have HOK := Lib.hid hok
                clear hb hok HWS
                go_wp2_with fail
                go_loopw [10] (fun i wr => ∃ k : Nat, k ≤ l.length ∧ i = .int .i64 k ∧ SL W [tapeS tb nmA ⟨wbs ls, k, true, 0, none⟩] wr) (fun i _ => l.length - (intOf i).toNat)
                case atStart => exact ⟨0, Nat.zero_le _, rfl, H4.out⟩
                case round =>
                  obtain ⟨k, hk, rfl, S1⟩ := hrel
                  have H5 := Lib.hid S1
                  clear S1 H4
                  by_cases hlt : k < l.length
                  · obtain ⟨x, hx⟩ : ∃ x, l[k]? = some x := ⟨l[k], List.getElem?_eq_getElem hlt⟩
                    obtain ⟨b, off, rfl, q0⟩ := card_cell (HA.out _) H5.out hx
                    have HGX := Lib.hid (HG.out x (List.mem_of_getElem? hx))
                    obtain ⟨_, hd2⟩ := HGL.out x (List.mem_of_getElem? hx)
                    have hgx := HLS.out.2.1 k x hx
                    have HX := Lib.hid hx
                    clear hx q0
                    obtain ⟨A5, d5, c5⟩ := x
                    dsimp only [cardV] at *
                    have HDO := Lib.hid (fun (w2 : World) (S2 : SL W [tapeS tb nmA ⟨wbs ls, k, true, 0, none⟩] w2) => do_eq 2 none [] 0 (rd_read ls k d5 hgx) (by kernel_rfl) (HOK.out _ _ hk (by decide)) S2 Rd.nil_ (by decide))
                    dsimp only [List.length_nil] at HDO
                    clear hgx
                    go_wp2_with ((with_reducible refine (HDO.out _ H5.out).mono ?_); rintro e w7 ⟨A7, c7, rfl, S7⟩; dsimp only at S7 ⊢; have H7 := Lib.hid (S7.allocC #[.slice A7 d5.length c7, .int .i64 12, .int .i64 0] 31); clear S7 H5)
                    refine name_world (P := Code.wp _ _ _ _) ?_
                    intro wd hwd
                    rw [← hwd] at H7
                    clear hwd
                    generalize w7.heap.size = rb at *
                    obtain ⟨L, K, z⟩ := H7.out.look
                    have q0 := card_cell2 (HA.out _) H7.out HX.out
                    dsimp only [cardV] at q0
                    have a1 : At wd wd.heap.size A7 (Lib.byteCells d5) := H7.out.s1.at_
                    have a2 : At wd wd.heap.size A5 (Lib.byteCells d5) := (Rd.base HGX.out.1) _ H7.out
                    have HC1 := fun n => run_string_of_at (w := wd.drewN n) (P := Try.prog) 23 9 5 Try.underlying23 Try.underlying5 Try.underlying9 d5 c7 (a1.drewN n)
                    have HC2 := fun n => run_string_of_at (w := wd.drewN n) (P := Try.prog) 23 9 5 Try.underlying23 Try.underlying5 Try.underlying9 d5 c5 (a2.drewN n)
                    generalize hst : (⟨d5.toArray⟩ : ByteArray) = st at HC1 HC2
                    have t3 : (st != st) = false := bytes_ne st
                    clear hst a1 a2
                    refine wp_region_quiet (C := fun wx => ∃ n, wx = wd.drewN n) (by kernel_rfl) (by kernel_rfl) ⟨1, rfl⟩ ?_
                    (repeat (refine wpQuiet_step (fun K hK => ?_); go_simp; first | (refine hK _ ?_; clear hK K) | (refine ⟨_, fun _ _ => rfl, hK _ ?_⟩; clear hK K) | (refine ⟨_, fun wx hx => (by obtain ⟨n, rfl⟩ := hx; go_simp; rfl), hK _ ?_⟩; clear hK K)))
                    refine wpQuiet_nil ?_
                    rintro wq ⟨n, rfl⟩
                    have H8 := Lib.hid (H7.out.drewN n).drop.drop
                    clear HC1 HC2 L K z q0 H7
                    generalize wd.drewN n = wq at *
                    go_wp2
                    go_roundw
                    case rel => exact ⟨k + 1, by omega, by go_num, H8.out⟩
                    case measure => simp [intOf]; omega
                  · obtain rfl : k = l.length := by omega
                    have hend := rd_end ls
                    rw [HLS.out.1] at hend
                    have HEND : Hid (∀ w2 : World, SL W [tapeS tb nmA ⟨wbs ls, l.length, true, 0, none⟩] w2 → Calls Try.prog 11 #[.pointer (some ⟨tb, 0, none⟩), .int .i64 2, .slice none 0 0] w2 fun e w' => RetS W [tapeS tb nmA ⟨wbs ls, l.length, true, 2, none⟩] ([], 14, 2) e w') := Lib.hid (fun w2 S2 => do_eq 2 none [] 0 hend (by kernel_rfl) (HOK.out _ _ (Nat.le_refl _) (by decide)) S2 Rd.nil_ (by decide))
                    go_wp2_with ((with_reducible refine (HEND.out _ H5.out).mono ?_); rintro e w7 ⟨A7, c7, rfl, S7⟩; dsimp only [List.length_nil] at S7 ⊢; have H7 := Lib.hid (S7.drop.allocC #[.slice A7 0 c7, .int .i64 14, .int .i64 2] 31).s1; clear S7 H5)
                    generalize w7.heap.size = eb at *
                    go_loopw [13] (fun i wr => ∃ k : Nat, k ≤ l.length ∧ i = .int .i64 ((k : Int) - 1) ∧ SL W [tapeS tb nmA ⟨wbs ls, k, true, 2, none⟩, cel eb #[.slice A7 0 c7, .int .i64 14, .int .i64 2] 31] wr) (fun i _ => (intOf i + 1).toNat)
                    case atStart => exact ⟨l.length, Nat.le_refl _, rfl, H7.out⟩
                    case round =>
                      obtain ⟨k, hk, rfl, S1⟩ := hrel
                      have H5 := Lib.hid S1
                      clear S1 H7
                      rcases k with _ | m
                      · have HST : Hid (∀ (w2 : World) (F : List SA), SL W (tapeS tb nmA ⟨wbs ls, 0, true, 2, none⟩ :: F) w2 → Calls Try.prog 11 #[.pointer (some ⟨tb, 0, none⟩), .int .i64 12, .slice none 0 0] w2 fun e w' => RetS W (tapeS tb nmA ⟨wbs ls, 0, true, 2, none⟩ :: F) ([], 14, 2) e w') := Lib.hid (fun w2 F S2 => do_eq 12 none [] 0 (rd_start ls) (by kernel_rfl) (HOK.out _ _ (Nat.zero_le _) (by decide)) S2 Rd.nil_ (by decide))
                        have HAT : Hid (∀ (w2 : World) (F : List SA), SL W (tapeS tb nmA ⟨wbs ls, 0, true, 2, none⟩ :: F) w2 → Calls Try.prog 14 #[.pointer (some ⟨tb, 0, none⟩)] w2 fun e w' => e = .returned (.int .i64 0) ∧ SL W (tapeS tb nmA ⟨wbs ls, 0, true, 2, none⟩ :: F) w') := Lib.hid (fun w2 F S2 => at_any S2)
                        have e0 : ((0 : Nat) : Int) - 1 = -1 := rfl
                        rw [e0]
                        go_wp2_with (first
                          | ((with_reducible refine (HW.out _).mono ?_); rintro e w10 ⟨rfl, b10⟩; have H10 := Lib.hid (H9.out.grow b10))
                          | ((with_reducible refine (HAT.out _ _ (SL.drop (SL.alloc H8.out _))).mono ?_); rintro e w9 ⟨rfl, S9⟩; have H9 := Lib.hid S9; clear S9 H8)
                          | ((with_reducible refine (HST.out _ _ H5.out).mono ?_); rintro e w8 ⟨A8, c8, rfl, S8⟩; dsimp only [List.length_nil] at S8 ⊢; have H8 := Lib.hid S8.drop; clear S8 H5; obtain ⟨f1, f2, f3⟩ := H8.out.s1.look))
                        go_ret
                        exact ⟨rfl, H10.out.below⟩
                      · have hm : m < l.length := by omega
                        obtain ⟨x, hx⟩ : ∃ x, l[m]? = some x := ⟨l[m], List.getElem?_eq_getElem hm⟩
                        obtain ⟨b, off, rfl, q0⟩ := card_cell (HA.out _) H5.out hx
                        have HGX := Lib.hid (HG.out x (List.mem_of_getElem? hx))
                        obtain ⟨_, hd2⟩ := HGL.out x (List.mem_of_getElem? hx)
                        have hgx := HLS.out.2.1 m x hx
                        have HX := Lib.hid hx
                        clear hx q0
                        obtain ⟨A5, d5, c5⟩ := x
                        dsimp only [cardV] at *
                        have hbk := rd_back ls m d5 hgx
                        obtain ⟨dr, hdr⟩ : ∃ dr, d5.reverse = dr := ⟨_, rfl⟩
                        have hdl : d5.length = dr.length := by rw [← hdr]; simp
                        rw [hdr] at hbk
                        have HDO := Lib.hid (fun (w2 : World) (F : List SA) (S2 : SL W (tapeS tb nmA ⟨wbs ls, m + 1, true, 2, none⟩ :: F) w2) => do_eq 12 none [] 0 hbk (by kernel_rfl) (HOK.out _ _ hk (by decide)) S2 Rd.nil_ (by decide))
                        dsimp only [List.length_nil] at HDO
                        have HRV : Hid (∀ (w2 : World) (F : List SA), SL W F w2 → Calls Try.prog 16 #[.slice A5 dr.length c5] w2 fun e w' => ∃ A' c', e = .returned (.slice A' dr.length c') ∧ SL W (rowS 5 1 (.slice A' dr.length c') dr.length (Lib.byteCells dr) :: F) w') := Lib.hid (fun w2 F S2 => by
                          have h := reversed_any A5 d5 c5 S2 (Rd.base HGX.out.1) (by omega)
                          rw [hdr, hdl] at h
                          exact h)
                        have e0 : ((m + 1 : Nat) : Int) - 1 = (m : Int) := by omega
                        rw [e0]
                        have hge : decide ((m : Int) ≥ 0) = true := by simp
                        clear hgx hbk hdr
                        go_wp2_with ((with_reducible refine (HDO.out _ _ H5.out).mono ?_); rintro e w8 ⟨A8, c8, rfl, S8⟩; dsimp only at S8 ⊢; have H8 := Lib.hid (S8.allocC #[.slice A8 dr.length c8, .int .i64 12, .int .i64 0] 31); clear S8 H5)
                        refine name_world (P := Code.wp _ _ _ _) ?_
                        intro wd hwd
                        rw [← hwd] at H8
                        clear hwd
                        generalize w8.heap.size = rb at *
                        have hne12 : ((12 : Int) != 12) = false := rfl
                        refine wp_region_order (SL W _) [] [0, 1, 2, 3, 4, 5, 6, 7, 8, 9, 10] [] [11, 12, 13, 14] [] (by kernel_rfl) (by kernel_rfl) H8.out.drew (by intro c a d v w h; cases d <;> exact h) ?_
                        simp only [pick, List.filterMap_cons, List.filterMap_nil, List.getElem?_cons_zero, List.getElem?_cons_succ]
                        (repeat (refine wpPure_step (fun K hK => ?_); go_simp; refine hK _ ?_; clear hK K)); refine wpPure_nil ?_
                        (repeat (refine wpLoads_step (fun K hK => ?_); go_simp; first | (refine hK _ ?_; clear hK K) | (refine ⟨_, fun wx S => (by obtain ⟨f3, f4, f5⟩ := S.look; have hc := run_string_of_at (w := wx) (P := Try.prog) 23 9 5 Try.underlying23 Try.underlying5 Try.underlying9 dr c8 (SL.at_ (SL.drop S)); have q0 := card_cell2 (HA.out _) S HX.out; dsimp only [cardV] at q0; go_simp; rfl), hK _ ?_⟩; clear hK K)))
                        refine wpLoads_nil (wpQuiet_nil ?_)
                        intro wq hwq
                        have H9 := Lib.hid hwq
                        clear hwq H8
                        (refine wpKeep_step ?_; intro K hK; go_simp)
                        refine (HRV.out _ _ H9.out).mono ?_
                        rintro e w10 ⟨A10, c10, rfl, S10⟩
                        have H10 := Lib.hid S10
                        have hc2 := run_string_of_at (w := w10) (P := Try.prog) 23 9 5 Try.underlying23 Try.underlying5 Try.underlying9 dr c10 S10.at_
                        have t3 : ((⟨dr.toArray⟩ : ByteArray) != ⟨dr.toArray⟩) = false := bytes_ne _
                        clear S10
                        refine hK _ _ H10.out.drop ?_
                        clear hK K
                        (refine wpKeep_step ?_; intro K hK; go_simp)
                        refine hK _ _ H10.out.drop ?_
                        clear hK K
                        (refine wpKeep_step ?_; intro K hK; go_simp)
                        refine hK _ _ H10.out.drop ?_
                        clear hK K
                        (refine wpKeep_step ?_; intro K hK; go_simp)
                        refine hK _ _ H10.out.drop ?_
                        clear hK K hc2
                        refine wpKeep_nil ?_
                        go_wp2
                        refine ⟨⟨_, _, _, _, _, _, _, _, _, _, _, _, _, _, _, _, _, _, _, _, _, _, _, _, ⟨m, by omega, by go_num, H10.out.drop.drop.drop⟩, rfl⟩, ?_⟩
                        simp [intOf]
end Go.Proofs.Ytbbokikjpabfkaa
