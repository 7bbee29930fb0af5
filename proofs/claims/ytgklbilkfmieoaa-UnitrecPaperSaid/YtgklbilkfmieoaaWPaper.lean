/- UnitrecPaper: the walk. -/
import Derived.Test.YtgklbilkfmieoaaPaper
import Derived.Test.YtgklbilkfmieoaaTwo
import Derived.Test.YtgklbilkfmieoaaDeckS
import Derived.Test.YtgklbilkfmieoaaTail4
import Derived.Deep.LoopGhost
import Derived.IntWalk
namespace Go.Proofs.Ytgklbilkfmieoaa
open Go.RowKit

/-- What a printer holds is not what is apart from it. -/
def ApartOf (w : World) (pb : Nat) (v : Value) : Prop := ∀ g, v.ownBlock = some g → ¬ Held w pb 1 g

theorem apart_new {w w' : World} {B pb : Nat} {s : PS} {v : Value} (hp : PrAt w B pb s) (hb : Below w.heap.size w w') (h : ∀ g, v.ownBlock = some g → w.heap.size ≤ g) : ApartOf w' pb v := by
  obtain ⟨_, A, c, hr, ho⟩ := hp
  rintro g hg ⟨cs, t, fr, u, h1, h2, h3⟩
  rw [hl_grow hb hr] at h1
  injection h1 with h1
  injection h1 with e1 _ _
  subst e1
  have : u = .slice A s.lines.length c := by simpa using h2.symm
  subst this
  have := (own_lt ho g h3).2
  have := h g hg
  omega
/-- What is apart from the printer stays as it is. -/
theorem apart_own {w w' : World} {B B' base pb n : Nat} {s : PS} {v : Value} {xs : List Value} (hp : PrAt w B pb s) (ho : w.ownsRow base 45 3 v n xs) (ha : ApartOf w pb v) (hf : Fr (PrT w B' pb) w w') : w'.ownsRow base 45 3 v n xs := by
  obtain ⟨_, A, c, hr, _⟩ := hp
  refine hf.own ho (fun g hg ht => ?_)
  rcases ht with rfl | ⟨_, _, hh⟩
  · exact own_row_ne ho hr (by decide) hg
  · exact ha g hg hh

theorem line_cells {w : World} {B g : Nat} {t : TypeId} {c : Nat} {l : List (Nat × Nat × List UInt8)} (h : w.ownsRow B t 3 (.slice (some ⟨g, 0, none⟩) l.length c) l.length (l.flatMap lineCells)) {k : Nat} (hk : k < l.length) :
    w.cell? ⟨g, k * 3, none⟩ = some (.int .i64 (l[k].1 : Int)) ∧ w.cell? ⟨g, k * 3 + 1, none⟩ = some (.int .i64 (l[k].2.1 : Int)) ∧ w.cell? ⟨g, k * 3 + 2, none⟩ = some (.string ⟨l[k].2.2.toArray⟩) := by
  obtain ⟨g', e, r⟩ := line_cell h hk
  injection e with e; injection e with e
  subst e
  exact r

set_option maxRecDepth 100000 in
set_option maxHeartbeats 40000000 in
theorem walk_unitrecPaper (W : World) (a : Option Addr) (l : List ActV) (cap : Nat) (hl : l.length ≤ cap) (hcm : cap ≤ maxLen) (ha : At W W.heap.size a (l.flatMap actCells)) (hx : ∀ x ∈ l, ActV.good W W.heap.size x) :
    Calls Try.prog 4 #[.slice a l.length cap] W fun e W' => e = .returned (.bool true) ∧ Below W.heap.size W W' := by
  have hm : l.length ≤ maxLen := by omega
  have HX := Lib.hid hx
  have HA := Lib.hid ha
  have HM := Lib.hid hm
  unfold maxLen at hm
  clear hx ha hcm hl
  go_enter Try.func4, Try.ntmps4
  go_wp2_with fail
  refine (pnew_any _).mono ?_
  rintro e w1 ⟨rfl, p1, b1⟩
  have P1 := Lib.hid p1
  have B1 := Lib.hid b1
  clear p1 b1
  generalize hpb : W.heap.size = pb at *
  go_wp2_with fail
  refine (works_any _).mono ?_
  rintro e w2 ⟨rfl, b2⟩
  have P2 := Lib.hid (P1.out.grow b2)
  have B2 := Lib.hid (B1.out.trans (b2.mono (by have := B1.out.size; omega)))
  clear b2 P1 B1
  go_wp2_with fail
  refine (light_any a l cap w2 pb (HA.out.below B2.out) HM.out (fun x hx => (HX.out x hx).below B2.out)).mono ?_
  rintro e w3 ⟨rfl, m3, rfl⟩
  have P3 := Lib.hid (P2.out.grow (show Below w2.heap.size w2 (w2.drewN m3) by (repeat' (first | (with_reducible exact Below.refl _ _) | (with_reducible assumption) | (with_reducible refine below_drewN ?_ _) | (with_reducible refine Below.drew ?_) | (with_reducible refine Below.alloc ?_ ?_ _) | (with_reducible refine Below.setCell ?_ ?_ _) | (with_reducible refine below_row ?_ ?_ _) | (with_reducible exact Nat.le_refl _) | omega | (simp only [World.size_alloc, World.size_setCell, World.size_drew, World.size_drewN]; omega) | (simp; done) | (simp; omega)))))
  have B3 := Lib.hid (show Below pb W (w2.drewN m3) by have := B2.out; (repeat' (first | (with_reducible exact Below.refl _ _) | (with_reducible assumption) | (with_reducible refine below_drewN ?_ _) | (with_reducible refine Below.drew ?_) | (with_reducible refine Below.alloc ?_ ?_ _) | (with_reducible refine Below.setCell ?_ ?_ _) | (with_reducible refine below_row ?_ ?_ _) | (with_reducible exact Nat.le_refl _) | omega | (simp only [World.size_alloc, World.size_setCell, World.size_drew, World.size_drewN]; omega) | (simp; done) | (simp; omega))))
  clear P2 B2
  generalize w2.drewN m3 = w3 at *
  cases hlt : lightB l
  · go_wp2
    go_ret
    exact ⟨rfl, by rw [hpb]; exact B3.out⟩
  have h200 : l.length ≤ 200 := by
    unfold lightB at hlt
    simp only [Bool.and_eq_true, decide_eq_true_eq] at hlt
    exact hlt.2
  have HL := Lib.hid hlt
  clear hlt
  go_wp2_with fail
  go_loopg [5, 4] l.length (fun g i v wr => ∃ (k : Nat) (s : PS) (A : Option Addr) (c : Nat), k ≤ l.length ∧ g = l.length - k ∧ i = .int .i64 k ∧ v = .slice A s.lines.length c ∧ s.fit k ∧ s.tidy ∧ PrAt wr pb pb s ∧
    wr.ownsRow pb 45 3 (.slice A s.lines.length c) s.lines.length (s.lines.flatMap lineCells) ∧ ApartOf wr pb (.slice A s.lines.length c) ∧ Below pb W wr)
  case atStart => exact ⟨0, _, none, 0, Nat.zero_le _, rfl, rfl, rfl, ⟨by simp, by simp, by simp⟩, ⟨by simp, by simp⟩, P3.out, World.ownsRow_nil _ _ _ _, by intro g hg; simp [Value.ownBlock] at hg, B3.out⟩
  case round =>
    obtain ⟨k, s, Ah, ch, hk, rfl, rfl, rfl, hfit, htidy, hp, ho, hap, hb⟩ := hrel
    have HFIT := Lib.hid hfit
    have HT := Lib.hid htidy
    have HP := Lib.hid hp
    have HO := Lib.hid ho
    have HAP := Lib.hid hap
    have HB := Lib.hid hb
    clear hfit htidy hp ho hap hb P3 B3
    by_cases hlt : k < l.length
    · have hgood := (HX.out l[k] (List.getElem_mem hlt)).below HB.out
      obtain ⟨b, off, rfl, hbb, c0, c1, c2, c3⟩ := act_cell (HA.out.below HB.out) hlt
      have hl4 : l[k].lightB = true := by
        have h := HL.out
        unfold lightB at h
        rw [Bool.and_eq_true] at h
        exact List.all_eq_true.1 h.1 _ (List.getElem_mem hlt)
      generalize l[k] = x at *
      obtain ⟨kd, op, ⟨A1, d1, e1⟩, C, cards, cc⟩ := x
      simp only [cardV] at c0 c1 c2
      have HGD := Lib.hid hgood.1
      have HC := Lib.hid (fun (wx : World) (h : Below pb wr wx) => (⟨(h.cell (p := ⟨b, off + k * 4, none⟩) hbb).trans c0, (h.cell (p := ⟨b, off + k * 4 + 1, none⟩) hbb).trans c1, (h.cell (p := ⟨b, off + k * 4 + 2, none⟩) hbb).trans c2⟩ : wx.cell? ⟨b, off + k * 4, none⟩ = some (.int .u8 (kd.toNat : Int)) ∧ wx.cell? ⟨b, off + k * 4 + 1, none⟩ = some (.int .i64 op) ∧ wx.cell? ⟨b, off + k * 4 + 2, none⟩ = some (.slice A1 d1.length e1)))
      have h63 : d1.length ≤ maxLen := Nat.le_trans hgood.1.2.1 hgood.1.2.2
      clear hgood c0 c1 c2 c3 hl4
      have hkd := kd.toNat_lt
      have hz : pb ≤ wr.heap.size := by have := HB.out.size; omega
      go_upto_region 10 with fail
      have F9 := Lib.hid (prDo_fit HFIT.out op d1)
      have T9 := Lib.hid (prDo_tidy HT.out op d1)
      have LN := Lib.hid (prDo_lines s op d1)
      have HD := Lib.hid (fun (wx : World) (hp : PrAt wx pb pb s) (hb : Below pb wr wx) => pdo_any pb pb s op A1 d1 e1 wx hp (HFIT.out.good (by omega)) ((HGD.out.1.below hb).mono (by have := hb.size; omega)) HGD.out.2.1 h63)
      generalize prDo s op d1 = r at *
      obtain ⟨s', rd, st, sn⟩ := r
      dsimp only at *
      have HF := Lib.hid (fun (wx : World) (h : Fr (PrT wr pb pb) wr wx) => HC.out wx (h.to_below (fun b _ => PrT.le (Nat.le_refl _) b) hz))
      have hpbz : pb < wr.heap.size := by obtain ⟨_, _, _, hr, _⟩ := HP.out; exact hl_lt hr
      go_cut [6] (fun s6 wx => ∃ xb A7 c7, s6 = .pointer (some ⟨xb, 0, none⟩) ∧ wx.heap[xb]? = some (.cells #[.slice A7 rd.length c7, .int .i64 st, .int .i64 sn] 36 (0, 0)) ∧ PrAt wx pb pb s' ∧ Fr (PrT wr pb pb) wr wx)
      case first =>
        refine wp_region_two (Fr (PrT wr pb pb) wr) [0, 1, 2, 3, 4, 6, 7, 8, 9] [5, 10] 11 12 [13] (by kernel_rfl) (by kernel_rfl) (Fr.refl _ wr).drew (by intro c a d v w h; cases d <;> exact h) ?_
        simp only [pick, List.filterMap_cons, List.filterMap_nil, List.getElem?_cons_zero, List.getElem?_cons_succ]
        repeat (refine wpPure_step (fun K hK => ?_); go_simp; refine hK _ ?_; clear hK K)
        refine wpPure_nil ?_
        repeat (refine wpLoads_step (fun K hK => ?_); go_simp; first | (refine hK _ ?_; clear hK K) | (refine ⟨_, fun wx hx => (by obtain ⟨f0, f1, f2⟩ := HF.out wx hx; go_simp; rfl), hK _ ?_⟩; clear hK K))
        refine wpLoads_nil ⟨?_, ?_⟩
        · refine wpKeep_step (fun K hK => ?_)
          go_simp
          refine (HD.out _ (HP.out.grow (by (repeat' (first | (with_reducible exact Below.refl _ _) | (with_reducible assumption) | (with_reducible refine below_drewN ?_ _) | (with_reducible refine Below.drew ?_) | (with_reducible refine Below.alloc ?_ ?_ _) | (with_reducible refine Below.setCell ?_ ?_ _) | (with_reducible refine below_row ?_ ?_ _) | (with_reducible exact Nat.le_refl _) | omega | (simp only [World.size_alloc, World.size_setCell, World.size_drew, World.size_drewN]; omega) | (simp; done) | (simp; omega))))) (by (repeat' (first | (with_reducible exact Below.refl _ _) | (with_reducible assumption) | (with_reducible refine below_drewN ?_ _) | (with_reducible refine Below.drew ?_) | (with_reducible refine Below.alloc ?_ ?_ _) | (with_reducible refine Below.setCell ?_ ?_ _) | (with_reducible refine below_row ?_ ?_ _) | (with_reducible exact Nat.le_refl _) | omega | (simp only [World.size_alloc, World.size_setCell, World.size_drew, World.size_drewN]; omega) | (simp; done) | (simp; omega))))).mono ?_
          rintro e w6 ⟨⟨A7, c7, rfl, _⟩, p7, f7⟩
          have f7' : Fr (PrT wr pb pb) wr w6 := ((Fr.refl _ wr).drew).trans f7 (fun b hb ht => ht)
          refine hK _ _ f7' ?_
          clear hK K
          refine wpKeep_step (fun K hK => ?_)
          go_simp
          refine hK _ _ (f7'.alloc _) ?_
          clear hK K
          refine wpKeep_nil ?_
          go_wp2_with fail
          go_meet
          case rel => exact ⟨_, A7, c7, rfl, hl_new rfl, p7.grow (by (repeat' (first | (with_reducible exact Below.refl _ _) | (with_reducible assumption) | (with_reducible refine below_drewN ?_ _) | (with_reducible refine Below.drew ?_) | (with_reducible refine Below.alloc ?_ ?_ _) | (with_reducible refine Below.setCell ?_ ?_ _) | (with_reducible refine below_row ?_ ?_ _) | (with_reducible exact Nat.le_refl _) | omega | (simp only [World.size_alloc, World.size_setCell, World.size_drew, World.size_drewN]; omega) | (simp; done) | (simp; omega)))), f7'.alloc _⟩
        · refine wpKeep_step (fun K hK => ?_)
          go_simp
          have ba : Below wr.heap.size wr (wr.alloc (.cells #[.slice none 0 0, .int .i64 0, .int .i64 0] 36)).drew := by (repeat' (first | (with_reducible exact Below.refl _ _) | (with_reducible assumption) | (with_reducible refine below_drewN ?_ _) | (with_reducible refine Below.drew ?_) | (with_reducible refine Below.alloc ?_ ?_ _) | (with_reducible refine Below.setCell ?_ ?_ _) | (with_reducible refine below_row ?_ ?_ _) | (with_reducible exact Nat.le_refl _) | omega | (simp only [World.size_alloc, World.size_setCell, World.size_drew, World.size_drewN]; omega) | (simp; done) | (simp; omega)))
          refine hK _ _ (Fr.of_grow ba) ?_
          clear hK K
          refine wpKeep_step (fun K hK => ?_)
          go_simp
          refine (HD.out _ (HP.out.grow ba) (ba.mono hz)).mono ?_
          rintro e w6 ⟨⟨A7, c7, rfl, _⟩, p7, f7⟩
          have f7' : Fr (PrT wr pb pb) wr w6 := (Fr.of_grow ba : Fr (PrT wr pb pb) wr _).trans f7 (PrT.back hpbz ba)
          have q0 : (wr.alloc (.cells #[.slice none 0 0, .int .i64 0, .int .i64 0] 36)).drew.heap[wr.heap.size]? = some (.cells #[.slice none 0 0, .int .i64 0, .int .i64 0] 36 (0, 0)) := hl_drew (hl_new rfl)
          have q1 := f7.row q0 (fun ht => by
            rcases PrT.type (HP.out.grow ba) _ (hl_lt q0) ht _ _ _ q0 with e | e <;> revert e <;> decide)
          refine hK _ _ f7' ?_
          clear hK K
          refine wpKeep_nil ?_
          obtain ⟨L7, F7, z7⟩ := row_look q1
          go_wp2_with fail
          go_meet
          case rel =>
            have ff : Fr (fun b => b = wr.heap.size) w6 (((w6.setCell ⟨wr.heap.size, 0, none⟩ (.slice A7 rd.length c7)).setCell ⟨wr.heap.size, 1, none⟩ (.int .i64 st)).setCell ⟨wr.heap.size, 2, none⟩ (.int .i64 sn)) :=
              (((Fr.refl (fun b => b = wr.heap.size) w6).setCell (fun _ => rfl) _).setCell (fun _ => rfl) _).setCell (fun _ => rfl) _
            exact ⟨wr.heap.size, A7, c7, rfl, hl_set (cs := #[.slice A7 rd.length c7, .int .i64 st, .int .i64 0]) (by rfl) (hl_set (cs := #[.slice A7 rd.length c7, .int .i64 0, .int .i64 0]) (by rfl) (hl_set (by rfl) q1)), p7.at_block ff q1 (by decide) (by decide), f7'.trans ff (fun b hb e => absurd e (by omega))⟩
      case rest =>
        obtain ⟨xb, A7, c7, rfl, r8, p8, f8⟩ := hcut
        have HO8 := Lib.hid (apart_own HP.out HO.out HAP.out f8)
        have B8 := Lib.hid (HB.out.trans (f8.to_below (fun b _ => PrT.le (Nat.le_refl _) b) hz))
        have P8 := Lib.hid p8
        have R8 := Lib.hid r8
        have hk8 := (HF.out wc f8).1
        clear r8 p8 f8 HP HO HAP HB HF HD
        generalize wc = w8 at *
        go_upto_if 48 with fail
        go_cut [] (fun wx => ∃ se, ({ s' with sense := se } : PS).fit (k + 1) ∧ PrAt wx pb pb { s' with sense := se } ∧ Fr (fun b => b = pb) w8 wx)
        case first =>
          by_cases h8 : 6 ≤ kd.toNat % 8
          · go_wp2_with fail
            refine (ppower_any pb pb s' w8 P8.out).mono ?_
            rintro e w9 ⟨rfl, p9, f9⟩
            go_wp2_with fail
            go_meet
            case rel => exact ⟨0, ⟨F9.out.1, by simp, F9.out.2.2⟩, p9, f9⟩
          · go_wp2_with fail
            go_meet
            case rel => exact ⟨s'.sense, F9.out, P8.out, Fr.refl _ _⟩
        case rest =>
          obtain ⟨se, fit9, p9, f9⟩ := hcut
          have T9' : ({ s' with sense := se } : PS).tidy := T9.out
          have LN9 : ({ s' with sense := se } : PS).lines = s.lines ∨ (∃ x, ({ s' with sense := se } : PS).lines = s.lines ++ [x]) ∧ (st, sn) = (12, 0) := LN.out
          generalize ({ s' with sense := se } : PS) = s9 at *
          have hpre : ∀ j, j < s.lines.length → s9.lines[j]? = s.lines[j]? := by
            intro j hj
            rcases LN9 with e | ⟨⟨x, e⟩, _⟩
            · rw [e]
            · rw [e, List.getElem?_append_left hj]
          have hle : s.lines.length ≤ s9.lines.length ∧ s9.lines.length ≤ s.lines.length + 1 ∧ (s9.lines.length ≤ s.lines.length ∨ st = 12 ∧ sn = 0) := by
            rcases LN9 with e | ⟨⟨x, e⟩, h⟩
            · rw [e]; exact ⟨by omega, by omega, .inl (by omega)⟩
            · rw [e]; injection h with e1 e2; exact ⟨by simp, by simp, .inr ⟨e1, e2⟩⟩
          obtain ⟨hle1, hle2, hle3⟩ := hle
          have HPRE := Lib.hid hpre
          have TIDY := Lib.hid T9'
          have FIT := Lib.hid fit9
          clear LN9 LN T9 F9 T9' fit9 hpre
          obtain ⟨_, Ap, cp, rp, _⟩ := P8.out
          have HO9 := Lib.hid (f9.own HO8.out (fun g hg e => own_row_ne HO8.out rp (by decide) (e ▸ hg)))
          have r9 := f9.row R8.out (fun e => row_ne R8.out rp (by decide) e)
          have B9 := Lib.hid (B8.out.trans (f9.to_below (B := pb) (fun b _ e => by omega) (by have := B8.out.size; omega)))
          have P9 := Lib.hid p9
          have R9 := Lib.hid r9
          clear rp f9 p9 r9 P8 HO8 R8 B8
          generalize wc = w9 at *
          have hz9 : pb ≤ w9.heap.size := by have := B9.out.size; omega
          go_wp2_with fail
          refine (ppaper_any pb pb s9 w9 P9.out (FIT.out.good (by omega))).mono ?_
          rintro e w10 ⟨A10, c10, rfl, o10, b10⟩
          have O10 := Lib.hid o10
          have HO10 := Lib.hid (own_below HO9.out b10)
          have R10 := Lib.hid (hl_grow b10 R9.out)
          have BT10 := Lib.hid b10
          clear o10 b10 HO9 R9
          go_upto_region 14 with fail
          go_cut [77] (fun s77 wx => s77 = .bool false ∧ Below w10.heap.size w10 wx)
          case first =>
            have t1 : ¬ ((s9.lines.length : Int) < (s.lines.length : Int)) := by omega
            have t2 : ¬ ((s.lines.length : Int) + 1 < (s9.lines.length : Int)) := by omega
            obtain ⟨L, F, z⟩ := row_look R10.out
            have hb1 : s.lines.length ≤ 8192 := HFIT.out.1
            by_cases hnn : s.lines.length < s9.lines.length
            · have t3 : (s.lines.length : Int) < (s9.lines.length : Int) := by omega
              obtain ⟨rfl, rfl⟩ : st = 12 ∧ sn = 0 := by
                rcases hle3 with h | h
                · omega
                · exact h
              go_wp2_with fail
              refine (fine_any _ 12 0 _).mono ?_
              rintro e w11 ⟨rfl, b11⟩
              go_wp2_with fail
              go_meet
              case rel => exact ⟨rfl, b11⟩
            · have t3 : ¬ ((s.lines.length : Int) < (s9.lines.length : Int)) := by omega
              go_wp2_with fail
              go_meet
              case rel => exact ⟨rfl, Below.refl _ _⟩
          case rest =>
            obtain ⟨rfl, hcut⟩ := hcut
            have HO11 := Lib.hid (own_below HO10.out hcut)
            have O11 := Lib.hid (own_below O10.out hcut)
            have BT11 := Lib.hid (BT10.out.trans (hcut.mono BT10.out.size))
            clear hcut HO10 R10 BT10 O10
            generalize wc = w11 at *
            go_wp2_with fail
            go_loopg [8] s.lines.length (fun g i wx => ∃ j, j ≤ s.lines.length ∧ g = s.lines.length - j ∧ i = .int .i64 (j : Nat) ∧ Still w11 wx)
            case atStart => exact ⟨0, Nat.zero_le _, rfl, rfl, 0, rfl⟩
            case round =>
              obtain ⟨j, hj, rfl, rfl, m, rfl⟩ := hrel
              by_cases hjl : j < s.lines.length
              · obtain ⟨gh, rfl, fh0, fh1, fh2⟩ := line_cell (own_below HO11.out (show Below w11.heap.size w11 (w11.drewN m) by (repeat' (first | (with_reducible exact Below.refl _ _) | (with_reducible assumption) | (with_reducible refine below_drewN ?_ _) | (with_reducible refine Below.drew ?_) | (with_reducible refine Below.alloc ?_ ?_ _) | (with_reducible refine Below.setCell ?_ ?_ _) | (with_reducible refine below_row ?_ ?_ _) | (with_reducible exact Nat.le_refl _) | omega | (simp only [World.size_alloc, World.size_setCell, World.size_drew, World.size_drewN]; omega) | (simp; done) | (simp; omega))))) hjl
                have hjl9 : j < s9.lines.length := by omega
                have hjeq : s9.lines[j] = s.lines[j] := by
                  have h := HPRE.out j hjl
                  rw [List.getElem?_eq_getElem hjl, List.getElem?_eq_getElem hjl9] at h
                  exact Option.some.inj h
                obtain ⟨gn, rfl, fn0, fn1, fn2⟩ := line_cell (own_below O11.out (show Below w11.heap.size w11 (w11.drewN m) by (repeat' (first | (with_reducible exact Below.refl _ _) | (with_reducible assumption) | (with_reducible refine below_drewN ?_ _) | (with_reducible refine Below.drew ?_) | (with_reducible refine Below.alloc ?_ ?_ _) | (with_reducible refine Below.setCell ?_ ?_ _) | (with_reducible refine below_row ?_ ?_ _) | (with_reducible exact Nat.le_refl _) | omega | (simp only [World.size_alloc, World.size_setCell, World.size_drew, World.size_drewN]; omega) | (simp; done) | (simp; omega))))) hjl9
                rw [hjeq] at fn0 fn1 fn2
                clear hjeq
                have S6 := Lib.hid (show Still w11 (w11.drewN m).drew from ⟨m + 1, by first | rfl | simp [World.drewN, World.drew]⟩)
                generalize s.lines[j] = xl at *
                generalize w11.drewN m = w6 at *
                have hb1 : s.lines.length ≤ 8192 := HFIT.out.1
                go_wp2_with fail
                refine wp_region_order (fun wx => wx = w6.drew) [] [0, 1, 2, 3, 4, 5, 6, 7, 8] [] [] [] (by kernel_rfl) (by kernel_rfl) rfl (by intro c a d v w h; cases d <;> exact h) ?_
                simp only [pick, List.filterMap_cons, List.filterMap_nil, List.getElem?_cons_zero, List.getElem?_cons_succ]
                refine wpPure_nil ?_
                repeat (refine wpLoads_step (fun K hK => ?_); go_simp; first | (refine hK _ ?_; clear hK K) | (refine ⟨_, fun wx hx => (by subst hx; go_simp; rfl), hK _ ?_⟩; clear hK K))
                refine wpLoads_nil (wpQuiet_nil ?_)
                intro w7 hw7
                subst hw7
                refine wpKeep_nil ?_
                go_wp2
                go_roundg (s.lines.length - (j + 1))
                case measure => omega
                case rel => exact ⟨j + 1, by omega, rfl, by go_num, S6.out⟩
              · obtain rfl : j = s.lines.length := by omega
                have P11 := Lib.hid ((P9.out.grow BT11.out).grow (show Below w11.heap.size w11 (w11.drewN m) by (repeat' (first | (with_reducible exact Below.refl _ _) | (with_reducible assumption) | (with_reducible refine below_drewN ?_ _) | (with_reducible refine Below.drew ?_) | (with_reducible refine Below.alloc ?_ ?_ _) | (with_reducible refine Below.setCell ?_ ?_ _) | (with_reducible refine below_row ?_ ?_ _) | (with_reducible exact Nat.le_refl _) | omega | (simp only [World.size_alloc, World.size_setCell, World.size_drew, World.size_drewN]; omega) | (simp; done) | (simp; omega)))))
                have AP11 := Lib.hid (apart_new P9.out (w' := w11.drewN m) (BT11.out.trans (show Below w9.heap.size w11 (w11.drewN m) by (repeat' (first | (with_reducible exact Below.refl _ _) | (with_reducible assumption) | (with_reducible refine below_drewN ?_ _) | (with_reducible refine Below.drew ?_) | (with_reducible refine Below.alloc ?_ ?_ _) | (with_reducible refine Below.setCell ?_ ?_ _) | (with_reducible refine below_row ?_ ?_ _) | (with_reducible exact Nat.le_refl _) | omega | (simp only [World.size_alloc, World.size_setCell, World.size_drew, World.size_drewN]; omega) | (simp; done) | (simp; omega))))) (v := .slice A10 s9.lines.length c10) (fun g hg => (own_lt O11.out g hg).1))
                have O12 := Lib.hid (own_mono (own_below O11.out (show Below w11.heap.size w11 (w11.drewN m) by (repeat' (first | (with_reducible exact Below.refl _ _) | (with_reducible assumption) | (with_reducible refine below_drewN ?_ _) | (with_reducible refine Below.drew ?_) | (with_reducible refine Below.alloc ?_ ?_ _) | (with_reducible refine Below.setCell ?_ ?_ _) | (with_reducible refine below_row ?_ ?_ _) | (with_reducible exact Nat.le_refl _) | omega | (simp only [World.size_alloc, World.size_setCell, World.size_drew, World.size_drewN]; omega) | (simp; done) | (simp; omega))))) hz9)
                have B12 := Lib.hid ((B9.out.trans (BT11.out.mono hz9)).trans (show Below pb w11 (w11.drewN m) by (repeat' (first | (with_reducible exact Below.refl _ _) | (with_reducible assumption) | (with_reducible refine below_drewN ?_ _) | (with_reducible refine Below.drew ?_) | (with_reducible refine Below.alloc ?_ ?_ _) | (with_reducible refine Below.setCell ?_ ?_ _) | (with_reducible refine below_row ?_ ?_ _) | (with_reducible exact Nat.le_refl _) | omega | (simp only [World.size_alloc, World.size_setCell, World.size_drew, World.size_drewN]; omega) | (simp; done) | (simp; omega)))))
                clear HO11 O11 BT11
                generalize w11.drewN m = w12 at *
                go_wp2_with fail
                refine (pat_any pb pb s9 w12 P11.out).mono ?_
                rintro e w13 ⟨rfl, m13, rfl⟩
                obtain ⟨pg, hpg⟩ : ∃ pg, s9.down / 60 + 1 = pg := ⟨_, rfl⟩
                obtain ⟨ro, hro⟩ : ∃ ro, s9.down % 60 + 1 = ro := ⟨_, rfl⟩
                rw [hpg, hro]
                have HPG := Lib.hid (And.intro hpg hro)
                clear hpg hro
                have P13 := Lib.hid (P11.out.grow (show Below w12.heap.size w12 (w12.drewN m13) by (repeat' (first | (with_reducible exact Below.refl _ _) | (with_reducible assumption) | (with_reducible refine below_drewN ?_ _) | (with_reducible refine Below.drew ?_) | (with_reducible refine Below.alloc ?_ ?_ _) | (with_reducible refine Below.setCell ?_ ?_ _) | (with_reducible refine below_row ?_ ?_ _) | (with_reducible exact Nat.le_refl _) | omega | (simp only [World.size_alloc, World.size_setCell, World.size_drew, World.size_drewN]; omega) | (simp; done) | (simp; omega)))))
                have AP13 := Lib.hid (show ApartOf (w12.drewN m13) pb (.slice A10 s9.lines.length c10) from AP11.out)
                have O13 := Lib.hid (own_below O12.out (show Below w12.heap.size w12 (w12.drewN m13) by (repeat' (first | (with_reducible exact Below.refl _ _) | (with_reducible assumption) | (with_reducible refine below_drewN ?_ _) | (with_reducible refine Below.drew ?_) | (with_reducible refine Below.alloc ?_ ?_ _) | (with_reducible refine Below.setCell ?_ ?_ _) | (with_reducible refine below_row ?_ ?_ _) | (with_reducible exact Nat.le_refl _) | omega | (simp only [World.size_alloc, World.size_setCell, World.size_drew, World.size_drewN]; omega) | (simp; done) | (simp; omega)))))
                have B13 := Lib.hid (B12.out.trans (show Below pb w12 (w12.drewN m13) by (repeat' (first | (with_reducible exact Below.refl _ _) | (with_reducible assumption) | (with_reducible refine below_drewN ?_ _) | (with_reducible refine Below.drew ?_) | (with_reducible refine Below.alloc ?_ ?_ _) | (with_reducible refine Below.setCell ?_ ?_ _) | (with_reducible refine below_row ?_ ?_ _) | (with_reducible exact Nat.le_refl _) | omega | (simp only [World.size_alloc, World.size_setCell, World.size_drew, World.size_drewN]; omega) | (simp; done) | (simp; omega)))))
                clear P11 AP11 O12 B12
                generalize w12.drewN m13 = w13 at *
                go_wp2_with fail
                refine name_world (P := Code.wp _ _ _ _) ?_
                intro w14 hw14
                have b14 : Below w13.heap.size w13 w14 := by rw [hw14]; (repeat' (first | (with_reducible exact Below.refl _ _) | (with_reducible assumption) | (with_reducible refine below_drewN ?_ _) | (with_reducible refine Below.drew ?_) | (with_reducible refine Below.alloc ?_ ?_ _) | (with_reducible refine Below.setCell ?_ ?_ _) | (with_reducible refine below_row ?_ ?_ _) | (with_reducible exact Nat.le_refl _) | omega | (simp only [World.size_alloc, World.size_setCell, World.size_drew, World.size_drewN]; omega) | (simp; done) | (simp; omega)))
                have R14 := Lib.hid (show w14.heap[w13.heap.size]? = some (.cells #[.int .i64 (pg : Int), .int .i64 (ro : Int), .string ⟨#[]⟩] 45 (0, 0)) by rw [hw14]; exact hl_new rfl)
                have P14 := Lib.hid (P13.out.grow b14)
                have AP14 := Lib.hid (show ApartOf w14 pb (.slice A10 s9.lines.length c10) from fun g hg hh => AP13.out g hg (by
                  obtain ⟨cs, t, fr, v, h1, h2, h3⟩ := hh
                  obtain ⟨_, _, _, rp, _⟩ := P13.out
                  exact ⟨cs, t, fr, v, by rw [← b14.block pb (hl_lt rp)]; exact h1, h2, h3⟩))
                have O14 := Lib.hid (own_below O13.out b14)
                have B14 := Lib.hid (B13.out.trans (b14.mono (by have := B13.out.size; omega)))
                clear hw14 b14 P13 AP13 O13 B13
                generalize w13.heap.size = ab at *
                go_loopg [12] s9.lines.length (fun g i wx => ∃ j, j ≤ s9.lines.length ∧ g = s9.lines.length - j ∧ i = .int .i64 (j : Nat) ∧ Below w14.heap.size w14 wx)
                case atStart => exact ⟨0, Nat.zero_le _, rfl, rfl, Below.refl _ _⟩
                case round =>
                  obtain ⟨j, hj, rfl, rfl, bx⟩ := hrel
                  have BX := Lib.hid bx
                  clear bx
                  by_cases hjl : j < s9.lines.length
                  · have hb1 : s9.lines.length ≤ 8192 := FIT.out.1
                    have hx := TIDY.out.1 s9.lines[j] (List.getElem_mem hjl)
                    have HL2 := Lib.hid (show s9.lines[j].1 < pg ∨ s9.lines[j].1 = pg ∧ s9.lines[j].2.1 ≤ ro from (by obtain ⟨e1, e2⟩ := HPG.out; rw [← e1, ← e2]; exact later_of_pos hx.2.1 hx.2.2.1 hx.1 (by omega) (by omega) (by omega) (by have := hx.2.2.2; unfold linePos at this; omega)))
                    obtain ⟨gn, rfl, _⟩ := line_cell O14.out hjl
                    have HC2 := Lib.hid (fun (wy : World) (hy : Below w14.heap.size w14 wy) => And.intro (line_cells (own_below O14.out hy) hjl) (row_look (hl_grow hy R14.out)))
                    obtain ⟨hx1, hx2, hx3, hx4⟩ := hx
                    have t1 : decide ((s9.lines[j].2.1 : Int) < 1) = false := by simp; omega
                    have t2 : decide ((60 : Int) < (s9.lines[j].2.1 : Int)) = false := by simp; omega
                    have t3 : decide ((s9.lines[j].1 : Int) < 1) = false := by simp; omega
                    have wrel : ∀ wy, Below w14.heap.size wr wy → Below w14.heap.size w14 wy := fun wy h => BX.out.trans h
                    have WREL := Lib.hid wrel
                    clear hx1 hx2 hx3 hx4 wrel
                    rcases Nat.eq_zero_or_pos j with e0 | e0
                    · have t4 : decide ((0 : Int) < (j : Int)) = false := by simp; omega
                      have t4' : decide (0 < j) = false := by simp; omega
                      clear e0
                      generalize s9.lines[j] = x at *
                      go_wp2_with fail
                      have hwr := BX.out
                      have HL3 := Lib.hid (fun wx => later_any x.1 x.2.1 pg ro (.string ⟨x.2.2.toArray⟩) (.string ⟨#[]⟩) wx HL2.out)
                      refine wp_region_order4 (Below w14.heap.size w14) [] [0, 1, 2, 3, 4, 5, 6, 7, 8, 9, 10, 11, 12, 13, 14, 15, 16, 17, 18, 19, 20, 21, 22, 23, 24, 25, 26, 27, 28, 29, 30, 31, 32, 33, 34] [35, 36, 37, 38, 39] [40, 41, 42, 43, 44] [45, 46, 47] [] [] (by kernel_rfl) (by kernel_rfl) BX.out.drew (by intro c a d v w h; cases d <;> exact h) ?_
                      simp only [pick, List.filterMap_cons, List.filterMap_nil, List.getElem?_cons_zero, List.getElem?_cons_succ]
                      refine wpPure_nil ?_
                      (repeat (with_reducible refine wpLoads_step ?_; intro K hK; go_simp; first | (with_reducible refine hK _ ?_; clear hK K) | (rw [if_neg (by decide)]; with_reducible refine hK _ ?_; clear hK K) | (refine ⟨_, fun wx hx => (by obtain ⟨⟨f0, f1, f2⟩, f3, f4, f5⟩ := HC2.out wx hx; go_simp; with_reducible rfl), hK _ ?_⟩; clear hK K) | (refine ⟨_, fun _ _ => rfl, hK _ ?_⟩; clear hK K))); with_reducible refine wpLoads_nil ?_
                      have B16 := Lib.hid BX.out.drew
                      (with_reducible refine wpKeep_step ?_; intro K hK; go_simp; first | (with_reducible refine hK _ _ (B16.out) ?_; clear hK K) | (rw [if_neg (by decide)]; with_reducible refine hK _ _ (B16.out) ?_; clear hK K))
                      (with_reducible refine wpKeep_step ?_; intro K hK; go_simp; first | (with_reducible refine hK _ _ (B16.out) ?_; clear hK K) | (rw [if_neg (by decide)]; with_reducible refine hK _ _ (B16.out) ?_; clear hK K))
                      (with_reducible refine wpKeep_step ?_; intro K hK; go_simp; first | (with_reducible refine hK _ _ (B16.out) ?_; clear hK K) | (rw [if_neg (by decide)]; with_reducible refine hK _ _ (B16.out) ?_; clear hK K))
                      (with_reducible refine wpKeep_step ?_; intro K hK; go_simp; first | (with_reducible refine hK _ _ (B16.out) ?_; clear hK K) | (rw [if_neg (by decide)]; with_reducible refine hK _ _ (B16.out) ?_; clear hK K))
                      (with_reducible refine wpKeep_step ?_; intro K hK; go_simp; first | (with_reducible refine hK _ _ (B16.out) ?_; clear hK K) | (rw [if_neg (by decide)]; with_reducible refine hK _ _ (B16.out) ?_; clear hK K))
                      refine wpKeep_nil ⟨B16.out, ?_⟩
                      (repeat (with_reducible refine wpLoads_step ?_; intro K hK; go_simp; first | (with_reducible refine hK _ ?_; clear hK K) | (rw [if_neg (by decide)]; with_reducible refine hK _ ?_; clear hK K) | (refine ⟨_, fun wx hx => (by obtain ⟨⟨f0, f1, f2⟩, f3, f4, f5⟩ := HC2.out wx hx; go_simp; with_reducible rfl), hK _ ?_⟩; clear hK K) | (refine ⟨_, fun _ _ => rfl, hK _ ?_⟩; clear hK K))); with_reducible refine wpLoads_nil ?_
                      (with_reducible refine wpKeep_step ?_; intro K hK; go_simp)
                      refine ((HL3.out _).mono ?_)
                      rintro e w17 ⟨rfl, b17⟩
                      have B17 := Lib.hid (B16.out.trans (b17.mono B16.out.size))
                      clear b17
                      refine hK _ _ B17.out ?_
                      clear hK K
                      (with_reducible refine wpKeep_step ?_; intro K hK; go_simp; first | (with_reducible refine hK _ _ (B17.out) ?_; clear hK K) | (rw [if_neg (by decide)]; with_reducible refine hK _ _ (B17.out) ?_; clear hK K))
                      (with_reducible refine wpKeep_step ?_; intro K hK; go_simp; first | (with_reducible refine hK _ _ (B17.out) ?_; clear hK K) | (rw [if_neg (by decide)]; with_reducible refine hK _ _ (B17.out) ?_; clear hK K))
                      refine wpKeep_nil ⟨fun wx => wx = w17, fun wx h => h ▸ B17.out, rfl, wpQuiet_nil ?_⟩
                      intro w15 hw15
                      subst hw15
                      refine wpKeep_nil ?_
                      have BX15 := Lib.hid B17.out
                      go_wp2
                      go_roundg (s9.lines.length - (j + 1))
                      case measure => omega
                      case rel => exact ⟨j + 1, by omega, rfl, by go_num, BX15.out⟩
                    · have t4 : decide ((0 : Int) < (j : Int)) = true := by simp; omega
                      have t4' : decide (0 < j) = true := by simp; omega
                      have t5 : ((j : Int) - 1) = ((j - 1 : Nat) : Int) := by omega
                      have hjl1 : j - 1 < s9.lines.length := by omega
                      have hy := TIDY.out.1 s9.lines[j - 1] (List.getElem_mem hjl1)
                      have hx := TIDY.out.1 s9.lines[j] (List.getElem_mem hjl)
                      have hlp := List.pairwise_iff_getElem.1 TIDY.out.2 (j - 1) j hjl1 hjl (by omega)
                      have HL1 := Lib.hid (show s9.lines[j - 1].1 < s9.lines[j].1 ∨ s9.lines[j - 1].1 = s9.lines[j].1 ∧ s9.lines[j - 1].2.1 ≤ s9.lines[j].2.1 from later_of_pos hy.2.1 hy.2.2.1 hy.1 hx.1 hx.2.1 hx.2.2.1 hlp)
                      have HC1 := Lib.hid (fun (wy : World) (hy : Below w14.heap.size w14 wy) => line_cells (own_below O14.out hy) hjl1)
                      have t6 : ((j - 1 : Nat) : Int) < (s9.lines.length : Int) := by omega
                      clear e0 hx hy hlp
                      generalize s9.lines[j] = x at *
                      generalize s9.lines[j - 1] = y at *
                      generalize j - 1 = j1 at *
                      have hw5 : IntKind.i64.wrap (j1 : Int) = (j1 : Int) := IntWalk.i64_in _ (by omega)
                      have hw6 : (0 : Int) ≤ (j1 : Int) := by omega
                      go_wp2_with fail
                      have hwr := BX.out
                      have HL3 := Lib.hid (fun wx => later_any x.1 x.2.1 pg ro (.string ⟨x.2.2.toArray⟩) (.string ⟨#[]⟩) wx HL2.out)
                      have HL4 := Lib.hid (fun wx => later_any y.1 y.2.1 x.1 x.2.1 (.string ⟨y.2.2.toArray⟩) (.string ⟨x.2.2.toArray⟩) wx HL1.out)
                      refine wp_region_order4 (Below w14.heap.size w14) [] [0, 1, 2, 3, 4, 5, 6, 7, 8, 9, 10, 11, 12, 13, 14, 15, 16, 17, 18, 19, 20, 21, 22, 23, 24, 25, 26, 27, 28, 29, 30, 31, 32, 33, 34] [35, 36, 37, 38, 39] [40, 41, 42, 43, 44] [45, 46, 47] [] [] (by kernel_rfl) (by kernel_rfl) BX.out.drew (by intro c a d v w h; cases d <;> exact h) ?_
                      simp only [pick, List.filterMap_cons, List.filterMap_nil, List.getElem?_cons_zero, List.getElem?_cons_succ]
                      refine wpPure_nil ?_
                      (repeat (with_reducible refine wpLoads_step ?_; intro K hK; go_simp; first | (with_reducible refine hK _ ?_; clear hK K) | (rw [if_neg (by decide)]; with_reducible refine hK _ ?_; clear hK K) | (refine ⟨_, fun wx hx => (by obtain ⟨⟨f0, f1, f2⟩, f3, f4, f5⟩ := HC2.out wx hx; obtain ⟨g0, g1, g2⟩ := HC1.out wx hx; go_simp; with_reducible rfl), hK _ ?_⟩; clear hK K) | (refine ⟨_, fun _ _ => rfl, hK _ ?_⟩; clear hK K))); with_reducible refine wpLoads_nil ?_
                      (with_reducible refine wpKeep_step ?_; intro K hK; go_simp)
                      refine ((HL4.out _).mono ?_)
                      rintro e w16 ⟨rfl, b16⟩
                      have B16 := Lib.hid (BX.out.drew.trans (b16.mono (by have := BX.out.drew.size; omega)))
                      clear b16
                      refine hK _ _ B16.out ?_
                      clear hK K
                      (with_reducible refine wpKeep_step ?_; intro K hK; go_simp; first | (with_reducible refine hK _ _ (B16.out) ?_; clear hK K) | (rw [if_neg (by decide)]; with_reducible refine hK _ _ (B16.out) ?_; clear hK K))
                      (with_reducible refine wpKeep_step ?_; intro K hK; go_simp; first | (with_reducible refine hK _ _ (B16.out) ?_; clear hK K) | (rw [if_neg (by decide)]; with_reducible refine hK _ _ (B16.out) ?_; clear hK K))
                      (with_reducible refine wpKeep_step ?_; intro K hK; go_simp; first | (with_reducible refine hK _ _ (B16.out) ?_; clear hK K) | (rw [if_neg (by decide)]; with_reducible refine hK _ _ (B16.out) ?_; clear hK K))
                      (with_reducible refine wpKeep_step ?_; intro K hK; go_simp; first | (with_reducible refine hK _ _ (B16.out) ?_; clear hK K) | (rw [if_neg (by decide)]; with_reducible refine hK _ _ (B16.out) ?_; clear hK K))
                      refine wpKeep_nil ⟨B16.out, ?_⟩
                      (repeat (with_reducible refine wpLoads_step ?_; intro K hK; go_simp; first | (with_reducible refine hK _ ?_; clear hK K) | (rw [if_neg (by decide)]; with_reducible refine hK _ ?_; clear hK K) | (refine ⟨_, fun wx hx => (by obtain ⟨⟨f0, f1, f2⟩, f3, f4, f5⟩ := HC2.out wx hx; obtain ⟨g0, g1, g2⟩ := HC1.out wx hx; go_simp; with_reducible rfl), hK _ ?_⟩; clear hK K) | (refine ⟨_, fun _ _ => rfl, hK _ ?_⟩; clear hK K))); with_reducible refine wpLoads_nil ?_
                      (with_reducible refine wpKeep_step ?_; intro K hK; go_simp)
                      refine ((HL3.out _).mono ?_)
                      rintro e w17 ⟨rfl, b17⟩
                      have B17 := Lib.hid (B16.out.trans (b17.mono B16.out.size))
                      clear b17
                      refine hK _ _ B17.out ?_
                      clear hK K
                      (with_reducible refine wpKeep_step ?_; intro K hK; go_simp; first | (with_reducible refine hK _ _ (B17.out) ?_; clear hK K) | (rw [if_neg (by decide)]; with_reducible refine hK _ _ (B17.out) ?_; clear hK K))
                      (with_reducible refine wpKeep_step ?_; intro K hK; go_simp; first | (with_reducible refine hK _ _ (B17.out) ?_; clear hK K) | (rw [if_neg (by decide)]; with_reducible refine hK _ _ (B17.out) ?_; clear hK K))
                      refine wpKeep_nil ⟨fun wx => wx = w17, fun wx h => h ▸ B17.out, rfl, wpQuiet_nil ?_⟩
                      intro w15 hw15
                      subst hw15
                      refine wpKeep_nil ?_
                      have BX15 := Lib.hid B17.out
                      go_wp2
                      go_roundg (s9.lines.length - (j + 1))
                      case measure => omega
                      case rel => exact ⟨j + 1, by omega, rfl, by go_num, BX15.out⟩
                  · have P15 := Lib.hid (P14.out.grow BX.out)
                    have AP15 := Lib.hid (show ApartOf wr pb (.slice A10 s9.lines.length c10) from fun g hg hh => AP14.out g hg (by
                      obtain ⟨cs, t, fr, v, h1, h2, h3⟩ := hh
                      obtain ⟨_, _, _, rp, _⟩ := P14.out
                      exact ⟨cs, t, fr, v, by rw [← BX.out.block pb (hl_lt rp)]; exact h1, h2, h3⟩))
                    have O15 := Lib.hid (own_below O14.out BX.out)
                    have B15 := Lib.hid (B14.out.trans (BX.out.mono (by have := B14.out.size; omega)))
                    go_wp2
                    go_roundg (l.length - (k + 1))
                    case measure => omega
                    case rel => exact ⟨k + 1, s9, A10, c10, by omega, rfl, by go_num, rfl, FIT.out, TIDY.out, P15.out, O15.out, AP15.out, B15.out⟩
    · obtain rfl : k = l.length := by omega
      have hb1 : s.lines.length ≤ 8192 := HFIT.out.1
      have e1 : prDo s 20 [] = (s, four s.lines.length, 12, 0) := by
        simp only [prDo, prOwn, PS.feel]
        simp
      have hd := pdo_any pb pb s 20 none [] 0 wr HP.out (HFIT.out.good (by omega)) At.nil_ (by simp) (by simp [maxLen])
      rw [e1] at hd
      have HD := Lib.hid hd
      have hz : pb ≤ wr.heap.size := by have := HB.out.size; omega
      have hn : s.lines.length ≤ 16777215 := by omega
      have HRW := Lib.hid hz
      clear e1 hd hz
      go_wp2_with fail
      refine (show Calls _ _ _ _ _ from HD.out).mono ?_
      rintro e w2 ⟨⟨A2, c2, rfl, o2⟩, _, f2⟩
      have O2 := Lib.hid (show w2.ownsRow wr.heap.size 5 1 (.slice A2 4 c2) 4 (Lib.byteCells (four s.lines.length)) from o2)
      have B2 := Lib.hid (HB.out.trans (f2.to_below (fun b _ => PrT.le (Nat.le_refl _) b) HRW.out))
      clear o2 f2 HD HB HP HO HAP HFIT HT HX HA HRW
      go_upto_region 30 with fail
      refine name_world (P := Code.wp _ _ _ _) ?_
      intro wd hwd
      have bd : Below w2.heap.size w2 wd := by rw [hwd]; (repeat' (first | (with_reducible exact Below.refl _ _) | (with_reducible assumption) | (with_reducible refine below_drewN ?_ _) | (with_reducible refine Below.drew ?_) | (with_reducible refine Below.alloc ?_ ?_ _) | (with_reducible refine Below.setCell ?_ ?_ _) | (with_reducible refine below_row ?_ ?_ _) | (with_reducible exact Nat.le_refl _) | omega | (simp only [World.size_alloc, World.size_setCell, World.size_drew, World.size_drewN]; omega) | (simp; done) | (simp; omega)))
      have RX := Lib.hid (show wd.heap[w2.heap.size]? = some (.cells #[.slice A2 4 c2, .int .i64 12, .int .i64 0] 36 (0, 0)) by rw [hwd]; exact hl_new rfl)
      have O3 := Lib.hid (own_below O2.out bd)
      have B3 := Lib.hid (B2.out.trans (bd.mono (by rw [← hpb]; exact B2.out.size)))
      clear hwd bd O2 B2
      generalize w2.heap.size = xb at *
      have HL3 := Lib.hid (fun (wx : World) (hx : Below wd.heap.size wd wx) => row_look (hl_grow hx RX.out))
      refine wp_region_order4 (Below wd.heap.size wd) [] [0] [1, 2] [3, 4, 5, 6] [] [] [7, 8, 9, 10] (by kernel_rfl) (by kernel_rfl) (Below.refl _ _).drew (by intro c a d v w h; cases d <;> exact h) ?_
      simp only [pick, List.filterMap_cons, List.filterMap_nil, List.getElem?_cons_zero, List.getElem?_cons_succ]
      refine wpPure_nil ?_
      (repeat (with_reducible refine wpLoads_step ?_; intro K hK; go_simp; first | (with_reducible refine hK _ ?_; clear hK K) | (rw [if_neg (by decide)]; with_reducible refine hK _ ?_; clear hK K) | (refine ⟨_, fun wx hx => (by obtain ⟨f0, f1, f2⟩ := HL3.out wx hx; go_simp; with_reducible rfl), hK _ ?_⟩; clear hK K) | (refine ⟨_, fun _ _ => rfl, hK _ ?_⟩; clear hK K))); with_reducible refine wpLoads_nil ?_
      (with_reducible refine wpKeep_step ?_; intro K hK; go_simp)
      refine (fine_any _ 12 0 _).mono ?_
      rintro e w4 ⟨rfl, b4⟩
      have B4 := Lib.hid ((Below.refl wd.heap.size wd).drew.trans (b4.mono (Nat.le_refl _)))
      clear b4
      refine hK _ _ B4.out ?_
      clear hK K
      (with_reducible refine wpKeep_step ?_; intro K hK; go_simp; first | (with_reducible refine hK _ _ (B4.out) ?_; clear hK K) | (rw [if_neg (by decide)]; with_reducible refine hK _ _ (B4.out) ?_; clear hK K))
      refine wpKeep_nil ⟨B4.out, ?_⟩
      (repeat (with_reducible refine wpLoads_step ?_; intro K hK; go_simp; first | (with_reducible refine hK _ ?_; clear hK K) | (rw [if_neg (by decide)]; with_reducible refine hK _ ?_; clear hK K) | (refine ⟨_, fun wx hx => (by obtain ⟨f0, f1, f2⟩ := HL3.out wx hx; go_simp; with_reducible rfl), hK _ ?_⟩; clear hK K) | (refine ⟨_, fun _ _ => rfl, hK _ ?_⟩; clear hK K))); with_reducible refine wpLoads_nil ?_
      refine wpKeep_nil ⟨fun wx => wx = w4, fun wx h => h ▸ B4.out, rfl, wpQuiet_nil ?_⟩
      intro w5 hw5
      subst hw5
      (with_reducible refine wpKeep_step ?_; intro K hK; go_simp)
      refine (lfour_any s.lines.length hn _).mono ?_
      rintro e w6 ⟨A6, c6, rfl, o6, b6⟩
      have O6 := Lib.hid o6
      have B6 := Lib.hid (B4.out.trans (b6.mono B4.out.size))
      clear o6 b6
      refine hK _ _ B6.out ?_
      clear hK K
      (with_reducible refine wpKeep_step ?_; intro K hK; go_simp)
      refine (show Calls _ _ _ _ _ from same_eq A2 A6 (four s.lines.length) c2 c6 w6 w6.heap.size (own_at3 (own_below O3.out B6.out)) (own_at3 O6.out) (show (4 : Nat) ≤ maxLen by decide)).mono ?_
      rintro e w7 ⟨rfl, h7⟩
      have B7 := Lib.hid (B6.out.trans (h7.below _))
      clear h7
      refine hK _ _ B7.out ?_
      clear hK K
      (with_reducible refine wpKeep_step ?_; intro K hK; go_simp; first | (with_reducible refine hK _ _ (B7.out) ?_; clear hK K) | (rw [if_neg (by decide)]; with_reducible refine hK _ _ (B7.out) ?_; clear hK K))
      (with_reducible refine wpKeep_step ?_; intro K hK; go_simp; first | (with_reducible refine hK _ _ (B7.out) ?_; clear hK K) | (rw [if_neg (by decide)]; with_reducible refine hK _ _ (B7.out) ?_; clear hK K))
      refine wpKeep_nil ?_
      go_wp2
      go_ret
      exact ⟨rfl, by rw [hpb]; exact B3.out.trans (B7.out.mono (by rw [← hpb]; exact B3.out.size))⟩

end Go.Proofs.Ytgklbilkfmieoaa
