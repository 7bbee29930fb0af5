/- Copy and Same of the reference. -/
import Derived.Test.YtbbokikjpabfkaaNew
namespace Go.Proofs.Ytbbokikjpabfkaa
open Go.RowKit

theorem bytes_ne (st : ByteArray) : (st != st) = false := by
  cases st with | mk d =>
  show (!(ByteArray.beq ⟨d⟩ ⟨d⟩)) = false
  unfold ByteArray.beq
  simp
section
variable {W w : World} {F : List SA}
set_option maxHeartbeats 4000000 in
theorem rsame_any (A A2 : Option Addr) (bs : List Blk) (c c2 : Nat) (S : SL W F w) (h1 : BlksRd W F A bs) (h2 : BlksRd W F A2 bs) (hb : bs.length ≤ maxLen) (hd : ∀ b ∈ bs, b.data.length ≤ 1073741824) :
    Calls Try.prog 20 #[.slice A bs.length c, .slice A2 bs.length c2] w fun e w' => e = .returned (.bool true) ∧ SL W F w' := by
  have HS := Lib.hid S
  have HR := Lib.hid (And.intro h1 h2)
  have HD := Lib.hid hd
  have hz : bs.length ≤ 9223372036854775807 := by unfold maxLen at hb; omega
  have hne : ((bs.length : Int) != (bs.length : Int)) = false := by simp
  clear S h1 h2 hd hb
  go_enter Try.func20, Try.ntmps20
  go_wp2
  go_loopw [5] (fun i wr => ∃ k : Nat, k ≤ bs.length ∧ i = .int .i64 k ∧ SL W F wr) (fun i _ => bs.length - (intOf i).toNat)
  case atStart => exact ⟨0, Nat.zero_le _, rfl, HS.out⟩
  case round =>
    obtain ⟨k, hk, rfl, S1⟩ := hrel
    have H1 := Lib.hid S1
    clear S1 HS
    by_cases hlt : k < bs.length
    · have hb : bs[k]? = some bs[k] := by simp [hlt]
      have hbl := HD.out bs[k] (List.getElem_mem hlt)
      generalize bs[k] = b at hb hbl
      obtain ⟨g, off, A4, c4, hA, k0, k1, k2, a4, h4, h5⟩ := HR.out.1 wr H1.out k b hb
      subst hA
      obtain ⟨g2, off2, A5, c5, hA, m0, m1, m2, a5, h6, h7⟩ := HR.out.2 wr H1.out k b hb
      subst hA
      have HC1 := fun n => run_string_of_at (P := Try.prog) (w := wr.drewN n) 23 9 5 Try.underlying23 Try.underlying5 Try.underlying9 b.data c4 (a4.drewN n)
      have HC2 := fun n => run_string_of_at (P := Try.prog) (w := wr.drewN n) 23 9 5 Try.underlying23 Try.underlying5 Try.underlying9 b.data c5 (a5.drewN n)
      obtain ⟨l, mk, bd⟩ := b
      dsimp only at *
      have t1 : (mk != mk) = false := by simp
      have t2 : (bd != bd) = false := by simp
      clear hb a4 a5
      generalize hst : (⟨l.toArray⟩ : ByteArray) = st at HC1 HC2
      have t3 : (st != st) = false := bytes_ne st
      clear hst
      go_wp2_with fail
      refine wp_region_quiet (C := fun wx => ∃ n, wx = wr.drewN n) (by kernel_rfl) (by kernel_rfl) ⟨1, rfl⟩ ?_
      (repeat (refine wpQuiet_step (fun K hK => ?_); go_simp; first | (refine hK _ ?_; clear hK K) | (refine ⟨_, fun _ _ => rfl, hK _ ?_⟩; clear hK K) | (refine ⟨_, fun wx hx => (by obtain ⟨n, rfl⟩ := hx; go_simp; rfl), hK _ ?_⟩; clear hK K)))
      refine wpQuiet_nil ?_
      rintro wq ⟨n, rfl⟩
      have H2 := Lib.hid (H1.out.drewN n)
      clear HC1 HC2 k0 k1 k2 m0 m1 m2
      generalize wr.drewN n = wq at *
      go_wp2
      go_roundw
      case rel => exact ⟨k + 1, by omega, by go_num, H2.out⟩
      case measure => simp [intOf]; omega
    · obtain rfl : k = bs.length := by omega
      go_wp2
      go_ret
      exact ⟨rfl, H1.out⟩
set_option maxHeartbeats 4000000 in
theorem rcopy_any (A : Option Addr) (bs : List Blk) (c : Nat) (S : SL W F w) (hr : BlksRd W F A bs) (hf : Fit bs) :
    Calls Try.prog 19 #[.slice A bs.length c] w fun e w' => ∃ v, e = .returned v ∧ SL W (blksS v bs :: F) w' := by
  have HR := Lib.hid hr
  have HF := Lib.hid hf
  have HS := Lib.hid S
  clear S hr hf
  go_enter Try.func19, Try.ntmps19
  go_wp2
  go_loopw [3, 4] (fun o i wr => ∃ (k : Nat) (A3 : Option Addr) (c3 : Nat) (ps : List BV), k ≤ bs.length ∧ i = .int .i64 k ∧ o = .slice A3 k c3 ∧ ps.length = k ∧ ps.map Prod.snd = bs.take k ∧
    SL W (rowT 25 3 (.slice A3 k c3) k (ps.flatMap blkCells) :: star (ps.map datS) :: F) wr) (fun _ i _ => bs.length - (intOf i).toNat)
  case atStart => exact ⟨0, none, 0, [], Nat.zero_le _, rfl, rfl, rfl, rfl, HS.out.empty.nilT _ _⟩
  case round =>
    obtain ⟨k, A3, c3, ps, hk, rfl, rfl, hp1, hp2, S1⟩ := hrel
    have H1 := Lib.hid S1
    have HP := Lib.hid (And.intro hp1 hp2)
    clear S1 HS hp1 hp2
    have hle := HF.out.1
    by_cases hlt : k < bs.length
    · have hb : bs[k]? = some bs[k] := by simp [hlt]
      have hbl := HF.out.2 bs[k] (List.getElem_mem hlt)
      generalize bs[k] = b at hb hbl
      obtain ⟨g, off, A4, c4, hA, k0, k1, k2, a4, h4, h5⟩ := HR.out wr H1.out.drop.drop k b hb
      subst hA
      have HA4 := Lib.hid a4
      have HN : Hid (SL wr (rowS 5 1 (.slice (some ⟨wr.heap.size + 1, 0, none⟩) 0 0) 0 [] :: cel wr.heap.size #[.bool b.mark, .slice A4 b.data.length c4, .bool b.bad] 25 :: []) ((wr.alloc (.cells #[.bool b.mark, .slice A4 b.data.length c4, .bool b.bad] 25)).alloc (.cells #[] 5))) := Lib.hid (by
        have h := ((SL.start wr).allocC #[.bool b.mark, .slice A4 b.data.length c4, .bool b.bad] 25).lit #[] 5 1 0 rfl (by decide)
        rw [World.size_alloc] at h
        exact h)
      have HB := Lib.hid hb
      have hg : g < wr.heap.size := World.block_lt_of_cell? _ _ k0
      have HA5 : Hid (At ((wr.alloc (.cells #[.bool b.mark, .slice A4 b.data.length c4, .bool b.bad] 25)).alloc (.cells #[] 5)) wr.heap.size A4 (Lib.byteCells b.data)) := Lib.hid ((HA4.out.alloc (Nat.le_refl _) _).alloc (by rw [World.size_alloc]; omega) _)
      clear a4 hb
      go_wp2_with (first
        | (at_builtin; refine wpList_appS rfl _ _ _ rfl bElem _ 0 [] rfl HN.out wr.heap.size A4 b.data.length c4 (Lib.byteCells b.data) rfl HA5.out (by rw [byteCells_len, Nat.mul_one]) (byteCells_one _) (by unfold maxLen; omega) (by omega) ?_
           intro A2 c2 w2 S2
           rw [Nat.zero_add, List.nil_append] at S2
           have H2 := Lib.hid (H1.out.join S2)
           clear S2 HN HA5 k0 k1 k2 hg
           rw [Nat.zero_add]
           generalize wr.heap.size = yb at *
           obtain ⟨L, K, z⟩ := H2.out.s1.look
           have HW : Hid (SL W (rowT 25 3 (.slice A3 k c3) k (ps.flatMap blkCells) :: rowS 5 1 (.slice A2 b.data.length c2) b.data.length (Lib.byteCells b.data) :: star (ps.map datS) :: F) (w2.setCell ⟨yb, 1, none⟩ (.slice A2 b.data.length c2))) := Lib.hid (SL.set (off := 1) (v := .slice A2 b.data.length c2) (cs' := #[.bool b.mark, .slice A2 b.data.length c2, .bool b.bad]) H2.out.s1 rfl).drop.s1)
        | (at_builtin; refine wpList_pushT rfl _ _ _ rfl blkElem (w2.setCell ⟨yb, 1, none⟩ (.slice A2 b.data.length c2)) [.bool b.mark, .slice A2 b.data.length c2, .bool b.bad] 1 rfl rfl (by simp [Value.oneCell']) _ k _ rfl (by rw [World.size_setCell]; rfl) HW.out (by have := HF.out.1; unfold maxLen; omega) (by have := HF.out.1; omega) ?_
           intro A6 c6 w6 S6
           have H6 := Lib.hid S6
           clear S6 H2 L K z HW))
      go_roundw
      case rel =>
        refine ⟨k + 1, A6, c6, ps ++ [(.slice A2 b.data.length c2, b)], by omega, by go_num, rfl, by simp [HP.out.1], by rw [List.take_add_one, HB.out]; simp [HP.out.2], ?_⟩
        simp only [List.map_append, List.map_cons, List.map_nil, List.flatMap_append, List.flatMap_cons, List.flatMap_nil, List.append_nil]
        exact (SL.snoc (P := datS (.slice A2 b.data.length c2, b)) H6.out.b2).s1
      case measure => simp [intOf]; omega
    · obtain rfl : k = bs.length := by omega
      go_wp2
      go_ret
      refine ⟨_, rfl, ?_⟩
      have e1 : ps.map Prod.snd = bs := by rw [HP.out.2]; simp
      rw [← HP.out.1] at H1
      have h := blksS_close (v := .slice A3 ps.length c3) H1.out
      rw [e1, HP.out.1] at h
      exact h
end
end Go.Proofs.Ytbbokikjpabfkaa
