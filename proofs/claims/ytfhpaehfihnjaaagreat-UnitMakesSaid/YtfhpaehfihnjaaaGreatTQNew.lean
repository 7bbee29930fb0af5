/- New of the reference. -/
import Derived.Test.YtfhpaehfihnjaaaGreatTQa
namespace Go.Proofs.YtfhpaehfihnjaaaGreat.T
open Go.RowKit
def QNewS (W : World) (F : List SA) (s : ByteArray) (bs : List Blk) (e : Ending) (w' : World) : Prop := if newErr s bs = 0 then ∃ qb, e = .returned (.tuple #[.pointer (some ⟨qb, 0, none⟩), .int .i64 0]) ∧ SL W (qS qb s (freshTP bs) :: F) w' else e = .returned (.tuple #[.pointer none, .int .i64 (newErr s bs : Int)]) ∧ SL W F w'
section
variable {W w w' : World} {F : List SA}
theorem QNewS.bad {s : ByteArray} {bs : List Blk} {n : Nat} (h : newErr s bs = n + 1) (S : SL W F w') : QNewS W F s bs (.returned (.tuple #[.pointer none, .int .i64 ((n + 1 : Nat) : Int)])) w' := by
  unfold QNewS
  rw [if_neg (by omega), h]
  exact ⟨rfl, S⟩
theorem blks_nil' (S : SL W F w) : SL W (blksS (.slice none 0 0) [] :: F) w := blksS_close (ps := []) ((SL.empty S).nilT _ _)
set_option maxRecDepth 100000 in
set_option maxHeartbeats 4000000 in
theorem qnew_any (s : ByteArray) (A : Option Addr) (bs : List Blk) (c : Nat) (S : SL W F w) (hr : BlksRd W F A bs) (hs : s.size ≤ 140737488355328) (hb : bs.length ≤ maxLen) (hd : ∀ b ∈ bs, b.data.length ≤ 1073741824) :
    Calls Tryz.prog 64 #[.string s, .slice A bs.length c] w fun e w' => QNewS W F s bs e w' := by
  have HS := Lib.hid S
  have HR := Lib.hid hr
  have HD := Lib.hid hd
  have HI := Lib.hid (qserial_any s w hs)
  have hz : bs.length ≤ 9223372036854775807 := by unfold maxLen at hb; omega
  clear S hr hd hb
  cases h1 : serOk s with
  | false =>
    have e1 : newErr s bs = 1 := by unfold newErr; rw [if_pos h1]
    rw [h1] at HI
    go_enter Tryz.func64, Tryz.ntmps64
    go_wp2_with ((with_reducible refine HI.out.mono ?_); rintro e w2 ⟨rfl, b2⟩; have H2 := Lib.hid (HS.out.grow b2); clear b2)
    refine bodyPost_ret (v := .tuple #[.pointer none, .int .i64 1]) (by simp [results, Tryz.results64, go_sem]) rfl (QNewS.bad (n := 0) e1 H2.out)
  | true =>
    rw [h1] at HI
    by_cases h2 : 4096 < bs.length
    · have e1 : newErr s bs = 2 := by unfold newErr; rw [if_neg (by simp [h1]), if_pos h2]
      go_enter Tryz.func64, Tryz.ntmps64
      go_wp2_with ((with_reducible refine HI.out.mono ?_); rintro e w2 ⟨rfl, b2⟩; have H2 := Lib.hid (HS.out.grow b2); clear b2)
      refine bodyPost_ret (v := .tuple #[.pointer none, .int .i64 2]) (by simp [results, Tryz.results64, go_sem]) rfl (QNewS.bad (n := 1) e1 H2.out)
    · have e1 : newErr s bs = if bs.all blkOk then 0 else 5 := by unfold newErr; rw [if_neg (by simp [h1]), if_neg h2]
      have E1 := Lib.hid e1
      clear e1
      go_enter Tryz.func64, Tryz.ntmps64
      go_wp2_with ((with_reducible refine HI.out.mono ?_); rintro e w2 ⟨rfl, b2⟩; have H2 := Lib.hid (HS.out.grow b2); clear b2 HS)
      go_loopw [6] (fun i wr => ∃ k : Nat, k ≤ bs.length ∧ i = .int .i64 k ∧ (∀ j b, j < k → bs[j]? = some b → blkOk b = true) ∧ SL W F wr) (fun i _ => bs.length - (intOf i).toNat)
      case atStart => exact ⟨0, Nat.zero_le _, rfl, fun j b h => by omega, H2.out⟩
      case round =>
        obtain ⟨k, hk, rfl, hall, S1⟩ := hrel
        have H1 := Lib.hid S1
        have HA := Lib.hid hall
        clear S1 H2 hall
        by_cases hlt : k < bs.length
        · have hb : bs[k]? = some bs[k] := by simp [hlt]
          have hbl := HD.out bs[k] (List.getElem_mem hlt)
          generalize bs[k] = b at hb hbl
          obtain ⟨g, off, A4, c4, hA, k0, k1, k2, a4, h4, h5⟩ := HR.out wr H1.out k b hb
          subst hA
          have HB := Lib.hid hb
          have HK := Lib.hid (qblock_any b A4 c4 wr hbl)
          clear hb a4
          obtain ⟨q, hq⟩ : ∃ q, blkOk b = q := ⟨_, rfl⟩
          rw [hq] at HK
          have HQ := Lib.hid hq
          clear hq
          go_wp2_with ((with_reducible refine HK.out.mono ?_); rintro e w4 ⟨rfl, b4⟩; have H4 := Lib.hid (H1.out.grow b4); clear b4)
          · rename_i hqq
            refine bodyPost_ret (v := .tuple #[.pointer none, .int .i64 5]) (by simp [results, Tryz.results64, go_sem]) rfl ?_
            have e4 : bs.all blkOk = false := not_all HB.out (HQ.out.trans (by simpa using hqq))
            exact QNewS.bad (n := 4) (by rw [E1.out, e4]; rfl) H4.out
          · rename_i hqq
            go_roundw
            case rel =>
              refine ⟨k + 1, by omega, by go_num, fun j c hj hc => ?_, H4.out⟩
              by_cases e : j = k
              · subst e
                have h := HB.out
                rw [hc] at h
                injection h with h
                rw [h]; exact HQ.out.trans (by simpa using hqq)
              · exact HA.out j c (by omega) hc
            case measure => simp [intOf]; omega
        · obtain rfl : k = bs.length := by omega
          have hfit : Fit bs := ⟨by omega, HD.out⟩
          go_wp2_with ((with_reducible refine (rcopy_any A bs c H1.out HR.out hfit).mono ?_); rintro e w4 ⟨v4, rfl, S4⟩; obtain ⟨A4, c4, rfl, _, _⟩ := blksS_slice S4; have H4 := Lib.hid S4; clear S4)
          refine bodyPost_ret (v := .tuple #[.pointer (some ⟨w4.heap.size, 0, none⟩), .int .i64 0]) (by simp [results, Tryz.results64, go_sem]) rfl ?_
          have e4 : bs.all blkOk = true := all_of HA.out
          have e5 : newErr s bs = 0 := by rw [E1.out, e4]; rfl
          unfold QNewS
          rw [if_pos e5]
          have h5 := H4.out.allocC (qcells s (freshTP bs) ⟨.slice A4 bs.length c4, .slice none 0 0, false, 0, []⟩) 113
          exact ⟨_, rfl, qS_close (q := ⟨.slice A4 bs.length c4, .slice none 0 0, false, 0, []⟩) (fits_none rfl) (blks_nil' h5).b2⟩
end
end Go.Proofs.YtfhpaehfihnjaaaGreat.T
