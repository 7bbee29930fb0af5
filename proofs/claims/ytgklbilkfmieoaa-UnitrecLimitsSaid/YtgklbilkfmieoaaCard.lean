/- card and four of the law. -/
import Derived.Test.YtgklbilkfmieoaaRqOwn
import Derived.Test.YtgklbilkfmieoaaPaper
import Derived.Lib.AppendZerosOnto
namespace Go.Proofs.Ytgklbilkfmieoaa
open Go.RowKit

def cardB (n : Nat) (c : UInt8) : List UInt8 := four n ++ List.replicate 76 c
theorem four_len (n : Nat) : (four n).length = 4 := rfl
theorem cardB_len (n : Nat) (c : UInt8) : (cardB n c).length = 80 := by simp [cardB, four_len]
section
variable {W w : World} {F : List SA}
theorem lfour_S (k : Nat) (hk : k ≤ 16777215) (S : SL W F w) : Calls Try.prog 25 #[.int .i64 (k : Int)] w fun e w' => ∃ b, e = .returned (.slice (some ⟨b, 0, none⟩) 4 4) ∧ SL W (rowS 5 1 (.slice (some ⟨b, 0, none⟩) 4 4) 4 (Lib.byteCells (four k)) :: F) w' := by
  have HS := Lib.hid S
  clear S
  go_enter Try.func25, Try.ntmps25
  go_wp2
  go_ret
  refine ⟨_, rfl, ?_⟩
  have h := HS.out.lit #[Value.int .u8 ((k : Int) / 16777216), .int .u8 ((k : Int) / 65536), .int .u8 ((k : Int) / 256 % 256), .int .u8 ((k : Int) % 256)] 5 1 4 rfl (by decide)
  rw [four_cells k hk]
  exact h
/-- 'append(s, make([]T, k)...)', s the call's own, with no room. -/
theorem wpList_zerosS {P : Program} {e t tn : TypeId} {z : Value} {size bytes : Nat} {ops : Array Oper} {rest : List Oper} {o : Oper} {a : Act} {Q : Exit → Act → World → Prop} {kq kn : IntKind} (hgd : o.guard = none) (s x : Operand)
    (ho : o.op = .call { callee := .builtin .append, args := #[s, x], argTypes := #[t, tn] }) (E : Elem P t e z size bytes) (htn : P.underlying tn = some (.int kn))
    (g n c : Nat) (xs : List Value) (hs : a.eval s = .slice (some ⟨g, 0, none⟩) n c) (S : SL W (rowS e size (.slice (some ⟨g, 0, none⟩) n c) n xs :: F) w) (k : Nat) (hx : a.eval x = .int kq (k : Int)) (h0 : 0 < k) (hg : c < n + k)
    (h63 : n + k ≤ maxLen) (h48 : k * bytes ≤ 281474976710656) (hfit : Builtin.nextslicecap (n + k) c * bytes ≤ 281474976710656)
    (h : ∀ A' c' w', SL W (rowS e size (.slice A' (n + k) c') (n + k) (xs ++ (Builtin.zeroCells z.cells k).toList) :: F) w' → wpList P ops Q rest (a.put o.dst (.slice A' (n + k) c')) w') : wpList P ops Q (o :: rest) a w := by
  obtain ⟨i, hi, hz, hsi, hb⟩ := info_parts E.info
  subst hsi; subst hb
  have hown := S.own
  have hcell : ∀ j u, xs[j]? = some u → w.drew.cell? ((⟨g, 0, none⟩ : Addr).add j) = some u := hown.cells (g := g) rfl
  have hold := run_firstCells_some (P := P) w.drew i.size n ⟨g, 0, none⟩ n c xs hown.1 hcell
  have hrun := Lib.run_append_grow_zeros (P := P) w t tn o.type e i z kq kn E.under htn hi hz (some ⟨g, 0, none⟩) n c xs hold k h0 E.pos hg (by unfold maxLen at h63; omega) h48 hfit
  refine wpList_known hgd (.slice (some ⟨w.heap.size, 0, none⟩) (n + k) (grownCap w (n + k) c e)) (w.drew.alloc (.cells (xs.toArray ++ Builtin.zeroCells z.cells k ++ Builtin.zeroCells z.cells (grownCap w (n + k) c e - (n + k))) e)) ?_ (h _ _ _ ?_)
  · unfold execOp
    simp only [ho, resolve, invoke, builtin, Sem.run_bind, Sem.run_pure, Result.andThen_ok, List.map_toArray, List.map_cons, List.map_nil, hs, hx, hrun]
  · have hge := grownCap_ge w (n + k) c e
    have hcm := grownCap_le_maxLen w (n + k) c e h63
    refine SL.head (S.drop.drew.alloc _) (rowS_pts hge hcm ?_ ?_)
    · simp only [Array.size_append, List.size_toArray, size_zeroCells, E.cells, hown.1, ← Nat.add_mul]
      congr 1
      omega
    · have hlen : (xs ++ (Builtin.zeroCells z.cells k).toList).length = (n + k) * i.size := by
        rw [List.length_append, hown.1, Array.length_toList, size_zeroCells, E.cells, Nat.add_mul]
      simp only [Array.toList_append]
      rw [← hlen]
      exact List.take_left
def cardF (n : Nat) (c : UInt8) (k : Nat) : List UInt8 := four n ++ List.replicate (k - 4) c ++ List.replicate (80 - k) 0
theorem cardF_len (n : Nat) (c : UInt8) (k : Nat) (h : 4 ≤ k) (hk : k ≤ 80) : (cardF n c k).length = 80 := by simp [cardF, four_len]; omega
theorem cardF_get (n : Nat) (c : UInt8) (k : Nat) (h : 4 ≤ k) (hk : k < 80) : (Lib.byteCells (cardF n c k))[k]? = some (.int .u8 0) := by
  rw [Lib.byteCells, List.getElem?_map, cardF, List.getElem?_append_right (by simp [four_len]; omega)]
  simp
  exact ⟨0, by rw [List.getElem?_replicate, if_pos (by simp [four_len]; omega)], rfl⟩
theorem cardF_set (n : Nat) (c : UInt8) (k : Nat) (h : 4 ≤ k) (hk : k < 80) : (cardF n c k).set k c = cardF n c (k + 1) := by
  unfold cardF
  have e1 : List.replicate (80 - k) (0 : UInt8) = 0 :: List.replicate (80 - (k + 1)) 0 := by rw [show 80 - k = (80 - (k + 1)) + 1 by omega, List.replicate_succ]
  have e2 : List.replicate (k + 1 - 4) c = List.replicate (k - 4) c ++ [c] := by rw [show k + 1 - 4 = (k - 4) + 1 by omega, List.replicate_succ']
  rw [e1, e2, List.set_append_right _ _ (by simp [four_len]; omega)]
  have e3 : k - (four n ++ List.replicate (k - 4) c).length = 0 := by simp [four_len]; omega
  rw [e3]
  simp
theorem SL.stored {e : TypeId} {n g k i : Nat} {v : Value} {xs : List Value} {r : List SA} (S : SL W (rowS e 1 (.slice (some ⟨g, 0, none⟩) n k) n xs :: r) w) : SL W (rowS e 1 (.slice (some ⟨g, 0, none⟩) n k) n (xs.set i v) :: r) (w.setCell ⟨g, i, none⟩ v) := by
  rcases Nat.eq_zero_or_pos n with h0 | hn
  · have h := S.own
    subst h0
    rcases h.2 with ⟨h, _⟩ | ⟨g', cap, cur, hv, hg, hh, _⟩
    · simp at h
    · injection hv with hA _ _
      injection hA with hA; injection hA with hA
      subst hA
      exact SL.regrown S ⟨rfl, rfl, rfl, by simp, fun j hj hne => Below.heap_setCell w _ v j (by intro e; exact hne (by simp [Value.ownBlock, e]))⟩ (h.stored i v).1 (Or.inl rfl)
  · exact SL.regrown S ⟨rfl, rfl, rfl, by simp, fun j hj hne => Below.heap_setCell w _ v j (by intro e; exact hne (by simp [Value.ownBlock, e]))⟩ (S.own.stored i v).1 (Or.inl rfl)
set_option maxRecDepth 100000 in
set_option maxHeartbeats 2000000 in
theorem card_any (n : Nat) (c : UInt8) (hn : n ≤ 16777215) (S : SL W F w) :
    Calls Try.prog 31 #[.int .i64 (n : Int), .int .u8 (c.toNat : Int)] w fun e w' => ∃ A k, e = .returned (.slice A 80 k) ∧ SL W (rowS 5 1 (.slice A 80 k) 80 (Lib.byteCells (cardB n c)) :: F) w' := by
  have HS := Lib.hid S
  clear S
  go_enter Try.func31, Try.ntmps31
  go_wp2_with fail
  refine (lfour_S n hn HS.out).mono ?_
  rintro e w1 ⟨b1, rfl, S1⟩
  have H1 := Lib.hid S1
  clear S1 HS
  go_wp2_with (refine wpList_zerosS rfl _ _ rfl bElem Try.underlying3 b1 4 4 _ rfl H1.out 76 rfl (by omega) (by omega) (by decide) (by decide) (by decide) ?_
               intro A2 c2 w2 S2)
  have hz : (Builtin.zeroCells (Value.int .u8 0).cells 76).toList = List.replicate 76 (.int .u8 0) := by kernel_rfl
  have h0 : Lib.byteCells (four n) ++ List.replicate 76 (Value.int .u8 0) = Lib.byteCells (cardF n c 4) := by simp [cardF, Lib.byteCells]
  rw [hz, h0] at S2
  obtain ⟨b2, rfl, _, _⟩ := own_head S2.own (by omega)
  have H2 := Lib.hid S2
  clear S2 H1 hz h0
  go_loopw [6] (fun i wr => ∃ k : Nat, 4 ≤ k ∧ k ≤ 80 ∧ i = .int .i64 k ∧ SL W (rowS 5 1 (.slice (some ⟨b2, 0, none⟩) 80 c2) 80 (Lib.byteCells (cardF n c k)) :: F) wr) (fun i _ => 80 - (intOf i).toNat)
  case atStart => exact ⟨4, by omega, by omega, rfl, H2.out⟩
  case round =>
    obtain ⟨k, hk4, hk, rfl, S3⟩ := hrel
    have H3 := Lib.hid S3
    clear S3 H2
    by_cases hlt : k < 80
    · obtain ⟨b', e', _, ck⟩ := H3.out.cellAt (cardF_get n c k hk4 hlt)
      injection e' with e'; injection e' with e'
      subst e'
      have fk : wr.frozen? ⟨b2, k, none⟩ = false := by
        obtain ⟨x, cap, cur, hv, _, _, _, _, S'⟩ := H3.out.rowCel (by omega)
        injection hv with hv _ _; injection hv with hv; injection hv with hv
        subst hv
        exact S'.look.2.1 k
      go_wp2
      go_roundw
      case rel =>
        refine ⟨k + 1, by omega, by omega, by go_num, ?_⟩
        have h := SL.stored (i := k) (v := .int .u8 (c.toNat : Int)) H3.out
        have e1 : (Lib.byteCells (cardF n c k)).set k (.int .u8 (c.toNat : Int)) = Lib.byteCells (cardF n c (k + 1)) := by
          rw [← cardF_set n c k hk4 hlt]; simp [Lib.byteCells, List.map_set]
        rw [e1] at h
        exact h
      case measure => simp [intOf]; omega
    · obtain rfl : k = 80 := by omega
      go_wp2
      go_ret
      have e1 : cardF n c 80 = cardB n c := by simp [cardF, cardB]
      exact ⟨_, _, rfl, by rw [← e1]; exact H3.out⟩
end
end Go.Proofs.Ytgklbilkfmieoaa
