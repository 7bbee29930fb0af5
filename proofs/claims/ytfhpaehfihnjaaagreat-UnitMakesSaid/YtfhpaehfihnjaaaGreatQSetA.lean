/- The document's set of units: memory, find. -/
import Derived.Test.YtfhpaehfihnjaaaGreatSetX
import Derived.Test.YtfhpaehfihnjaaaGreatUQa
import Derived.Test.YtfhpaehfihnjaaaGreatTQa
import Derived.Test.YtfhpaehfihnjaaaGreatDQ
namespace Go.Proofs.YtfhpaehfihnjaaaGreat
open Go.RowKit
def qPtr (k : Int) (db : Nat) (d : Dev) : Value := if d.kind = k then ptrV db else .pointer none
def qoneCells (db : Nat) (u : UN) : Array Value := #[.int .i64 u.conf.addr, .int .i64 u.conf.kind, qPtr 1 db u.dev, qPtr 2 db u.dev, qPtr 3 db u.dev, qPtr 4 db u.dev, qPtr 5 db u.dev, .int .i64 (u.after : Int), .int .i64 (u.times : Int), .bool u.equip]
def qdevS (b : Nat) : Dev → SA
  | .reader se tk st cs => U.readqS b se tk st cs
  | .punch se cs => U.qunS b se cs
  | .printer s => U.qprintS b s
  | .tape n s => T.qS b n s
  | .disk s => D.qdiskS b s
def qoneS (p : Nat × Nat) (u : UN) : SA := star [cel p.1 (qoneCells p.2 u) 45, qdevS p.2 u.dev]
def qsetO (x : Nat) (v : Value) (bs : List (Nat × Nat)) (s : ST) : SA := fun h => bs.length = s.us.length ∧
  star [cel x #[v, .bool s.off] 38, rowS 31 1 v s.us.length (ptrs bs), star (List.zipWith qoneS bs s.us)] h
section
variable {W w : World} {F : List SA} {x : Nat} {v : Value} {bs : List (Nat × Nat)} {s : ST}
theorem qset_open (S : SL W (qsetO x v bs s :: F) w) : bs.length = s.us.length ∧ SL W (cel x #[v, .bool s.off] 38 :: rowS 31 1 v s.us.length (ptrs bs) :: star (List.zipWith qoneS bs s.us) :: F) w := by
  obtain ⟨_, h1, h⟩ := S.unpack (α := Unit) (φ := fun _ => bs.length = s.us.length) (K := fun _ => [cel x #[v, .bool s.off] 38, rowS 31 1 v s.us.length (ptrs bs), star (List.zipWith qoneS bs s.us)]) (fun h p => ⟨(), p⟩)
  exact ⟨h1, h⟩
theorem qset_close (hb : bs.length = s.us.length) (S : SL W (cel x #[v, .bool s.off] 38 :: rowS 31 1 v s.us.length (ptrs bs) :: star (List.zipWith qoneS bs s.us) :: F) w) : SL W (qsetO x v bs s :: F) w :=
  SL.pack (L := [cel x #[v, .bool s.off] 38, rowS 31 1 v s.us.length (ptrs bs), star (List.zipWith qoneS bs s.us)]) S fun _ h => ⟨hb, h⟩
theorem qzip_get {us : List UN} {i : Nat} {p : Nat × Nat} {u : UN} (hp : bs[i]? = some p) (hu : us[i]? = some u) : (List.zipWith qoneS bs us)[i]? = some (qoneS p u) := by
  rw [List.getElem?_zipWith, hp, hu]
theorem qzip_set : ∀ {bs : List (Nat × Nat)} {us : List UN} {i : Nat} {p : Nat × Nat} {u : UN}, bs[i]? = some p → (List.zipWith qoneS bs us).set i (qoneS p u) = List.zipWith qoneS bs (us.set i u)
  | [], _, _, _, _, h => by simp at h
  | _ :: _, [], _, _, _, _ => by simp
  | a :: bs, b :: us, 0, p, u, h => by
    simp at h
    subst h
    simp
  | a :: bs, b :: us, i + 1, p, u, h => by
    have h' : bs[i]? = some p := by simpa using h
    simp [qzip_set (us := us) (u := u) h']
theorem qone_open {us : List UN} {i b db : Nat} {u : UN} (hp : bs[i]? = some (b, db)) (hu : us[i]? = some u) (S : SL W (star (List.zipWith qoneS bs us) :: F) w) :
    SL W (cel b (qoneCells db u) 45 :: qdevS db u.dev :: star ((List.zipWith qoneS bs us).eraseIdx i) :: F) w :=
  (S.take (qzip_get hp hu)).spill
theorem qone_close {us : List UN} {i b db : Nat} {u : UN} (hp : bs[i]? = some (b, db)) (hi : i < us.length) (S : SL W (cel b (qoneCells db u) 45 :: qdevS db u.dev :: star ((List.zipWith qoneS bs us).eraseIdx i) :: F) w) :
    SL W (star (List.zipWith qoneS bs (us.set i u)) :: F) w := by
  have h := SL.put (SL.app (L := [cel b (qoneCells db u) 45, qdevS db u.dev]) S) (i := i) (by rw [List.length_zipWith]; have := (List.getElem?_eq_some_iff.1 hp).1; omega)
  rw [show star [cel b (qoneCells db u) 45, qdevS db u.dev] = qoneS (b, db) u from rfl, qzip_set hp] at h
  exact h
theorem qone_same {us : List UN} {i b db : Nat} {u : UN} (hp : bs[i]? = some (b, db)) (hu : us[i]? = some u) (S : SL W (cel b (qoneCells db u) 45 :: qdevS db u.dev :: star ((List.zipWith qoneS bs us).eraseIdx i) :: F) w) :
    SL W (star (List.zipWith qoneS bs us) :: F) w := by
  have h := qone_close hp (List.getElem?_eq_some_iff.1 hu).1 S
  rwa [set_same hu] at h
theorem qones_ne {us : List UN} {i j : Nat} {p q : Nat × Nat} {u t : UN} (hij : i ≠ j) (hp : bs[i]? = some p) (hq : bs[j]? = some q) (hu : us[i]? = some u) (ht : us[j]? = some t) (S : SL W (star (List.zipWith qoneS bs us) :: F) w) : p.1 ≠ q.1 := by
  have h1 := S.take (qzip_get hp hu)
  have h2 : ((List.zipWith qoneS bs us).eraseIdx i)[if j < i then j else j - 1]? = some (qoneS q t) := by
    rw [List.getElem?_eraseIdx]
    by_cases h : j < i
    · rw [if_pos h, if_pos h]; exact qzip_get hq ht
    · rw [if_neg h, if_neg (by omega), show j - 1 + 1 = j by omega]; exact qzip_get hq ht
  have h3 := h1.s1.take h2
  -- qoneS q t :: star .. :: qoneS p u
  have h4 : SL W (cel q.1 (qoneCells q.2 t) 45 :: qdevS q.2 t.dev :: star (((List.zipWith qoneS bs us).eraseIdx i).eraseIdx (if j < i then j else j - 1)) :: qoneS p u :: F) w := SL.spill (L := [cel q.1 (qoneCells q.2 t) 45, qdevS q.2 t.dev]) h3
  have h5 : SL W (cel p.1 (qoneCells p.2 u) 45 :: qdevS p.2 u.dev :: cel q.1 (qoneCells q.2 t) 45 :: qdevS q.2 t.dev :: star (((List.zipWith qoneS bs us).eraseIdx i).eraseIdx (if j < i then j else j - 1)) :: F) w := SL.spill (L := [cel p.1 (qoneCells p.2 u) 45, qdevS p.2 u.dev]) h4.s3
  exact h5.s1.drop.cne
set_option maxRecDepth 100000 in
set_option maxHeartbeats 4000000 in
theorem qfind_any (addr : Int) (hz : s.us.length ≤ 16) (S : SL W (qsetO x v bs s :: F) w) : Calls Tryz.prog 10 #[.pointer (some ⟨x, 0, none⟩), .int .i64 addr] w fun e w' => e = .returned (lastV bs (s.find addr)) ∧ w' = w := by
  obtain ⟨hb, S1⟩ := qset_open S
  obtain ⟨L, K, z⟩ := S1.look
  have L0 : w.cell? ⟨x, 0, none⟩ = some v := L 0
  obtain ⟨Av, cv, rfl, _, _⟩ := own_slice S1.s1.own
  have HS := Lib.hid S1
  have HB := Lib.hid hb
  clear S S1 L K hb
  unfold ST.find
  obtain ⟨us, la, off⟩ := s
  dsimp only at *
  go_enter Tryz.func10, Tryz.ntmps10
  go_wp2_with fail
  go_loopw [5] (fun i wr => ∃ k : Nat, k ≤ us.length ∧ i = .int .i64 k ∧ (∀ j y, j < k → us[j]? = some y → decide (y.conf.addr = addr) = false) ∧ wr = w) (fun i _ => us.length - (intOf i).toNat)
  case atStart => exact ⟨0, Nat.zero_le _, rfl, fun j y h => absurd h (by omega), rfl⟩
  case round =>
    obtain ⟨k, hk, rfl, hok, rfl⟩ := hrel
    have HOK := Lib.hid hok
    clear hok
    by_cases hlt : k < us.length
    · have hx : us[k]? = some us[k] := by simp [hlt]
      generalize us[k] = u at hx
      obtain ⟨b, db, hp⟩ := bs_get HB.out hx
      obtain ⟨g, rfl, _, ck⟩ := HS.out.s1.cellAt (j := k) (u := ptrV b) (by unfold ptrs; rw [List.getElem?_map, hp]; rfl)
      obtain ⟨L1, _, _⟩ := (qone_open hp hx HS.out.s2).look
      have L2 : wr.cell? ⟨b, 0, none⟩ = some (.int .i64 u.conf.addr) := L1 0
      have HX := Lib.hid hx
      have HP := Lib.hid hp
      clear hx hp L1 HS
      unfold ptrV at ck
      cases hq : decide (u.conf.addr = addr)
      · have HQ := Lib.hid hq
        have hq' : (u.conf.addr == addr) = false := by simpa using hq
        clear hq
        go_wp2
        go_roundw
        case rel => exact ⟨k + 1, by omega, by go_num, fun j y hj hy => (by
          rcases Nat.lt_succ_iff_lt_or_eq.1 hj with h | rfl
          · exact HOK.out j y h hy
          · have hx := HX.out
            rw [hy] at hx; injection hx with hx; subst hx; exact HQ.out), trivial⟩
        case measure => simp [intOf]; omega
      · have HF := Lib.hid (show us.findIdx? (fun u => decide (u.conf.addr = addr)) = some k from D.findIdx_some HX.out hq HOK.out)
        have hq' : (u.conf.addr == addr) = true := by simpa using hq
        clear hq
        go_wp2
        go_ret
        exact ⟨by rw [HF.out, lastV_some HP.out]; rfl, rfl⟩
    · obtain rfl : k = us.length := by omega
      have HF := Lib.hid (show us.findIdx? (fun u => decide (u.conf.addr = addr)) = none from D.findIdx_none HOK.out)
      go_wp2
      go_ret
      exact ⟨by rw [HF.out]; rfl, rfl⟩
end
end Go.Proofs.YtfhpaehfihnjaaaGreat
